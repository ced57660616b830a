import Derived.Test.YtejgbfgocaggfaaGreatDoorM6
set_option maxRecDepth 100000
set_option maxHeartbeats 8000000
namespace Go.Proofs.YtejgbfgocaggfaaGreatDoor
open Go.RowKit
def zoU (K : List zaa) (X : zaa) (k j q : Nat) : Prop := (q = k /\ j <= K.idxOf X /\ j <= k) \/ (q = K.idxOf X /\ q < k)
theorem zgP {K : List zaa} {j : Nat} {y : zaa} (h : K[j]? = some y) : K.idxOf y <= j := by
 induction K generalizing j with
 | nil => simp at h
 | cons a K ih =>
   rw [List.idxOf_cons]; by_cases he : a = y
   · simp [he]
   · cases j with
     | zero => simp at h; exact absurd h he
     | succ j =>
       have := ih (j := j) (by simpa using h); have e : (a == y) = false := by simpa using he
       rw [e]; simp; omega
theorem zkN {K : List zaa} {y : zaa} (h : y ∈ K) : K[K.idxOf y]? = some y := by
 induction K with
 | nil => simp at h
 | cons a K ih =>
   rw [List.idxOf_cons]; by_cases he : a = y
   · simp [he]
   · have e : (a == y) = false := by simpa using he
     rw [e]; simp only [cond_false, List.getElem?_cons_succ]
     exact ih (by simpa [Ne.symm he] using h)
theorem zmq {y X : zaa} (h : ¬ y = X) : (y.letter.toList == X.letter.toList) = false \/ (y.letter = X.letter /\ (y.left == X.left) = false) \/ (y.letter = X.letter /\ y.left = X.left /\ (y.right == X.right) = false) := by
 by_cases h1 : y.letter = X.letter
 · by_cases h2 : y.left = X.left
   · refine .inr (.inr ⟨h1, h2, ?_⟩)
     rw [beq_eq_false_iff_ne]; intro h3; cases y; cases X; simp at h1 h2 h3; subst h1 h2 h3; exact h rfl
   · exact .inr (.inl ⟨h1, by rw [beq_eq_false_iff_ne]; exact h2⟩)
 · refine .inl ?_
   rw [beq_eq_false_iff_ne]; intro e; have := beq_toListBytes y.letter X.letter; rw [e] at this; simp at this
   exact h1 (ByteArray.ext (eq_of_beq this))
theorem zeQ {K : List zaa} {X y : zaa} {k j : Nat} (hy : K[j]? = some y) (h1 : j <= K.idxOf X) (hlt : j < k) (hn : ¬ (K.idxOf y = j /\ y = X)) : zoU K X k (j + 1) k := by
 refine .inl ⟨rfl, ?_, hlt⟩
 rcases Nat.lt_or_ge j (K.idxOf X) with h | h
 · exact h
 · have e : j = K.idxOf X := by omega
   have hl := (List.getElem?_eq_some_iff.1 hy).1
   have hm : X ∈ K := List.idxOf_lt_length_iff.1 yO; have h2 := zkN hm; rw [<- e, hy] at h2; have : y = X := Option.some.inj h2; exact absurd ⟨by rw [this]; exact e.symm, this⟩ hn
theorem zmr {K : List zaa} {X : zaa} {k j q : Nat} (hK : K.length = k) (h : zoU K X k j q) (hj : q = k -> k <= j) : q = K.idxOf X := by
 rcases h with ⟨h1, h2, h3⟩ | ⟨h1, _⟩
 · have := hj h1
   have h4 : K.idxOf X <= K.length := List.idxOf_le_length; omega
 · exact h1
theorem zfW {W w' : World} {base : Nat} {v vs : Value} {L : List zaa} {S : List Int} {o : Obj} (ho : zac W base v L) (hi : zan W base vs S) (hg : (W.alloc o).grownBy w' vs.ownBlock) : zac w' base v L :=
 za7 (ho.alloc o) fun g hgg => hg.block g (World.ownsRow.lt (ho.alloc o) g hgg).2 (zfx (ho.alloc o) (hi.alloc o) (by decide) g hgg)
theorem zgQ {W w' : World} {base : Nat} {v vs : Value} {L : List zaa} {S : List Int} {o : Obj} (hi : zan W base vs S) (ho : zac W base v L) (hg : (W.alloc o).grownBy w' v.ownBlock) : zan w' base vs S :=
 za7 (hi.alloc o) fun g hgg => hg.block g (World.ownsRow.lt (hi.alloc o) g hgg).2 (zfx (hi.alloc o) (ho.alloc o) (by decide) g hgg)
theorem zll {Wr W w' : World} {base B : Nat} {vs : Value} {S : List Int} {o : Obj} {X : zaa} (hc : zbB W B X) (hi : zan Wr base vs S) (hB : Wr.heap.size <= B) (hg : (W.alloc o).grownBy w' vs.ownBlock) : zbB w' B X :=
 (hc.alloc o).kept hg (zgM hi hB)
theorem zlm {w0 W w' : World} {base : Nat} {vs : Value} {S : List Int} {o : Obj} (hb : Below base w0 W) (hw : base <= W.heap.size) (hi : zan W base vs S) (hg : (W.alloc o).grownBy w' vs.ownBlock) : Below base w0 w' :=
 (hb.alloc hw o).grown hg (Nat.le_trans hw yS) fun g hgg => (World.ownsRow.lt hi g hgg).1
theorem zms {W w' : World} {base : Nat} {row : Option Nat} {o : Obj} (hw : base <= W.heap.size) (hg : (W.alloc o).grownBy w' row) : base <= w'.heap.size := Nat.le_trans hw (Nat.le_trans yS hg.size)
theorem zbM (b o : Nat) (v : Value) (xs : List zaa) (w : World) (hp : w.cell? ⟨b, o, none⟩ = some v) (hbl : b < w.heap.size) (h : Sl zar w w.heap.size v xs) (hn : xs.length <= 4194304) (hok : za2 xs) :
  Calls Tryz.prog 57 #[.pointer (some ⟨b, o, none⟩)] w (znO (zaQ xs) w) := by
 obtain ⟨A, c, rfl, hc, hm, hrow⟩ := h; have Hok := yq hok; clear hm hok; go_enter Tryz.func57, Tryz.ntmps57
 go_wp2_with fail
 go_loopw [4, 5, 6] (fun s a i wr => ∃ k : Nat, k <= xs.length /\ i = .int .i64 k /\ Below (w.heap.size + 1) (w.alloc (Obj.cells #[Value.slice none 0 0] 26)) wr /\
  zac wr (w.heap.size + 1) a (zbP (xs.take k)).1 /\ zan wr (w.heap.size + 1) s (zbP (xs.take k)).2) (fun _ _ i _ => xs.length - (intOf i).toNat)
 case atStart =>
  refine ⟨0, Nat.zero_le _, rfl, yb, ?_, ?_⟩
  · exact zac.empty yS yS
  · exact (zan.empty (N := w.heap.size + 1) yS yS).alloc _
 case round =>
  obtain ⟨k, hk, rfl, hb, hown, hint⟩ := hrel; have hwz : w.heap.size + 1 <= wr.heap.size := by have := hb.size; simpa using this
  have hco := zfr Hok.o k hk; have HB := yq hb; have HO := yq hown; have HI := yq hint; have HCo := yq hco; have B0 : Below w.heap.size w wr := ((Below.refl w.heap.size w).alloc yL _).trans (hb.mono yO); have hpr := (B0.cell (p := ⟨b, o, none⟩) hbl).trans hp; have HB0 := yq B0; by_cases hlt : k < xs.length
  · obtain ⟨bb, oo, rfl, hbb, hcell⟩ := hrow.rule hlt
    obtain ⟨r, hr⟩ : ∃ r, xs[k]? = some r := ⟨_, ye hlt⟩
    obtain ⟨q0, q1, q2⟩ := hcell k r hr; have p0 := (B0.cell (p := ⟨bb, oo + k * 3, none⟩) hbb).trans q0; have p1 := (B0.cell (p := ⟨bb, oo + k * 3 + 1, none⟩) hbb).trans q1; have p2 := (B0.cell (p := ⟨bb, oo + k * 3 + 2, none⟩) hbb).trans q2; have hi : (k : Int) < (xs.length : Int) := by omega
    have hor := Hok.o k r hr; have Hr := yq hr; have Hor := yq hor; clear hcell hr q0 q1 q2 hb hown hint hor hco hrow B0; go_upto_if 37 with fail
    obtain ⟨K, hK⟩ : ∃ K, (zbP (xs.take k)).1 = K := ⟨_, rfl⟩
    obtain ⟨S, hS⟩ : ∃ S, (zbP (xs.take k)).2 = S := ⟨_, rfl⟩
    have hKl : K.length = k := by rw [<- hK]; exact HCo.o.l1
    have hSl : S.length = k := by rw [<- hS]; exact HCo.o.l2
    have hlow : ∀ i, i < k -> 0 <= S.getD i 0 /\ S.getD i 0 <= i := by rw [<- hS]; exact HCo.o.low
    have hidx : ∀ i, i < k -> S.getD i 0 = ((K.idxOf (zaA K i) : Nat) : Int) := by rw [<- hS, <- hK]; exact HCo.o.idx
    rw [hK] at HO; rw [hS] at HI; have hnx : zbP (xs.take (k + 1)) = (K ++ [zcx S r], S ++ [((K.idxOf (zcx S r) : Nat) : Int)]) := by rw [zeM Hr.o, zeL, hK, hS]
    have Hnx := yq hnx; obtain ⟨X, hX⟩ : ∃ X, zcx S r = X := ⟨_, rfl⟩
    have HX := yq hX; rw [hX] at Hnx; clear hK hS hnx hX HCo; have HKl := yq hKl; have HSl := yq hSl; have Hlow := yq hlow; have Hidx := yq hidx; clear hKl hSl hlow hidx; go_cut [] from 28 to 48 (fun wx => Below wr.heap.size wr wx /\ zbB wx wr.heap.size X)
    case first =>
     by_cases hp : r.letter.toList.isEmpty = true
     · rw [hp]
       have hpr : r.pair = true := by rw [zaq] at hp; exact hp
       obtain ⟨e1, e2, e3, e4⟩ := zbs Hor.o hpr; obtain ⟨la, hla⟩ := Int.eq_ofNat_of_zero_le e1; obtain ⟨ra, hra⟩ := Int.eq_ofNat_of_zero_le e3; rw [hla] at e2; rw [hra] at e4; simp only [Int.toNat_natCast] at e2 e4
       have i1 : (la : Int) < (S.length : Int) := by have := HSl.o; omega
       have i2 : (ra : Int) < (S.length : Int) := by have := HSl.o; omega
       obtain ⟨g, cap, rfl, hg1, hg2, hg3, hgc⟩ := zan.at_ HI.o (j := 0) yO; have w1 := hgc la yO; have w2 := hgc ra yO; obtain ⟨va, hva⟩ : ∃ x, S.getD la 0 = x := ⟨_, rfl⟩
       obtain ⟨vb, hvb⟩ : ∃ x, S.getD ra 0 = x := ⟨_, rfl⟩
       rw [hva] at w1; rw [hvb] at w2; have hX2 : X = zaP va vb := by rw [<- HX.o, zbY hpr, hla, hra, <- hva, <- hvb]; rfl
       have HX2 := yq hX2; rw [hla, hra]; clear hX2 hgc hpr e1 e3 hg3 hva hvb; have y1 : g < wr.heap.size := hg2; have B3 : Below wr.heap.size wr (wr.alloc (Obj.cells #[Value.string r.letter, Value.int IntKind.i64 la, Value.int IntKind.i64 ra] 88)) := yb; have e0 : (wr.alloc (Obj.cells #[Value.string r.letter, Value.int IntKind.i64 la, Value.int IntKind.i64 ra] 88)).heap[wr.heap.size]? = some (Obj.cells #[Value.string r.letter, Value.int IntKind.i64 la, Value.int IntKind.i64 ra] 88 (0, 0)) := zbe _ _; generalize wr.alloc (Obj.cells #[Value.string r.letter, Value.int IntKind.i64 la, Value.int IntKind.i64 ra] 88) = W3 at *; have l0 : wr.heap.size < W3.heap.size := (Array.getElem?_eq_some_iff.1 e0).1
       have c0 : W3.cell? ⟨wr.heap.size, 0, none⟩ = some (.string r.letter) := by simp [World.cell?, e0]
       have c1 : W3.cell? ⟨wr.heap.size, 1, none⟩ = some (.int .i64 la) := by simp [World.cell?, e0]
       have c2 : W3.cell? ⟨wr.heap.size, 2, none⟩ = some (.int .i64 ra) := by simp [World.cell?, e0]
       have f0 : ∀ o, W3.frozen? ⟨wr.heap.size, o, none⟩ = false := fun o => by simp [World.frozen?, e0]
       have w3 := (B3.cell (p := ⟨g, la, none⟩) y1).trans w1; have w4 := (B3.cell (p := ⟨g, ra, none⟩) y1).trans w2; have B5 := yq (Below.drew B3); clear B3 e0 w1 w2; go_wp2_with fail
       go_still_tail 11, yk
       change wpList _ _ _ _ _ W3.drew
       go_wp2_with fail
       go_meet
       rw [HX2.o]; exact ⟨((B5.o.setCell yL _).setCell yL _).setCell yL _, by simp [go_sem, zaP, c0], by simp [go_sem, zaP, c1], by simp [go_sem, zaP, c2], by simp; exact l0⟩
     · have hpr : r.pair = false := by rw [zaq] at hp; simpa [zaa.pair] using hp
       have hX2 : X = r := by rw [<- HX.o, zcj hpr]
       have HX2 := yq hX2; have hp2 : r.letter.toList.isEmpty = false := by simpa using hp
       rw [hp2]; clear hX2 hpr hp; go_wp2_with fail
       go_meet
       rw [HX2.o]; exact ⟨yb, by simp [go_sem], by simp [go_sem], by simp [go_sem], by simp⟩
    case rest =>
     revert hcut; generalize wc = w1; intro hcut; obtain ⟨hb1, hx1⟩ := hcut; have z1 : wr.heap.size <= w1.heap.size := hb1.size; have HO1 := yq (zac.below HO.o hb1); have HI1 : yh (zan w1 (w.heap.size + 1) u4 S) := zaI HI.o hb1; have B1 := yq (HB.o.trans (hb1.mono hwz)); have HX1 := yq hx1; obtain ⟨c0, c1, c2, lx⟩ := hx1; obtain ⟨AK, cK, rfl, _, _, hrowK⟩ := zac.sl HO1.o; obtain ⟨AS, cS, rfl, _, _, hrowS⟩ := zan.sl HI1.o; have HrowK := yq hrowK; have HrowS := yq hrowS; clear hb1 p0 p1 p2 hrowK hrowS hpr; go_wp2_with fail
     go_loopw [8, 9] (fun q i wx => ∃ j z : Nat, i = .int .i64 (j : Int) /\ q = .int .i64 (z : Int) /\ zoU K X k j z /\ j <= k /\ (∃ n, wx = w1.drewN n)) (fun _ i _ => k - (intOf i).toNat)
     case atStart => exact ⟨0, k, rfl, rfl, .inl ⟨rfl, Nat.zero_le _, Nat.zero_le _⟩, Nat.zero_le _, 0, rfl⟩
     case round =>
      obtain ⟨j, z, rfl, rfl, hf, hjk, n, rfl⟩ := hrel; by_cases hin : z = k /\ j < k
      · obtain ⟨hf0, hlj⟩ := hin
        subst hf0
        have hf1 : j <= K.idxOf X := by
         rcases hf with ⟨_, h, _⟩ | ⟨_, h⟩
         · exact h
         · exact absurd h yO
        · obtain ⟨b1, o1, rfl, hb1, hc1⟩ := HrowS.o.int (k := j) (by rw [HSl.o]; omega)
          obtain ⟨b2, o2, rfl, hb2, hc2⟩ := HrowK.o.rule (k := j) (by rw [HKl.o]; omega); have s0 := hc1 j (by rw [HSl.o]; omega); obtain ⟨y, hy⟩ : ∃ y, K[j]? = some y := ⟨_, ye (by rw [HKl.o]; omega)⟩
          obtain ⟨k0, k1, k2⟩ := hc2 j y hy; have hj2 : (j : Int) < (S.length : Int) := by rw [HSl.o]; omega
          have hj3 : (j : Int) < (K.length : Int) := by rw [HKl.o]; omega
          have hji : (j : Int) < (z : Int) := by omega
          have hsj := Hidx.o j hlj; rw [zbW hy] at hsj; rw [hsj] at s0; obtain ⟨u, hu⟩ : ∃ u, K.idxOf y = u := ⟨_, rfl⟩
          rw [hu] at s0; have Hu := yq hu; have Hy := yq hy; have huj : u <= j := by rw [<- hu]; exact zgP hy
          clear hc1 hc2 hsj hu hy; by_cases e1 : u = j
          · subst e1
            by_cases e2 : y = X
            · subst e2
              go_upto_region 14 with fail
              go_quiet (fail)
              go_wp2_with fail
              exact ⟨⟨u + 1, u, rfl, rfl, .inr ⟨Hu.o.symm, hlj⟩, hlj, _, rfl⟩, by simp [intOf]; omega⟩
            · have HNE := yq e2
              rcases zmq e2 with f1 | ⟨f1, f2⟩ | ⟨f1, f2, f3⟩
              · clear e2
                go_upto_region 14 with fail
                go_quiet (fail)
                go_wp2_with fail
                exact ⟨⟨u + 1, z, rfl, rfl, zeQ Hy.o hf1 hlj fun h => HNE.o h.2, hlj, _, rfl⟩, by simp [intOf]; omega⟩
              · rw [f1] at k0
                clear e2 f1; go_upto_region 14 with fail
                go_quiet (fail)
                go_wp2_with fail
                exact ⟨⟨u + 1, z, rfl, rfl, zeQ Hy.o hf1 hlj fun h => HNE.o h.2, hlj, _, rfl⟩, by simp [intOf]; omega⟩
              · rw [f1] at k0
                rw [f2] at k1; clear e2 f1 f2; go_upto_region 14 with fail
                go_quiet (fail)
                go_wp2_with fail
                exact ⟨⟨u + 1, z, rfl, rfl, zeQ Hy.o hf1 hlj fun h => HNE.o h.2, hlj, _, rfl⟩, by simp [intOf]; omega⟩
          · have hd : ((u : Int) == (j : Int)) = false := by rw [beq_eq_false_iff_ne]; omega
            go_upto_region 14 with fail
            go_quiet (fail)
            go_wp2_with fail
            exact ⟨⟨j + 1, z, rfl, rfl, zeQ Hy.o hf1 hlj fun h => e1 (by rw [<- Hu.o]; exact h.1), hlj, _, rfl⟩, by simp [intOf]; omega⟩
      · have he := zmr HKl.o hf yO
        have hcd : ¬ ((j : Int) < (k : Int)) \/ ((j : Int) < (k : Int) /\ ((z : Int) == (k : Int)) = false) := by
         by_cases hj : j < k
         · exact .inr ⟨by omega, by rw [beq_eq_false_iff_ne]; omega⟩
         · exact .inl yO
        have He := yq he; have HO2 : yh (zac (w1.drewN n) (w.heap.size + 1) (.slice AK K.length cK) K) := HO1.o.drewN n; have HI2 : yh (zan (w1.drewN n) (w.heap.size + 1) (.slice AS S.length cS) S) := HI1.o.drewN n; have HX2 : yh (zbB (w1.drewN n) wr.heap.size X) := HX1.o; have B2 : yh (Below (w.heap.size + 1) (w.alloc (Obj.cells #[Value.slice none 0 0] 26)) (w1.drewN n)) := zal B1.o n; have HSL : yh (S.length <= 1099511627775) := by rw [yh, HSl.o]; omega
        have HKL : yh (K.length <= 1099511627775) := by rw [yh, HKl.o]; omega
        have hw2 : yh (w.heap.size + 1 <= (w1.drewN n).heap.size) := Nat.le_trans hwz z1; clear hf hin he c0 c1 c2 lx; have hx2 := HX2.o; generalize w1.drewN n = w2 at *; obtain ⟨c0, c1, c2, lx⟩ := hx2; have zr : w.heap.size + 1 <= wr.heap.size := hwz; rcases hcd with d1 | ⟨d1, d2⟩
        all_goals
         go_wp2_with (first
          | (at_builtin; (refine zbn (base := w.heap.size + 1) (v := .slice AS S.length cS) (l := S) rfl _ _ rfl rfl rfl rfl HI2.o HSL.o hw2.o ?_); intro v3 w3 own3 hg3 hv3; obtain ⟨A3, c3, rfl, _⟩ := zae own3; have hK3 := yq (zfW HO2.o HI2.o hg3); have hX3 := zll HX2.o HI.o yL hg3; obtain ⟨x0, x1, x2, x3⟩ := hX3; have B3 := yq (zlm B2.o hw2.o HI2.o hg3); have I3 := yq own3; have Z3 := yq (zms hw2.o hg3))
          | (at_builtin; go_loud (refine za5 (base := w.heap.size + 1) (v := .slice AK K.length cK) rfl _ _ rfl yR yR rfl hK3.o HKL.o Z3.o ?_); intro v4 w4 own4 hg4 hb4; obtain ⟨A4, c4, rfl, _⟩ := zae own4; have I4 := yq (zgQ I3.o hK3.o hg4); have B4 := yq ((B3.o.alloc Z3.o _).trans hb4); have K4 := yq own4))
         have eK : (K ++ [X]).length = K.length + 1 := by simp
         have eS : (S ++ [(z : Int)]).length = S.length + 1 := by simp
         refine ⟨⟨k + 1, by omega, rfl, B4.o, ?_, ?_⟩, by simp [intOf]; omega⟩
         · rw [Hnx.o]
           show zac w4 (w.heap.size + 1) (.slice A4 (K.length + 1) c4) (K ++ [X])
           rw [<- eK]; exact K4.o
         · rw [Hnx.o, <- He.o]
           show zan w4 (w.heap.size + 1) (.slice A3 (S.length + 1) c3) (S ++ [(z : Int)])
           rw [<- eS]; exact I4.o
  · have hkn : k = xs.length := by omega
    subst hkn; have hcz := zdI Hok.o; obtain ⟨K, S, hKS⟩ : ∃ K S, zbP xs = (K, S) := ⟨_, _, rfl⟩
    have hown := HO.o; have hint := HI.o; rw [List.take_length, hKS] at hown hint; rw [hKS] at hcz; dsimp only at hown hint
    have hKl : K.length = xs.length := hcz.l1; have hSl : S.length = xs.length := hcz.l2; have hlowA : ∀ i, i < xs.length -> 0 <= S.getD i 0 /\ S.getD i 0 <= i := hcz.low; have HKo : yh (za2 K) := hcz.ok; have Hnd : yh (zaV K xs.length (zfq xs) = zcn xs) := by rw [yh, zcn, hKS]
    have Hrb : yh (zfq xs = (List.replicate xs.length false).set (S.getD (xs.length - 1) 0).toNat true) := by rw [yh, zfq, hKS]
    have Hto : yh (∀ k, zby xs (k + 1) = zcG K (zcn xs) (zby xs k) k) := fun k => by rw [zcH, hKS]
    have HNl := yq (zi7 xs); obtain ⟨AK, cK, rfl, _, hmK, hrowK⟩ := zac.sl hown; obtain ⟨AS, cS, rfl, _, hmS, hrowS⟩ := zan.sl hint
    have hmkB : ∀ W : World, (Instr.makeSlice 129 (.int .i64 (xs.length : Int)) (.int .i64 (xs.length : Int))).run Tryz.prog W = .ok (.slice (some ⟨W.heap.size, 0, none⟩) xs.length xs.length) (W.alloc (.cells (madeCells #[.bool false] xs.length) 4)) :=
     fun W => run_make_row' _ _ _ 1 Tryz.underlying129 yk rfl .i64 .i64 xs.length yO yO W
    have hmkI : ∀ W : World, (Instr.makeSlice 94 (.int .i64 (xs.length : Int)) (.int .i64 (xs.length : Int))).run Tryz.prog W = .ok (.slice (some ⟨W.heap.size, 0, none⟩) xs.length xs.length) (W.alloc (.cells (madeCells #[.int .i64 0] xs.length) 2)) :=
     fun W => run_make_row' _ _ _ 8 Tryz.underlying94 Tryz.infoI rfl .i64 .i64 xs.length yO yO W
    have HmkI := yq hmkI; have HrowK := yq hrowK; have HrowS := yq hrowS; have HKl := yq hKl; have HSl := yq hSl; have HlowA := yq hlowA; clear hmkI; clear hown hint hcz hKl hlowA hSl hKS HO HI hrowK hrowS hrow HCo hmK hmS B0; clear hown hint hb hco hlt hk; generalize wr = w1 at *; go_upto_region 19 with fail
    have hR0 := zfV.made w1 xs.length; have hb0 : Below w1.heap.size w1 (w1.alloc (.cells (madeCells #[.bool false] xs.length) 4)) := (Below.refl _ _).alloc yL _; generalize w1.alloc (.cells (madeCells #[.bool false] xs.length) 4) = w2 at *; have HR0 := yq hR0; have HB0' := yq hb0; clear hR0 hb0 hmkB; go_upto_if 86 with fail
    go_cut [] from 86 to 93 (fun wx => zfV wx w1.heap.size (zfq xs) /\ Below w1.heap.size w1 wx)
    case first =>
     by_cases h0 : 0 < xs.length
     · obtain ⟨bS, oS, hAS, hbS, hcS⟩ := HrowS.o.int (k := xs.length - 1) (by have := HSl.o; omega)
       subst hAS; have c0 := hcS (xs.length - 1) (by have := HSl.o; omega); obtain ⟨hl1, hl2⟩ := HlowA.o (xs.length - 1) yO; obtain ⟨t, ht⟩ := Int.eq_ofNat_of_zero_le hl1; have hm1 : (xs.length : Int) - 1 = ((xs.length - 1 : Nat) : Int) := by omega
       have hm2 : xs.length - 1 < S.length := by have := HSl.o; omega
       have htl : t < xs.length := by omega
       rw [ht, Int.toNat_natCast] at Hrb; rw [ht] at c0; obtain ⟨m, hm⟩ : ∃ m, xs.length - 1 = m := ⟨_, rfl⟩
       rw [hm] at hm1 hm2 c0; have c1 := (HB0'.o.cell (p := ⟨bS, oS + m, none⟩) hbS).trans c0; have c2 := HR0.o.cell (i := t) (by simpa using htl); have f2 := HR0.o.frozen; have hti : (t : Int) < (xs.length : Int) := by omega
       have hp0 : (0 : Int) < (xs.length : Int) := by omega
       have HR1 := yq (HR0.o.set t true); rw [<- Hrb.o] at HR1; have HB1' := yq (HB0'.o.setCell (p := ⟨w1.heap.size, t, none⟩) yL (.bool true)); clear hcS c0 hl1 hl2 ht hm; go_wp2_with fail
       go_meet
       exact ⟨HR1.o, HB1'.o⟩
     · have hp0 : ¬ (0 : Int) < (xs.length : Int) := by omega
       have hxe : xs.length = 0 := by omega
       have Hxe := yq hxe; clear hxe h0; go_wp2_with fail
       go_meet
       refine ⟨?_, HB0'.o⟩
       have := HR0.o; rw [Hrb.o, Hxe.o]; rw [Hxe.o] at this; exact this
    case rest =>
     revert hcut; generalize wc = w2'; intro hcut; obtain ⟨hr0, hb0⟩ := hcut; have HR1 := yq hr0; have HB1' := yq hb0; have hm1 : (xs.length : Int) - 1 = (xs.length : Int) - 1 := rfl; clear hr0 hb0 HR0 HB0'; go_wp2_with fail
     go_loopw [11] (fun i wx => ∃ (k : Nat) (z : Int) (N : List Bool), k <= xs.length /\ z = (k : Int) - 1 /\ i = .int .i64 z /\ Below w1.heap.size w1 wx /\ zfV wx w1.heap.size N /\ N.length = xs.length /\ zaV K k N = zcn xs) (fun i _ => (intOf i + 1).toNat)
     case atStart =>
      exact ⟨xs.length, _, zfq xs, Nat.le_refl _, rfl, rfl, HB1'.o, HR1.o, by simp [zfq], Hnd.o⟩
     case round =>
      obtain ⟨k, z, N, hk2, rfl, rfl, hb2, hrN, hNl, hnN⟩ := hrel; have HB3 := yq hb2; have HRN := yq hrN; have HNN := yq hnN; have HNlen := yq hNl; clear hb2 hrN hnN; cases k with
      | zero =>
        have hz : ((0 : Nat) : Int) - 1 = -1 := by omega
        rw [hz]; have hNN : N = zcn xs := by have := HNN.o; rwa [zaV] at this
        subst hNN; obtain ⟨w3, rfl⟩ : ∃ w3 : World, w3 = wr := ⟨_, rfl⟩
        have hmkI := HmkI.o; clear hz Hrb Hnd HNN hm1; go_upto_region 29 with fail
        have hri0 : zea ((w3.alloc (.cells (madeCells #[.int .i64 0] xs.length) 2)).alloc (.cells #[.slice none 0 0] 26)) w3.heap.size (List.replicate xs.length 0) := (zea.made w3 xs.length).alloc _; have hbx0 : Boxed ((w3.alloc (.cells (madeCells #[.int .i64 0] xs.length) 2)).alloc (.cells #[.slice none 0 0] 26)) (w3.heap.size + 1) 26 (.slice none 0 0) := Boxed.of1 w3 _ _ _; have hb04 : Below w3.heap.size w3 ((w3.alloc (.cells (madeCells #[.int .i64 0] xs.length) 2)).alloc (.cells #[.slice none 0 0] 26)) := ((Below.refl _ _).alloc yL _).alloc yS _; generalize (w3.alloc (.cells (madeCells #[.int .i64 0] xs.length) 2)).alloc (.cells #[.slice none 0 0] 26) = w4 at *; have z13 := HRN.o.lt; have HRN4 := yq (HRN.o.below hb04 z13); have HB4 := yq (HB3.o.trans (hb04.mono (Nat.le_of_lt z13))); have HBX := yq hbx0; have HRI := yq hri0; have Hb4 := yq hb04; have hbo : w3.heap.size <= w3.heap.size + 1 := Nat.le_succ _; have hba : w3.heap.size <= w3.heap.size := Nat.le_refl _; have hne : w3.heap.size + 1 ≠ w3.heap.size := by omega
        obtain ⟨bo, hboe⟩ : ∃ bo, w3.heap.size + 1 = bo := ⟨_, rfl⟩
        rw [hboe] at HBX hbo hne; obtain ⟨ba, hbae⟩ : ∃ ba, w3.heap.size = ba := ⟨_, rfl⟩
        simp only [hboe]
        have HRI : yh (zea w4 ba (List.replicate xs.length 0)) := by rw [<- hbae]; exact HRI.o
        have hba : w3.heap.size <= ba := by omega
        have hne : bo ≠ ba := by omega
        have hsw : ∀ n c, Value.slice (some ⟨w3.heap.size, 0, none⟩) n c = Value.slice (some ⟨ba, 0, none⟩) n c := fun n c => by rw [hbae]
        simp only [hsw]
        clear hri0 hbx0 hb04 HRN HB3 HNlen hNl hk2 hmkI hboe hbae hsw HmkI HrowS HlowA HB1' HR1; go_wp2_with fail
        go_loopw [14] (fun i wx => ∃ k : Nat, k <= xs.length /\ i = .int .i64 k /\ Below w3.heap.size w4 wx /\ ∃ vo : Value, Boxed wx bo 26 vo /\ zac wx w3.heap.size vo (zby xs k).1 /\ zea wx ba (zby xs k).2) (fun i _ => xs.length - (intOf i).toNat)
        case atStart => exact ⟨0, Nat.zero_le _, rfl, Below.refl _ _, _, HBX.o, World.ownsRow_nil _ _ _ _, HRI.o⟩
        case round =>
         obtain ⟨k, hk, rfl, hb5, vo, hbx, hown, hri⟩ := hrel; obtain ⟨Ao, co, rfl, _⟩ := zae hown; have HB5 := yq hb5; have HBX5 := yq hbx; have HOW := yq hown; have HRI5 := yq hri; have z34 : w3.heap.size <= w4.heap.size := Hb4.o.size; have z45 : w4.heap.size <= wr.heap.size := hb5.size; clear hb5 hown hri; by_cases hlt : k < xs.length
         · obtain ⟨bK, oK, hAK, hbK, hcK⟩ := HrowK.o.rule (k := k) (by have := HKl.o; omega)
           subst hAK; obtain ⟨r, hr⟩ : ∃ r, K[k]? = some r := ⟨_, ye (by have := HKl.o; omega)⟩
           have Hr := yq hr; have Hor := yq (HKo.o k r hr); obtain ⟨q0, q1, q2⟩ := hcK k r hr; have B1 : Below w1.heap.size w1 wr := HB4.o.trans (HB5.o.mono (Nat.le_of_lt z13)); have p0 := (B1.cell (p := ⟨bK, oK + k * 3, none⟩) hbK).trans q0; have p1 := (B1.cell (p := ⟨bK, oK + k * 3 + 1, none⟩) hbK).trans q1; have p2 := (B1.cell (p := ⟨bK, oK + k * 3 + 2, none⟩) hbK).trans q2; have hjK : (k : Int) < (K.length : Int) := by have := HKl.o; omega
           have hjn : (k : Int) < (xs.length : Int) := by omega
           have RNr := yq (HRN4.o.below HB5.o z13); have cN := RNr.o.cell (i := k) (by have := HNl.o; omega); have hlN := RNr.o.lt; obtain ⟨L, T, hLT⟩ : ∃ L T, zby xs k = (L, T) := ⟨_, _, rfl⟩
           have hTl : T.length = xs.length := by have := (zdH xs k).1; rw [hLT] at this; exact this
           have hLl : L.length <= k := by have := (zdH xs k).2; rw [hLT] at this; exact this
           rw [hLT] at HBX5 HOW HRI5; dsimp only at HBX5 HOW HRI5
           have hst := Hto.o k; rw [hLT, zcG, zbW hr] at hst; obtain ⟨u, hu⟩ : ∃ u, (zcn xs).getD k false = u := ⟨_, rfl⟩
           rw [hu] at cN hst; dsimp only at hst
           have zbo := hbx.lt; have zba := HRI5.o.lt; clear hr hcK q0 q1 q2 B1 hLT hu hbx; cases u
           · rw [if_neg yS] at hst
             have Hst := yq hst; clear hst; go_wp2_with fail
             refine ⟨⟨k + 1, by omega, rfl, HB5.o, _, by rw [Hst.o]; exact ⟨HBX5.o, HOW.o, HRI5.o⟩⟩, by simp [intOf]; omega⟩
           · rw [if_pos rfl] at hst
             obtain ⟨X, hX⟩ : ∃ X, zcx T r = X := ⟨_, rfl⟩
             rw [hX] at hst; have Hst := yq hst; have HX := yq hX; have HTl := yq hTl; have HLl := yq hLl; have hcb := HBX5.o.cell; have cT := HRI5.o.cell (i := k) yO; have fT := HRI5.o.frozen; clear hst hX hTl hLl; go_upto_region 34 with fail
             have ri6 := HRI5.o.set k (L.length : Int); have ow6 : zac (wr.setCell ⟨ba, k, none⟩ (.int .i64 (L.length : Int))) w3.heap.size (.slice Ao L.length co) L := ownsRow_setCell_other (a := ⟨ba, k, none⟩) HOW.o (HRI5.o.not_row HOW.o (by decide)).symm _; have bx6 := zgN (o := k) HBX5.o hne (.int .i64 (L.length : Int)); have hb6 := HB5.o.setCell (p := ⟨ba, k, none⟩) hba (.int .i64 (L.length : Int)); have hz6 : (wr.setCell ⟨ba, k, none⟩ (.int .i64 (L.length : Int))).heap.size = wr.heap.size := by simp
             have hk6 : ∀ o, (wr.setCell ⟨ba, k, none⟩ (.int .i64 (L.length : Int))).cell? ⟨bK, o, none⟩ = wr.cell? ⟨bK, o, none⟩ := fun o => World.cell?_of_block (a := ⟨bK, o, none⟩) (Below.heap_setCell _ _ _ _ (by show bK ≠ ba; omega))
             rw [<- hk6] at p0 p1 p2; generalize wr.setCell ⟨ba, k, none⟩ (.int .i64 (L.length : Int)) = w6 at *; have HRI6 := yq ri6; have HOW6 := yq ow6; have HBX6 := yq bx6; have HB6 := yq hb6; have hb6K : bK < w6.heap.size := by omega
             clear ri6 ow6 bx6 hb6 hk6 hcb cT fT; go_upto_if 151 with fail
             go_cut [] from 145 to 162 (fun wx => Below w6.heap.size w6 wx /\ zbB wx wr.heap.size X)
             case first =>
              by_cases hp : r.letter.toList.isEmpty = true
              · rw [hp]
                have hpr : r.pair = true := by rw [zaq] at hp; exact hp
                obtain ⟨e1, e2, e3, e4⟩ := zbs Hor.o hpr; obtain ⟨la, hla⟩ := Int.eq_ofNat_of_zero_le e1; obtain ⟨ra, hra⟩ := Int.eq_ofNat_of_zero_le e3; rw [hla] at e2; rw [hra] at e4; simp only [Int.toNat_natCast] at e2 e4
                have i1 : (la : Int) < (xs.length : Int) := by omega
                have i2 : (ra : Int) < (xs.length : Int) := by omega
                have w1c := HRI6.o.cell (i := la) (by have := HTl.o; simp; omega); have w2c := HRI6.o.cell (i := ra) (by have := HTl.o; simp; omega); have sa : (T.set k (L.length : Int)).getD la 0 = T.getD la 0 := by rw [yg, List.getElem?_set_ne yO, <- yg]
                have sb : (T.set k (L.length : Int)).getD ra 0 = T.getD ra 0 := by rw [yg, List.getElem?_set_ne yO, <- yg]
                rw [sa] at w1c; rw [sb] at w2c; obtain ⟨va, hva⟩ : ∃ x, T.getD la 0 = x := ⟨_, rfl⟩
                obtain ⟨vb, hvb⟩ : ∃ x, T.getD ra 0 = x := ⟨_, rfl⟩
                rw [hva] at w1c; rw [hvb] at w2c; have hX2 : X = zaP va vb := by rw [<- HX.o, zbY hpr, hla, hra, <- hva, <- hvb]; rfl
                have HX2 := yq hX2; have zba6 := HRI6.o.lt; rw [hla, hra]; clear hX2 hpr e1 e3 hva hvb hla hra sa sb; have B3 : Below w6.heap.size w6 (w6.alloc (Obj.cells #[Value.string r.letter, Value.int IntKind.i64 la, Value.int IntKind.i64 ra] 88)) := yb; have e0 : (w6.alloc (Obj.cells #[Value.string r.letter, Value.int IntKind.i64 la, Value.int IntKind.i64 ra] 88)).heap[w6.heap.size]? = some (Obj.cells #[Value.string r.letter, Value.int IntKind.i64 la, Value.int IntKind.i64 ra] 88 (0, 0)) := zbe _ _; generalize w6.alloc (Obj.cells #[Value.string r.letter, Value.int IntKind.i64 la, Value.int IntKind.i64 ra] 88) = W3 at *; have l0 : w6.heap.size < W3.heap.size := (Array.getElem?_eq_some_iff.1 e0).1
                have c0 : W3.cell? ⟨w6.heap.size, 0, none⟩ = some (.string r.letter) := by simp [World.cell?, e0]
                have c1 : W3.cell? ⟨w6.heap.size, 1, none⟩ = some (.int .i64 la) := by simp [World.cell?, e0]
                have c2 : W3.cell? ⟨w6.heap.size, 2, none⟩ = some (.int .i64 ra) := by simp [World.cell?, e0]
                have f0 : ∀ o, W3.frozen? ⟨w6.heap.size, o, none⟩ = false := fun o => by simp [World.frozen?, e0]
                rw [hz6] at c0 c1 c2 f0 l0; have w3c := (B3.cell (p := ⟨ba, la, none⟩) zba6).trans w1c; have w4c := (B3.cell (p := ⟨ba, ra, none⟩) zba6).trans w2c; have B5 := yq (Below.drew B3); clear B3 e0 w1c w2c p0 p1 p2 cN; go_wp2_with fail
                go_still_tail 11, yk
                change wpList _ _ _ _ _ W3.drew
                go_wp2_with fail
                go_meet
                rw [HX2.o]; have hle : w6.heap.size <= wr.heap.size := by omega
                exact ⟨((B5.o.setCell hle _).setCell hle _).setCell hle _, by simp [go_sem, zaP, c0], by simp [go_sem, zaP, c1], by simp [go_sem, zaP, c2], by simp; exact l0⟩
              · have hpr : r.pair = false := by rw [zaq] at hp; simpa [zaa.pair] using hp
                have hX2 : X = r := by rw [<- HX.o, zcj hpr]
                have HX2 := yq hX2; have hp2 : r.letter.toList.isEmpty = false := by simpa using hp
                rw [hp2]; clear hX2 hpr hp; go_wp2_with fail
                go_meet
                rw [HX2.o, <- hz6]; exact ⟨yb, by simp [go_sem], by simp [go_sem], by simp [go_sem], by simp⟩
             case rest =>
              revert hcut; generalize wc = w7; intro hcut; obtain ⟨hb7, hx7⟩ := hcut; have HX7 := yq hx7; have HBX7 := yq (Boxed.up HBX6.o hb7 HBX6.o.lt); have HRI7 := yq (HRI6.o.below hb7 HRI6.o.lt); have HOW7 : yh (zac w7 w3.heap.size (.slice Ao L.length co) L) := zac.below HOW6.o hb7; have BB7 := yq (HB6.o.trans (hb7.mono yO)); have HW7 : yh (w3.heap.size <= w7.heap.size) := by have := hb7.size; rw [yh]; omega
              obtain ⟨x0, x1, x2, x3⟩ := hx7; have hcb := HBX7.o.cell; have HLL : yh (L.length <= 1099511627775) := by have := HLl.o; exact Nat.le_trans this yO
              clear hb7 p0 p1 p2 cN
              go_wp2_with (first
               | (at_builtin; refine za5 (base := w3.heap.size) (v := .slice Ao L.length co) rfl _ _ rfl yR yR rfl HOW7.o HLL.o HW7.o ?_; intro v8 w8 own8 hg8 hb8; have bx8 : Boxed w8 bo 26 _ := Boxed.grown HBX7.o (by decide) HOW7.o hg8; have ri8 := yq ((HRI7.o.alloc _).kept hg8 (HRI7.o.not_row HOW7.o (by decide))); obtain ⟨A8, c8, rfl, _⟩ := zae own8; have hcb8 := bx8.cell; have hfb8 := bx8.frozen; have hl8 := bx8.lt; have own9 := yq (zcK bx8 own8 rfl List.length_append); have B9 := yq (((BB7.o.alloc HW7.o _).trans hb8).setCell (p := ⟨bo, 0, none⟩) hbo (.slice A8 (L.length + 1) c8)); have X9 : yh (Boxed (w8.setCell ⟨bo, 0, none⟩ (.slice A8 (L.length + 1) c8)) bo 26 (.slice A8 (L.length + 1) c8)) := Boxed.set _ bx8; have R9 := yq (ri8.o.other (c := bo) (o := 0) hne.symm (.slice A8 (L.length + 1) c8)); clear own8 hg8 hb8))
              refine ⟨⟨k + 1, by omega, rfl, B9.o, _, X9.o, ?_⟩, by simp [intOf]; omega⟩
              rw [Hst.o]; exact ⟨own9.o, R9.o⟩
         · have hkn : k = xs.length := by omega
           subst hkn; have h1b : Below w1.heap.size w1 wr := HB4.o.trans (HB5.o.mono (Nat.le_of_lt z13)); have h0b : Below (w.heap.size + 1) _ wr := HB.o.trans (h1b.mono hwz); have cb := hbx.cell; have hz9 : w.heap.size < wr.heap.size := by omega
           have H0 := yq h0b; have hn9 : Boxed (w.alloc (Obj.cells #[Value.slice none 0 0] 26)) w.heap.size 26 (.slice none 0 0) := Boxed.new _ _ _; have hb9 : Boxed wr w.heap.size 26 (.slice none 0 0) := (h0b.block w.heap.size yO).trans hn9; have c9 := hb9.cell; have f9 := hb9.frozen; have Hcw := yq (Boxed.set (.slice Ao (zby xs xs.length).1.length co) hb9).cell; clear h1b h0b hn9 hb9; go_wp2_with fail
           refine bodyPost_ret (v := .agg #[.slice Ao (zby xs xs.length).1.length co]) (by simp [results, Tryz.results57, go_sem, Hcw.o]) rfl ⟨?_, .slice Ao (zby xs xs.length).1.length co, ?_, rfl⟩
           · exact ((Below.refl w.heap.size w).alloc yL _).trans (H0.o.mono yO) |>.setCell yL _
           · exact ownsRow_setCell_below (a := ⟨w.heap.size, 0, none⟩) (zad HOW.o (base' := w.heap.size + 1) yO) (by show w.heap.size < w.heap.size + 1; omega) _ |> fun h => zad h yO
      | succ j =>
        have hz : ((j + 1 : Nat) : Int) - 1 = (j : Int) := by omega
        rw [hz]; clear hz; obtain ⟨bK, oK, hAK, hbK, hcK⟩ := HrowK.o.rule (k := j) (by have := HKl.o; omega); subst hAK; obtain ⟨r, hr⟩ : ∃ r, K[j]? = some r := ⟨_, ye (by have := HKl.o; omega)⟩
        have Hr := yq hr; have Hor := yq (HKo.o j r hr); obtain ⟨q0, q1, q2⟩ := hcK j r hr; have p0 := (HB3.o.cell (p := ⟨bK, oK + j * 3, none⟩) hbK).trans q0; have p1 := (HB3.o.cell (p := ⟨bK, oK + j * 3 + 1, none⟩) hbK).trans q1; have p2 := (HB3.o.cell (p := ⟨bK, oK + j * 3 + 2, none⟩) hbK).trans q2; have hjK : (j : Int) < (K.length : Int) := by have := HKl.o; omega
        have hjn : (j : Int) < (xs.length : Int) := by omega
        have cN := HRN.o.cell (i := j) (by have := HNlen.o; omega); have hlN := HRN.o.lt; obtain ⟨u, hu⟩ : ∃ u, N.getD j false = u := ⟨_, rfl⟩
        rw [hu] at cN; have Hu := yq hu; clear hr hcK q0 q1 q2 hu hNl hm1; cases u
        · go_wp2_with fail
          go_roundw
          case rel => exact ⟨j, _, N, by omega, rfl, rfl, HB3.o, HRN.o, HNlen.o, by rw [<- HNN.o, zaV, zbA, Hu.o]; rfl⟩
          case measure => simp [intOf]
        · by_cases hp : r.letter.toList.isEmpty = true
          · have hpr : r.pair = true := by rw [zaq] at hp; exact hp
            obtain ⟨e1, e2, e3, e4⟩ := zbs Hor.o hpr; obtain ⟨la, hla⟩ := Int.eq_ofNat_of_zero_le e1; obtain ⟨ra, hra⟩ := Int.eq_ofNat_of_zero_le e3; rw [hla] at e2 p1; rw [hra] at e4 p2; simp only [Int.toNat_natCast] at e2 e4
            have Hla := yq hla; have Hra := yq hra; have Hpr := yq hpr; clear hpr; have i1 : (la : Int) < (xs.length : Int) := by omega
            have i2 : (ra : Int) < (xs.length : Int) := by omega
            have cL := HRN.o.cell (i := la) (by have := HNlen.o; omega); have cR := HRN.o.cell (i := ra) (by have := HNlen.o; omega); have fN := HRN.o.frozen; have hne : bK ≠ w1.heap.size := by omega
            have hne' : w1.heap.size ≠ bK := by omega
            have H3 := yq ((HRN.o.set la true).set ra true); have B4 := yq ((HB3.o.setCell (p := ⟨w1.heap.size, la, none⟩) yL (.bool true)).setCell (p := ⟨w1.heap.size, ra, none⟩) yL (.bool true)); clear e1 e3 hla hra; by_cases hlr : la = ra
            · subst hlr
              go_wp2_with fail
              go_roundw
              case rel => exact ⟨j, _, _, by omega, rfl, rfl, B4.o, H3.o, by simpa using HNlen.o, by rw [<- HNN.o, zaV, zbA, zbW Hr.o, Hu.o, Hpr.o, Hla.o, Hra.o]; rfl⟩
              case measure => simp [intOf]
            · have hlr2 : ra ≠ la := fun e => hlr e.symm
              go_wp2_with fail
              go_roundw
              case rel => exact ⟨j, _, _, by omega, rfl, rfl, B4.o, H3.o, by simpa using HNlen.o, by rw [<- HNN.o, zaV, zbA, zbW Hr.o, Hu.o, Hpr.o, Hla.o, Hra.o]; rfl⟩
              case measure => simp [intOf]
          · have hpr : r.pair = false := by rw [zaq] at hp; simpa [zaa.pair] using hp
            have hp2 : r.letter.toList.isEmpty = false := by simpa using hp
            have Hpr := yq hpr; have hgr : zaA K j = r := zbW Hr.o; have Hgr := yq hgr; clear hpr hp hgr; go_wp2_with fail
            go_roundw
            case rel => exact ⟨j, _, N, by omega, rfl, rfl, HB3.o, HRN.o, HNlen.o, by rw [<- HNN.o, zaV, zbA, Hgr.o, Hpr.o, Bool.and_false]; rfl⟩
            case measure => simp [intOf]
def znX (xs : List zaa) (i j : Int) : List zaa := match zaW xs with
 | some ls => zap xs ls i j
 | none => []
def zdq (xs : List zaa) (i j : Int) : Bool := match zaW xs with
 | some ls => decide (0 <= i) && decide (i <= j) && decide (j <= zao ls)
 | none => false
def zdx (xs : List zaa) (i j : Int) : List zaa := if zag xs && zdq xs i j then zav (znX xs i j) else []
def zcR (xs : List zaa) (i j : Int) : Int := if zag xs then if zdq xs i j then zas (znX xs i j) else 2 else 1
theorem zbN {xs : List zaa} {ls : List Int} {i j : Int} (h : zag xs = true) (hl : zaW xs = some ls) (hi : 0 <= i /\ i <= j /\ j <= zao ls) : zdx xs i j = zav (zap xs ls i j) /\ zcR xs i j = zas (zap xs ls i j) := by
 have e1 : zdq xs i j = true := by simp [zdq, hl, hi]
 have e2 : znX xs i j = zap xs ls i j := by simp [znX, hl]
 simp [zdx, zcR, h, e1, e2]
theorem zln {xs : List zaa} {ls : List Int} {i j : Int} (h : zag xs = true) (hl : zaW xs = some ls) (hi : ¬ (0 <= i /\ i <= j /\ j <= zao ls)) : zdx xs i j = [] /\ zcR xs i j = 2 := by
 have e1 : zdq xs i j = false := by
  simp only [zdq, hl]
  rw [Bool.eq_false_iff]; intro e; simp at e; exact hi ⟨e.1.1, e.1.2, e.2⟩
 simp [zdx, zcR, h, e1]
theorem zj3 {xs : List zaa} {i j : Int} (h : zag xs = false) : zdx xs i j = [] /\ zcR xs i j = 1 := by simp [zdx, zcR, h]
theorem zj4 (n a b : Int) : inR n a b = (decide (a <= n) && decide (n <= b)) := rfl
theorem zer (v : Value) (xs : List zaa) (i j : Int) (w : World) (h : Sl zar w w.heap.size v xs) (hn : xs.length <= 1048576) :
  Calls Tryz.prog 65 #[.agg #[v], .int .i64 i, .int .i64 j] w (zl8 (zdx xs i j) (zcR xs i j) w) := by
 have h1 := fun o o' => (h.below (((Below.refl w.heap.size w).alloc yL o).alloc yS o')).le (B' := ((w.alloc o).alloc o').heap.size) (by simp; omega); have H1 := yq h1; clear h1; obtain ⟨A, c, rfl, hc, hm, hrow⟩ := h; clear hm hrow; go_enter Tryz.func65, Tryz.ntmps65
 go_wp2_with fail
 refine (zcE _ xs _ (H1.o _ _) yO).mono ?_
 rintro e w1 ⟨hb1, hpost⟩; obtain ⟨hc1, hf1⟩ := zdu hb1; have hz1 : w.heap.size + 1 < w1.heap.size := by have := hb1.size; simp at this; omega
 have a1 : w1.cell? ⟨w.heap.size, 0, none⟩ = some (.slice A xs.length c) := by rw [hc1 _ _ yo]; simp [go_sem]
 have c1 : w1.cell? ⟨w.heap.size + 1, 0, none⟩ = some (.slice none 0 0) := by rw [hc1 _ _ yo]; simp [go_sem]
 have f1 : w1.frozen? ⟨w.heap.size + 1, 0, none⟩ = false := by rw [hf1 _ _ yo]; simp [go_sem]
 have S1 := yq ((H1.o (Obj.cells #[Value.slice A xs.length c] 26) (Obj.cells #[Value.slice none 0 0] 26)).up hb1); have B1 := yq (((Below.refl w.heap.size w).alloc yL (Obj.cells #[Value.slice A xs.length c] 26)).alloc yS (Obj.cells #[Value.slice none 0 0] 26) |>.trans (hb1.mono (by simp; omega))); clear hc1 hf1 hb1
 have hcase : (zag xs = false /\ ∃ vv, e = .returned (.tuple #[vv, .bool false])) \/ (zag xs = true /\ ∃ ls vv, zaW xs = some ls /\ e = .returned (.tuple #[vv, .bool true]) /\ Sl zgt w1 w1.heap.size vv ls) := by
  rcases hpost with ⟨ls, vv, hl, he, ho⟩ | ⟨hl, he⟩
  · by_cases h4 : xs.length <= 400
    · exact .inr ⟨by simp [zag, h4, hl], ls, vv, hl, by rw [he]; simp [h4], ho.sl⟩
    · exact .inl ⟨by simp [zag, h4], vv, by rw [he]; simp [h4]⟩
  · exact .inl ⟨by simp [zag, hl], _, he⟩
 clear hpost; rcases hcase with ⟨hok, vv, rfl⟩ | ⟨hok, ls, vv, hl, rfl, hL⟩
 · obtain ⟨e1, e2⟩ := zj3 (i := i) (j := j) hok
   have E1 := yq e1; have E2 := yq e2; clear e1 e2 hok; go_wp2
   refine bodyPost_ret (v := .tuple #[.agg #[.slice none 0 0], .int .i64 1]) (by simp [results, Tryz.results65, go_sem, c1]) rfl ⟨?_, _, ?_, by rw [E2.o]⟩
   · exact B1.o.setCell (by show w.heap.size <= w.heap.size + 1; omega) _
   · rw [E1.o]; exact World.ownsRow_nil _ _ _ _
 · have Hok := yq hok
   have Hl := yq hl; have HL := yq hL; obtain ⟨AL, cL, rfl, _⟩ := hL; clear hok hl; by_cases hin : 0 <= i /\ i <= j /\ j <= zao ls
   · obtain ⟨E1, E2⟩ := zbN Hok.o Hl.o hin
     obtain ⟨i1, i2, i3⟩ := hin; have E1 := yq E1; have E2 := yq E2; have hw1 : inR i 0 j = true := by simp [zj4, i1, i2]
     have hgt : ¬ (j > zao ls) := by omega
     clear i1 i2 i3; go_wp2_with fail
     refine (zc5 _ _ _ _ hw1).mono ?_
     rintro e w' ⟨rfl, rfl⟩; go_wp2_with fail
     refine (zdX _ ls _ HL.o).mono ?_
     rintro e w' ⟨rfl, rfl⟩; go_wp2_with fail
     refine (zkM _ _ xs ls i j _ S1.o HL.o Hl.o hn).mono ?_
     rintro e w3 ⟨hb3, v3, own3, rfl⟩; have z3 : w1.heap.size <= w3.heap.size := hb3.size; have hz3 : w.heap.size + 1 < w3.heap.size := by omega
     have c3 := zb5 c1 hb3 yO; have f3 : w3.frozen? ⟨w.heap.size + 1, 0, none⟩ = false := by rw [hb3.frozen hz1, f1]
     have B3 := yq (B1.o.trans (hb3.mono yO)); have O3 := yq own3; have hpl := zjc Hl.o i j; clear a1 c1 f1 hb3 own3; go_wp2_with fail
     refine (zcJ _ _ _ _ O3.o yO).mono ?_
     rintro e w4 ⟨hb4, v4, own4, rfl⟩; obtain ⟨A4, k4, rfl, _⟩ := zae own4; have c4 := zb5 c3 hb4 yO; have f4 : w4.frozen? ⟨w.heap.size + 1, 0, none⟩ = false := by rw [hb4.frozen hz3, f3]
     have B4 := yq (B3.o.trans (hb4.mono yO)); have O4 := yq own4; clear c3 f3 hb4 own4; go_wp2
     refine bodyPost_ret (v := .tuple #[.agg #[.slice A4 (zav (zap xs ls i j)).length k4], .int .i64 (zas (zap xs ls i j))]) (by simp [results, Tryz.results65, go_sem, c4]) rfl ⟨?_, _, ?_, by rw [E2.o]⟩
     · exact B4.o.setCell (by show w.heap.size <= w.heap.size + 1; omega) _
     · rw [E1.o]
       exact zad (ownsRow_setCell_below O4.o (a := ⟨w.heap.size + 1, 0, none⟩) (by show w.heap.size + 1 < w1.heap.size; omega) _) yO
   · obtain ⟨e1, e2⟩ := zln Hok.o Hl.o hin
     have E1 := yq e1; have E2 := yq e2
     have hcs : inR i 0 j = false \/ (inR i 0 j = true /\ j > zao ls) := by
      by_cases h : 0 <= i /\ i <= j
      · refine .inr ⟨by simp [zj4, h], ?_⟩
        omega
      · refine .inl ?_
        rw [Bool.eq_false_iff]; intro e; simp [zj4] at e; exact h e
     clear e1 e2 hin; rcases hcs with hw1 | ⟨hw1, hgt⟩
     · go_wp2_with fail
       refine (zft _ _ _ _ hw1).mono ?_
       rintro e w' ⟨rfl, rfl⟩; go_wp2_with fail
       refine bodyPost_ret (v := .tuple #[.agg #[.slice none 0 0], .int .i64 2]) (by simp [results, Tryz.results65, go_sem, c1]) rfl ⟨?_, _, ?_, by rw [E2.o]⟩
       · exact B1.o.setCell (by show w.heap.size <= w.heap.size + 1; omega) _
       · rw [E1.o]; exact World.ownsRow_nil _ _ _ _
     · go_wp2_with fail
       refine (zc5 _ _ _ _ hw1).mono ?_
       rintro e w' ⟨rfl, rfl⟩; go_wp2_with fail
       refine (zdX _ ls _ HL.o).mono ?_
       rintro e w' ⟨rfl, rfl⟩; go_wp2_with fail
       refine bodyPost_ret (v := .tuple #[.agg #[.slice none 0 0], .int .i64 2]) (by simp [results, Tryz.results65, go_sem, c1]) rfl ⟨?_, _, ?_, by rw [E2.o]⟩
       · exact B1.o.setCell (by show w.heap.size <= w.heap.size + 1; omega) _
       · rw [E1.o]; exact World.ownsRow_nil _ _ _ _
def zcL (xs : List zaa) (i j : Int) : Int := if zag xs then if zdq xs i j then 0 else 2 else 1
theorem zj5 (b o : Nat) (v : Value) (xs : List zaa) (i j : Int) (w : World) (hp : w.cell? ⟨b, o, none⟩ = some v) (hbl : b < w.heap.size) (h : Sl zar w w.heap.size v xs) (hsm : zaY xs) (hn : xs.length <= 1048576) :
  Calls Tryz.prog 90 #[.pointer (some ⟨b, o, none⟩), .int .i64 i, .int .i64 j] w fun e w' => e = .returned (.int .i64 (zcL xs i j)) /\ Below w.heap.size w w' := by
 have HR := yq h; clear h; go_enter Tryz.func90, Tryz.ntmps90
 go_wp2_with fail
 refine (zaZ _ _ _ xs _ hp hbl HR.o hsm).mono ?_
 rintro e w1 ⟨rfl, hb1⟩; have p1 := (hb1.cell (p := ⟨b, o, none⟩) hbl).trans hp; have z1 : b < w1.heap.size := Nat.lt_of_lt_of_le hbl hb1.size; have B1 := yq hb1; have R1 := yq (HR.o.up hb1); clear hb1 hp; by_cases hok : zag xs = true
 · have Hok := yq hok
   obtain ⟨h4, ls, hl⟩ := zai hok; have Hl := yq hl; have ho2 : (!zag xs) = false := by simp [hok]
   clear hok hl; by_cases hin : 0 <= i /\ i <= j /\ j <= zao ls
   · have e1 : zdq xs i j = true := by simp [zdq, Hl.o, hin]
     have e2 : zcL xs i j = 0 := by simp [zcL, Hok.o, e1]
     have E2 := yq e2; obtain ⟨i1, i2, i3⟩ := hin; have n1 : ¬ i < 0 := by omega
     have n2 : ¬ i > j := by omega
     have n3 : ¬ j > zao ls := by omega
     clear e1 e2 i1 i2 i3; go_wp2_with fail
     refine (zbm _ _ _ xs ls _ Hl.o p1 z1 R1.o hsm yO).mono ?_
     rintro e w2 ⟨rfl, hb2⟩; go_wp2_with fail
     go_ret
     exact ⟨by rw [E2.o]; rfl, B1.o.trans (hb2.mono B1.o.size)⟩
   · have e1 : zdq xs i j = false := by
      simp only [zdq, Hl.o]
      rw [Bool.eq_false_iff]; intro e; simp at e; exact hin ⟨e.1.1, e.1.2, e.2⟩
     have e2 : zcL xs i j = 2 := by simp [zcL, Hok.o, e1]
     have E2 := yq e2; have hcs : i < 0 \/ (¬ i < 0 /\ i > j) \/ (¬ i < 0 /\ ¬ i > j /\ j > zao ls) := by omega
     clear e1 e2 hin; rcases hcs with d | ⟨d1, d2⟩ | ⟨d1, d2, d3⟩
     · go_wp2_with fail
       go_ret
       exact ⟨by rw [E2.o]; rfl, B1.o⟩
     · go_wp2_with fail
       go_ret
       exact ⟨by rw [E2.o]; rfl, B1.o⟩
     · go_wp2_with fail
       refine (zbm _ _ _ xs ls _ Hl.o p1 z1 R1.o hsm yO).mono ?_
       rintro e w2 ⟨rfl, hb2⟩; go_wp2_with fail
       go_ret
       exact ⟨by rw [E2.o]; rfl, B1.o.trans (hb2.mono B1.o.size)⟩
 · have ho2 : (!zag xs) = true := by simp [hok]
   have e2 : zcL xs i j = 1 := by simp [zcL, hok]
   have E2 := yq e2; clear e2 hok; go_wp2_with fail
   go_ret
   exact ⟨by rw [E2.o]; rfl, B1.o⟩
theorem zcV (v : Value) (xs : List zaa) (i j : Int) (w : World) (h : Sl zar w w.heap.size v xs) (hn : xs.length <= 1048576) (hsm : zaY xs) :
  Calls Tryz.prog 58 #[.agg #[v], .int .i64 i, .int .i64 j] w (zl8 (zdx xs i j) (zcR xs i j) w) := by
 have h1 := fun o o' => (h.below (((Below.refl w.heap.size w).alloc yL o).alloc yS o')).le (B' := ((w.alloc o).alloc o').heap.size) (by simp; omega); have H1 := yq h1; clear h1; obtain ⟨A, c, rfl, hc, hm, hrow⟩ := h; clear hm hrow; go_enter Tryz.func58, Tryz.ntmps58
 go_wp2_with fail
 refine (zj5 _ _ _ xs i j _ (by simp [go_sem]) (by simp; omega) (H1.o _ _) hsm hn).mono ?_
 rintro e w1 ⟨rfl, hb1⟩; obtain ⟨hc1, hf1⟩ := zdu hb1; have hz1 : w.heap.size + 1 < w1.heap.size := by have := hb1.size; simp at this; omega
 have a1 : w1.cell? ⟨w.heap.size, 0, none⟩ = some (.slice A xs.length c) := by rw [hc1 _ _ yo]; simp [go_sem]
 have c1 : w1.cell? ⟨w.heap.size + 1, 0, none⟩ = some (.slice none 0 0) := by rw [hc1 _ _ yo]; simp [go_sem]
 have f1 : w1.frozen? ⟨w.heap.size + 1, 0, none⟩ = false := by rw [hf1 _ _ yo]; simp [go_sem]
 have S1 := yq ((H1.o (Obj.cells #[Value.slice A xs.length c] 26) (Obj.cells #[Value.slice none 0 0] 26)).up hb1); have B1 := yq (((Below.refl w.heap.size w).alloc yL (Obj.cells #[Value.slice A xs.length c] 26)).alloc yS (Obj.cells #[Value.slice none 0 0] 26) |>.trans (hb1.mono (by simp; omega))); clear hc1 hf1 hb1; by_cases hgo : zag xs = true /\ zdq xs i j = true
 · obtain ⟨hok, hin⟩ := hgo
   have ea : zcL xs i j = 0 := by simp [zcL, hok, hin]
   obtain ⟨h4, ls, hl⟩ := zai hok
   have hi : 0 <= i /\ i <= j /\ j <= zao ls := by
    simp only [zdq, hl] at hin
    simp at hin; exact ⟨hin.1.1, hin.1.2, hin.2⟩
   obtain ⟨E1, E2⟩ := zbN hok hl hi; have E1 := yq E1; have E2 := yq E2; have Hl := yq hl; have Hi := yq hi; rw [ea]; have z0 : w.heap.size < w1.heap.size := by omega
   clear ea hok hin hl hi; go_wp2_with fail
   refine (zlk _ _ _ xs ls i j _ a1 z0 S1.o hsm Hl.o h4 Hi.o.1 Hi.o.2.1 Hi.o.2.2).mono ?_
   rintro e w2 ⟨hb2, v2, own2, rfl⟩; obtain ⟨A2, k2, rfl, _⟩ := zae own2; have c2 := zb5 c1 hb2 yO; have f2 : w2.frozen? ⟨w.heap.size + 1, 0, none⟩ = false := by rw [hb2.frozen hz1, f1]
   have z2 : w.heap.size + 1 < w2.heap.size := by have := hb2.size; omega
   have z12 : w1.heap.size <= w2.heap.size := hb2.size; have B2 := yq (B1.o.trans (hb2.mono yO)); have hcg := zjY (zaz Hl.o) (za3 xs ls i j) (zdK Hl.o i j); have hpl := zeN Hl.o i j; have Hcg := yq hcg; obtain ⟨C, hC⟩ : ∃ C, zjb xs (za3 xs ls i j) = C := ⟨_, rfl⟩
   rw [hC] at own2 Hcg; rw [hC]; have HC : yh (zap xs ls i j = zaQ C) := by rw [yh, zap, hC]
   have hcl : C.length <= 4194304 := by have := Hcg.o.2; omega
   have bx3 : Boxed (w2.alloc (Obj.cells #[Value.slice A2 C.length k2] 26)) w2.heap.size 26 (.slice A2 C.length k2) := Boxed.new _ _ _; have S3 := yq ((own2.alloc (Obj.cells #[Value.slice A2 C.length k2] 26)).sl); have hb3 : Below w2.heap.size w2 (w2.alloc (Obj.cells #[Value.slice A2 C.length k2] 26)) := (Below.refl _ _).alloc yL _; have c3 := zb5 c2 hb3 yO; have f3 : (w2.alloc (Obj.cells #[Value.slice A2 C.length k2] 26)).frozen? ⟨w.heap.size + 1, 0, none⟩ = false := by rw [hb3.frozen z2, f2]
   have B3 := yq (B2.o.trans (hb3.mono yO)); have cb3 := bx3.cell; have lb3 := bx3.lt; clear a1 c1 f1 c2 f2 hb2 own2 hC hb3 bx3 hcg; go_wp2_with fail
   refine (zbM _ _ _ C _ cb3 lb3 S3.o hcl Hcg.o.1).mono ?_
   rintro e w4 ⟨hb4, v4, own4, rfl⟩; have c4 := zb5 c3 hb4 (by simp; omega); have f4 : w4.frozen? ⟨w.heap.size + 1, 0, none⟩ = false := by rw [hb4.frozen (by simp; omega), f3]
   have z4 : w.heap.size + 1 < w4.heap.size := by have := hb4.size; simp at this; omega
   have z24 : w2.heap.size + 1 <= w4.heap.size := by have := hb4.size; simpa using this
   have B4 := yq (B3.o.trans (hb4.mono (by simp; omega))); have O4 := yq own4; clear c3 f3 hb4 own4 cb3 lb3; go_wp2_with fail
   refine (zdY _ _ _ _ O4.o (zgJ Hcg.o.1)).mono ?_
   rintro e w5 ⟨hb5, v5, own5, rfl⟩; obtain ⟨A5, k5, rfl, _⟩ := zae own5; have c5 := zb5 c4 hb5 yO; have f5 : w5.frozen? ⟨w.heap.size + 1, 0, none⟩ = false := by rw [hb5.frozen z4, f4]
   have B5 := yq (B4.o.trans (hb5.mono yO)); have O5 := yq own5; clear c4 f4 hb5 own5; go_wp2
   refine bodyPost_ret (v := .tuple #[.agg #[.slice A5 (zav (zaQ C)).length k5], .int .i64 (zas (zaQ C))]) (by simp [results, Tryz.results58, go_sem, c5]) rfl ⟨?_, _, ?_, by rw [E2.o, HC.o]⟩
   · exact B5.o.setCell (by show w.heap.size <= w.heap.size + 1; omega) _
   · rw [E1.o, HC.o]
     exact zad (ownsRow_setCell_below O5.o (a := ⟨w.heap.size + 1, 0, none⟩) (by simp; omega) _) (by simp; omega)
 · have hcs : (zdx xs i j = [] /\ zcR xs i j = zcL xs i j) /\ (zcL xs i j = 1 \/ zcL xs i j = 2) := by
    unfold zdx zcR zcL; cases hg : zag xs <;> cases hp : zdq xs i j <;> simp_all
   obtain ⟨⟨e1, e2⟩, e3⟩ := hcs; have E1 := yq e1; have E2 := yq e2; clear e1 e2 hgo; rcases e3 with e | e
   all_goals
    rw [e]; have E3 := yq e; clear e; go_wp2
    first
     | refine bodyPost_ret (v := .tuple #[.agg #[.slice none 0 0], .int .i64 1]) (by simp [results, Tryz.results58, go_sem, c1]) rfl ⟨?_, _, ?_, by rw [E2.o, E3.o]⟩
     | refine bodyPost_ret (v := .tuple #[.agg #[.slice none 0 0], .int .i64 2]) (by simp [results, Tryz.results58, go_sem, c1]) rfl ⟨?_, _, ?_, by rw [E2.o, E3.o]⟩
    · exact B1.o.setCell (by show w.heap.size <= w.heap.size + 1; omega) _
    · rw [E1.o]; exact World.ownsRow_nil _ _ _ _
def zcD (xs : List zaa) : Nat -> Nat -> List UInt8
 | 0, _ => []
 | f + 1, r => if (zaA xs r).pair then zcD xs f (zaA xs r).left.toNat ++ zcD xs f (zaA xs r).right.toNat else (zaA xs r).letter.data.toList
def W1 (xs : List zaa) (r : Nat) : List UInt8 := zcD xs (r + 1) r
def zau (xs : List zaa) : List UInt8 := if xs = [] then [] else W1 xs (xs.length - 1)
def zb4 {α : Type} (l : List α) (i j : Int) : List α := (l.take j.toNat).drop i.toNat
theorem zeR {xs : List zaa} {ls : List Int} (h : zaW xs = some ls) : ∀ (f r : Nat), r < f -> r < xs.length -> zcD xs f r = W1 xs r := by
 intro f
 induction f using Nat.strongRecOn with
 | _ f ih =>
   intro r hr hx; obtain ⟨g, rfl⟩ : ∃ g, f = g + 1 := ⟨f - 1, by omega⟩
   unfold W1; rw [zcD, zcD]; cases hp : (zaA xs r).pair with
   | false => rfl
   | true =>
     obtain ⟨q1, q2, q3, q4, q5⟩ := zbi h hx hp; rw [if_pos rfl, if_pos rfl, ih g yO _ yO yO, ih g yO _ yO yO]; by_cases e : r = g
     · subst e
       rw [ih r yO _ yO yO, ih r yO _ yO yO]
     · rw [ih r yO _ q2 yO, ih r yO _ q4 yO]
theorem zes {xs : List zaa} {ls : List Int} (h : zaW xs = some ls) {r : Nat} (hx : r < xs.length) (hp : (zaA xs r).pair = true) : W1 xs r = W1 xs (zaA xs r).left.toNat ++ W1 xs (zaA xs r).right.toNat := by
 obtain ⟨q1, q2, q3, q4, q5⟩ := zbi h hx hp; rw [W1, zcD, if_pos hp, zeR h r _ q2 yO, zeR h r _ q4 yO]
theorem zda {xs : List zaa} {r : Nat} (hp : (zaA xs r).pair = false) : W1 xs r = (zaA xs r).letter.data.toList := by
 rw [W1, zcD, if_neg (by simp [hp])]
theorem zc6 {xs : List zaa} {ls : List Int} (h : zaW xs = some ls) {r : Nat} (hx : r < xs.length) (hp : (zaA xs r).pair = false) : zeh (zaA xs r).letter = true := by
 have h1 := (zeK h r _ (zcm hx)).1; unfold zaC at h1; rw [if_neg (by simp [hp])] at h1; simp at h1; exact h1.1.1
theorem zc7 {s : ByteArray} (h : zeh s = true) : s.size = 1 := by unfold zeh at h; simp at h; exact h.1.1
theorem zeb {xs : List zaa} {ls : List Int} (h : zaW xs = some ls) : ∀ (r : Nat), r < xs.length -> ((W1 xs r).length : Int) = ls.getD r 0 := by
 intro r
 induction r using Nat.strongRecOn with
 | _ r ih =>
   intro hx; cases hp : (zaA xs r).pair with
   | false =>
     rw [zda hp, zbL h hx hp]; have := zc7 (zc6 h hx hp); show (((zaA xs r).letter.data.toList.length : Nat) : Int) = 1
     rw [Array.length_toList]; exact congrArg _ this
   | true =>
     obtain ⟨q1, q2, q3, q4, q5⟩ := zbi h hx hp; rw [zes h hx hp, List.length_append, q5, <- ih _ q2 yO, <- ih _ q4 yO]; omega
theorem zj6 {α : Type} (a b : List α) (i j : Int) : zb4 (a ++ b) i j = zb4 a i j ++ zb4 b (i - a.length) (j - a.length) := by
 unfold zb4; rw [List.take_append, List.drop_append]; have e1 : (j - (a.length : Int)).toNat = j.toNat - a.length := by omega
 have e2 : (i - (a.length : Int)).toNat = i.toNat - a.length := by omega
 rw [e1, e2, List.length_take]; congr 1
 by_cases hj : j.toNat <= a.length
 · have : List.take (j.toNat - a.length) b = [] := by rw [show j.toNat - a.length = 0 by omega]; rfl
   rw [this]; simp
 · rw [show min j.toNat a.length = a.length by omega]
theorem zig {α : Type} {l : List α} {i j : Int} (h : (l.length : Int) <= i \/ j <= 0 \/ j <= i) : zb4 l i j = [] := by
 unfold zb4; apply List.drop_eq_nil_of_le
 rw [List.length_take]; omega
theorem zih {α : Type} {l : List α} {i j : Int} (hi : i <= 0) (hj : (l.length : Int) <= j) : zb4 l i j = l := by
 unfold zb4; rw [show i.toNat = 0 by omega, List.drop_zero, List.take_of_length_le yO]
theorem zeS {α : Type} {l : List α} {i j : Int} (hi : 0 <= i) (hij : i <= j) (hj : j <= l.length) : ((zb4 l i j).length : Int) = j - i := by
 unfold zb4; rw [List.length_drop, List.length_take]; omega
theorem zlo {xs : List zaa} {ls : List Int} (h : zaW xs = some ls) {i j : Int} : ∀ (f r : Nat) (p : Int), r < f -> r < xs.length ->
  (zbr xs ls i j f r p).flatMap (W1 xs) = zb4 (W1 xs r) (i - p) (j - p) := by
 intro f
 induction f with
 | zero => intro r p hr; omega
 | succ f ih =>
   intro r p hr hx; have hw := zeb h r hx; have h1 := zaO h hx; rw [zbr]; split
   · rename_i c; rw [zig yO]; rfl
   split
   · rename_i c; rw [zih yO yO]; simp
   rename_i c1 c2
   cases hp : (zaA xs r).pair with
   | false => have := zbL h hx hp; omega
   | true =>
     obtain ⟨q1, q2, q3, q4, q5⟩ := zbi h hx hp; rw [List.flatMap_append, ih _ _ yO yO, ih _ _ yO yO, zes h hx hp, zj6, zeb h _ yO]; congr 2 <;> omega
theorem za6 {xs : List zaa} (h : 0 < xs.length) : zau xs = W1 xs (xs.length - 1) := by
 rw [zau, if_neg (by intro e; subst e; simp at h)]
theorem zkO {xs : List zaa} {ls : List Int} (h : zaW xs = some ls) (_h0 : 0 < xs.length) : zao ls = ls.getD (xs.length - 1) 0 := by
 rw [zao, zaG h]
theorem zbf {xs : List zaa} {ls : List Int} (h : zaW xs = some ls) : ((zau xs).length : Int) = zao ls := by
 by_cases h0 : 0 < xs.length
 · rw [za6 h0, zeb h _ yO, zkO h h0]
 · have hx : xs = [] := yn yO
   subst hx; have : ls = [] := yn (by rw [zaG h]; rfl); subst this; rfl
theorem zgR {xs : List zaa} {ls : List Int} (h : zaW xs = some ls) {i j : Int} : (za3 xs ls i j).flatMap (W1 xs) = zb4 (zau xs) i j := by
 unfold za3; split
 · rename_i c
   rw [zlo h _ _ _ yO yO, za6 c.1, Int.sub_zero, Int.sub_zero]
 · rename_i c
   by_cases h0 : 0 < xs.length
   · rw [zig yO]; rfl
   · have hx : xs = [] := yn yO
     subst hx; simp [zau, zb4]
theorem zpx {xs : List zaa} {ls : List Int} (h : zaW xs = some ls) : ∀ (r : Nat), r < xs.length -> (W1 xs r).all zci = true := by
 intro r
 induction r using Nat.strongRecOn with
 | _ r ih =>
   intro hx; cases hp : (zaA xs r).pair with
   | false =>
     have hl := zc6 h hx hp; rw [zda hp]; have := zfQ (zc7 hl); rw [hl] at this; unfold zaB at this; simp only [Bool.and_eq_true] at this
     exact this.2
   | true =>
     obtain ⟨q1, q2, q3, q4, q5⟩ := zbi h hx hp; rw [zes h hx hp, List.all_append, ih _ q2 yO, ih _ q4 yO]; rfl
end Go.Proofs.YtejgbfgocaggfaaGreatDoor
