import Derived.Test.YtejgbfgocaggfaaGreatDoorM4
set_option maxRecDepth 100000
set_option maxHeartbeats 8000000
namespace Go.Proofs.YtejgbfgocaggfaaGreatDoor
open Go.RowKit
def CJ (bc base : Nat) (C : Nat -> Prop) (s : List Nat) (w : World) : Prop :=
 ∃ v, Boxed w bc 94 v /\ zan w base v (nI s) /\ base <= w.heap.size /\ ¬ C bc /\ ∀ g, v.ownBlock = some g -> ¬ C g
theorem CJ.ext {bc base : Nat} : ∀ (C : Nat -> Prop) (s : List Nat) (w w' : World), CJ bc base C s w -> Below w.heap.size w w' -> (∀ b, C b -> b < w.heap.size) -> CJ bc base (ext C w.heap.size w'.heap.size) s w' := by
 rintro C s w w' ⟨v, hb, ho, hn, h1, h2⟩ hbl hC; refine ⟨v, Boxed.up hb hbl hb.lt, zaI ho hbl, Nat.le_trans hn hbl.size, ?_, fun g hg => ?_⟩
 · rintro (h | h)
   · exact h1 h
   · have := hb.lt; omega
 · have := (World.ownsRow.lt ho g hg).2
   rintro (h | h)
   · exact h2 g hg h
   · omega
theorem zbn {W : World} {ops : Array Oper} {rest : List Oper} {o : Oper} {a : Act} {Q : Exit -> Act -> World -> Prop} (hgd : o.guard = none) (s x : Operand)
  (ho : o.op = .call { callee := .builtin .append, args := #[s, x], argTypes := #[94, 94] }) {y : Int} {base : Nat} {v : Value} {l : List Int}
  (hs : a.eval s = v) {N : Nat} (hx : a.eval x = .slice (some ⟨N, 0, none⟩) 1 1) (hN : N = W.heap.size) (hown : zan W base v l) (hlen : l.length <= 1099511627775) (hbase : base <= W.heap.size)
  (h : ∀ v' w', zan w' base v' (l ++ [y]) -> (W.alloc (.cells #[.int .i64 y] 2)).grownBy w' v.ownBlock -> (v'.ownBlock = v.ownBlock \/ v'.ownBlock = some (W.heap.size + 1)) -> wpList Tryz.prog ops Q rest (a.put o.dst v') w') :
  wpList Tryz.prog ops Q (o :: rest) a (W.alloc (.cells #[.int .i64 y] 2)) :=
 wpList_plain hgd fun K hK => by
  subst hN; have := zfu (E := True) (K := K) (ops := ops) (Q := Q) hgd s x ho hs hx (zep.new rfl).1 (hown.alloc _) yO (by simp; omega) (fun v' w' h1 h2 h3 => hK _ _ (h v' w' h1 h2 (by simpa using h3))); rwa [if_pos (by simp [Region.wanted, hgd])] at this
theorem zj2 (bc base : Nat) (C : Nat -> Prop) (s : List Nat) (r : Nat) (w : World) (hJ : CJ bc base C s w) (hs : s.length <= 1099511627775) (hC : ∀ b, C b -> b < w.heap.size) :
  Calls Tryz.prog 140 #[.int .i64 r, .pointer (some ⟨bc, 0, none⟩)] w (zdV (CJ bc base) C (s ++ [r]) w) := by
 obtain ⟨v, hb, ho, hn, h1, h2⟩ := hJ; obtain ⟨A, c, rfl, _⟩ := zae ho; have hcb := hb.cell; have hlb := hb.lt; have Hb := yq hb; have Ho := yq ho; have HL : yh ((nI s).length <= 1099511627775) := by rw [yh, zoB]; exact hs
 have H1 := yq h1; have H2 := yq h2; have HC := yq hC; clear hb ho h1 h2 hC hs; go_enter Tryz.func140, Tryz.ntmps140
 go_wp2_with (first
  | (at_builtin; go_must (refine zbn (base := base) (v := .slice A (nI s).length c) (l := nI s) rfl _ _ rfl rfl rfl rfl Ho.o HL.o hn ?_); intro v2 w2 own2 hg2 hv2; obtain ⟨A2, c2, rfl, _⟩ := zae own2; have bx2 : Boxed w2 bc 94 _ := Boxed.grown Hb.o (by decide) Ho.o hg2; have hcb2 := bx2.cell; have hfb2 := bx2.frozen))
 go_end0
 have hsz : w.heap.size + 1 <= w2.heap.size := by have := hg2.size; simpa using this
 have hne : ∀ b, C b -> some b ≠ (Value.slice A (nI s).length c).ownBlock := fun b hb e => H2.o b e.symm hb; have el : (nI s).length + 1 = (nI s ++ [(r : Int)]).length := by simp
 rw [el]; refine ⟨rfl, C, fun _ h => h, fun b hb => ?_, ⟨_, Boxed.set _ bx2, ?_, ?_, H1.o, fun g hg hCg => ?_⟩, ?_⟩
 · have := HC.o b hb; simp; omega
 · rw [zgO]
   exact ownsRow_setCell_other (a := ⟨bc, 0, none⟩) own2 (bx2.not_row (by decide) own2).symm _
 · simp; omega
 · rcases hv2 with e | e
   · rw [e] at hg; exact H2.o g hg hCg
   · rw [e] at hg
     have := Option.some.inj hg; have := HC.o g hCg; omega
 · refine ⟨hg2.os, hg2.tape, hg2.output, by simp; omega, fun b hb => ?_⟩
   have hbl := HC.o b hb; have hbc : b ≠ bc := fun e => H1.o (e ▸ hb); rw [Below.heap_setCell _ _ _ _ hbc]; have := hg2.block b (by simp; omega) (hne b hb); rw [this]; exact Below.heap_alloc _ _ _ hbl
theorem zbz (v : Value) (xs : List zaa) (w : World) (h : Sl zar w w.heap.size v xs) (hn : xs.length <= 4194304) (hok : za2 xs) :
  Calls Tryz.prog 106 #[.agg #[v]] w (znO (zaQ xs) w) := by
 obtain ⟨A, c, rfl, hc, hm, hrow⟩ := h; have Hok := yq hok; clear hm hok; have hmm := @run_makeMap Tryz.prog; by_cases h0 : xs.length = 0
 · have hx : xs = [] := yn h0
   subst hx; clear h0; go_enter Tryz.func106, Tryz.ntmps106
   go_wp2_with fail
   refine bodyPost_ret (v := .agg #[.slice none 0 0]) (by simp [results, Tryz.results106, go_sem]) rfl ⟨yb, _, by exact World.ownsRow_nil _ _ _ _, rfl⟩
 · have g1 : ((xs.length : Int) == 0) = false := by rw [beq_eq_false_iff_ne]; omega
   have hn1 : 1 <= xs.length := by omega
   clear h0; go_enter Tryz.func106, Tryz.ntmps106
   go_wp2_with fail
   have hs0 : ((((((w.alloc (Obj.cells #[Value.slice A xs.length c] 26)).alloc (Obj.cells #[Value.slice none 0 0] 26)).alloc (Obj.cells #[] 88)).alloc (.map #[] 0)).alloc (Obj.cells #[] 2))).heap.size = w.heap.size + 5 := by simp
   go_loopw [4, 6, 30] (fun a s i wr => ∃ k : Nat, k <= xs.length /\ i = .int .i64 k /\ Below (w.heap.size + 2) ((w.alloc (Obj.cells #[Value.slice A xs.length c] 26)).alloc (Obj.cells #[Value.slice none 0 0] 26)) wr /\
    zac wr (w.heap.size + 2) a (zbP (xs.take k)).1 /\ zan wr (w.heap.size + 2) s (zbP (xs.take k)).2 /\ zeO wr (w.heap.size + 3) (zbP (xs.take k)).1) (fun _ _ i _ => xs.length - (intOf i).toNat)
   case atStart =>
    refine ⟨0, Nat.zero_le _, rfl, yb, ?_, ?_, ?_⟩
    · exact ((zac.empty (N := w.heap.size + 2) yS yS).alloc _).alloc _
    · exact zan.empty yS yS
    · have := zeO.made (((w.alloc (Obj.cells #[Value.slice A xs.length c] 26)).alloc (Obj.cells #[Value.slice none 0 0] 26)).alloc (Obj.cells #[] 88))
      have h2 := this.alloc (Obj.cells #[] 2); have e : (((w.alloc (Obj.cells #[Value.slice A xs.length c] 26)).alloc (Obj.cells #[Value.slice none 0 0] 26)).alloc (Obj.cells #[] 88)).heap.size = w.heap.size + 3 := by simp
      rw [e] at h2; exact h2
   case round =>
    obtain ⟨k, hk, rfl, hb, hown, hint, hmap⟩ := hrel; have hwz : w.heap.size + 2 <= wr.heap.size := by have := hb.size; simpa using this
    have hco := zfr Hok.o k hk; have HB := yq hb; have HO := yq hown; have HI := yq hint; have HMp := yq hmap; have HCo := yq hco; by_cases hlt : k < xs.length
    · obtain ⟨b, o, rfl, hbl, hcell⟩ := hrow.rule hlt
      obtain ⟨r, hr⟩ : ∃ r, xs[k]? = some r := ⟨_, ye hlt⟩
      obtain ⟨q0, q1, q2⟩ := hcell k r hr; have p0 : wr.cell? ⟨b, o + k * 3, none⟩ = some (.string r.letter) := (hb.cell (p := ⟨b, o + k * 3, none⟩) (by show b < _; omega)).trans (by simp [go_sem, hbl, Nat.lt_succ_of_lt hbl, q0]); have p1 : wr.cell? ⟨b, o + k * 3 + 1, none⟩ = some (.int .i64 r.left) := (hb.cell (p := ⟨b, o + k * 3 + 1, none⟩) (by show b < _; omega)).trans (by simp [go_sem, hbl, Nat.lt_succ_of_lt hbl, q1]); have p2 : wr.cell? ⟨b, o + k * 3 + 2, none⟩ = some (.int .i64 r.right) := (hb.cell (p := ⟨b, o + k * 3 + 2, none⟩) (by show b < _; omega)).trans (by simp [go_sem, hbl, Nat.lt_succ_of_lt hbl, q2]); have hi : (k : Int) < (xs.length : Int) := by omega
      have hbz : b < wr.heap.size := by omega
      have hor := Hok.o k r hr; have Hr := yq hr; have Hor := yq hor; clear hcell hr q0 q1 q2 hb hown hint hmap hor hco hrow; go_wp2_with fail
      refine (zbF _ _ _ _).mono ?_
      rintro e w1 ⟨rfl, rfl⟩; go_upto_if 36 with fail
      obtain ⟨K, hK⟩ : ∃ K, (zbP (xs.take k)).1 = K := ⟨_, rfl⟩
      obtain ⟨S, hS⟩ : ∃ S, (zbP (xs.take k)).2 = S := ⟨_, rfl⟩
      have hKl : K.length = k := by rw [<- hK]; exact HCo.o.l1
      have hSl : S.length = k := by rw [<- hS]; exact HCo.o.l2
      have hlow : ∀ i, i < k -> 0 <= S.getD i 0 /\ S.getD i 0 <= i := by rw [<- hS]; exact HCo.o.low
      have hKo : za2 K := by rw [<- hK]; exact HCo.o.ok
      rw [hK] at HO HMp; rw [hS] at HI; have hnx : zbP (xs.take (k + 1)) = (K ++ [zcx S r], S ++ [((K.idxOf (zcx S r) : Nat) : Int)]) := by rw [zeM Hr.o, zeL, hK, hS]
      have Hnx := yq hnx; obtain ⟨X, hX⟩ : ∃ X, zcx S r = X := ⟨_, rfl⟩
      have hXo : zaC k X = true := by
       have := (zfr Hok.o (k + 1) yO).ok; rw [hnx] at this; have h9 := this k (zcx S r) (by simp [hKl]); rw [<- hX]; exact h9
      have HX := yq hX; have HXo := yq hXo; have HK := yq hK; have HKo := yq hKo; rw [hX] at Hnx; clear hK hS hnx hX hXo hKo HCo; have HKl := yq hKl; have HSl := yq hSl; have Hlow := yq hlow; clear hKl hSl hlow; go_cut [] from 34 to 47 (fun wx => Below wr.heap.size wr wx /\ zbB wx wr.heap.size X)
      case first =>
       by_cases hp : r.letter.toList.isEmpty = true
       · rw [hp]
         have hpr : r.pair = true := by rw [zaq] at hp; exact hp
         obtain ⟨e1, e2, e3, e4⟩ := zbs Hor.o hpr; obtain ⟨la, hla⟩ := Int.eq_ofNat_of_zero_le e1; obtain ⟨ra, hra⟩ := Int.eq_ofNat_of_zero_le e3; rw [hla] at e2; rw [hra] at e4; simp only [Int.toNat_natCast] at e2 e4
         have i1 : (la : Int) < (S.length : Int) := by have := HSl.o; omega
         have i2 : (ra : Int) < (S.length : Int) := by have := HSl.o; omega
         obtain ⟨g, cap, rfl, hg1, hg2, hg3, hgc⟩ := zan.at_ HI.o (j := 0) yO; have w1 := hgc la yO; have w2 := hgc ra yO; obtain ⟨va, hva⟩ : ∃ x, S.getD la 0 = x := ⟨_, rfl⟩
         obtain ⟨vb, hvb⟩ : ∃ x, S.getD ra 0 = x := ⟨_, rfl⟩
         rw [hva] at w1; rw [hvb] at w2; have hX2 : X = zaP va vb := by rw [<- HX.o, zbY hpr, hla, hra, <- hva, <- hvb]; rfl
         have HX2 := yq hX2; rw [hla, hra]; have hcap : S.length <= cap := hg3; clear hX2 hgc hpr e1 e3 hg3 hva hvb; have y1 : g < wr.heap.size := hg2; have B3 : Below wr.heap.size wr ((wr.alloc (Obj.cells #[Value.string r.letter, Value.int IntKind.i64 la, Value.int IntKind.i64 ra] 88)).alloc (Obj.cells #[Value.string r.letter, Value.int IntKind.i64 la, Value.int IntKind.i64 ra] 88)) := yb; have e0 : ((wr.alloc (Obj.cells #[Value.string r.letter, Value.int IntKind.i64 la, Value.int IntKind.i64 ra] 88)).alloc (Obj.cells #[Value.string r.letter, Value.int IntKind.i64 la, Value.int IntKind.i64 ra] 88)).heap[wr.heap.size]? = some (Obj.cells #[Value.string r.letter, Value.int IntKind.i64 la, Value.int IntKind.i64 ra] 88 (0, 0)) := ((Below.refl _ _).alloc yL _).block wr.heap.size yS |>.trans (zbe _ _)
         generalize (wr.alloc (Obj.cells #[Value.string r.letter, Value.int IntKind.i64 la, Value.int IntKind.i64 ra] 88)).alloc (Obj.cells #[Value.string r.letter, Value.int IntKind.i64 la, Value.int IntKind.i64 ra] 88) = W3 at *; have l0 : wr.heap.size < W3.heap.size := (Array.getElem?_eq_some_iff.1 e0).1
         have c0 : W3.cell? ⟨wr.heap.size, 0, none⟩ = some (.string r.letter) := by simp [World.cell?, e0]
         have c1 : W3.cell? ⟨wr.heap.size, 1, none⟩ = some (.int .i64 la) := by simp [World.cell?, e0]
         have c2 : W3.cell? ⟨wr.heap.size, 2, none⟩ = some (.int .i64 ra) := by simp [World.cell?, e0]
         have f0 : ∀ o, W3.frozen? ⟨wr.heap.size, o, none⟩ = false := fun o => by simp [World.frozen?, e0]
         have w3 := (B3.cell (p := ⟨g, la, none⟩) y1).trans w1; have w4 := (B3.cell (p := ⟨g, ra, none⟩) y1).trans w2; have BB3 := yq B3; clear B3 e0 w1 w2; go_wp2_with fail
         go_still_tail 10, yk
         change wpList _ _ _ _ _ W3.drew
         go_wp2_with fail
         refine (zdZ _ _ _).mono ?_
         rintro e w5 ⟨rfl, hb5⟩; have z5 : W3.heap.size <= w5.heap.size := hb5.size; have l5 : wr.heap.size < w5.heap.size := by omega
         have d0 : w5.cell? ⟨wr.heap.size, 0, none⟩ = some (.string r.letter) := (hb5.cell (p := ⟨wr.heap.size, 0, none⟩) l0).trans c0; have d1 : w5.cell? ⟨wr.heap.size, 1, none⟩ = some (.int .i64 la) := (hb5.cell (p := ⟨wr.heap.size, 1, none⟩) l0).trans c1; have d2 : w5.cell? ⟨wr.heap.size, 2, none⟩ = some (.int .i64 ra) := (hb5.cell (p := ⟨wr.heap.size, 2, none⟩) l0).trans c2; have g5 : ∀ o, w5.frozen? ⟨wr.heap.size, o, none⟩ = false := fun o => (hb5.frozen (p := ⟨wr.heap.size, o, none⟩) l0).trans (f0 o); have B5 := yq ((Below.drew BB3.o).trans (hb5.mono (Nat.le_of_lt l0))); clear c0 c1 c2 f0 w3 w4 hb5; go_wp2_with fail
         go_meet
         rw [HX2.o]; exact ⟨((B5.o.setCell yL _).setCell yL _).setCell yL _, by simp [go_sem, zaP, d0], by simp [go_sem, zaP, d1], by simp [go_sem, zaP, d2], by simp; omega⟩
       · have hpr : r.pair = false := by rw [zaq] at hp; simpa [zaa.pair] using hp
         have hX2 : X = r := by rw [<- HX.o, zcj hpr]
         have HX2 := yq hX2; have hp2 : r.letter.toList.isEmpty = false := by simpa using hp
         rw [hp2]; clear hX2 hpr hp; go_wp2_with fail
         go_meet
         rw [HX2.o]; exact ⟨yb, by simp [go_sem], by simp [go_sem], by simp [go_sem], by simp; omega⟩
      case rest =>
       revert hcut; generalize wc = w1; intro hcut; obtain ⟨hb1, hx1⟩ := hcut; have z1 : wr.heap.size <= w1.heap.size := hb1.size; have HO1 := yq (zac.below HO.o hb1); have HI1 : yh (zan w1 (w.heap.size + 2) u6 S) := zaI HI.o hb1; have HM1 := yq (HMp.o.below hb1 HMp.o.lt); have B1 := yq (HB.o.trans (hb1.mono hwz)); have HX1 := yq hx1; obtain ⟨c0, c1, c2, lx⟩ := hx1; have hkx := yq (zlj HXo.o yO); obtain ⟨d, hd⟩ : ∃ d, decide (X ∈ K) = d := ⟨_, rfl⟩
       obtain ⟨q, hq⟩ : ∃ q : Int, (if X ∈ K then ((K.idxOf X : Nat) : Int) else 0) = q := ⟨_, rfl⟩
       have hlk : (Instr.lookup 176 (.map (some (w.heap.size + 1 + 1 + 1))) (.agg #[.string X.letter, .int .i64 X.left, .int .i64 X.right]) true).run Tryz.prog w1 = .ok (.tuple #[.int .i64 q, .bool d]) w1 := by
        rw [<- hd, <- hq]; by_cases h : X ∈ K
        · rw [if_pos h, decide_eq_true h]; exact HM1.o.yes hkx.o h true
        · rw [if_neg h, decide_eq_false h]; exact HM1.o.no hkx.o h true
       have Hd := yq hd; clear hb1 hd hq p0 p1 p2; go_upto_if 55 with fail
       go_cut [] from 48 to 58 (fun wx => zeO wx (w.heap.size + 3) (K ++ [X]) /\ w1.grownBy wx (some (w.heap.size + 3)))
       case first =>
        cases d
        · have hmem : ¬ X ∈ K := by have := Hd.o; simpa using this
          obtain ⟨w2, hrun, hm2, hg2⟩ := HM1.o.put hkx.o hmem; rw [HKl.o] at hrun; have hrun2 : (Instr.mapUpdate 176 (.map (some (w.heap.size + 1 + 1 + 1))) (.agg #[.string X.letter, .int .i64 X.left, .int .i64 X.right]) (.int .i64 (k : Nat))).run Tryz.prog w1 = .ok () w2 := hrun; have HM2 := yq hm2; have HG2 := yq hg2; clear hrun hm2 hg2; go_wp2_with fail
          go_meet
          exact ⟨HM2.o, HG2.o⟩
        · have hmem : X ∈ K := by have := Hd.o; simpa using this
          have HMm := yq hmem; clear hmem; go_wp2_with fail
          go_meet
          exact ⟨HM1.o.same HMm.o, World.grownBy.refl _ _⟩
       case rest =>
        revert hcut; generalize wc = w2; intro hcut; obtain ⟨hm2, hg2⟩ := hcut; have B2 : Below (w.heap.size + 2) ((w.alloc (Obj.cells #[Value.slice (some ⟨b, o, none⟩) xs.length c] 26)).alloc (Obj.cells #[Value.slice none 0 0] 26)) w2 := B1.o.grown hg2 yO (fun g hg => by have : w.heap.size + 3 = g := Option.some.inj hg; omega); have hxm : X ∈ K ++ [X] := by simp
        have T0 : yh (T3 ((w.alloc (Obj.cells #[Value.slice (some ⟨b, o, none⟩) xs.length c] 26)).alloc (Obj.cells #[Value.slice none 0 0] 26)) (w.heap.size + 2) (w.heap.size + 3) wr.heap.size X (K ++ [X]) w2 u4 K u6 S) :=
         ⟨B2, za7 HO1.o fun g hg => hg2.block g (World.ownsRow.lt HO1.o g hg).2 (fun e => zeP HM1.o HO1.o (e ▸ hg).symm), za7 HI1.o fun g hg => hg2.block g (World.ownsRow.lt HI1.o g hg).2 (fun e => zeP HM1.o HI1.o (e ▸ hg).symm),
          hm2, HX1.o.kept hg2 (fun e => by have h1 := HMp.o.lt; have h2 : wr.heap.size = w.heap.size + 3 := Option.some.inj e; omega), zgM HO.o yL, zgM HI.o yL, Nat.le_trans yO hg2.size⟩
        obtain ⟨A4, c4, rfl, _⟩ := zae T0.o.rows; obtain ⟨A6, c6, rfl, _⟩ := zae T0.o.ints
        have hq : ((K ++ [X]).idxOf X : Nat) = K.idxOf X := by
         rw [List.idxOf_append]; split
         · rfl
         · rename_i h; rw [List.idxOf_eq_length h]; simp
        obtain ⟨z, hz⟩ : ∃ z : Nat, (K ++ [X]).idxOf X = z := ⟨_, rfl⟩
        have Hz := yq (hq.symm.trans hz); have hl0 : (Instr.lookup 176 (.map (some (w.heap.size + 1 + 1 + 1))) (.agg #[.string X.letter, .int .i64 X.left, .int .i64 X.right]) false).run Tryz.prog w2.drew = .ok (.int .i64 (z : Nat)) w2.drew := by rw [<- hz]; exact T0.o.drew.look hkx.o hxm
        have hl1 : ∀ o, (Instr.lookup 176 (.map (some (w.heap.size + 1 + 1 + 1))) (.agg #[.string X.letter, .int .i64 X.left, .int .i64 X.right]) false).run Tryz.prog (w2.alloc o).drew = .ok (.int .i64 (z : Nat)) (w2.alloc o).drew := fun o => by rw [<- hz]; exact (T0.o.alloc o).drew.look hkx.o hxm
        have hl2 : ∀ W v L, T3 ((w.alloc (Obj.cells #[Value.slice (some ⟨b, o, none⟩) xs.length c] 26)).alloc (Obj.cells #[Value.slice none 0 0] 26)) (w.heap.size + 2) (w.heap.size + 3) wr.heap.size X (K ++ [X]) W v L (.slice A6 S.length c6) S -> (Instr.lookup 176 (.map (some (w.heap.size + 1 + 1 + 1))) (.agg #[.string X.letter, .int .i64 X.left, .int .i64 X.right]) false).run Tryz.prog W = .ok (.int .i64 (z : Nat)) W := fun W v L T => by rw [<- hz]; exact T.look hkx.o hxm
        have HL2 := yq hl2; obtain ⟨c0, c1, c2, lx⟩ := T0.o.box; have T1 := yq T0.o.drew; have nR := yq (fun N (h : w2.heap.size <= N) => zgM (N := N) T0.o.rows h); have nI := yq (fun N (h : w2.heap.size <= N) => zgM (N := N) T0.o.ints h); have KL : yh (K.length <= 1099511627775) := by rw [yh, HKl.o]; omega
        have SL : yh (S.length <= 1099511627775) := by rw [yh, HSl.o]; omega
        clear hl2 hz hq B2 hm2 hg2 hxm hlk
        have FIN : ∀ W p q, T3 ((w.alloc (Obj.cells #[Value.slice (some ⟨b, o, none⟩) xs.length c] 26)).alloc (Obj.cells #[Value.slice none 0 0] 26)) (w.heap.size + 2) (w.heap.size + 3) wr.heap.size X (K ++ [X]) W p (K ++ [X]) q (S ++ [(z : Int)]) -> ∃ k', k' <= xs.length /\ (Value.int .i64 ((k : Int) + 1)) = .int .i64 (k' : Nat) /\ Below (w.heap.size + 2) ((w.alloc (Obj.cells #[Value.slice (some ⟨b, o, none⟩) xs.length c] 26)).alloc (Obj.cells #[Value.slice none 0 0] 26)) W /\ zac W (w.heap.size + 2) p (zbP (xs.take k')).1 /\ zan W (w.heap.size + 2) q (zbP (xs.take k')).2 /\ zeO W (w.heap.size + 3) (zbP (xs.take k')).1 := fun W p q T =>
         ⟨k + 1, by omega, rfl, T.below, by rw [Hnx.o]; exact T.rows, by rw [Hnx.o, Hz.o]; exact T.ints, by rw [Hnx.o]; exact T.mp⟩
        have FINh := yq FIN; clear FIN; go_wp2_with fail
        go_region_law (first
         | ((refine znU (r := X) (v4 := .slice A4 K.length c4) yR _ _ yR yR (by first | rfl | simp) (by first | exact (T0.o.alloc _).drew | exact ((T0.o.alloc _).alloc _).drew | exact T2 | exact T2.alloc _) (by first | exact (zbB.new yS).drew | exact ((zbB.new yS).alloc _).drew | exact zbB.new rfl | exact (zbB.new yS).drew.kept hg7 (nI.o _ yS) | exact ((zbB.new yS).alloc _).drew.kept hg7 (nI.o _ yS)) KL.o ?_); intro v8 w8 T3 hg8; have hl3 := HL2.o _ _ _ T3; obtain ⟨c80, c81, c82, l8⟩ := T3.box)
         | ((refine znV (y := (z : Nat)) (v6 := .slice A6 S.length c6) yR _ _ yR yR (by first | rfl | simp) (by first | exact (T0.o.alloc _).drew | exact ((T0.o.alloc _).alloc _).drew | exact T3 | exact T3.alloc _) (by first | exact (zep.new yS).drew.1 | exact ((zep.new yS).alloc _).drew.1 | exact (zep.new rfl).1 | exact ((zep.new yS).drew.kept hg8 (nR.o _ yS)).1 | exact (((zep.new yS).alloc _).drew.kept hg8 (nR.o _ yS)).1) SL.o ?_); intro v7 w7 T2 hg7; obtain ⟨c70, c71, c72, l7⟩ := T2.box))
        all_goals
         go_wp2_with fail
         refine ⟨?_, by simp only [intOf]; omega⟩
         first | exact FINh.o _ _ _ T2 | exact FINh.o _ _ _ T3
    · have hkn : k = xs.length := by omega
      subst hkn; have hcz := zdI Hok.o; obtain ⟨K, S, hKS⟩ : ∃ K S, zbP xs = (K, S) := ⟨_, _, rfl⟩
      have hown := HO.o; have hint := HI.o; rw [List.take_length, hKS] at hown hint; rw [hKS] at hcz; dsimp only at hown hint
      have hKl : K.length = xs.length := hcz.l1; have hSl : S.length = xs.length := hcz.l2; have hlow : 0 <= S.getD (xs.length - 1) 0 /\ S.getD (xs.length - 1) 0 <= ((xs.length - 1 : Nat) : Int) := hcz.low (xs.length - 1) yO; have HKo : yh (za2 K) := hcz.ok; have Hnd : yh (zaV K xs.length (zfq xs) = zcn xs) := by rw [yh, zcn, hKS]
      have Hrb : yh (zfq xs = (List.replicate xs.length false).set (S.getD (xs.length - 1) 0).toNat true) := by rw [yh, zfq, hKS]
      have Hto : yh (∀ k, zby xs (k + 1) = zcG K (zcn xs) (zby xs k) k) := fun k => by rw [zcH, hKS]
      have HNl := yq (zi7 xs); obtain ⟨AK, cK, rfl, _, hmK, hrowK⟩ := zac.sl hown; obtain ⟨AS, cS, rfl, _, hmS, hrowS⟩ := zan.sl hint; obtain ⟨bS, oS, rfl, hbS, hcS⟩ := hrowS.int (k := xs.length - 1) yO; have c0 := hcS (xs.length - 1) yO; obtain ⟨t, ht⟩ := Int.eq_ofNat_of_zero_le hlow.1; have hm1 : (xs.length : Int) - 1 = ((xs.length - 1 : Nat) : Int) := by omega
      have hm2 : xs.length - 1 < S.length := by omega
      have htl : t < xs.length := by omega
      rw [ht, Int.toNat_natCast] at Hrb; rw [ht] at c0; obtain ⟨m, hm⟩ : ∃ m, xs.length - 1 = m := ⟨_, rfl⟩
      rw [hm] at hm1 hm2 c0; have HB2 := yq (show Below (w.heap.size + 2) _ wr from HB.o); have HrowK := yq hrowK
      have hmkB : ∀ W : World, (Instr.makeSlice 129 (.int .i64 (xs.length : Int)) (.int .i64 (xs.length : Int))).run Tryz.prog W = .ok (.slice (some ⟨W.heap.size, 0, none⟩) xs.length xs.length) (W.alloc (.cells (madeCells #[.bool false] xs.length) 4)) :=
       fun W => run_make_row' _ _ _ 1 Tryz.underlying129 yk rfl .i64 .i64 xs.length yO yO W
      have HKl := yq hKl; have HSl := yq hSl; clear hown hint hcz hKl hlow hSl hKS HO HI HMp hrowK hrowS hcS ht hm hmm hrow HCo hmK hmS; clear hown hint hb hmap hco hlt hk; generalize wr = w1 at *; go_upto_region 16 with fail
      have hR0 := zfV.made w1 xs.length; have hb0 : Below w1.heap.size w1 (w1.alloc (.cells (madeCells #[.bool false] xs.length) 4)) := (Below.refl _ _).alloc yL _; generalize w1.alloc (.cells (madeCells #[.bool false] xs.length) 4) = w2 at *; have c1 := (hb0.cell (p := ⟨bS, oS + m, none⟩) hbS).trans c0; have c2 := hR0.cell (i := t) (by simpa using htl); have f2 := hR0.frozen; have hti : (t : Int) < (xs.length : Int) := by omega
      have HR0 := yq (hR0.set t true); rw [<- Hrb.o] at HR0; have HB0 := yq hb0; clear hR0 hb0 c0; go_wp2_with fail
      go_loopw [12] (fun i wx => ∃ (k : Nat) (z : Int) (N : List Bool), k <= xs.length /\ z = (k : Int) - 1 /\ i = .int .i64 z /\ Below w1.heap.size w1 wx /\ zfV wx w1.heap.size N /\ N.length = xs.length /\ zaV K k N = zcn xs) (fun i _ => (intOf i + 1).toNat)
      case atStart =>
       exact ⟨xs.length, _, zfq xs, Nat.le_refl _, hm1.symm, rfl, HB0.o.setCell yL _, HR0.o, by simp [zfq], Hnd.o⟩
      case round =>
       obtain ⟨k, z, N, hk2, rfl, rfl, hb2, hrN, hNl, hnN⟩ := hrel; have HB3 := yq hb2; have HRN := yq hrN; have HNN := yq hnN; have HNlen := yq hNl; clear hb2 hrN hnN; cases k with
       | zero =>
         have hz : ((0 : Nat) : Int) - 1 = -1 := by omega
         rw [hz]; have hNN : N = zcn xs := by have := HNN.o; rwa [zaV] at this
         subst hNN
         have HmkI : ∀ W : World, (Instr.makeSlice 94 (.int .i64 (xs.length : Int)) (.int .i64 (xs.length : Int))).run Tryz.prog W = .ok (.slice (some ⟨W.heap.size, 0, none⟩) xs.length xs.length) (W.alloc (.cells (madeCells #[.int .i64 0] xs.length) 2)) :=
          fun W => run_make_row' _ _ _ 8 Tryz.underlying94 Tryz.infoI rfl .i64 .i64 xs.length yO yO W
         obtain ⟨w3, rfl⟩ : ∃ w3 : World, w3 = wr := ⟨_, rfl⟩
         clear hz c1 c2 f2 hmkB hti HR0 HB0 Hrb Hnd HNN; go_upto_region 23 with fail
         go_cut [14, 15] (fun p q wx => ∃ bo ba : Nat, p = .pointer (some ⟨bo, 0, none⟩) /\ q = .slice (some ⟨ba, 0, none⟩) xs.length xs.length /\ w3.heap.size <= bo /\ w3.heap.size <= ba /\ bo ≠ ba /\ Boxed wx bo 26 (.slice none 0 0) /\ zea wx ba (List.replicate xs.length 0) /\ Below w3.heap.size w3 wx)
         case first =>
          go_region
          all_goals
           go_wp2_with fail
           go_meet
           first
            | exact ⟨w3.heap.size + 1, w3.heap.size, rfl, rfl, by omega, Nat.le_refl _, by omega, Boxed.of1 w3 _ _ _, (zea.made w3 xs.length).alloc _, Below.drew (((Below.refl _ _).alloc yL _).alloc yS _)⟩
            | exact ⟨w3.heap.size, w3.heap.size + 1, rfl, rfl, Nat.le_refl _, by omega, by omega, (Boxed.new w3 _ _).alloc _, zea.of1 w3 _ _, Below.drew (((Below.refl _ _).alloc yL _).alloc yS _)⟩
         case rest =>
          revert hcut; generalize wc = w4; intro hcut; obtain ⟨bo, ba, rfl, rfl, hbo, hba, hne, hbx, hri, hb4⟩ := hcut; have HRN4 := yq (HRN.o.below hb4 HRN.o.lt); have z13 := HRN.o.lt; have HB4 := yq (HB3.o.trans (hb4.mono (Nat.le_of_lt HRN.o.lt))); have HBX := yq hbx; have HRI := yq hri; have Hb4 := yq hb4; clear hbx hri hb4 HRN HB3 HNlen hNl hk2 HmkI; go_wp2_with fail
          go_loopw [110] (fun i wx => ∃ k : Nat, k <= xs.length /\ i = .int .i64 k /\ Below w3.heap.size w4 wx /\ ∃ vo : Value, Boxed wx bo 26 vo /\ zac wx w3.heap.size vo (zby xs k).1 /\ zea wx ba (zby xs k).2) (fun i _ => xs.length - (intOf i).toNat)
          case atStart => exact ⟨0, Nat.zero_le _, rfl, Below.refl _ _, _, HBX.o, World.ownsRow_nil _ _ _ _, HRI.o⟩
          case round =>
           obtain ⟨k, hk, rfl, hb5, vo, hbx, hown, hri⟩ := hrel; obtain ⟨Ao, co, rfl, _⟩ := zae hown; have HB5 := yq hb5; have HBX5 := yq hbx; have HOW := yq hown; have HRI5 := yq hri; have z34 : w3.heap.size <= w4.heap.size := Hb4.o.size; have z45 : w4.heap.size <= wr.heap.size := hb5.size; clear hb5 hown hri; by_cases hlt : k < xs.length
           · obtain ⟨bK, oK, hAK, hbK, hcK⟩ := HrowK.o.rule (k := k) (by have := HKl.o; omega)
             subst hAK; obtain ⟨r, hr⟩ : ∃ r, K[k]? = some r := ⟨_, ye (by have := HKl.o; omega)⟩
             have Hr := yq hr; have Hor := yq (HKo.o k r hr); obtain ⟨q0, q1, q2⟩ := hcK k r hr; have B1 : Below w1.heap.size w1 wr := HB4.o.trans (HB5.o.mono (Nat.le_of_lt z13)); have p0 := (B1.cell (p := ⟨bK, oK + k * 3, none⟩) hbK).trans q0; have p1 := (B1.cell (p := ⟨bK, oK + k * 3 + 1, none⟩) hbK).trans q1; have p2 := (B1.cell (p := ⟨bK, oK + k * 3 + 2, none⟩) hbK).trans q2; have hjK : (k : Int) < (K.length : Int) := by have := HKl.o; omega
             have hjn : (k : Int) < (xs.length : Int) := by omega
             have RNr := yq (HRN4.o.below HB5.o z13); have cN := RNr.o.cell (i := k) (by have := HNl.o; omega); have hlN := RNr.o.lt; obtain ⟨L, T, hLT⟩ : ∃ L T, zby xs k = (L, T) := ⟨_, _, rfl⟩
             have hTl : T.length = xs.length := by have := (zdH xs k).1; rw [hLT] at this; exact this
             have hLl : L.length <= k := by have := (zdH xs k).2; rw [hLT] at this; exact this
             rw [hLT] at HBX5 HOW HRI5; dsimp only at HBX5 HOW HRI5
             have hst := Hto.o k; rw [hLT, zcG, zbW hr] at hst; obtain ⟨u, hu⟩ : ∃ u, (zcn xs).getD k false = u := ⟨_, rfl⟩
             rw [hu] at cN hst; dsimp only at hst
             have zbo := hbx.lt; have zba := HRI5.o.lt; clear hr hcK q0 q1 q2 B1 hLT hu hbx; cases u
             · rw [if_neg yS] at hst
               have Hst := yq hst; clear hst; go_wp2_with fail
               refine ⟨⟨k + 1, by omega, rfl, HB5.o.alloc yO _, _, by rw [Hst.o]; exact ⟨HBX5.o.alloc _, HOW.o.alloc _, HRI5.o.alloc _⟩⟩, by simp [intOf]; omega⟩
             · rw [if_pos rfl] at hst
               obtain ⟨X, hX⟩ : ∃ X, zcx T r = X := ⟨_, rfl⟩
               rw [hX] at hst; have Hst := yq hst; have HX := yq hX; have HTl := yq hTl; have HLl := yq hLl; clear hst hX hTl hLl; go_wp2_with fail
               refine (zbF _ _ _ _).mono ?_
               rintro e w5 ⟨rfl, rfl⟩; go_upto_if 121 with fail
               go_cut [] from 114 to 132 (fun wx => Below wr.heap.size wr wx /\ zbB wx wr.heap.size X)
               case first =>
                by_cases hp : r.letter.toList.isEmpty = true
                · rw [hp]
                  have hpr : r.pair = true := by rw [zaq] at hp; exact hp
                  obtain ⟨e1, e2, e3, e4⟩ := zbs Hor.o hpr; obtain ⟨la, hla⟩ := Int.eq_ofNat_of_zero_le e1; obtain ⟨ra, hra⟩ := Int.eq_ofNat_of_zero_le e3; rw [hla] at e2; rw [hra] at e4; simp only [Int.toNat_natCast] at e2 e4
                  have i1 : (la : Int) < (xs.length : Int) := by omega
                  have i2 : (ra : Int) < (xs.length : Int) := by omega
                  have w1c := HRI5.o.cell (i := la) (by have := HTl.o; omega); have w2c := HRI5.o.cell (i := ra) (by have := HTl.o; omega); obtain ⟨va, hva⟩ : ∃ x, T.getD la 0 = x := ⟨_, rfl⟩
                  obtain ⟨vb, hvb⟩ : ∃ x, T.getD ra 0 = x := ⟨_, rfl⟩
                  rw [hva] at w1c; rw [hvb] at w2c; have hX2 : X = zaP va vb := by rw [<- HX.o, zbY hpr, hla, hra, <- hva, <- hvb]; rfl
                  have HX2 := yq hX2; rw [hla, hra]; clear hX2 hpr e1 e3 hva hvb hla hra; have B3 : Below wr.heap.size wr ((wr.alloc (Obj.cells #[Value.string r.letter, Value.int IntKind.i64 la, Value.int IntKind.i64 ra] 88)).alloc (Obj.cells #[Value.string r.letter, Value.int IntKind.i64 la, Value.int IntKind.i64 ra] 88)) := yb; have e0 : ((wr.alloc (Obj.cells #[Value.string r.letter, Value.int IntKind.i64 la, Value.int IntKind.i64 ra] 88)).alloc (Obj.cells #[Value.string r.letter, Value.int IntKind.i64 la, Value.int IntKind.i64 ra] 88)).heap[wr.heap.size]? = some (Obj.cells #[Value.string r.letter, Value.int IntKind.i64 la, Value.int IntKind.i64 ra] 88 (0, 0)) := ((Below.refl _ _).alloc yL _).block wr.heap.size yS |>.trans (zbe _ _)
                  generalize (wr.alloc (Obj.cells #[Value.string r.letter, Value.int IntKind.i64 la, Value.int IntKind.i64 ra] 88)).alloc (Obj.cells #[Value.string r.letter, Value.int IntKind.i64 la, Value.int IntKind.i64 ra] 88) = W3 at *; have l0 : wr.heap.size < W3.heap.size := (Array.getElem?_eq_some_iff.1 e0).1
                  have c0 : W3.cell? ⟨wr.heap.size, 0, none⟩ = some (.string r.letter) := by simp [World.cell?, e0]
                  have c1 : W3.cell? ⟨wr.heap.size, 1, none⟩ = some (.int .i64 la) := by simp [World.cell?, e0]
                  have c2 : W3.cell? ⟨wr.heap.size, 2, none⟩ = some (.int .i64 ra) := by simp [World.cell?, e0]
                  have f0 : ∀ o, W3.frozen? ⟨wr.heap.size, o, none⟩ = false := fun o => by simp [World.frozen?, e0]
                  have w3c := (B3.cell (p := ⟨ba, la, none⟩) zba).trans w1c; have w4c := (B3.cell (p := ⟨ba, ra, none⟩) zba).trans w2c; have BB3 := yq B3; clear B3 e0 w1c w2c p0 p1 p2 cN; go_wp2_with fail
                  go_still_tail 10, yk
                  change wpList _ _ _ _ _ W3.drew
                  go_wp2_with fail
                  refine (zdZ _ _ _).mono ?_
                  rintro e w5 ⟨rfl, hb5⟩; have z5 : W3.heap.size <= w5.heap.size := hb5.size; have l5 : wr.heap.size < w5.heap.size := by omega
                  have d0 : w5.cell? ⟨wr.heap.size, 0, none⟩ = some (.string r.letter) := (hb5.cell (p := ⟨wr.heap.size, 0, none⟩) l0).trans c0; have d1 : w5.cell? ⟨wr.heap.size, 1, none⟩ = some (.int .i64 la) := (hb5.cell (p := ⟨wr.heap.size, 1, none⟩) l0).trans c1; have d2 : w5.cell? ⟨wr.heap.size, 2, none⟩ = some (.int .i64 ra) := (hb5.cell (p := ⟨wr.heap.size, 2, none⟩) l0).trans c2; have g5 : ∀ o, w5.frozen? ⟨wr.heap.size, o, none⟩ = false := fun o => (hb5.frozen (p := ⟨wr.heap.size, o, none⟩) l0).trans (f0 o); have B5 := yq ((Below.drew BB3.o).trans (hb5.mono (Nat.le_of_lt l0))); clear c0 c1 c2 f0 w3c w4c hb5; go_wp2_with fail
                  go_meet
                  rw [HX2.o]; exact ⟨((B5.o.setCell yL _).setCell yL _).setCell yL _, by simp [go_sem, zaP, d0], by simp [go_sem, zaP, d1], by simp [go_sem, zaP, d2], by simp; omega⟩
                · have hpr : r.pair = false := by rw [zaq] at hp; simpa [zaa.pair] using hp
                  have hX2 : X = r := by rw [<- HX.o, zcj hpr]
                  have HX2 := yq hX2; have hp2 : r.letter.toList.isEmpty = false := by simpa using hp
                  rw [hp2]; clear hX2 hpr hp; go_wp2_with fail
                  go_meet
                  rw [HX2.o]; exact ⟨yb, by simp [go_sem], by simp [go_sem], by simp [go_sem], by simp; omega⟩
               case rest =>
                revert hcut; generalize wc = w5; intro hcut; obtain ⟨hb6, hx6⟩ := hcut; have bx6 : Boxed w5 bo 26 (.slice Ao L.length co) := Boxed.up HBX5.o hb6 zbo; have hcb := bx6.cell; have hfb := bx6.frozen; have ri6 := HRI5.o.below hb6 zba; have HRI6 := yq (ri6.set k (L.length : Int)); have cT := ri6.cell (i := k) (by have := HTl.o; omega); have fT := ri6.frozen; have ow6 : zac w5 w3.heap.size (.slice Ao L.length co) L := zac.below HOW.o hb6; have hne2 : ba ≠ wr.heap.size := by omega
                have HOW6 : yh (zac (w5.setCell ⟨ba, k, none⟩ (.int .i64 (L.length : Int))) w3.heap.size (.slice Ao L.length co) L) := ownsRow_setCell_other (a := ⟨ba, k, none⟩) ow6 (ri6.not_row ow6 (by decide)).symm _; have HX6 := yq hx6; have HBX6 := yq (zgN (o := k) bx6 hne (.int .i64 (L.length : Int))); have BB6 := yq ((HB5.o.trans (hb6.mono yO)).setCell (p := ⟨ba, k, none⟩) hba (.int .i64 (L.length : Int))); clear hb6 hx6 bx6 ri6 ow6 p0 p1 p2 cN; go_upto_region 31 with fail
                have HX7 : yh (zbB (w5.setCell ⟨ba, k, none⟩ (.int .i64 (L.length : Int))) wr.heap.size X) := by
                 obtain ⟨a0, a1, a2, a3⟩ := HX6.o; have hb : ∀ o, (w5.setCell ⟨ba, k, none⟩ (.int .i64 (L.length : Int))).cell? ⟨wr.heap.size, o, none⟩ = w5.cell? ⟨wr.heap.size, o, none⟩ := fun o => World.cell?_of_block (a := ⟨wr.heap.size, o, none⟩) (Below.heap_setCell _ _ _ _ hne2.symm)
                 exact ⟨(hb 0).trans a0, (hb 1).trans a1, (hb 2).trans a2, by simpa [World.setCell] using a3⟩
                clear hcb hfb cT fT HX6; generalize w5.setCell ⟨ba, k, none⟩ (.int .i64 (L.length : Int)) = w6 at *; obtain ⟨x0, x1, x2, x3⟩ := HX7.o; have hcb := HBX6.o.cell; have HLL : yh (L.length <= 1099511627775) := by have := HLl.o; exact Nat.le_trans this yO
                have HW6 : yh (w3.heap.size <= w6.heap.size) := Nat.le_of_lt (Nat.lt_of_le_of_lt hbo HBX6.o.lt)
                go_wp2_with (first
                 | (at_builtin; refine za5 (base := w3.heap.size) (v := .slice Ao L.length co) rfl _ _ rfl yR yR rfl HOW6.o HLL.o HW6.o ?_; intro v7 w7 own7 hg7 hb7; (have bx7 : Boxed w7 bo 26 _ := Boxed.grown HBX6.o (by decide) HOW6.o hg7; have ri7 := yq ((HRI6.o.alloc _).kept hg7 (HRI6.o.not_row HOW6.o (by decide))); obtain ⟨A7, c7, rfl, _⟩ := zae own7; have hcb7 := bx7.cell; have hfb7 := bx7.frozen; have hl7 := bx7.lt; have own8 := yq (zcK bx7 own7 rfl List.length_append); have B8 := yq (((BB6.o.alloc HW6.o _).trans hb7).setCell (p := ⟨bo, 0, none⟩) hbo (.slice A7 (L.length + 1) c7)); have X8 : yh (Boxed (w7.setCell ⟨bo, 0, none⟩ (.slice A7 (L.length + 1) c7)) bo 26 (.slice A7 (L.length + 1) c7)) := Boxed.set _ bx7; have R8 := yq (ri7.o.other (c := bo) (o := 0) hne.symm (.slice A7 (L.length + 1) c7)); clear own7 hg7 hb7)))
                refine ⟨⟨k + 1, by omega, rfl, B8.o, _, X8.o, ?_⟩, by simp [intOf]; omega⟩
                rw [Hst.o]; exact ⟨own8.o, R8.o⟩
           · have hkn : k = xs.length := by omega
             subst hkn; have h1b : Below w1.heap.size w1 wr := HB4.o.trans (HB5.o.mono (Nat.le_of_lt z13)); have h0b : Below (w.heap.size + 2) _ wr := HB2.o.trans (h1b.mono hwz); have c9 : wr.cell? ⟨w.heap.size + 1, 0, none⟩ = some (.slice none 0 0) := (h0b.cell (p := ⟨w.heap.size + 1, 0, none⟩) (by show w.heap.size + 1 < w.heap.size + 2; omega)).trans (by simp [go_sem]); have f9 : wr.frozen? ⟨w.heap.size + 1, 0, none⟩ = false := (h0b.frozen (p := ⟨w.heap.size + 1, 0, none⟩) (by show w.heap.size + 1 < w.heap.size + 2; omega)).trans (by simp [go_sem])
             have cw : (wr.setCell ⟨w.heap.size + 1, 0, none⟩ (.slice Ao (zby xs xs.length).1.length co)).cell? ⟨w.heap.size + 1, 0, none⟩ = some (.slice Ao (zby xs xs.length).1.length co) := by
              have hn9 : Boxed ((w.alloc (Obj.cells #[Value.slice A xs.length c] 26)).alloc (Obj.cells #[Value.slice none 0 0] 26)) (w.heap.size + 1) 26 (.slice none 0 0) := by
               have := Boxed.new (w.alloc (Obj.cells #[Value.slice A xs.length c] 26)) 26 (Value.slice none 0 0); rwa [show (w.alloc (Obj.cells #[Value.slice A xs.length c] 26)).heap.size = w.heap.size + 1 by simp] at this
              have hb9 : Boxed wr (w.heap.size + 1) 26 (.slice none 0 0) := (h0b.block (w.heap.size + 1) yO).trans hn9; have := Boxed.set (.slice Ao (zby xs xs.length).1.length co) hb9; exact this.cell
             have Hcw := yq cw; clear cw; have cb := hbx.cell; have hz9 : w.heap.size + 1 < wr.heap.size := by have := h0b.size; simp at this; omega
             have H0 := yq h0b; have hkk : ¬ ((xs.length : Int) < (K.length : Int)) := by have := HKl.o; omega
             clear h1b h0b; go_wp2_with fail
             refine bodyPost_ret (v := .agg #[.slice Ao (zby xs xs.length).1.length co]) (by simp [results, Tryz.results106, go_sem, Hcw.o]) rfl ⟨?_, .slice Ao (zby xs xs.length).1.length co, ?_, rfl⟩
             · exact (((Below.refl w.heap.size w).alloc yL _).alloc yS _).trans (H0.o.mono yO) |>.setCell (by show w.heap.size <= w.heap.size + 1; omega) _
             · exact ownsRow_setCell_below (a := ⟨w.heap.size + 1, 0, none⟩) (zad HOW.o (base' := w.heap.size + 2) yO) (by show w.heap.size + 1 < w.heap.size + 2; omega) _ |> fun h => zad h yO
       | succ j =>
         have hz : ((j + 1 : Nat) : Int) - 1 = (j : Int) := by omega
         rw [hz]; clear hz; obtain ⟨bK, oK, hAK, hbK, hcK⟩ := HrowK.o.rule (k := j) (by have := HKl.o; omega); subst hAK; obtain ⟨r, hr⟩ : ∃ r, K[j]? = some r := ⟨_, ye (by have := HKl.o; omega)⟩
         have Hr := yq hr; have Hor := yq (HKo.o j r hr); obtain ⟨q0, q1, q2⟩ := hcK j r hr; have p0 := (HB3.o.cell (p := ⟨bK, oK + j * 3, none⟩) hbK).trans q0; have p1 := (HB3.o.cell (p := ⟨bK, oK + j * 3 + 1, none⟩) hbK).trans q1; have p2 := (HB3.o.cell (p := ⟨bK, oK + j * 3 + 2, none⟩) hbK).trans q2; have hjK : (j : Int) < (K.length : Int) := by have := HKl.o; omega
         have hjn : (j : Int) < (xs.length : Int) := by omega
         have cN := HRN.o.cell (i := j) (by have := HNlen.o; omega); have hlN := HRN.o.lt; obtain ⟨u, hu⟩ : ∃ u, N.getD j false = u := ⟨_, rfl⟩
         rw [hu] at cN; have Hu := yq hu; clear hr hcK q0 q1 q2 hu hNl; cases u
         · go_wp2_with fail
           go_roundw
           case rel => exact ⟨j, _, N, by omega, rfl, rfl, HB3.o.alloc (Nat.le_of_lt hlN) _, HRN.o.alloc _, HNlen.o, by rw [<- HNN.o, zaV, zbA, Hu.o]; rfl⟩
           case measure => simp [intOf]
         · go_wp2_with fail
           refine (zbF _ _ _ _).mono ?_
           rintro e w3 ⟨rfl, rfl⟩; by_cases hp : r.letter.toList.isEmpty = true
           · rw [hp]
             have hpr : r.pair = true := by rw [zaq] at hp; exact hp
             obtain ⟨e1, e2, e3, e4⟩ := zbs Hor.o hpr; obtain ⟨la, hla⟩ := Int.eq_ofNat_of_zero_le e1; obtain ⟨ra, hra⟩ := Int.eq_ofNat_of_zero_le e3; rw [hla] at e2; rw [hra] at e4; simp only [Int.toNat_natCast] at e2 e4
             have Hla := yq hla; have Hra := yq hra; have Hpr := yq hpr; clear hpr; have i1 : (la : Int) < (xs.length : Int) := by omega
             have i2 : (ra : Int) < (xs.length : Int) := by omega
             rw [hla, hra]; clear e1 e3 hla hra; have B3 : Below wr.heap.size wr ((wr.alloc (Obj.cells #[Value.string r.letter, Value.int IntKind.i64 la, Value.int IntKind.i64 ra] 88)).alloc (Obj.cells #[Value.string r.letter, Value.int IntKind.i64 la, Value.int IntKind.i64 ra] 88)) := yb; have e0 : ((wr.alloc (Obj.cells #[Value.string r.letter, Value.int IntKind.i64 la, Value.int IntKind.i64 ra] 88)).alloc (Obj.cells #[Value.string r.letter, Value.int IntKind.i64 la, Value.int IntKind.i64 ra] 88)).heap[wr.heap.size]? = some (Obj.cells #[Value.string r.letter, Value.int IntKind.i64 la, Value.int IntKind.i64 ra] 88 (0, 0)) := ((Below.refl _ _).alloc yL _).block wr.heap.size yS |>.trans (zbe _ _)
             generalize (wr.alloc (Obj.cells #[Value.string r.letter, Value.int IntKind.i64 la, Value.int IntKind.i64 ra] 88)).alloc (Obj.cells #[Value.string r.letter, Value.int IntKind.i64 la, Value.int IntKind.i64 ra] 88) = W3 at *; have l0 : wr.heap.size < W3.heap.size := (Array.getElem?_eq_some_iff.1 e0).1
             have d1 : W3.cell? ⟨wr.heap.size, 1, none⟩ = some (.int .i64 la) := by simp [World.cell?, e0]
             have d2 : W3.cell? ⟨wr.heap.size, 2, none⟩ = some (.int .i64 ra) := by simp [World.cell?, e0]
             have RN3 := yq (HRN.o.below B3 hlN); have cL := RN3.o.cell (i := la) (by have := HNlen.o; omega); have cR := RN3.o.cell (i := ra) (by have := HNlen.o; omega); have fN := RN3.o.frozen; have BB3 := yq B3; have hne : wr.heap.size ≠ w1.heap.size := by omega
             clear p0 p1 p2 cN B3 e0; go_wp2_with fail
             by_cases hlr : la = ra
             · subst hlr
               have H3 := yq ((RN3.o.set la true).set la true).drew; have B4 := yq (Below.drew (((HB3.o.trans (BB3.o.mono (Nat.le_of_lt hlN))).setCell (p := ⟨w1.heap.size, la, none⟩) yL (.bool true)).setCell (p := ⟨w1.heap.size, la, none⟩) yL (.bool true))); go_region
               go_wp2_with fail
               go_roundw
               case rel => exact ⟨j, _, _, by omega, rfl, rfl, B4.o, H3.o, by simpa using HNlen.o, by rw [<- HNN.o, zaV, zbA, zbW Hr.o, Hu.o, Hpr.o, Hla.o, Hra.o]; rfl⟩
               case measure => simp [intOf]
             · have hlr2 : ra ≠ la := fun e => hlr e.symm
               have H3 := yq ((RN3.o.set la true).set ra true).drew; have B4 := yq (Below.drew (((HB3.o.trans (BB3.o.mono (Nat.le_of_lt hlN))).setCell (p := ⟨w1.heap.size, la, none⟩) yL (.bool true)).setCell (p := ⟨w1.heap.size, ra, none⟩) yL (.bool true))); go_region
               go_wp2_with fail
               go_roundw
               case rel => exact ⟨j, _, _, by omega, rfl, rfl, B4.o, H3.o, by simpa using HNlen.o, by rw [<- HNN.o, zaV, zbA, zbW Hr.o, Hu.o, Hpr.o, Hla.o, Hra.o]; rfl⟩
               case measure => simp [intOf]
           · have hpr : r.pair = false := by rw [zaq] at hp; simpa [zaa.pair] using hp
             have hp2 : r.letter.toList.isEmpty = false := by simpa using hp
             have Hpr := yq hpr; have hgr : zaA K j = r := zbW Hr.o; have Hgr := yq hgr; rw [hp2]; clear hpr hp hgr; go_wp2_with fail
             go_roundw
             case rel => exact ⟨j, _, N, by omega, rfl, rfl, (HB3.o.alloc (Nat.le_of_lt hlN) _).alloc (by simp; omega) _, (HRN.o.alloc _).alloc _, HNlen.o, by rw [<- HNN.o, zaV, zbA, Hgr.o, Hpr.o, Bool.and_false]; rfl⟩
             case measure => simp [intOf]
end Go.Proofs.YtejgbfgocaggfaaGreatDoor
