import Derived.Test.YtejgbfgocaggfaaGreatDoorM2
import Derived.Laws.EntriesVeiled
set_option maxRecDepth 100000
set_option maxHeartbeats 8000000
namespace Go.Proofs.YtejgbfgocaggfaaGreatDoor
open Go.RowKit
theorem zgH {W : World} {ops : Array Oper} {rest : List Oper} {o : Oper} {a : Act} {Q : Exit -> Act -> World -> Prop} (hgd : o.guard = none) (s x : Operand)
  (ho : o.op = .call { callee := .builtin .append, args := #[s, x], argTypes := #[24, 24] }) {t : ByteArray} {p q : Int} {base : Nat} {v : Value} {l : List zaa}
  (hs : a.eval s = v) {N : Nat} (hx : a.eval x = .slice (some ⟨N, 0, none⟩) 1 1) (hN : N = W.heap.size) (hown : zac W base v l) (hlen : l.length <= 1099511627776) (hbase : base <= W.heap.size)
  (h : ∀ v' w', zac w' base v' (l ++ [⟨t, p, q⟩]) -> (W.alloc (.cells #[.string t, .int .i64 p, .int .i64 q] 88)).grownBy w' v.ownBlock -> Below base W w' -> wpList Tryz.prog ops Q rest (a.put o.dst v') w') :
  wpList Tryz.prog ops Q (o :: rest) a (W.alloc (.cells #[.string t, .int .i64 p, .int .i64 q] 88)) :=
 zlf (y := ⟨t, p, q⟩) hgd s x ho hs hx hN hown hlen hbase h
def zl8 (out : List zaa) (code : Int) (w : World) (e : Ending) (w' : World) : Prop :=
 Below w.heap.size w w' /\ ∃ v', zac w' w.heap.size v' out /\ e = .returned (.tuple #[.agg #[v'], .int .i64 code])
theorem SlS.dr {α : Type} {E : Enc α} {w : World} {v : Value} {xs : List α} (h : Sl E w w.heap.size v xs) : Sl E w.drew w.drew.heap.size v xs := h.keep fun _ _ => rfl
theorem zpw {wr W W2 : World} {N : Nat} {p q : Addr} {v u : Value} (h : Below N wr W /\ W.cell? p = some v /\ W.cell? q = some u) (h2 : Below W.heap.size W W2) (hN : N <= wr.heap.size) (hp : p.block < wr.heap.size) (hq : q.block < wr.heap.size) :
  Below N wr W2 /\ W2.cell? p = some v /\ W2.cell? q = some u :=
 ⟨h.1.trans (h2.mono (Nat.le_trans hN h.1.size)), (h2.cell (Nat.lt_of_lt_of_le hp h.1.size)).trans h.2.1, (h2.cell (Nat.lt_of_lt_of_le hq h.1.size)).trans h.2.2⟩
theorem zp0 {wr W W2 : World} {N : Nat} {p q : Addr} {v u : Value} (h : Below N wr W /\ W.cell? p = some v /\ W.cell? q = some u) (h2 : Below N W W2) (hp : p.block < N) (hq : q.block < N) :
  Below N wr W2 /\ W2.cell? p = some v /\ W2.cell? q = some u :=
 ⟨h.1.trans h2, (h2.cell hp).trans h.2.1, (h2.cell hq).trans h.2.2⟩
theorem zbx {W : World} {ops : Array Oper} {o : Oper} {a : Act} {K : Act -> World -> Prop} {Q : Exit -> Act -> World -> Prop} {E : Prop} (hgd : o.guard = none) (s x : Operand)
  (ho : o.op = .call { callee := .builtin .append, args := #[s, x], argTypes := #[24, 24] }) {ys : List zaa} {base : Nat} {v sv : Value} {l : List zaa} {S : Nat -> Prop}
  (hs : a.eval s = v) (hx : a.eval x = sv) (hown : zac W base v l) (hsl : SlS zar W S sv ys) (hlen : l.length + ys.length <= 1099511627776) (hbase : base <= W.heap.size)
  (h : ∀ v' w', zac w' base v' (l ++ ys) -> W.grownBy w' v.ownBlock -> Below base W w' -> K (a.put o.dst v') w') :
  if Region.wanted o (yielded ops a.tmps) = true then Oper.wp Tryz.prog o a W K Q else E := by
 have hw : Region.wanted o (yielded ops a.tmps) = true := by simp [Region.wanted, hgd]
 rw [if_pos hw]; obtain ⟨i0, hi0, hz0, hz1, hz2⟩ := info_parts Tryz.infoR; obtain ⟨A, c, rfl, hc, hm, hrow⟩ := hsl
 have H : ∃ v' w', (Builtin.append_ #[24, 24] o.type #[v, .slice A ys.length c]).run Tryz.prog W = .ok v' w' /\ zac w' base v' (l ++ ys) /\ W.grownBy w' v.ownBlock := by
  rcases A with _ | ad
  · have h0 : ys = [] := by
     rcases Nat.eq_zero_or_pos ys.length with h0 | h0
     · exact yn h0
     · obtain ⟨b, o, h, _⟩ := hrow h0; cases h
    subst h0; exact ⟨v, W, zcc W base _ _ 88 i0 3 Tryz.underlying24 hi0 v _ _ hown c, by simpa using hown, World.grownBy.refl W _⟩
  · obtain ⟨v', w', hrun, h2, h3, _⟩ := run_append_own_at (P := Tryz.prog) W base 24 o.type 88 i0 _ 3 32 Tryz.underlying24 hi0 hz0 hz1 hz2 rfl (by decide) v _ _ hown ad ys.length c (ys.flatMap zaa.cells)
     (zcU ys) (zcF hrow) (zej ys) (by simp only [maxLen]; omega) yO hbase
    exact ⟨v', w', hrun, by unfold zac; simpa using h2, h3⟩
 obtain ⟨v', w', hrun, h2, h3⟩ := H; unfold Oper.wp execOp; simp only [ho, resolve, invoke, builtin, Sem.run_bind, Sem.run_pure, Result.andThen_ok, List.map_toArray, List.map_cons, List.map_nil, hs, hx, hrun]
 exact h v' w' h2 h3 ((Below.refl base W).grown h3 hbase (fun k hk => (World.ownsRow.lt hown k hk).1))
def zaH (n : Nat) (r : zaa) : zaa := if r.pair then { letter := r.letter, left := r.left + n, right := r.right + n } else r
def zi6 (rs : List zaa) : Prop := ∀ r ∈ rs, r.pair = true -> -1099511627776 <= r.left /\ r.left <= 1099511627776 /\ -1099511627776 <= r.right /\ r.right <= 1099511627776
theorem zhR (v : Value) (xs : List zaa) (n : Nat) (w : World) (h : Sl zar w w.heap.size v xs) (hl : xs.length <= 1099511627776) (hn : n <= 1099511627776) (hp : zi6 xs) :
  Calls Tryz.prog 137 #[v, .int .i64 n] w fun e w' => ∃ v', e = .returned v' /\ zac w' w.heap.size v' (xs.map (zaH n)) /\ Below w.heap.size w w' := by
 obtain ⟨A, c, rfl, hc, hm, hrow⟩ := h; have Hp := yq hp; clear hm hp; go_enter Tryz.func137, Tryz.ntmps137
 go_wp2_with fail
 go_loopw [5, 11] (fun out i wr => ∃ (k : Nat), k <= xs.length /\ i = .int .i64 k /\ Below w.heap.size w wr /\ zac wr w.heap.size out ((xs.take k).map (zaH n))) (fun _ i _ => xs.length - (intOf i).toNat)
 case atStart => exact ⟨0, Nat.zero_le _, rfl, (Below.refl _ _).alloc yL _, zac.empty rfl yL⟩
 case round =>
  obtain ⟨k, hk, rfl, hb, hown⟩ := hrel; by_cases hlt : k < xs.length
  · obtain ⟨b, o, rfl, hbl, hcell⟩ := hrow.rule hlt
    obtain ⟨r, hr⟩ : ∃ x, xs[k]? = some x := ⟨_, ye hlt⟩
    obtain ⟨g0, g1, g2⟩ := hcell k r hr; have hc0 := (hb.cell (p := ⟨b, o + k * 3, none⟩) hbl).trans g0; have hc1 := (hb.cell (p := ⟨b, o + k * 3 + 1, none⟩) hbl).trans g1; have hc2 := (hb.cell (p := ⟨b, o + k * 3 + 2, none⟩) hbl).trans g2; have hsz : w.heap.size <= wr.heap.size := hb.size; have Hnext : yh ((xs.take (k + 1)).map (zaH n) = (xs.take k).map (zaH n) ++ [zaH n r]) := by rw [yh, List.take_add_one, hr, List.map_append]; rfl
    have hlen : ((xs.take k).map (zaH n)).length <= 1099511627776 := by simp; omega
    have Hr := yq hr; have Hown := yq hown; clear hcell g0 g1 g2 hr hown; by_cases hpr : r.pair = true
    · have hbd := Hp.o r (List.mem_of_getElem? Hr.o) hpr
      have hemp : r.letter.toList.isEmpty = true := by rw [zaq]; exact hpr
      have Hrr : yh (zaH n r = { letter := r.letter, left := r.left + n, right := r.right + n }) := by rw [yh, zaH, if_pos hpr]
      clear hpr
      go_wp2_with (first
       | (go_at_call 93; refine (zbF _ _ _ _).mono ?_; rintro e w' ⟨rfl, rfl⟩)
       | (at_builtin; go_must (refine zgH rfl _ _ rfl rfl rfl yS (by repeat (first | exact Hown.o | apply zan.alloc | apply zan.drewN | apply zac.alloc | apply zac.drewN)) hlen yo ?_); intro v' w1 hown1 hgrow hbw))
      go_roundw
      case rel => exact ⟨k + 1, by omega, by go_num, Below.trans (have yx := hb; yb) hbw, by rw [Hnext.o, Hrr.o]; exact hown1⟩
      case measure => simp [intOf]; omega
    · have hemp : r.letter.toList.isEmpty = false := by rw [zaq]; simpa [zaa.pair] using hpr
      have Hrr : yh (zaH n r = r) := by rw [yh, zaH, if_neg hpr]
      clear hpr
      go_wp2_with (first
       | (go_at_call 93; refine (zbF _ _ _ _).mono ?_; rintro e w' ⟨rfl, rfl⟩)
       | (at_builtin; go_must (refine zgH rfl _ _ rfl rfl rfl yS (by repeat (first | exact Hown.o | apply zan.alloc | apply zan.drewN | apply zac.alloc | apply zac.drewN)) hlen yo ?_); intro v' w1 hown1 hgrow hbw))
      go_roundw
      case rel => exact ⟨k + 1, by omega, by go_num, Below.trans (have yx := hb; yb) hbw, by rw [Hnext.o, Hrr.o]; exact hown1⟩
      case measure => simp [intOf]; omega
  · have hkn : k = xs.length := by omega
    subst hkn; have Hown2 := yq hown; clear hown; go_wp2
    go_ret
    exact ⟨_, rfl, by have := Hown2.o; rw [List.take_length] at this; exact this, hb⟩
theorem zdW (a b : Int) (w : World) :
  Calls Tryz.prog 121 #[.int .i64 a, .int .i64 b] w fun e w' => e = .returned (.agg #[.string ⟨#[]⟩, .int .i64 a, .int .i64 b]) /\ Below w.heap.size w w' := by
 go_enter Tryz.func121, Tryz.ntmps121
 go_wp2
 exact bodyPost_ret (v := .agg #[.string ⟨#[]⟩, .int .i64 a, .int .i64 b]) (by simp [results, Tryz.results121, go_sem]) rfl ⟨rfl, yb⟩
def zaP (a b : Int) : zaa := { letter := ⟨#[]⟩, left := a, right := b }
def zbh (xs ys : List zaa) : List zaa :=
 if xs.length = 0 then ys else if ys.length = 0 then xs else xs ++ ys.map (zaH xs.length) ++ [zaP ((xs.length : Int) - 1) ((xs.length : Int) + ys.length - 1)]
def znO (out : List zaa) (w : World) (e : Ending) (w' : World) : Prop :=
 Below w.heap.size w w' /\ ∃ v', zac w' w.heap.size v' out /\ e = .returned (.agg #[v'])
theorem znP (v u : Value) (xs ys : List zaa) (w : World) (h : Sl zar w w.heap.size v xs) (h' : Sl zar w w.heap.size u ys) (hn : xs.length <= 1048576) (hn' : ys.length <= 1048576) (hp : zi6 ys) :
  Calls Tryz.prog 132 #[.agg #[v], .agg #[u]] w (znO (zbh xs ys) w) := by
 have h1 := fun o o' o'' => (h.below ((((Below.refl w.heap.size w).alloc yL o).alloc yS o').alloc yo o'')).le (B' := (((w.alloc o).alloc o').alloc o'').heap.size) (by simp; omega); have h2 := fun o o' o'' => (h'.below ((((Below.refl w.heap.size w).alloc yL o).alloc yS o').alloc yo o'')).le (B' := (((w.alloc o).alloc o').alloc o'').heap.size) (by simp; omega); have hB := fun o o' o'' => (((Below.refl w.heap.size w).alloc yL o).alloc yS o').alloc yo o''; have H1 := yq h1; have H2 := yq h2; have HB := yq hB; clear h1 h2 hB; obtain ⟨A, c, rfl, hc, hm, hrow⟩ := h; obtain ⟨A', c', rfl, hc', hm', hrow'⟩ := h'; clear hm hm' hrow hrow'; by_cases h0 : xs.length = 0
 · have hj : zbh xs ys = ys := by rw [zbh, if_pos h0]
   have Hj := yq hj; have hb0 : ((xs.length : Int) == 0) = true := by simp [h0]
   have H0 := yq h0; clear hj h0; go_enter Tryz.func132, Tryz.ntmps132
   go_wp2_with fail
   refine (zcs _ _ _ (H2.o _ _ _) yO).mono ?_
   rintro e w1 ⟨v1, rfl, own1, hb1⟩; obtain ⟨A1, c1, rfl, _⟩ := zae own1; obtain ⟨hc1, hf1⟩ := zdu hb1; have hz1 : w.heap.size + 3 <= w1.heap.size := by have := hb1.size; simp at this; omega
   have Hown := yq own1; have Hb1 := yq hb1; clear own1 hb1; go_wp2
   refine bodyPost_ret (v := .agg #[.slice A1 ys.length c1]) (by simp [results, Tryz.results132, go_sem, hc1]) rfl ⟨?_, _, ?_, rfl⟩
   · exact (((((Below.refl _ _).alloc yL _).alloc yS _).alloc (by simp; omega) _).trans (Hb1.o.mono (by simp; omega))).setCell (by show w.heap.size <= w.heap.size + 1 + 1; omega) _
   · rw [Hj.o]
     have h4 : w1.ownsRow (w.heap.size + 3) 88 3 (.slice A1 ys.length c1) ys.length (ys.flatMap zaa.cells) := zad Hown.o yS; exact zad (ownsRow_setCell_below h4 (by show w.heap.size + 1 + 1 < w.heap.size + 3; omega) _) yO
 · have hb0 : ((xs.length : Int) == 0) = false := by rw [beq_eq_false_iff_ne]; omega
   by_cases h0' : ys.length = 0
   · have hj : zbh xs ys = xs := by rw [zbh, if_neg h0, if_pos h0']
     have Hj := yq hj; have hb0' : ((ys.length : Int) == 0) = true := by simp [h0']
     have H0 := yq h0; have H0' := yq h0'; clear hj h0 h0'; go_enter Tryz.func132, Tryz.ntmps132
     go_wp2_with fail
     refine (zcs _ _ _ (H1.o _ _ _) yO).mono ?_
     rintro e w1 ⟨v1, rfl, own1, hb1⟩; obtain ⟨A1, c1, rfl, _⟩ := zae own1; obtain ⟨hc1, hf1⟩ := zdu hb1; have hz1 : w.heap.size + 3 <= w1.heap.size := by have := hb1.size; simp at this; omega
     have Hown := yq own1; have Hb1 := yq hb1; clear own1 hb1; go_wp2
     refine bodyPost_ret (v := .agg #[.slice A1 xs.length c1]) (by simp [results, Tryz.results132, go_sem, hc1]) rfl ⟨?_, _, ?_, rfl⟩
     · exact (((((Below.refl _ _).alloc yL _).alloc yS _).alloc (by simp; omega) _).trans (Hb1.o.mono (by simp; omega))).setCell (by show w.heap.size <= w.heap.size + 1 + 1; omega) _
     · rw [Hj.o]
       have h4 : w1.ownsRow (w.heap.size + 3) 88 3 (.slice A1 xs.length c1) xs.length (xs.flatMap zaa.cells) := zad Hown.o yS; exact zad (ownsRow_setCell_below h4 (by show w.heap.size + 1 + 1 < w.heap.size + 3; omega) _) yO
   · have hb0' : ((ys.length : Int) == 0) = false := by rw [beq_eq_false_iff_ne]; omega
     have hj : zbh xs ys = xs ++ ys.map (zaH xs.length) ++ [zaP ((xs.length : Int) - 1) ((xs.length : Int) + ys.length - 1)] := by rw [zbh, if_neg h0, if_neg h0']
     have Hj := yq hj; have hx1 : 1 <= xs.length := by omega
     have hy1 : 1 <= ys.length := by omega
     have Hp := yq hp; clear hj h0 h0' hp; go_enter Tryz.func132, Tryz.ntmps132
     go_wp2_with fail
     go_region_held3 (fun w' => Below (w.heap.size + 3) (((w.alloc (Obj.cells #[Value.slice A xs.length c] 26)).alloc (Obj.cells #[Value.slice A' ys.length c'] 26)).alloc (Obj.cells #[Value.slice none 0 0] 26)) w' /\ w'.cell? ⟨w.heap.size, 0, none⟩ = some (.slice A xs.length c) /\ w'.cell? ⟨w.heap.size + 1, 0, none⟩ = some (.slice A' ys.length c'))
      (first | exact ⟨(Below.refl _ _).drew, by simp [go_sem], by simp [go_sem]⟩ | exact zpw (by assumption) hb1 yS yo yo | exact zpw (by assumption) hb2 yS yo yo | exact zp0 (by assumption) hb3 yo yo)
      (first
        | (go_at_call 66; refine (zi1 _ _ _ (SlS.dr (H1.o _ _ _)) yO).mono ?_; rintro e w1 ⟨v1, rfl, own1, hb1⟩)
        | (go_at_call 137; refine (zhR _ _ xs.length _ (SlS.up (SlS.dr (H2.o _ _ _)) hb1) yO yO Hp.o).mono ?_; rintro e w2 ⟨v2, rfl, own2, hb2⟩)
        | (refine zbx (base := w.heap.size + 3) yR _ _ yR yR yR (zac.below (zad own1 yo) hb2) own2.sl (by simp; omega) (by have h1 := hb1.size; have h2 := hb2.size; simp at h1 h2; omega) ?_; intro v3 w3 own3 hg3 hb3))
     have z1 : w.heap.size + 3 <= w1.heap.size := by have h1 := hb1.size; simp at h1; omega
     have z2 : w1.heap.size <= w2.heap.size := hb2.size; have z3 : w2.heap.size <= w3.heap.size := hb3.size
     have hb : Below (w.heap.size + 3) (((w.alloc (Obj.cells #[Value.slice A xs.length c] 26)).alloc (Obj.cells #[Value.slice A' ys.length c'] 26)).alloc (Obj.cells #[Value.slice none 0 0] 26)) w3 :=
      (Below.drew (Below.refl _ _)).trans ((hb1.mono (by show w.heap.size + 3 <= _; simp [World.drew])).trans ((hb2.mono yO).trans hb3))
     obtain ⟨hc3, hf3⟩ := zdu hb; have hcr : w3.cell? ⟨w.heap.size + 1 + 1, 0, none⟩ = some (.slice none 0 0) := by rw [hc3 _ _ yO]; simp [go_sem]
     have hfr : w3.frozen? ⟨w.heap.size + 1 + 1, 0, none⟩ = false := by rw [hf3 _ _ yO]; simp [go_sem]
     obtain ⟨L, hL⟩ : ∃ L, L = xs ++ ys.map (zaH xs.length) := ⟨_, rfl⟩
     rw [<- hL] at own3; have hl3 : L.length <= 1099511627776 := by rw [hL]; simp; omega
     have HL := yq hL; clear hL; obtain ⟨A3, c3, rfl, _⟩ := zae own3; have Hown3 := yq own3; have Hb := yq hb; have hz : w.heap.size + 1 + 1 < w3.heap.size := by omega
     clear own1 own2 own3 hb1 hb2 hb3 hg3 hc3 hf3 hb; go_wp2_with fail
     refine (zdW _ _ _).mono ?_
     rintro e w4 ⟨rfl, hb4⟩; have hcr4 := zb5 hcr hb4 hz; have hfr4 : w4.frozen? ⟨w.heap.size + 1 + 1, 0, none⟩ = false := by rw [hb4.frozen hz, hfr]
     have z4 : w3.heap.size <= w4.heap.size := hb4.size; have Hown4 := yq (zac.below Hown3.o hb4); have Hb4 := yq (Hb.o.trans (hb4.mono yO)); clear hcr hfr hb4; go_wp2_with (at_builtin; go_must (refine zgH (base := w.heap.size + 3) rfl _ _ rfl rfl rfl yS Hown4.o hl3 yO ?_); intro v5 w5 own5 hgrow hb5; obtain ⟨A5, c5, rfl, _⟩ := zae own5; obtain ⟨hc5, hf5⟩ := zdu hb5; have Hown5 := yq own5; have Hb5 := yq hb5; clear own5 hgrow hb5)
     have hll : L.length = xs.length + ys.length := by rw [HL.o]; simp
     refine bodyPost_ret (v := .agg #[.slice A5 (L.length + 1) c5]) (by simp [results, Tryz.results132, go_sem, hc5, hcr4]) rfl ⟨?_, _, ?_, rfl⟩
     · exact ((((((Below.refl _ _).alloc yL _).alloc yS _).alloc (by simp; omega) _).trans ((Hb4.o.trans Hb5.o).mono yO))).setCell (by show w.heap.size <= w.heap.size + 1 + 1; omega) _
     · rw [Hj.o, <- HL.o]
       have e : zaP ((xs.length : Int) - 1) ((xs.length : Int) + ys.length - 1) = ⟨⟨#[]⟩, (xs.length : Int) - 1, (L.length : Int) - 1⟩ := by rw [zaP, hll]; simp
       rw [e]; have h5 := Hown5.o; rw [List.length_append] at h5; have h6 := ownsRow_setCell_below (a := ⟨w.heap.size + 1 + 1, 0, none⟩) h5 (by show w.heap.size + 1 + 1 < w.heap.size + 3; omega) (.slice A5 (L.length + 1) c5); exact zad h6 yO
def zcx (same : List Int) (r : zaa) : zaa := if r.pair then zaP (same.getD r.left.toNat 0) (same.getD r.right.toNat 0) else r
def zeL (p : List zaa × List Int) (r : zaa) : List zaa × List Int := (p.1 ++ [zcx p.2 r], p.2 ++ [((p.1.idxOf (zcx p.2 r) : Nat) : Int)])
def zbP (xs : List zaa) : List zaa × List Int := xs.foldl zeL ([], [])
def za2 (xs : List zaa) : Prop := ∀ k r, xs[k]? = some r -> zaC k r = true
def zbA (ks : List zaa) (l : List Bool) (i : Nat) : List Bool :=
 if l.getD i false && (zaA ks i).pair then (l.set (zaA ks i).left.toNat true).set (zaA ks i).right.toNat true else l
def zaV (ks : List zaa) : Nat -> List Bool -> List Bool
 | 0, l => l
 | i + 1, l => zaV ks i (zbA ks l i)
def zcG (ks : List zaa) (need : List Bool) (p : List zaa × List Int) (i : Nat) : List zaa × List Int :=
 if need.getD i false then (p.1 ++ [zcx p.2 (zaA ks i)], p.2.set i p.1.length) else p
def zfq (xs : List zaa) : List Bool := (List.replicate xs.length false).set ((zbP xs).2.getD (xs.length - 1) 0).toNat true
def zcn (xs : List zaa) : List Bool := zaV (zbP xs).1 xs.length (zfq xs)
def zby (xs : List zaa) (k : Nat) : List zaa × List Int := (List.range k).foldl (zcG (zbP xs).1 (zcn xs)) ([], List.replicate xs.length 0)
def zaQ (xs : List zaa) : List zaa := (zby xs xs.length).1
theorem zbY {s : List Int} {r : zaa} (h : r.pair = true) : zcx s r = zaP (s.getD r.left.toNat 0) (s.getD r.right.toNat 0) := by rw [zcx, if_pos h]
theorem zcj {s : List Int} {r : zaa} (h : r.pair = false) : zcx s r = r := by rw [zcx, if_neg (by simp [h])]
theorem zfT (a b : Int) : (zaP a b).pair = true := rfl
theorem zeM {xs : List zaa} {k : Nat} {r : zaa} (h : xs[k]? = some r) : zbP (xs.take (k + 1)) = zeL (zbP (xs.take k)) r := zcw _ _ _ _ _ h
theorem zco {k : Nat} {a b : Int} (ha : 0 <= a /\ a < k) (hb : 0 <= b /\ b < k) : zaC k (zaP a b) = true := by
 unfold zaC; rw [if_pos (zfT a b)]; show (decide (0 <= a) && decide (a <= (k : Int) - 1) && decide (0 <= b) && decide (b <= (k : Int) - 1)) = true
 rw [decide_eq_true ha.1, decide_eq_true (show a <= (k : Int) - 1 by omega), decide_eq_true hb.1, decide_eq_true (show b <= (k : Int) - 1 by omega)]; rfl
theorem zbs {k : Nat} {r : zaa} (h : zaC k r = true) (hp : r.pair = true) : 0 <= r.left /\ r.left.toNat < k /\ 0 <= r.right /\ r.right.toNat < k := by
 unfold zaC at h; rw [if_pos hp] at h; simp at h; omega
theorem zce {k : Nat} {r : zaa} (h : zaC k r = true) (hp : r.pair = false) : r.letter.size = 1 /\ r.left = 0 /\ r.right = 0 := by
 unfold zaC at h; rw [if_neg (by simp [hp])] at h; simp [zeh] at h
 exact ⟨h.1.1.1.1, h.1.2, h.2⟩
theorem zek {k : Nat} {r : zaa} (h : zaC k r = true) : r.letter.size <= 1 := by
 cases hp : r.pair with
 | true => have : r.letter.size = 0 := by simpa [zaa.pair] using hp
           omega
 | false => have := (zce h hp).1; omega
structure zmh (k : Nat) (p : List zaa × List Int) : Prop where
 l1 : p.1.length = k
 l2 : p.2.length = k
 low : ∀ i, i < k -> 0 <= p.2.getD i 0 /\ p.2.getD i 0 <= i
 idx : ∀ i, i < k -> p.2.getD i 0 = ((p.1.idxOf (zaA p.1 i) : Nat) : Int)
 ok : za2 p.1
theorem zbW {xs : List zaa} {k : Nat} {r : zaa} (h : xs[k]? = some r) : zaA xs k = r := by
 unfold zaA; rw [yg, h]; rfl
theorem zc9 {xs ys : List zaa} {i : Nat} (h : i < xs.length) : zaA (xs ++ ys) i = zaA xs i := by
 unfold zaA; rw [yg, yg, List.getElem?_append_left h]
theorem zel (xs : List zaa) (r : zaa) : zaA (xs ++ [r]) xs.length = r := by
 unfold zaA; simp
theorem zgz {xs : List zaa} {i : Nat} (h : i < xs.length) : zaA xs i ∈ xs := List.mem_of_getElem? (zcm h)
theorem zb6 {xs ys : List Int} {i : Nat} (h : i < xs.length) : (xs ++ ys).getD i 0 = xs.getD i 0 := by
 rw [yg, yg, List.getElem?_append_left h]
theorem zdG (xs : List Int) (x : Int) : (xs ++ [x]).getD xs.length 0 = x := by simp
theorem za2.snoc {xs : List zaa} {r : zaa} (h : za2 xs) (hr : zaC xs.length r = true) : za2 (xs ++ [r]) := by
 intro k x hk; rcases Nat.lt_or_ge k xs.length with hlt | hge
 · rw [List.getElem?_append_left hlt] at hk; exact h k x hk
 · have hl := (List.getElem?_eq_some_iff.1 hk).1
   simp at hl
   have : k = xs.length := by omega
   subst this; simp at hk; rw [<- hk]; exact hr
theorem zfr {xs : List zaa} (h : za2 xs) : ∀ k, k <= xs.length -> zmh k (zbP (xs.take k)) := by
 intro k
 induction k with
 | zero => intro _; exact ⟨rfl, rfl, fun i hi => absurd hi yO, fun i hi => absurd hi yO, fun k r hk => by simp [zbP] at hk⟩
 | succ k ih =>
   intro hk; have H := ih yO; obtain ⟨r, hr⟩ : ∃ r, xs[k]? = some r := ⟨_, ye yO⟩
   have hor := h k r hr; rw [zeM hr]; obtain ⟨K, S, hp⟩ : ∃ K S, zbP (xs.take k) = (K, S) := ⟨_, _, rfl⟩
   rw [hp] at H |-
   have l1 : K.length = k := H.l1; have l2 : S.length = k := H.l2
   have hx : zaC k (zcx S r) = true := by
    cases hpr : r.pair with
    | true =>
      obtain ⟨h1, h2, h3, h4⟩ := zbs hor hpr; have a1 : 0 <= S.getD r.left.toNat 0 /\ S.getD r.left.toNat 0 <= (r.left.toNat : Int) := H.low _ h2; have a2 : 0 <= S.getD r.right.toNat 0 /\ S.getD r.right.toNat 0 <= (r.right.toNat : Int) := H.low _ h4; rw [zbY hpr]; exact zco ⟨a1.1, by omega⟩ ⟨a2.1, by omega⟩
    | false => rw [zcj hpr]; exact hor
   obtain ⟨X, hX⟩ : ∃ X, zcx S r = X := ⟨_, rfl⟩
   have e : zeL (K, S) r = (K ++ [X], S ++ [((K.idxOf X : Nat) : Int)]) := by unfold zeL; rw [hX]
   rw [e]; rw [hX] at hx; refine ⟨by simp [l1], by simp [l2], ?_, ?_, ?_⟩
   · intro i hi
     rcases Nat.lt_or_ge i k with hlt | hge
     · show 0 <= (S ++ _).getD i 0 /\ _
       rw [zb6 yO]; exact H.low i hlt
     · have : i = S.length := by omega
       subst this; show 0 <= (S ++ _).getD S.length 0 /\ (S ++ _).getD S.length 0 <= _
       rw [zdG]; have : K.idxOf X <= K.length := List.idxOf_le_length; omega
   · intro i hi
     show (S ++ _).getD i 0 = (((K ++ [X]).idxOf (zaA (K ++ [X]) i) : Nat) : Int)
     rcases Nat.lt_or_ge i k with hlt | hge
     · rw [zb6 yO, zc9 yO, List.idxOf_append, if_pos (zgz yO)]
       exact H.idx i hlt
     · have : i = K.length := by omega
       subst this; rw [zel]; have hS : (S ++ [((K.idxOf X : Nat) : Int)]).getD K.length 0 = ((K.idxOf X : Nat) : Int) := by rw [l1, <- l2, zdG]
       rw [hS, List.idxOf_append]; split
       · rfl
       · rename_i hn
         rw [List.idxOf_eq_length hn]; simp
   · exact H.ok.snoc (by rw [show (K, S).1.length = k from l1]; exact hx)
theorem zgb (ks : List zaa) (l : List Bool) (i : Nat) : (zbA ks l i).length = l.length := by
 unfold zbA; split <;> simp
theorem zgc (ks : List zaa) : ∀ (i : Nat) (l : List Bool), (zaV ks i l).length = l.length
 | 0, _ => rfl
 | i + 1, l => by rw [zaV, zgc ks i, zgb]
theorem zi7 (xs : List zaa) : (zcn xs).length = xs.length := by rw [zcn, zgc]; simp [zfq]
theorem zjV (ks : List zaa) (need : List Bool) (p : List zaa × List Int) (i : Nat) : (zcG ks need p i).2.length = p.2.length /\ (zcG ks need p i).1.length <= p.1.length + 1 := by
 unfold zcG; split <;> simp
theorem zcH (xs : List zaa) (k : Nat) : zby xs (k + 1) = zcG (zbP xs).1 (zcn xs) (zby xs k) k := by
 unfold zby; rw [List.range_succ, List.foldl_append]; rfl
theorem zdH (xs : List zaa) : ∀ k, (zby xs k).2.length = xs.length /\ (zby xs k).1.length <= k := by
 intro k
 induction k with
 | zero => simp [zby]
 | succ k ih =>
   rw [zcH]; have := zjV (zbP xs).1 (zcn xs) (zby xs k) k; omega
theorem zfs (xs : List zaa) : (zaQ xs).length <= xs.length := (zdH xs xs.length).2
def zoA (l : List zaa) : Prop := ∀ r ∈ l, r.letter.size <= 1
theorem zgI {xs : List zaa} (h : za2 xs) : zoA xs := by
 intro r hr; obtain ⟨k, hk⟩ := List.mem_iff_getElem?.1 hr; exact zek (h k r hk)
theorem zjW {s : List Int} {r : zaa} (h : r.letter.size <= 1) : (zcx s r).letter.size <= 1 := by
 unfold zcx; split
 · exact (by decide : (0 : Nat) <= 1)
 · exact h
theorem zdI {xs : List zaa} (h : za2 xs) : zmh xs.length (zbP xs) := by
 have := zfr h xs.length yL; rwa [List.take_length] at this
theorem zjX {xs : List zaa} (h : za2 xs) : ∀ k, k <= xs.length -> zoA (zby xs k).1 := by
 intro k
 induction k with
 | zero => intro _ r hr; simp [zby] at hr
 | succ k ih =>
   intro hk; have H := ih yO; have hc := zdI h; rw [zcH]; unfold zcG; split
   · intro r hr
     rcases List.mem_append.1 hr with hr | hr
     · exact H r hr
     · rw [List.mem_singleton] at hr; subst hr
       exact zjW (zgI hc.ok _ (zgz (by rw [hc.l1]; omega)))
   · exact H
theorem zgJ {xs : List zaa} (h : za2 xs) : zaY (zaQ xs) := fun r hr => Nat.le_trans (zjX h xs.length yL r hr) (by decide)
theorem zaz {xs : List zaa} {ls : List Int} (h : zaW xs = some ls) : za2 xs := fun k r hk => (zeK h k r hk).1
structure But (b : Nat) (w w' : World) : Prop where
 os : w'.os = w.os
 tape : w'.tape = w.tape
 output : w'.output = w.output
 size : w.heap.size <= w'.heap.size
 block : ∀ k, k < w.heap.size -> k ≠ b -> w'.heap[k]? = w.heap[k]?
theorem But.refl (b : Nat) (w : World) : But b w w := ⟨rfl, rfl, rfl, Nat.le_refl _, fun _ _ _ => rfl⟩
theorem But.trans {b : Nat} {x y z : World} (h : But b x y) (k : But b y z) : But b x z :=
 ⟨k.os.trans h.os, k.tape.trans h.tape, k.output.trans h.output, Nat.le_trans h.size k.size, fun i hi hne => (k.block i (Nat.lt_of_lt_of_le hi h.size) hne).trans (h.block i hi hne)⟩
theorem But.of {b : Nat} {w w' : World} (h : Below w.heap.size w w') : But b w w' := ⟨h.os, h.tape, h.output, h.size, fun k hk _ => h.block k hk⟩
theorem But.below {b B : Nat} {w w' : World} (h : But b w w') (hB : B <= b) (hw : B <= w.heap.size) : Below B w w' := ⟨h.os, h.tape, h.output, h.size, fun k hk => h.block k (Nat.lt_of_lt_of_le hk hw) yO⟩
theorem But.drew {b : Nat} {w w' : World} (h : But b w w') : But b w w'.drew := ⟨h.os, h.tape, h.output, h.size, h.block⟩
theorem But.drewN {b : Nat} {w w' : World} (h : But b w w') (n : Nat) : But b w (w'.drewN n) := ⟨h.os, h.tape, h.output, h.size, h.block⟩
theorem But.setCell {b o : Nat} {w w' : World} (h : But b w w') (v : Value) : But b w (w'.setCell ⟨b, o, none⟩ v) :=
 ⟨h.os, h.tape, h.output, by simpa [World.setCell] using h.size, fun k hk hne => by
  rw [<- h.block k hk hne]; simp only [World.setCell, Array.getElem?_modify]
  rw [if_neg (fun e => hne e.symm)]⟩
theorem But.alloc {b : Nat} {w w' : World} (h : But b w w') (o : Obj) : But b w (w'.alloc o) :=
 ⟨h.os, h.tape, h.output, Nat.le_trans h.size yS, fun k hk hne => (Below.heap_alloc w' o k (Nat.lt_of_lt_of_le hk h.size)).trans (h.block k hk hne)⟩
theorem But.tr {b : Nat} {w w1 w2 : World} (h : But b w w1) (hb : Below w1.heap.size w1 w2) : But b w w2 := h.trans (But.of hb)
def Blk (w : World) (b : Nat) (a : Array Value) (t : TypeId) : Prop := w.heap[b]? = some (.cells a t (0, 0))
section
variable {w w' : World} {b N : Nat} {a : Array Value} {t : TypeId}
theorem Blk.lt (h : Blk w b a t) : b < w.heap.size := (Array.getElem?_eq_some_iff.1 h).1
theorem Blk.up (h : Blk w b a t) (hb : Below w.heap.size w w') : Blk w' b a t := (hb.block b h.lt).trans h
theorem Blk.upB (h : Blk w b a t) (hb : Below N w w') (hlt : b < N) : Blk w' b a t := (hb.block b hlt).trans h
theorem Blk.cell (h : Blk w b a t) {i : Nat} {v : Value} (hi : a[i]? = some v) : w.cell? ⟨b, i, none⟩ = some v := by
 rw [cell_of_row w b i a t (0, 0) h, hi]
theorem Blk.frozen (h : Blk w b a t) (i : Nat) : w.frozen? ⟨b, i, none⟩ = false := by
 simp [World.frozen?, show w.heap[b]? = _ from h]
theorem Blk.set (h : Blk w b a t) (i : Nat) (v : Value) : Blk (w.setCell ⟨b, i, none⟩ v) b (a.setIfInBounds i v) t := by
 obtain ⟨hlt, hk⟩ := Array.getElem?_eq_some_iff.1 h
 show (w.heap.modify b _)[b]? = _
 rw [Array.getElem?_eq_getElem (by rw [Array.size_modify]; exact hlt), Array.getElem_modify_self, hk]
 rfl
theorem Blk.other (h : Blk w b a t) {p : Addr} (hne : b ≠ p.block) (v : Value) : Blk (w.setCell p v) b a t := (Below.heap_setCell w p v b hne).trans h
theorem Blk.alloc (h : Blk w b a t) (o : Obj) : Blk (w.alloc o) b a t := (Below.heap_alloc w o b h.lt).trans h
theorem Blk.drew (h : Blk w b a t) : Blk w.drew b a t := h
theorem Blk.new (w : World) (a : Array Value) (t : TypeId) : Blk (w.alloc (.cells a t)) w.heap.size a t := heap_alloc_new w _
end
theorem Blk.but {w w' : World} {b c : Nat} {a : Array Value} {t : TypeId} (h : Blk w c a t) (hb : But b w w') (hne : c ≠ b) : Blk w' c a t := (hb.block c h.lt hne).trans h
theorem Below.unalloc {w w' : World} {o : Obj} (hb : Below (w.alloc o).heap.size (w.alloc o) w') : Below w.heap.size w w' /\ w'.heap[w.heap.size]? = some o :=
 ⟨((Below.refl w.heap.size w).alloc yL o).trans (hb.mono yS), (hb.block _ yS).trans (heap_alloc_new w o)⟩
theorem Below.undrew {w w' : World} (hb : Below w.drew.heap.size w.drew w') : Below w.heap.size w w' := ((Below.refl w.heap.size w).drew).trans hb
theorem Below.tr {w0 w w' : World} (h : Below w0.heap.size w0 w) (hb : Below w.heap.size w w') : Below w0.heap.size w0 w' := h.trans (hb.mono h.size)
def znQ (w : World) (lo hi : Nat) (v : Value) (l : List zaa) : Prop := zac w lo v l /\ (∀ g, v.ownBlock = some g -> g < hi) /\ hi <= w.heap.size
section
variable {w w' : World} {lo hi : Nat} {v : Value} {l : List zaa} {row : Option Nat}
theorem znQ.rng (h : znQ w lo hi v l) : ∀ g, v.ownBlock = some g -> lo <= g /\ g < hi := fun g hg => ⟨(World.ownsRow.lt h.1 g hg).1, h.2.1 g hg⟩
theorem znQ.alloc (h : znQ w lo hi v l) (o : Obj) : znQ (w.alloc o) lo hi v l := ⟨World.ownsRow.alloc h.1 o, h.2.1, Nat.le_trans h.2.2 yS⟩
theorem znQ.sl (h : znQ w lo hi v l) : Sl zar w w.heap.size v l := zac.sl h.1
end
section
variable {σ : Type}
theorem zfU (J : (Nat -> Prop) -> σ -> World -> Prop) (step : σ -> Nat -> σ) (Ok : σ -> Nat -> Prop) (F : FuncId) (cap : Array Value) (xs : List zaa) (ls : List Int) (i j : Int) (hlens : zaW xs = some ls) (hxs : xs.length <= 1099511627776)
  (eg : ∀ args w, (callFunc F args).run Tryz.prog w = .ok (.enter F args) w)
  (hext : ∀ C s w w', J C s w -> Below w.heap.size w w' -> zdo w.heap.size w' -> (∀ b, C b -> b < w.heap.size) -> J (ext C w.heap.size w'.heap.size) s w')
  (hwith : ∀ C s (r : Nat) (w : World), J C s w -> Ok s r -> r < xs.length -> (∀ b, C b -> b < w.heap.size) -> Calls Tryz.prog F (#[.int .i64 r] ++ cap) w (zdV J C (step s r) w))
  (vL vR : Value) (s : σ) (C : Nat -> Prop) (w : World) (hJ : J C s w) (hRu : zlg step Ok s (za3 xs ls i j)) (hlt : ∀ b, C b -> b < w.heap.size) (hL : SlS zgt w C vL ls) (hR : SlS zar w C vR xs) :
  Calls Tryz.prog 139 #[.agg #[vR], vL, .int .i64 i, .int .i64 j, .func (.func F) #[] cap] w (zdV J C ((za3 xs ls i j).foldl step s) w) := by
 have HT := yq (znN J step Ok F cap xs ls i j hlens eg hext hwith (w.heap.size + 1) (w.heap.size + 1 + 1) (w.heap.size + 1 + 1 + 1) (w.heap.size + 1 + 1 + 1 + 1) w.heap.size (w.heap.size + 1 + 1 + 1 + 1 + 1) vL vR xs.length); have He := yq hext; have HJ := yq hJ; have HRu := yq hRu; clear hRu; have HL := yq hL; have HR := yq hR; have Hlt := yq hlt; clear hwith hext hJ eg hL; obtain ⟨AR, cR, rfl, _, _, hrowR⟩ := hR; clear hrowR; obtain ⟨AL, cL, rfl, _⟩ := HL.o; have hB : ∀ o1 o2 o3 o4 o5 o6, Below w.heap.size w ((((((w.alloc o1).alloc o2).alloc o3).alloc o4).alloc o5).alloc o6) := fun o1 o2 o3 o4 o5 o6 => yb
 have hJ6 : ∀ o1 o2 o3 o4 o5 o6, NoB o1 -> NoB o2 -> NoB o3 -> NoB o4 -> NoB o5 -> NoB o6 -> J (ext C w.heap.size (w.heap.size + 6)) s ((((((w.alloc o1).alloc o2).alloc o3).alloc o4).alloc o5).alloc o6) := fun o1 o2 o3 o4 o5 o6 n1 n2 n3 n4 n5 n6 => by
  have := He.o C s w ((((((w.alloc o1).alloc o2).alloc o3).alloc o4).alloc o5).alloc o6) HJ.o (hB _ _ _ _ _ _) ((((((((zdo.same w).alloc n1).alloc n2).alloc n3).alloc n4).alloc n5).alloc n6)) Hlt.o; simpa using this
 have hK6 : ∀ o1 o2 o3 o4 o5 o6, zgy C w ((((((w.alloc o1).alloc o2).alloc o3).alloc o4).alloc o5).alloc o6) := fun o1 o2 o3 o4 o5 o6 => (Wk.of_below (hB _ _ _ _ _ _) Hlt.o).keep; by_cases h0 : 0 < xs.length /\ i < j
 · obtain ⟨h1, h2⟩ := h0
   go_enter Tryz.func139, Tryz.ntmps139
   go_wp2_with fail
   rw [show ((xs.length : Int) - 1) = ((xs.length - 1 : Nat) : Int) by omega]; refine (HT.o (xs.length - 1) 0 s (ext C w.heap.size (w.heap.size + 6)) _ yO yO yO ?_ ?_ ?_ ?_).mono ?_
   · have := zaO hlens (r := xs.length - 1) yO; omega
   · exact hJ6 _ _ _ _ _ _ (NoB.cells (by decide)) (NoB.cells (by decide)) (NoB.cells (by decide)) (NoB.cells (by decide)) (NoB.cells (by decide)) (NoB.cells (by decide))
   · have := HRu.o
     rwa [za3, if_pos ⟨h1, h2⟩] at this
   · have hk := hK6
     exact ⟨by simp [go_sem], by simp [go_sem], by simp [go_sem], by simp [go_sem], by simp [go_sem], by simp [go_sem], Or.inr yO, Or.inr yO, Or.inr yO, Or.inr yO, Or.inr yO, Or.inr yO, (HL.o.keep (hk _ _ _ _ _ _)).more fun b h => Or.inl h, (HR.o.keep (hk _ _ _ _ _ _)).more fun b h => Or.inl h, fun b h => by
      simp
      rcases h with h | h
      · have := Hlt.o b h; omega
      · exact h.2⟩
   · rintro e w2 ⟨rfl, C2, g1, g2, g3, g4⟩
     go_wp2_with fail
     go_end0
     refine ⟨rfl, C2, fun b h => g1 _ (Or.inl h), g2, ?_, ?_⟩
     · rw [za3, if_pos ⟨h1, h2⟩]; exact g3
     · exact (Wk.of_below (hB _ _ _ _ _ _) Hlt.o).trans (g4.mono fun b h => Or.inl h)
 · have hp : za3 xs ls i j = [] := by rw [za3, if_neg h0]
   have Hp := yq hp; have hh : ¬ 0 < xs.length \/ (0 < xs.length /\ ¬ i < j) := by omega
   clear hp h0; rcases hh with h1 | ⟨h1, h2⟩
   all_goals
    go_enter Tryz.func139, Tryz.ntmps139
    go_wp2_with fail
    go_end0
    refine ⟨rfl, ext C w.heap.size (w.heap.size + 6), fun b h => Or.inl h, ?_, ?_, Wk.of_below (hB _ _ _ _ _ _) Hlt.o⟩
    · intro b h
      simp
      rcases h with h | h
      · have := Hlt.o b h; omega
      · exact h.2
    · rw [Hp.o]
      exact hJ6 _ _ _ _ _ _ (NoB.cells (by decide)) (NoB.cells (by decide)) (NoB.cells (by decide)) (NoB.cells (by decide)) (NoB.cells (by decide)) (NoB.cells (by decide))
end
theorem zc5 (n a b : Int) (w : World) (h : inR n a b = true) : Calls Tryz.prog 27 #[.int .i64 n, .int .i64 a, .int .i64 b] w fun e w' => e = .returned (.bool true) /\ w = w' :=
 (zdE n a b w).mono fun _ _ ⟨he, hw⟩ => ⟨by rw [he, <- h]; rfl, hw⟩
theorem zft (n a b : Int) (w : World) (h : inR n a b = false) : Calls Tryz.prog 27 #[.int .i64 n, .int .i64 a, .int .i64 b] w fun e w' => e = .returned (.bool false) /\ w = w' :=
 (zdE n a b w).mono fun _ _ ⟨he, hw⟩ => ⟨by rw [he, <- h]; rfl, hw⟩
theorem zem {P : Program} {W : World} {ops : Array Oper} {rest : List Oper} {o : Oper} {a : Act} {Q : Exit -> Act -> World -> Prop} (hgd : o.guard = none) (s x : Operand) (t : TypeId)
  (ho : o.op = .call { callee := .builtin .append, args := #[s, x], argTypes := #[t, t] }) {cs : Array Value} {e : TypeId}
  (i : TypeInfo) (z : Value) (size bytes : Nat) (ht : P.underlying t = some (.slice e)) (hi : P.info? e = some i) (hz : i.zero = some z)
  (hsize : i.size = size) (hby : i.bytes = bytes) (hzs : z.cells.size = size) (hsz : 0 < size)
  {base : Nat} {v : Value} {n : Nat} {xs : List Value} (hs : a.eval s = v) (hx : a.eval x = .slice (some ⟨W.heap.size, 0, none⟩) 1 1)
  (hcs : cs.size = size) (h1 : ∀ u ∈ cs.toList, u.oneCell' = true) (hown : W.ownsRow base e size v n xs)
  (hlen : (n + 1) * bytes <= 140737488355328) (hn : n + 1 <= 140737488355328) (hbase : base <= W.heap.size)
  (h : ∀ v' w', w'.ownsRow base e size v' (n + 1) (xs ++ cs.toList) -> (W.alloc (.cells cs e)).grownBy w' v.ownBlock -> (v'.ownBlock = v.ownBlock \/ v'.ownBlock = some (W.heap.size + 1)) -> wpList P ops Q rest (a.put o.dst v') w') :
  wpList P ops Q (o :: rest) a (W.alloc (.cells cs e)) := by
 refine wpList_plain hgd fun _ hK => ?_
 obtain ⟨v', w', hrun, h2, h3, _, h5⟩ := run_append_own_at (P := P) (W.alloc (.cells cs e)) base t o.type e i z size bytes ht hi hz hsize hby hzs hsz v n xs (hown.alloc _) ⟨W.heap.size, 0, none⟩ 1 1 cs.toList (by simpa using hcs)
  (fun j u hu => by
    have : (W.alloc (.cells cs e)).cell? ⟨W.heap.size, j, none⟩ = cs[j]? := cell_of_row _ _ _ _ e (0, 0) (heap_alloc_new W _); have ha : (⟨W.heap.size, 0, none⟩ : Addr).add j = ⟨W.heap.size, j, none⟩ := by unfold Addr.add; split <;> simp_all
    rw [ha, this]; simpa using hu) h1 (by simp only [maxLen]; omega) hlen (by simp; omega)
 unfold Oper.wp execOp; simp only [ho, resolve, invoke, builtin, Sem.run_bind, Sem.run_pure, Result.andThen_ok, List.map_toArray, List.map_cons, List.map_nil, hs, hx, hrun]
 exact hK _ _ (h v' w' h2 h3 (by simpa using h5))
theorem zfu {W : World} {ops : Array Oper} {o : Oper} {a : Act} {K : Act -> World -> Prop} {Q : Exit -> Act -> World -> Prop} {E : Prop} (hgd : o.guard = none) (s x : Operand)
  (ho : o.op = .call { callee := .builtin .append, args := #[s, x], argTypes := #[94, 94] }) {y : Int} {base : Nat} {v : Value} {l : List Int}
  (hs : a.eval s = v) {N : Nat} (hx : a.eval x = .slice (some ⟨N, 0, none⟩) 1 1) (hc : W.cell? ⟨N, 0, none⟩ = some (.int .i64 y)) (hown : zan W base v l) (hlen : l.length <= 1099511627776) (hbase : base <= W.heap.size)
  (h : ∀ v' w', zan w' base v' (l ++ [y]) -> W.grownBy w' v.ownBlock -> (v'.ownBlock = v.ownBlock \/ v'.ownBlock = some W.heap.size) -> K (a.put o.dst v') w') :
  if Region.wanted o (yielded ops a.tmps) = true then Oper.wp Tryz.prog o a W K Q else E := by
 have hw : Region.wanted o (yielded ops a.tmps) = true := by simp [Region.wanted, hgd]
 rw [if_pos hw]; obtain ⟨i0, hi0, hz0, hz1, hz2⟩ := info_parts Tryz.infoI
 obtain ⟨v', w', hrun, h2, h3, _, h5⟩ := run_append_own_at (P := Tryz.prog) W base 94 o.type 2 i0 (.int .i64 0) 1 8 Tryz.underlying94 hi0 hz0 hz1 hz2 rfl (by decide) v _ _ hown ⟨N, 0, none⟩ 1 1 [.int .i64 y] rfl
  (fun j u hu => by
    cases j with
    | zero => simp at hu; subst hu; simpa [Addr.add] using hc
    | succ j => simp at hu) (by simp [Value.oneCell']) (by simp only [maxLen]; omega) yO hbase
 unfold Oper.wp execOp; simp only [ho, resolve, invoke, builtin, Sem.run_bind, Sem.run_pure, Result.andThen_ok, List.map_toArray, List.map_cons, List.map_nil, hs, hx, hrun]
 exact h v' w' (by unfold zan; simpa using h2) h3 h5
def zao (l : List Int) : Int := l.getD (l.length - 1) 0
theorem zdX (v : Value) (l : List Int) (w : World) (h : Sl zgt w w.heap.size v l) :
  Calls Tryz.prog 96 #[v] w fun e w' => e = .returned (.int .i64 (zao l)) /\ w = w' := by
 obtain ⟨A, c, rfl, hc, hm, hrow⟩ := h; unfold maxLen at hm; by_cases h0 : l.length = 0
 · have hl : l = [] := yn h0
   subst hl; go_enter Tryz.func96, Tryz.ntmps96
   go_wp2_with fail
   go_ret
   exact ⟨rfl, rfl⟩
 · obtain ⟨b, o, rfl, hbl, hcell⟩ := hrow.int (k := 0) yO
   have hc0 := hcell (l.length - 1) yO; have g0 : ((l.length : Int) == 0) = false := by rw [beq_eq_false_iff_ne]; omega
   have hk : ((l.length : Int) - 1).toNat = l.length - 1 := by omega
   have hl : 0 <= (l.length : Int) - 1 := by omega
   obtain ⟨x, hx⟩ : ∃ x, l.getD (l.length - 1) 0 = x := ⟨_, rfl⟩
   have Hx := yq hx; rw [hx] at hc0; clear hcell hx; go_enter Tryz.func96, Tryz.ntmps96
   go_wp2_with fail
   go_ret
   exact ⟨zdt (by rw [zao, Hx.o]), rfl⟩
def zaF (xs : List zaa) : Int := match zaW xs with | some ls => zao ls | none => 0
theorem zaD {xs : List zaa} {ls : List Int} (h : zaW xs = some ls) : zaF xs = zao ls := by simp [zaF, h]
theorem zgd {xs : List zaa} {ls : List Int} (h : zaW xs = some ls) : 0 <= zao ls /\ zao ls <= 1000000000000000 := by
 have hll := zaG h; unfold zao; by_cases h0 : xs.length = 0
 · have : ls = [] := yn yO
   subst this; simp
 · have := zaO h (r := ls.length - 1) yO
   omega
theorem za4 (xs : List zaa) : 0 <= zaF xs /\ zaF xs <= 1000000000000000 := by
 unfold zaF; split
 · rename_i ls h; exact zgd h
 · omega
theorem zbm (b o : Nat) (v : Value) (xs : List zaa) (ls : List Int) (w : World) (hl : zaW xs = some ls) (hp : w.cell? ⟨b, o, none⟩ = some v) (hbl : b < w.heap.size) (h : Sl zar w w.heap.size v xs) (hsm : zaY xs) (hn : xs.length <= 1099511627776) :
  Calls Tryz.prog 37 #[.pointer (some ⟨b, o, none⟩)] w fun e w' => e = .returned (.int .i64 (zao ls)) /\ Below w.heap.size w w' := by
 have Hsl := yq h; have Hl := yq hl; clear h hl; go_enter Tryz.func37, Tryz.ntmps37
 go_wp2_with fail
 refine (zf9 _ _ _ _ _ hp hbl Hsl.o hsm hn).mono ?_
 rintro e w1 ⟨hb, (⟨ls', v1, h1, rfl, h2⟩ | ⟨h1, _⟩)⟩
 · have e1 : ls' = ls := by rw [Hl.o] at h1; injection h1 with h1; exact h1.symm
   subst e1; have HB := yq hb; have hsl := h2.sl; obtain ⟨A, c, rfl, hc, hm, hrow⟩ := hsl; unfold maxLen at hm; clear h1 h2 hb; by_cases h0 : ls'.length = 0
   · have hl : ls' = [] := yn h0
     subst hl; clear hrow; go_wp2_with fail
     go_ret
     exact ⟨rfl, HB.o⟩
   · obtain ⟨b, o, rfl, hbl, hcell⟩ := hrow.int (k := 0) yO
     have hc0 := hcell (ls'.length - 1) yO; have g0 : ((ls'.length : Int) == 0) = false := by rw [beq_eq_false_iff_ne]; omega
     have hk : ((ls'.length : Int) - 1).toNat = ls'.length - 1 := by omega
     have hl : 0 <= (ls'.length : Int) - 1 := by omega
     have hwr : IntKind.i64.wrap ((ls'.length : Int) - 1) = (ls'.length : Int) - 1 := IntWalk.i64_in _ yO; obtain ⟨x, hx⟩ : ∃ x, ls'.getD (ls'.length - 1) 0 = x := ⟨_, rfl⟩
     have Hx := yq hx; rw [hx] at hc0; clear hcell hx hrow; go_wp2_with fail
     go_ret
     exact ⟨zdt (by rw [zao, Hx.o]), HB.o⟩
 · rw [Hl.o] at h1; cases h1
def zl9 (xs : List zaa) : Int := if zag xs then zaF xs else 0
def zma (xs : List zaa) : Int := if zag xs then 0 else 1
theorem zen (v : Value) (xs : List zaa) (w : World) (h : Sl zar w w.heap.size v xs) (hn : xs.length <= 1099511627776) :
  Calls Tryz.prog 62 #[.agg #[v]] w fun e w' => e = .returned (.tuple #[.int .i64 (zl9 xs), .int .i64 (zma xs)]) /\ Below w.heap.size w w' := by
 have h1 := fun o => (h.below ((Below.refl w.heap.size w).alloc yL o)).le (B' := (w.alloc o).heap.size) yS; have H1 := yq h1; clear h1 h; go_enter Tryz.func62, Tryz.ntmps62
 go_wp2_with fail
 refine (zcE _ _ _ (H1.o _) hn).mono ?_
 rintro e w1 ⟨hb, (⟨ls, v1, h1, rfl, h2⟩ | ⟨h1, rfl⟩)⟩
 · have HL := yq h2.sl
   have H1' := yq h1; have HB := yq hb; obtain ⟨A, c, rfl, _⟩ := h2.sl; clear h1 h2 hb; by_cases hc : xs.length <= 400
   · have hd : decide (xs.length <= 400) = true := by simp [hc]
     have hg : zag xs = true := by simp [zag, H1'.o, hc]
     have Hg := yq hg; rw [hd]; clear hd hc hg; go_wp2_with fail
     refine (zdX _ ls _ HL.o).mono ?_
     rintro e w2 ⟨rfl, rfl⟩; go_wp2_with fail
     go_ret2
     exact ⟨by simp [zl9, zma, Hg.o, zaD H1'.o], ((Below.refl _ _).alloc yL _).trans (HB.o.mono yS)⟩
   · have hd : decide (xs.length <= 400) = false := by simp [hc]
     have hg : zag xs = false := by simp [zag, hc]
     have Hg := yq hg; rw [hd]; clear hd hc hg; go_wp2_with fail
     go_ret2
     exact ⟨by simp [zl9, zma, Hg.o], ((Below.refl _ _).alloc yL _).trans (HB.o.mono yS)⟩
 · have hg : zag xs = false := by simp [zag, h1]
   have Hg := yq hg; have HB := yq hb; clear h1 hg hb; go_wp2_with fail
   go_ret2
   exact ⟨by simp [zl9, zma, Hg.o], ((Below.refl _ _).alloc yL _).trans (HB.o.mono yS)⟩
structure zam where
 kind : Int
 i : Int
 j : Int
 k : Int
 part : List zaa
 map : ByteArray
def zbq (k : Int) : Bool := decide (2 <= k)
def zbu (k : Int) : Bool := k == 3 || k == 4 || k == 6
def ze0 (w : World) (B : Nat) (v : Value) (e : zam) : Prop := ∃ vR, v = .agg #[.int .i64 e.kind, .int .i64 e.i, .int .i64 e.j, .int .i64 e.k, vR, .string e.map] /\ Sl zar w B vR e.part
theorem ze0.below {w w' : World} {B : Nat} {v : Value} {e : zam} (h : ze0 w B v e) (hb : Below B w w') : ze0 w' B v e := by
 obtain ⟨vR, rfl, h1⟩ := h; exact ⟨vR, rfl, h1.below hb⟩
theorem ze0.le {w : World} {B B' : Nat} {v : Value} {e : zam} (h : ze0 w B v e) (hb : B <= B') : ze0 w B' v e := by
 obtain ⟨vR, rfl, h1⟩ := h; exact ⟨vR, rfl, h1.le hb⟩
theorem ze0.up {w0 w : World} {v : Value} {e : zam} (h : ze0 w0 w0.heap.size v e) (hb : Below w0.heap.size w0 w) : ze0 w w.heap.size v e := (h.below hb).le hb.size
def zaK (n : Int) (told : Bool) : Bool := if told then inR n 0 1000000000000000 else n == 0
def zat (e : zam) : Bool :=
 inR e.kind 1 7 && inR e.i 0 1000000000000000 && zaK e.j (zbq e.kind) && zaK e.k (zbu e.kind) && !(zbq e.kind && decide (e.j < e.i)) &&
  (decide (0 < e.part.length) == (e.kind == 1)) && zag e.part && (if e.kind == 7 then e.map.size == 4 && zaB e.map else e.map.size == 0)
def zbp (e : zam) (n : Int) : Bool :=
 if e.kind = 1 then decide (e.i <= n) else if e.kind = 3 then decide (e.j <= n) && decide (e.k <= n) else if e.kind = 4 then decide (e.j <= n) && (decide (e.k <= e.i) || (decide (e.j <= e.k) && decide (e.k <= n))) else decide (e.j <= n)
def znI (w : World) (b : Nat) (c0 c1 c2 c3 c4 c5 : Value) : Prop := w.cell? ⟨b, 0, none⟩ = some c0 /\ w.cell? ⟨b, 1, none⟩ = some c1 /\ w.cell? ⟨b, 2, none⟩ = some c2 /\ w.cell? ⟨b, 3, none⟩ = some c3 /\ w.cell? ⟨b, 4, none⟩ = some c4 /\ w.cell? ⟨b, 5, none⟩ = some c5
theorem znI.up {w w' : World} {b N : Nat} {c0 c1 c2 c3 c4 c5 : Value} (h : znI w b c0 c1 c2 c3 c4 c5) (hb : Below N w w') (hlt : b < N) : znI w' b c0 c1 c2 c3 c4 c5 := by
 obtain ⟨h0, h1, h2, h3, h4, h5⟩ := h; have k : ∀ {o : Nat} {v : Value}, w.cell? ⟨b, o, none⟩ = some v -> w'.cell? ⟨b, o, none⟩ = some v := fun {o v} hc => (hb.cell (p := ⟨b, o, none⟩) hlt).trans hc; exact ⟨k h0, k h1, k h2, k h3, k h4, k h5⟩
theorem znI.new {w w' : World} {c0 c1 c2 c3 c4 c5 : Value} {t : TypeId} (hb : Below (w.alloc (.cells #[c0, c1, c2, c3, c4, c5] t)).heap.size (w.alloc (.cells #[c0, c1, c2, c3, c4, c5] t)) w') : znI w' w.heap.size c0 c1 c2 c3 c4 c5 :=
 znI.up (w := w.alloc (.cells #[c0, c1, c2, c3, c4, c5] t)) ⟨by simp [go_sem], by simp [go_sem], by simp [go_sem], by simp [go_sem], by simp [go_sem], by simp [go_sem]⟩ hb yS
theorem zeo {k : Int} (h : inR k 1 7 = true) : k = 1 \/ k = 2 \/ k = 3 \/ k = 4 \/ k = 5 \/ k = 6 \/ k = 7 := by
 have : 1 <= k /\ k <= 7 := by simpa [inR] using h
 omega
theorem zi8 {n : Int} {b : Bool} (h : zaK n b = true) : 0 <= n /\ n <= 1000000000000000 := by
 cases b
 · have : n = 0 := by simpa [zaK] using h
   omega
 · simpa [zaK, inR] using h
theorem zcI {e : zam} (h : zat e = true) : inR e.kind 1 7 = true /\ (0 <= e.i /\ e.i <= 1000000000000000) /\ (0 <= e.j /\ e.j <= 1000000000000000) /\ (0 <= e.k /\ e.k <= 1000000000000000) /\ (2 <= e.kind -> e.i <= e.j) /\ (e.kind = 1 -> e.j = 0) /\ zag e.part = true := by
 simp only [zat, Bool.and_eq_true, Bool.not_eq_true'] at h
 obtain ⟨⟨⟨⟨⟨⟨⟨h1, h2⟩, h3⟩, h4⟩, h5⟩, h6⟩, h7⟩, h8⟩ := h; refine ⟨h1, by simpa [inR] using h2, zi8 h3, zi8 h4, ?_, ?_, h7⟩
 · intro hk
   simp [zbq] at h5
   have := h5 hk; omega
 · intro hk
   rw [hk] at h3; simpa [zaK, zbq] using h3
def zcy (xs : List zaa) (ls : List Int) : Nat -> Nat -> Int -> Int -> List Nat
 | 0, _, _, _ => []
 | f + 1, r, i, j =>
   if j <= i then [] else if i = 0 /\ j = ls.getD r 0 then [r] else
    zcy xs ls f (zaA xs r).left.toNat i (min j (ls.getD (zaA xs r).left.toNat 0)) ++ zcy xs ls f (zaA xs r).right.toNat (max (i - ls.getD (zaA xs r).left.toNat 0) 0) (j - ls.getD (zaA xs r).left.toNat 0)
theorem zmi {xs : List zaa} {ls : List Int} (hl : zaW xs = some ls) {i j : Int} (hij : i < j) : ∀ (f r : Nat) (p : Int), r < f -> r < xs.length ->
  zcy xs ls f r (max (i - p) 0) (min (j - p) (ls.getD r 0)) = zbr xs ls i j f r p := by
 intro f
 induction f with
 | zero => intro r p hr; omega
 | succ f ih =>
   intro r p hr hx; have h1 := zaO hl hx; rw [zcy, zbr]; by_cases c1 : p + ls.getD r 0 <= i \/ j <= p
   · rw [if_pos c1, if_pos yO]
   rw [if_neg c1, if_neg yO]; by_cases c2 : i <= p /\ p + ls.getD r 0 <= j
   · rw [if_pos c2, if_pos yO]
   rw [if_neg c2, if_neg yO]; cases hpair : (zaA xs r).pair with
   | false => have := zbL hl hx hpair; omega
   | true =>
     obtain ⟨q1, q2, q3, q4, q5⟩ := zbi hl hx hpair; have hL := zaO hl (r := (zaA xs r).left.toNat) yO; have hR := zaO hl (r := (zaA xs r).right.toNat) yO; have e1 := ih (zaA xs r).left.toNat p yO yO; have e2 := ih (zaA xs r).right.toNat (p + ls.getD (zaA xs r).left.toNat 0) yO yO; rw [<- e1, <- e2]; congr 1
     · congr 1; omega
     · congr 1 <;> omega
theorem zi9 {xs : List zaa} {ls : List Int} (hl : zaW xs = some ls) {i j : Int} (hi : 0 <= i) (hij : i < j) (hj : j <= zao ls) (h0 : 0 < xs.length) : za3 xs ls i j = zcy xs ls xs.length (xs.length - 1) i j := by
 have hll := zaG hl; have e : zao ls = ls.getD (xs.length - 1) 0 := by rw [zao, hll]
 have := zmi hl hij xs.length (xs.length - 1) 0 yO yO; rw [za3, if_pos ⟨h0, hij⟩, <- this]; congr 1 <;> omega
theorem zmj {xs : List zaa} {ls : List Int} (hl : zaW xs = some ls) {i j : Int} : ∀ (f r : Nat) (p : Int), r < f -> r < xs.length -> ∀ x ∈ zbr xs ls i j f r p, x < xs.length := by
 intro f
 induction f with
 | zero => intro r p hr; omega
 | succ f ih =>
   intro r p hr hx y hy; rw [zbr] at hy; have h1 := zaO hl hx; split at hy
   · simp at hy
   split at hy
   · simp at hy; omega
   rename_i c1 c2
   cases hpair : (zaA xs r).pair with
   | false => have := zbL hl hx hpair; omega
   | true =>
     obtain ⟨q1, q2, q3, q4, q5⟩ := zbi hl hx hpair; rcases List.mem_append.1 hy with hy | hy
     · exact ih _ _ yO yO y hy
     · exact ih _ _ yO yO y hy
theorem zja {xs : List zaa} {ls : List Int} (hl : zaW xs = some ls) {i j : Int} : ∀ (f r : Nat) (p : Int), r < f -> r < xs.length -> (i <= p \/ p + ls.getD r 0 <= j) -> (zbr xs ls i j f r p).length <= r + 1 := by
 intro f
 induction f with
 | zero => intro r p hr; omega
 | succ f ih =>
   intro r p hr hx ho; rw [zbr]; have h1 := zaO hl hx; split
   · simp
   split
   · simp
   rename_i c1 c2
   cases hpair : (zaA xs r).pair with
   | false => have := zbL hl hx hpair; omega
   | true =>
     obtain ⟨q1, q2, q3, q4, q5⟩ := zbi hl hx hpair; have hL := zaO hl (r := (zaA xs r).left.toNat) yO; have hR := zaO hl (r := (zaA xs r).right.toNat) yO; obtain ⟨g, rfl⟩ : ∃ g, f = g + 1 := ⟨f - 1, by omega⟩
     rw [List.length_append]; rcases ho with ho | ho
     · by_cases c3 : p + ls.getD (zaA xs r).left.toNat 0 <= j
       · have e1 : (zbr xs ls i j (g + 1) (zaA xs r).left.toNat p).length = 1 := by rw [zbr, if_neg yO, if_pos yO]; rfl
         have e2 := ih (zaA xs r).right.toNat (p + ls.getD (zaA xs r).left.toNat 0) yO yO (.inl yO); omega
       · have e2 : (zbr xs ls i j (g + 1) (zaA xs r).right.toNat (p + ls.getD (zaA xs r).left.toNat 0)).length = 0 := by rw [zbr, if_pos yO]; rfl
         have e1 := ih (zaA xs r).left.toNat p yO yO (.inl ho); omega
     · by_cases c3 : i <= p + ls.getD (zaA xs r).left.toNat 0
       · have e2 : (zbr xs ls i j (g + 1) (zaA xs r).right.toNat (p + ls.getD (zaA xs r).left.toNat 0)).length <= 1 := by
          rw [zbr]; split
          · simp
          rw [if_pos yO]; simp
         have e1 := ih (zaA xs r).left.toNat p yO yO (.inr yO); omega
       · have e1 : (zbr xs ls i j (g + 1) (zaA xs r).left.toNat p).length = 0 := by rw [zbr, if_pos yO]; rfl
         have e2 := ih (zaA xs r).right.toNat (p + ls.getD (zaA xs r).left.toNat 0) yO yO (.inr yO); omega
theorem zmk {xs : List zaa} {ls : List Int} (hl : zaW xs = some ls) {i j : Int} : ∀ (f r : Nat) (p : Int), r < f -> r < xs.length -> (zbr xs ls i j f r p).length <= 2 * (r + 1) := by
 intro f
 induction f with
 | zero => intro r p hr; omega
 | succ f ih =>
   intro r p hr hx; rw [zbr]; have h1 := zaO hl hx; split
   · simp
   split
   · simp; omega
   rename_i c1 c2
   cases hpair : (zaA xs r).pair with
   | false => have := zbL hl hx hpair; omega
   | true =>
     obtain ⟨q1, q2, q3, q4, q5⟩ := zbi hl hx hpair; have hL := zaO hl (r := (zaA xs r).left.toNat) yO; have hR := zaO hl (r := (zaA xs r).right.toNat) yO; obtain ⟨g, rfl⟩ : ∃ g, f = g + 1 := ⟨f - 1, by omega⟩
     rw [List.length_append]; by_cases c3 : j <= p + ls.getD (zaA xs r).left.toNat 0
     · have e2 : (zbr xs ls i j (g + 1) (zaA xs r).right.toNat (p + ls.getD (zaA xs r).left.toNat 0)).length = 0 := by rw [zbr, if_pos yO]; rfl
       have e1 := ih (zaA xs r).left.toNat p yO yO; omega
     · by_cases c4 : p + ls.getD (zaA xs r).left.toNat 0 <= i
       · have e1 : (zbr xs ls i j (g + 1) (zaA xs r).left.toNat p).length = 0 := by rw [zbr, if_pos yO]; rfl
         have e2 := ih (zaA xs r).right.toNat (p + ls.getD (zaA xs r).left.toNat 0) yO yO; omega
       · have e1 := zja hl (i := i) (j := j) (g + 1) (zaA xs r).left.toNat p yO yO (.inr yO)
         have e2 := zja hl (i := i) (j := j) (g + 1) (zaA xs r).right.toNat (p + ls.getD (zaA xs r).left.toNat 0) yO yO (.inl yO); omega
theorem zml {xs : List zaa} {ls : List Int} (hl : zaW xs = some ls) {i j : Int} (hij : i < j) : ∀ (f r : Nat) (p : Int), r < f -> r < xs.length -> i < p + ls.getD r 0 -> p < j -> 0 < (zbr xs ls i j f r p).length := by
 intro f
 induction f with
 | zero => intro r p hr; omega
 | succ f ih =>
   intro r p hr hx ha hb; rw [zbr, if_neg yO]; have h1 := zaO hl hx; split
   · simp
   rename_i c2
   cases hpair : (zaA xs r).pair with
   | false => have := zbL hl hx hpair; omega
   | true =>
     obtain ⟨q1, q2, q3, q4, q5⟩ := zbi hl hx hpair; have hL := zaO hl (r := (zaA xs r).left.toNat) yO; have hR := zaO hl (r := (zaA xs r).right.toNat) yO; rw [List.length_append]; by_cases c3 : i < p + ls.getD (zaA xs r).left.toNat 0
     · have := ih (zaA xs r).left.toNat p yO yO c3 hb
       omega
     · have := ih (zaA xs r).right.toNat (p + ls.getD (zaA xs r).left.toNat 0) yO yO yO yO
       omega
def zbv (p : List zaa × Int) (c : Nat) : List zaa × Int := (p.1 ++ [zaP p.2 c], (p.1.length : Int))
def zjb (xs : List zaa) : List Nat -> List zaa
 | [] => []
 | [c] => xs.take (c + 1)
 | c :: d :: cs => ((d :: cs).foldl zbv (xs, (c : Int))).1
def zap (xs : List zaa) (ls : List Int) (i j : Int) : List zaa := zaQ (zjb xs (za3 xs ls i j))
theorem zmm {m : Nat} : ∀ (cs : List Nat) (p : List zaa × Int), (∀ c ∈ cs, c < m) -> m <= p.1.length -> za2 p.1 -> 0 <= p.2 /\ p.2 < p.1.length -> za2 (cs.foldl zbv p).1 /\ (cs.foldl zbv p).1.length = p.1.length + cs.length
 | [], p, _, _, h, _ => ⟨h, rfl⟩
 | c :: cs, p, hc, hm, h, hp => by
   have hcm := hc c yS; have := zmm cs (zbv p c) (fun d hd => hc d (by simp [hd])) (by simp [zbv]; omega) (h.snoc (zco hp ⟨by omega, by omega⟩)) (by simp [zbv]; omega); refine ⟨this.1, ?_⟩
   rw [List.foldl_cons, this.2]; simp [zbv]; omega
theorem zdJ {xs : List zaa} (h : za2 xs) (n : Nat) : za2 (xs.take n) := fun k r hk => by
 rw [List.getElem?_take] at hk
 split at hk
 · exact h k r hk
 · cases hk
theorem zjY {xs : List zaa} (h : za2 xs) (cs : List Nat) (hc : ∀ c ∈ cs, c < xs.length) : za2 (zjb xs cs) /\ (zjb xs cs).length <= xs.length + cs.length := by
 match cs with
 | [] => exact ⟨fun k r hk => by simp [zjb] at hk, by simp [zjb]⟩
 | [c] => exact ⟨zdJ h _, by simp [zjb]; omega⟩
 | c :: d :: cs =>
   have := zmm (d :: cs) (xs, (c : Int)) (fun x hx => hc x (by simp at hx; simp; exact .inr hx)) yL h (by have := hc c yS; simp; omega); refine ⟨this.1, ?_⟩
   have e : (zjb xs (c :: d :: cs)).length = xs.length + (d :: cs).length := this.2; rw [e]; simp
theorem zeN {xs : List zaa} {ls : List Int} (hl : zaW xs = some ls) (i j : Int) : (za3 xs ls i j).length <= 2 * xs.length := by
 unfold za3; split
 · rename_i h
   have := zmk hl (i := i) (j := j) xs.length (xs.length - 1) 0 yO yO; omega
 · simp
theorem zdK {xs : List zaa} {ls : List Int} (hl : zaW xs = some ls) (i j : Int) : ∀ x ∈ za3 xs ls i j, x < xs.length := by
 unfold za3; split
 · rename_i h
   exact zmj hl xs.length (xs.length - 1) 0 yO yO
 · simp
theorem zlh {xs : List zaa} {ls : List Int} (hl : zaW xs = some ls) {i j : Int} (hi : 0 <= i) (hij : i < j) (hj : j <= zao ls) (h0 : 0 < xs.length) : 0 < (za3 xs ls i j).length := by
 have hll := zaG hl; have e : zao ls = ls.getD (xs.length - 1) 0 := by rw [zao, hll]
 rw [za3, if_pos ⟨h0, hij⟩]; exact zml hl hij xs.length (xs.length - 1) 0 yO yO yO yO
theorem zjc {xs : List zaa} {ls : List Int} (hl : zaW xs = some ls) (i j : Int) : (zap xs ls i j).length <= 3 * xs.length := by
 have h1 := zfs (zjb xs (za3 xs ls i j)); have h2 := (zjY (zaz hl) _ (zdK hl i j)).2; have h3 := zeN hl i j; unfold zap; omega
end Go.Proofs.YtejgbfgocaggfaaGreatDoor
