import Derived.Test.YtdacndamehiglaaGreatDoorM4
namespace Go.Proofs.YtdacndamehiglaaGreatDoor
open Go.RowKit
set_option maxRecDepth 100000 in
set_option maxHeartbeats 4000000 in
theorem trimmed_any (v : Value) (xs : List GRule) (w : World) (h : Sl RuleE w w.heap.size v xs) (hn : xs.length ≤ 4194304) (hok : OkAll xs) :
    Calls Tryz.prog 103 #[.agg #[v]] w (GOwn (trimG xs) w) := by
  obtain ⟨A, c, rfl, hc, hm, hrow⟩ := h
  have Hok := Lib.hid hok
  clear hm hok
  have hmm := @run_makeMap Tryz.prog
  by_cases h0 : xs.length = 0
  · have hx : xs = [] := List.eq_nil_of_length_eq_zero h0
    subst hx
    clear h0
    go_enter Tryz.func103, Tryz.ntmps103
    go_wp2_with fail
    refine bodyPost_ret (v := .agg #[.slice none 0 0]) (by simp [results, Tryz.results103, go_sem]) rfl ⟨(by repeat (first | exact Below.refl _ _ | (refine Below.alloc ?_ (by first | omega | (simp; done) | (simp; omega)) _) | refine below_drewN ?_ _ | refine Below.drew ?_)), _, by exact World.ownsRow_nil _ _ _ _, rfl⟩
  · have g1 : ((xs.length : Int) == 0) = false := by rw [beq_eq_false_iff_ne]; omega
    have hn1 : 1 ≤ xs.length := by omega
    clear h0
    go_enter Tryz.func103, Tryz.ntmps103
    go_wp2_with fail
    have hs0 : ((((((w.alloc (Obj.cells #[Value.slice A xs.length c] 26)).alloc (Obj.cells #[Value.slice none 0 0] 26)).alloc (Obj.cells #[] 112)).alloc (.map #[] 0)).alloc (Obj.cells #[] 2))).heap.size = w.heap.size + 5 := by simp
    go_loopw [4, 6, 30] (fun a s i wr => ∃ k : Nat, k ≤ xs.length ∧ i = .int .i64 k ∧ Below (w.heap.size + 2) ((w.alloc (Obj.cells #[Value.slice A xs.length c] 26)).alloc (Obj.cells #[Value.slice none 0 0] 26)) wr ∧
      OwnRules wr (w.heap.size + 2) a (canon (xs.take k)).1 ∧ OwnInts wr (w.heap.size + 2) s (canon (xs.take k)).2 ∧ RMap wr (w.heap.size + 3) (canon (xs.take k)).1) (fun _ _ i _ => xs.length - (intOf i).toNat)
    case atStart =>
      refine ⟨0, Nat.zero_le _, rfl, (by repeat (first | exact Below.refl _ _ | (refine Below.alloc ?_ (by first | omega | (simp; done) | (simp; omega)) _) | refine below_drewN ?_ _ | refine Below.drew ?_)), ?_, ?_, ?_⟩
      · exact ((OwnRules.empty (N := w.heap.size + 2) (by simp) (by simp)).alloc _).alloc _
      · exact OwnInts.empty (by simp) (by simp)
      · have := RMap.made (((w.alloc (Obj.cells #[Value.slice A xs.length c] 26)).alloc (Obj.cells #[Value.slice none 0 0] 26)).alloc (Obj.cells #[] 112))
        have h2 := this.alloc (Obj.cells #[] 2)
        have e : (((w.alloc (Obj.cells #[Value.slice A xs.length c] 26)).alloc (Obj.cells #[Value.slice none 0 0] 26)).alloc (Obj.cells #[] 112)).heap.size = w.heap.size + 3 := by simp
        rw [e] at h2
        exact h2
    case round =>
      obtain ⟨k, hk, rfl, hb, hown, hint, hmap⟩ := hrel
      have hwz : w.heap.size + 2 ≤ wr.heap.size := by have := hb.size; simpa using this
      have hco := canon_ok Hok.out k hk
      have HB := Lib.hid hb
      have HO := Lib.hid hown
      have HI := Lib.hid hint
      have HMp := Lib.hid hmap
      have HCo := Lib.hid hco
      by_cases hlt : k < xs.length
      · obtain ⟨b, o, rfl, hbl, hcell⟩ := hrow.rule hlt
        obtain ⟨r, hr⟩ : ∃ r, xs[k]? = some r := ⟨_, List.getElem?_eq_getElem hlt⟩
        obtain ⟨q0, q1, q2⟩ := hcell k r hr
        have p0 : wr.cell? ⟨b, o + k * 3, none⟩ = some (.string r.letter) := (hb.cell (p := ⟨b, o + k * 3, none⟩) (by show b < _; omega)).trans (by simp [go_sem, hbl, Nat.lt_succ_of_lt hbl, q0])
        have p1 : wr.cell? ⟨b, o + k * 3 + 1, none⟩ = some (.int .i64 r.left) := (hb.cell (p := ⟨b, o + k * 3 + 1, none⟩) (by show b < _; omega)).trans (by simp [go_sem, hbl, Nat.lt_succ_of_lt hbl, q1])
        have p2 : wr.cell? ⟨b, o + k * 3 + 2, none⟩ = some (.int .i64 r.right) := (hb.cell (p := ⟨b, o + k * 3 + 2, none⟩) (by show b < _; omega)).trans (by simp [go_sem, hbl, Nat.lt_succ_of_lt hbl, q2])
        have hi : (k : Int) < (xs.length : Int) := by omega
        have hbz : b < wr.heap.size := by omega
        have hor := Hok.out k r hr
        have Hr := Lib.hid hr
        have Hor := Lib.hid hor
        clear hcell hr q0 q1 q2 hb hown hint hmap hor hco hrow
        go_wp2_with fail
        refine (isPair_any _ _ _ _).mono ?_
        rintro e w1 ⟨rfl, rfl⟩
        go_upto_if 36 with fail
        obtain ⟨K, hK⟩ : ∃ K, (canon (xs.take k)).1 = K := ⟨_, rfl⟩
        obtain ⟨S, hS⟩ : ∃ S, (canon (xs.take k)).2 = S := ⟨_, rfl⟩
        have hKl : K.length = k := by rw [← hK]; exact HCo.out.l1
        have hSl : S.length = k := by rw [← hS]; exact HCo.out.l2
        have hlow : ∀ i, i < k → 0 ≤ S.getD i 0 ∧ S.getD i 0 ≤ i := by rw [← hS]; exact HCo.out.low
        have hKo : OkAll K := by rw [← hK]; exact HCo.out.ok
        rw [hK] at HO HMp
        rw [hS] at HI
        have hnx : canon (xs.take (k + 1)) = (K ++ [trimR S r], S ++ [((K.idxOf (trimR S r) : Nat) : Int)]) := by rw [canon_snoc Hr.out, trimStep, hK, hS]
        have Hnx := Lib.hid hnx
        obtain ⟨X, hX⟩ : ∃ X, trimR S r = X := ⟨_, rfl⟩
        have hXo : okRule k X = true := by
          have := (canon_ok Hok.out (k + 1) (by omega)).ok
          rw [hnx] at this
          have h9 := this k (trimR S r) (by simp [hKl])
          rw [← hX]; exact h9
        have HX := Lib.hid hX
        have HXo := Lib.hid hXo
        have HK := Lib.hid hK
        have HKo := Lib.hid hKo
        rw [hX] at Hnx
        clear hK hS hnx hX hXo hKo HCo
        have HKl := Lib.hid hKl
        have HSl := Lib.hid hSl
        have Hlow := Lib.hid hlow
        clear hKl hSl hlow
        go_cut [] from 34 to 47 (fun wx => Below wr.heap.size wr wx ∧ Cells3 wx wr.heap.size X)
        case first =>
          by_cases hp : r.letter.toList.isEmpty = true
          · rw [hp]
            have hpr : r.pair = true := by rw [isEmpty_size] at hp; exact hp
            obtain ⟨e1, e2, e3, e4⟩ := okRule_at Hor.out hpr
            obtain ⟨la, hla⟩ := Int.eq_ofNat_of_zero_le e1
            obtain ⟨ra, hra⟩ := Int.eq_ofNat_of_zero_le e3
            rw [hla] at e2
            rw [hra] at e4
            simp only [Int.toNat_natCast] at e2 e4
            have i1 : (la : Int) < (S.length : Int) := by have := HSl.out; omega
            have i2 : (ra : Int) < (S.length : Int) := by have := HSl.out; omega
            obtain ⟨g, cap, rfl, hg1, hg2, hg3, hgc⟩ := OwnInts.at_ HI.out (j := 0) (by omega)
            have w1 := hgc la (by omega)
            have w2 := hgc ra (by omega)
            obtain ⟨va, hva⟩ : ∃ x, S.getD la 0 = x := ⟨_, rfl⟩
            obtain ⟨vb, hvb⟩ : ∃ x, S.getD ra 0 = x := ⟨_, rfl⟩
            rw [hva] at w1
            rw [hvb] at w2
            have hX2 : X = pairR va vb := by rw [← HX.out, trimR_pair hpr, hla, hra, ← hva, ← hvb]; rfl
            have HX2 := Lib.hid hX2
            rw [hla, hra]
            have hcap : S.length ≤ cap := hg3
            clear hX2 hgc hpr e1 e3 hg3 hva hvb
            have y1 : g < wr.heap.size := hg2
            have B3 : Below wr.heap.size wr ((wr.alloc (Obj.cells #[Value.string r.letter, Value.int IntKind.i64 la, Value.int IntKind.i64 ra] 112)).alloc (Obj.cells #[Value.string r.letter, Value.int IntKind.i64 la, Value.int IntKind.i64 ra] 112)) := (by repeat (first | exact Below.refl _ _ | (refine Below.alloc ?_ (by first | omega | (simp; done) | (simp; omega)) _) | refine below_drewN ?_ _ | refine Below.drew ?_))
            have e0 : ((wr.alloc (Obj.cells #[Value.string r.letter, Value.int IntKind.i64 la, Value.int IntKind.i64 ra] 112)).alloc (Obj.cells #[Value.string r.letter, Value.int IntKind.i64 la, Value.int IntKind.i64 ra] 112)).heap[wr.heap.size]? = some (Obj.cells #[Value.string r.letter, Value.int IntKind.i64 la, Value.int IntKind.i64 ra] 112 (0, 0)) := ((Below.refl _ _).alloc (Nat.le_refl _) _).block wr.heap.size (by simp) |>.trans (alloc_heap_last _ _)
            generalize (wr.alloc (Obj.cells #[Value.string r.letter, Value.int IntKind.i64 la, Value.int IntKind.i64 ra] 112)).alloc (Obj.cells #[Value.string r.letter, Value.int IntKind.i64 la, Value.int IntKind.i64 ra] 112) = W3 at *
            have l0 : wr.heap.size < W3.heap.size := (Array.getElem?_eq_some_iff.1 e0).1
            have c0 : W3.cell? ⟨wr.heap.size, 0, none⟩ = some (.string r.letter) := by simp [World.cell?, e0]
            have c1 : W3.cell? ⟨wr.heap.size, 1, none⟩ = some (.int .i64 la) := by simp [World.cell?, e0]
            have c2 : W3.cell? ⟨wr.heap.size, 2, none⟩ = some (.int .i64 ra) := by simp [World.cell?, e0]
            have f0 : ∀ o, W3.frozen? ⟨wr.heap.size, o, none⟩ = false := fun o => by simp [World.frozen?, e0]
            have w3 := (B3.cell (p := ⟨g, la, none⟩) y1).trans w1
            have w4 := (B3.cell (p := ⟨g, ra, none⟩) y1).trans w2
            have BB3 := Lib.hid B3
            clear B3 e0 w1 w2
            go_wp2_with fail
            go_still_tail 10, (by kernel_rfl)
            change wpList _ _ _ _ _ W3.drew
            go_wp2_with fail
            refine (pairI64_any _ _ _).mono ?_
            rintro e w5 ⟨rfl, hb5⟩
            have z5 : W3.heap.size ≤ w5.heap.size := hb5.size
            have l5 : wr.heap.size < w5.heap.size := by omega
            have d0 : w5.cell? ⟨wr.heap.size, 0, none⟩ = some (.string r.letter) := (hb5.cell (p := ⟨wr.heap.size, 0, none⟩) l0).trans c0
            have d1 : w5.cell? ⟨wr.heap.size, 1, none⟩ = some (.int .i64 la) := (hb5.cell (p := ⟨wr.heap.size, 1, none⟩) l0).trans c1
            have d2 : w5.cell? ⟨wr.heap.size, 2, none⟩ = some (.int .i64 ra) := (hb5.cell (p := ⟨wr.heap.size, 2, none⟩) l0).trans c2
            have g5 : ∀ o, w5.frozen? ⟨wr.heap.size, o, none⟩ = false := fun o => (hb5.frozen (p := ⟨wr.heap.size, o, none⟩) l0).trans (f0 o)
            have B5 := Lib.hid ((Below.drew BB3.out).trans (hb5.mono (Nat.le_of_lt l0)))
            clear c0 c1 c2 f0 w3 w4 hb5
            go_wp2_with fail
            go_meet
            rw [HX2.out]
            exact ⟨((B5.out.setCell (Nat.le_refl _) _).setCell (Nat.le_refl _) _).setCell (Nat.le_refl _) _, by simp [go_sem, pairR, d0], by simp [go_sem, pairR, d1], by simp [go_sem, pairR, d2], by simp; omega⟩
          · have hpr : r.pair = false := by rw [isEmpty_size] at hp; simpa [GRule.pair] using hp
            have hX2 : X = r := by rw [← HX.out, trimR_let hpr]
            have HX2 := Lib.hid hX2
            have hp2 : r.letter.toList.isEmpty = false := by simpa using hp
            rw [hp2]
            clear hX2 hpr hp
            go_wp2_with fail
            go_meet
            rw [HX2.out]
            exact ⟨(by repeat (first | exact Below.refl _ _ | (refine Below.alloc ?_ (by first | omega | (simp; done) | (simp; omega)) _) | refine below_drewN ?_ _ | refine Below.drew ?_)), by simp [go_sem], by simp [go_sem], by simp [go_sem], by simp; omega⟩
        case rest =>
          revert hcut
          generalize wc = w1
          intro hcut
          obtain ⟨hb1, hx1⟩ := hcut
          have z1 : wr.heap.size ≤ w1.heap.size := hb1.size
          have HO1 := Lib.hid (OwnRules.below HO.out hb1)
          have HI1 : Hid (OwnInts w1 (w.heap.size + 2) u6 S) := ownsRow_below HI.out hb1
          have HM1 := Lib.hid (HMp.out.below hb1 HMp.out.lt)
          have B1 := Lib.hid (HB.out.trans (hb1.mono hwz))
          have HX1 := Lib.hid hx1
          obtain ⟨c0, c1, c2, lx⟩ := hx1
          have hkx := Lib.hid (okRule_key HXo.out (by omega))
          obtain ⟨d, hd⟩ : ∃ d, decide (X ∈ K) = d := ⟨_, rfl⟩
          obtain ⟨q, hq⟩ : ∃ q : Int, (if X ∈ K then ((K.idxOf X : Nat) : Int) else 0) = q := ⟨_, rfl⟩
          have hlk : (Instr.lookup 174 (.map (some (w.heap.size + 1 + 1 + 1))) (.agg #[.string X.letter, .int .i64 X.left, .int .i64 X.right]) true).run Tryz.prog w1 = .ok (.tuple #[.int .i64 q, .bool d]) w1 := by
            rw [← hd, ← hq]
            by_cases h : X ∈ K
            · rw [if_pos h, decide_eq_true h]; exact HM1.out.yes hkx.out h true
            · rw [if_neg h, decide_eq_false h]; exact HM1.out.no hkx.out h true
          have Hd := Lib.hid hd
          clear hb1 hd hq p0 p1 p2
          go_upto_if 55 with fail
          go_cut [] from 48 to 58 (fun wx => RMap wx (w.heap.size + 3) (K ++ [X]) ∧ w1.grownBy wx (some (w.heap.size + 3)))
          case first =>
            cases d
            · have hmem : ¬ X ∈ K := by have := Hd.out; simpa using this
              obtain ⟨w2, hrun, hm2, hg2⟩ := HM1.out.put hkx.out hmem
              rw [HKl.out] at hrun
              have hrun2 : (Instr.mapUpdate 174 (.map (some (w.heap.size + 1 + 1 + 1))) (.agg #[.string X.letter, .int .i64 X.left, .int .i64 X.right]) (.int .i64 (k : Nat))).run Tryz.prog w1 = .ok () w2 := hrun
              have HM2 := Lib.hid hm2
              have HG2 := Lib.hid hg2
              clear hrun hm2 hg2
              go_wp2_with fail
              go_meet
              exact ⟨HM2.out, HG2.out⟩
            · have hmem : X ∈ K := by have := Hd.out; simpa using this
              have HMm := Lib.hid hmem
              clear hmem
              go_wp2_with fail
              go_meet
              exact ⟨HM1.out.same HMm.out, World.grownBy.refl _ _⟩
          case rest =>
            revert hcut
            generalize wc = w2
            intro hcut
            obtain ⟨hm2, hg2⟩ := hcut
            have B2 : Below (w.heap.size + 2) ((w.alloc (Obj.cells #[Value.slice (some ⟨b, o, none⟩) xs.length c] 26)).alloc (Obj.cells #[Value.slice none 0 0] 26)) w2 := B1.out.grown hg2 (by omega) (fun g hg => by have : w.heap.size + 3 = g := Option.some.inj hg; omega)
            have hxm : X ∈ K ++ [X] := by simp
            have T0 : Hid (T3 ((w.alloc (Obj.cells #[Value.slice (some ⟨b, o, none⟩) xs.length c] 26)).alloc (Obj.cells #[Value.slice none 0 0] 26)) (w.heap.size + 2) (w.heap.size + 3) wr.heap.size X (K ++ [X]) w2 u4 K u6 S) :=
              ⟨B2, own_keep HO1.out fun g hg => hg2.block g (World.ownsRow.lt HO1.out g hg).2 (fun e => rmap_apart HM1.out HO1.out (e ▸ hg).symm), own_keep HI1.out fun g hg => hg2.block g (World.ownsRow.lt HI1.out g hg).2 (fun e => rmap_apart HM1.out HI1.out (e ▸ hg).symm),
                hm2, HX1.out.kept hg2 (fun e => by have h1 := HMp.out.lt; have h2 : wr.heap.size = w.heap.size + 3 := Option.some.inj e; omega), own_far HO.out (Nat.le_refl _), own_far HI.out (Nat.le_refl _), Nat.le_trans (by omega) hg2.size⟩
            obtain ⟨A4, c4, rfl, _⟩ := own_nil T0.out.rows
            obtain ⟨A6, c6, rfl, _⟩ := own_nil T0.out.ints
            have hq : ((K ++ [X]).idxOf X : Nat) = K.idxOf X := by
              rw [List.idxOf_append]
              split
              · rfl
              · rename_i h; rw [List.idxOf_eq_length h]; simp
            obtain ⟨z, hz⟩ : ∃ z : Nat, (K ++ [X]).idxOf X = z := ⟨_, rfl⟩
            have Hz := Lib.hid (hq.symm.trans hz)
            have hl0 : (Instr.lookup 174 (.map (some (w.heap.size + 1 + 1 + 1))) (.agg #[.string X.letter, .int .i64 X.left, .int .i64 X.right]) false).run Tryz.prog w2.drew = .ok (.int .i64 (z : Nat)) w2.drew := by rw [← hz]; exact T0.out.drew.look hkx.out hxm
            have hl1 : ∀ o, (Instr.lookup 174 (.map (some (w.heap.size + 1 + 1 + 1))) (.agg #[.string X.letter, .int .i64 X.left, .int .i64 X.right]) false).run Tryz.prog (w2.alloc o).drew = .ok (.int .i64 (z : Nat)) (w2.alloc o).drew := fun o => by rw [← hz]; exact (T0.out.alloc o).drew.look hkx.out hxm
            have hl2 : ∀ W v L, T3 ((w.alloc (Obj.cells #[Value.slice (some ⟨b, o, none⟩) xs.length c] 26)).alloc (Obj.cells #[Value.slice none 0 0] 26)) (w.heap.size + 2) (w.heap.size + 3) wr.heap.size X (K ++ [X]) W v L (.slice A6 S.length c6) S → (Instr.lookup 174 (.map (some (w.heap.size + 1 + 1 + 1))) (.agg #[.string X.letter, .int .i64 X.left, .int .i64 X.right]) false).run Tryz.prog W = .ok (.int .i64 (z : Nat)) W := fun W v L T => by rw [← hz]; exact T.look hkx.out hxm
            have HL2 := Lib.hid hl2
            obtain ⟨c0, c1, c2, lx⟩ := T0.out.box
            have T1 := Lib.hid T0.out.drew
            have nR := Lib.hid (fun N (h : w2.heap.size ≤ N) => own_far (N := N) T0.out.rows h)
            have nI := Lib.hid (fun N (h : w2.heap.size ≤ N) => own_far (N := N) T0.out.ints h)
            have KL : Hid (K.length ≤ 1099511627775) := by rw [Hid, HKl.out]; omega
            have SL : Hid (S.length ≤ 1099511627775) := by rw [Hid, HSl.out]; omega
            clear hl2 hz hq B2 hm2 hg2 hxm hlk
            have FIN : ∀ W p q, T3 ((w.alloc (Obj.cells #[Value.slice (some ⟨b, o, none⟩) xs.length c] 26)).alloc (Obj.cells #[Value.slice none 0 0] 26)) (w.heap.size + 2) (w.heap.size + 3) wr.heap.size X (K ++ [X]) W p (K ++ [X]) q (S ++ [(z : Int)]) → ∃ k', k' ≤ xs.length ∧ (Value.int .i64 ((k : Int) + 1)) = .int .i64 (k' : Nat) ∧ Below (w.heap.size + 2) ((w.alloc (Obj.cells #[Value.slice (some ⟨b, o, none⟩) xs.length c] 26)).alloc (Obj.cells #[Value.slice none 0 0] 26)) W ∧ OwnRules W (w.heap.size + 2) p (canon (xs.take k')).1 ∧ OwnInts W (w.heap.size + 2) q (canon (xs.take k')).2 ∧ RMap W (w.heap.size + 3) (canon (xs.take k')).1 := fun W p q T =>
              ⟨k + 1, by omega, rfl, T.below, by rw [Hnx.out]; exact T.rows, by rw [Hnx.out, Hz.out]; exact T.ints, by rw [Hnx.out]; exact T.mp⟩
            have FINh := Lib.hid FIN
            clear FIN
            go_wp2_with fail
            go_region_law (first
              | ((refine step_T3R (r := X) (v4 := .slice A4 K.length c4) (by rfl) _ _ (by rfl) (by rfl) (by first | rfl | simp) (by first | exact (T0.out.alloc _).drew | exact ((T0.out.alloc _).alloc _).drew | exact T2 | exact T2.alloc _) (by first | exact (Cells3.new (by simp)).drew | exact ((Cells3.new (by simp)).alloc _).drew | exact Cells3.new rfl | exact (Cells3.new (by simp)).drew.kept hg7 (nI.out _ (by simp)) | exact ((Cells3.new (by simp)).alloc _).drew.kept hg7 (nI.out _ (by simp))) KL.out ?_); intro v8 w8 T3 hg8; have hl3 := HL2.out _ _ _ T3; obtain ⟨c80, c81, c82, l8⟩ := T3.box)
              | ((refine step_T3I (y := (z : Nat)) (v6 := .slice A6 S.length c6) (by rfl) _ _ (by rfl) (by rfl) (by first | rfl | simp) (by first | exact (T0.out.alloc _).drew | exact ((T0.out.alloc _).alloc _).drew | exact T3 | exact T3.alloc _) (by first | exact (Cell1.new (by simp)).drew.1 | exact ((Cell1.new (by simp)).alloc _).drew.1 | exact (Cell1.new rfl).1 | exact ((Cell1.new (by simp)).drew.kept hg8 (nR.out _ (by simp))).1 | exact (((Cell1.new (by simp)).alloc _).drew.kept hg8 (nR.out _ (by simp))).1) SL.out ?_); intro v7 w7 T2 hg7; obtain ⟨c70, c71, c72, l7⟩ := T2.box))
            all_goals
              go_wp2_with fail
              refine ⟨?_, by simp only [intOf]; omega⟩
              first | exact FINh.out _ _ _ T2 | exact FINh.out _ _ _ T3
      · have hkn : k = xs.length := by omega
        subst hkn
        have hcz := canon_all Hok.out
        obtain ⟨K, S, hKS⟩ : ∃ K S, canon xs = (K, S) := ⟨_, _, rfl⟩
        have hown := HO.out
        have hint := HI.out
        rw [List.take_length, hKS] at hown hint
        rw [hKS] at hcz
        dsimp only at hown hint
        have hKl : K.length = xs.length := hcz.l1
        have hSl : S.length = xs.length := hcz.l2
        have hlow : 0 ≤ S.getD (xs.length - 1) 0 ∧ S.getD (xs.length - 1) 0 ≤ ((xs.length - 1 : Nat) : Int) := hcz.low (xs.length - 1) (by omega)
        have HKo : Hid (OkAll K) := hcz.ok
        have Hnd : Hid (needDown K xs.length (rootB xs) = needL xs) := by rw [Hid, needL, hKS]
        have Hrb : Hid (rootB xs = (List.replicate xs.length false).set (S.getD (xs.length - 1) 0).toNat true) := by rw [Hid, rootB, hKS]
        have Hto : Hid (∀ k, trimO xs (k + 1) = outStep K (needL xs) (trimO xs k) k) := fun k => by rw [trimO_succ, hKS]
        have HNl := Lib.hid (needL_len xs)
        obtain ⟨AK, cK, rfl, _, hmK, hrowK⟩ := OwnRules.sl hown
        obtain ⟨AS, cS, rfl, _, hmS, hrowS⟩ := OwnInts.sl hint
        obtain ⟨bS, oS, rfl, hbS, hcS⟩ := hrowS.int (k := xs.length - 1) (by omega)
        have c0 := hcS (xs.length - 1) (by omega)
        obtain ⟨t, ht⟩ := Int.eq_ofNat_of_zero_le hlow.1
        have hm1 : (xs.length : Int) - 1 = ((xs.length - 1 : Nat) : Int) := by omega
        have hm2 : xs.length - 1 < S.length := by omega
        have htl : t < xs.length := by omega
        rw [ht, Int.toNat_natCast] at Hrb
        rw [ht] at c0
        obtain ⟨m, hm⟩ : ∃ m, xs.length - 1 = m := ⟨_, rfl⟩
        rw [hm] at hm1 hm2 c0
        have HB2 := Lib.hid (show Below (w.heap.size + 2) _ wr from HB.out)
        have HrowK := Lib.hid hrowK
        have hmkB : ∀ W : World, (Instr.makeSlice 167 (.int .i64 (xs.length : Int)) (.int .i64 (xs.length : Int))).run Tryz.prog W = .ok (.slice (some ⟨W.heap.size, 0, none⟩) xs.length xs.length) (W.alloc (.cells (madeCells #[.bool false] xs.length) 4)) :=
          fun W => run_make_row' _ _ _ 1 Tryz.underlying167 (by kernel_rfl) rfl .i64 .i64 xs.length (by omega) (by omega) W
        have HKl := Lib.hid hKl
        have HSl := Lib.hid hSl
        clear hown hint hcz hKl hlow hSl hKS HO HI HMp hrowK hrowS hcS ht hm hmm hrow HCo hmK hmS
        clear hown hint hb hmap hco hlt hk
        generalize wr = w1 at *
        go_upto_region 16 with fail
        have hR0 := RowB.made w1 xs.length
        have hb0 : Below w1.heap.size w1 (w1.alloc (.cells (madeCells #[.bool false] xs.length) 4)) := (Below.refl _ _).alloc (Nat.le_refl _) _
        generalize w1.alloc (.cells (madeCells #[.bool false] xs.length) 4) = w2 at *
        have c1 := (hb0.cell (p := ⟨bS, oS + m, none⟩) hbS).trans c0
        have c2 := hR0.cell (i := t) (by simpa using htl)
        have f2 := hR0.frozen
        have hti : (t : Int) < (xs.length : Int) := by omega
        have HR0 := Lib.hid (hR0.set t true)
        rw [← Hrb.out] at HR0
        have HB0 := Lib.hid hb0
        clear hR0 hb0 c0
        go_wp2_with fail
        go_loopw [12] (fun i wx => ∃ (k : Nat) (z : Int) (N : List Bool), k ≤ xs.length ∧ z = (k : Int) - 1 ∧ i = .int .i64 z ∧ Below w1.heap.size w1 wx ∧ RowB wx w1.heap.size N ∧ N.length = xs.length ∧ needDown K k N = needL xs) (fun i _ => (intOf i + 1).toNat)
        case atStart =>
          exact ⟨xs.length, _, rootB xs, Nat.le_refl _, hm1.symm, rfl, HB0.out.setCell (Nat.le_refl _) _, HR0.out, by simp [rootB], Hnd.out⟩
        case round =>
          obtain ⟨k, z, N, hk2, rfl, rfl, hb2, hrN, hNl, hnN⟩ := hrel
          have HB3 := Lib.hid hb2
          have HRN := Lib.hid hrN
          have HNN := Lib.hid hnN
          have HNlen := Lib.hid hNl
          clear hb2 hrN hnN
          cases k with
          | zero =>
            have hz : ((0 : Nat) : Int) - 1 = -1 := by omega
            rw [hz]
            have hNN : N = needL xs := by have := HNN.out; rwa [needDown] at this
            subst hNN
            have HmkI : ∀ W : World, (Instr.makeSlice 117 (.int .i64 (xs.length : Int)) (.int .i64 (xs.length : Int))).run Tryz.prog W = .ok (.slice (some ⟨W.heap.size, 0, none⟩) xs.length xs.length) (W.alloc (.cells (madeCells #[.int .i64 0] xs.length) 2)) :=
              fun W => run_make_row' _ _ _ 8 Tryz.underlying117 Tryz.infoI rfl .i64 .i64 xs.length (by omega) (by omega) W
            obtain ⟨w3, rfl⟩ : ∃ w3 : World, w3 = wr := ⟨_, rfl⟩
            clear hz c1 c2 f2 hmkB hti HR0 HB0 Hrb Hnd HNN
            go_upto_region 23 with fail
            go_cut [14, 15] (fun p q wx => ∃ bo ba : Nat, p = .pointer (some ⟨bo, 0, none⟩) ∧ q = .slice (some ⟨ba, 0, none⟩) xs.length xs.length ∧ w3.heap.size ≤ bo ∧ w3.heap.size ≤ ba ∧ bo ≠ ba ∧ Boxed wx bo 26 (.slice none 0 0) ∧ RowI wx ba (List.replicate xs.length 0) ∧ Below w3.heap.size w3 wx)
            case first =>
              go_region
              all_goals
                go_wp2_with fail
                go_meet
                first
                  | exact ⟨w3.heap.size + 1, w3.heap.size, rfl, rfl, by omega, Nat.le_refl _, by omega, Boxed.of1 w3 _ _ _, (RowI.made w3 xs.length).alloc _, Below.drew (((Below.refl _ _).alloc (Nat.le_refl _) _).alloc (by simp) _)⟩
                  | exact ⟨w3.heap.size, w3.heap.size + 1, rfl, rfl, Nat.le_refl _, by omega, by omega, (Boxed.new w3 _ _).alloc _, RowI.of1 w3 _ _, Below.drew (((Below.refl _ _).alloc (Nat.le_refl _) _).alloc (by simp) _)⟩
            case rest =>
              revert hcut
              generalize wc = w4
              intro hcut
              obtain ⟨bo, ba, rfl, rfl, hbo, hba, hne, hbx, hri, hb4⟩ := hcut
              have HRN4 := Lib.hid (HRN.out.below hb4 HRN.out.lt)
              have z13 := HRN.out.lt
              have HB4 := Lib.hid (HB3.out.trans (hb4.mono (Nat.le_of_lt HRN.out.lt)))
              have HBX := Lib.hid hbx
              have HRI := Lib.hid hri
              have Hb4 := Lib.hid hb4
              clear hbx hri hb4 HRN HB3 HNlen hNl hk2 HmkI
              go_wp2_with fail
              go_loopw [110] (fun i wx => ∃ k : Nat, k ≤ xs.length ∧ i = .int .i64 k ∧ Below w3.heap.size w4 wx ∧ ∃ vo : Value, Boxed wx bo 26 vo ∧ OwnRules wx w3.heap.size vo (trimO xs k).1 ∧ RowI wx ba (trimO xs k).2) (fun i _ => xs.length - (intOf i).toNat)
              case atStart => exact ⟨0, Nat.zero_le _, rfl, Below.refl _ _, _, HBX.out, World.ownsRow_nil _ _ _ _, HRI.out⟩
              case round =>
                obtain ⟨k, hk, rfl, hb5, vo, hbx, hown, hri⟩ := hrel
                obtain ⟨Ao, co, rfl, _⟩ := own_nil hown
                have HB5 := Lib.hid hb5
                have HBX5 := Lib.hid hbx
                have HOW := Lib.hid hown
                have HRI5 := Lib.hid hri
                have z34 : w3.heap.size ≤ w4.heap.size := Hb4.out.size
                have z45 : w4.heap.size ≤ wr.heap.size := hb5.size
                clear hb5 hown hri
                by_cases hlt : k < xs.length
                · obtain ⟨bK, oK, hAK, hbK, hcK⟩ := HrowK.out.rule (k := k) (by have := HKl.out; omega)
                  subst hAK
                  obtain ⟨r, hr⟩ : ∃ r, K[k]? = some r := ⟨_, List.getElem?_eq_getElem (by have := HKl.out; omega)⟩
                  have Hr := Lib.hid hr
                  have Hor := Lib.hid (HKo.out k r hr)
                  obtain ⟨q0, q1, q2⟩ := hcK k r hr
                  have B1 : Below w1.heap.size w1 wr := HB4.out.trans (HB5.out.mono (Nat.le_of_lt z13))
                  have p0 := (B1.cell (p := ⟨bK, oK + k * 3, none⟩) hbK).trans q0
                  have p1 := (B1.cell (p := ⟨bK, oK + k * 3 + 1, none⟩) hbK).trans q1
                  have p2 := (B1.cell (p := ⟨bK, oK + k * 3 + 2, none⟩) hbK).trans q2
                  have hjK : (k : Int) < (K.length : Int) := by have := HKl.out; omega
                  have hjn : (k : Int) < (xs.length : Int) := by omega
                  have RNr := Lib.hid (HRN4.out.below HB5.out z13)
                  have cN := RNr.out.cell (i := k) (by have := HNl.out; omega)
                  have hlN := RNr.out.lt
                  obtain ⟨L, T, hLT⟩ : ∃ L T, trimO xs k = (L, T) := ⟨_, _, rfl⟩
                  have hTl : T.length = xs.length := by have := (trimO_len xs k).1; rw [hLT] at this; exact this
                  have hLl : L.length ≤ k := by have := (trimO_len xs k).2; rw [hLT] at this; exact this
                  rw [hLT] at HBX5 HOW HRI5
                  dsimp only at HBX5 HOW HRI5
                  have hst := Hto.out k
                  rw [hLT, outStep, getR_some hr] at hst
                  obtain ⟨u, hu⟩ : ∃ u, (needL xs).getD k false = u := ⟨_, rfl⟩
                  rw [hu] at cN hst
                  dsimp only at hst
                  have zbo := hbx.lt
                  have zba := HRI5.out.lt
                  clear hr hcK q0 q1 q2 B1 hLT hu hbx
                  cases u
                  · rw [if_neg (by simp)] at hst
                    have Hst := Lib.hid hst
                    clear hst
                    go_wp2_with fail
                    refine ⟨⟨k + 1, by omega, rfl, HB5.out.alloc (by omega) _, _, by rw [Hst.out]; exact ⟨HBX5.out.alloc _, HOW.out.alloc _, HRI5.out.alloc _⟩⟩, by simp [intOf]; omega⟩
                  · rw [if_pos rfl] at hst
                    obtain ⟨X, hX⟩ : ∃ X, trimR T r = X := ⟨_, rfl⟩
                    rw [hX] at hst
                    have Hst := Lib.hid hst
                    have HX := Lib.hid hX
                    have HTl := Lib.hid hTl
                    have HLl := Lib.hid hLl
                    clear hst hX hTl hLl
                    go_wp2_with fail
                    refine (isPair_any _ _ _ _).mono ?_
                    rintro e w5 ⟨rfl, rfl⟩
                    go_upto_if 121 with fail
                    go_cut [] from 114 to 132 (fun wx => Below wr.heap.size wr wx ∧ Cells3 wx wr.heap.size X)
                    case first =>
                      by_cases hp : r.letter.toList.isEmpty = true
                      · rw [hp]
                        have hpr : r.pair = true := by rw [isEmpty_size] at hp; exact hp
                        obtain ⟨e1, e2, e3, e4⟩ := okRule_at Hor.out hpr
                        obtain ⟨la, hla⟩ := Int.eq_ofNat_of_zero_le e1
                        obtain ⟨ra, hra⟩ := Int.eq_ofNat_of_zero_le e3
                        rw [hla] at e2
                        rw [hra] at e4
                        simp only [Int.toNat_natCast] at e2 e4
                        have i1 : (la : Int) < (xs.length : Int) := by omega
                        have i2 : (ra : Int) < (xs.length : Int) := by omega
                        have w1c := HRI5.out.cell (i := la) (by have := HTl.out; omega)
                        have w2c := HRI5.out.cell (i := ra) (by have := HTl.out; omega)
                        obtain ⟨va, hva⟩ : ∃ x, T.getD la 0 = x := ⟨_, rfl⟩
                        obtain ⟨vb, hvb⟩ : ∃ x, T.getD ra 0 = x := ⟨_, rfl⟩
                        rw [hva] at w1c
                        rw [hvb] at w2c
                        have hX2 : X = pairR va vb := by rw [← HX.out, trimR_pair hpr, hla, hra, ← hva, ← hvb]; rfl
                        have HX2 := Lib.hid hX2
                        rw [hla, hra]
                        clear hX2 hpr e1 e3 hva hvb hla hra
                        have B3 : Below wr.heap.size wr ((wr.alloc (Obj.cells #[Value.string r.letter, Value.int IntKind.i64 la, Value.int IntKind.i64 ra] 112)).alloc (Obj.cells #[Value.string r.letter, Value.int IntKind.i64 la, Value.int IntKind.i64 ra] 112)) := (by repeat (first | exact Below.refl _ _ | (refine Below.alloc ?_ (by first | omega | (simp; done) | (simp; omega)) _) | refine below_drewN ?_ _ | refine Below.drew ?_))
                        have e0 : ((wr.alloc (Obj.cells #[Value.string r.letter, Value.int IntKind.i64 la, Value.int IntKind.i64 ra] 112)).alloc (Obj.cells #[Value.string r.letter, Value.int IntKind.i64 la, Value.int IntKind.i64 ra] 112)).heap[wr.heap.size]? = some (Obj.cells #[Value.string r.letter, Value.int IntKind.i64 la, Value.int IntKind.i64 ra] 112 (0, 0)) := ((Below.refl _ _).alloc (Nat.le_refl _) _).block wr.heap.size (by simp) |>.trans (alloc_heap_last _ _)
                        generalize (wr.alloc (Obj.cells #[Value.string r.letter, Value.int IntKind.i64 la, Value.int IntKind.i64 ra] 112)).alloc (Obj.cells #[Value.string r.letter, Value.int IntKind.i64 la, Value.int IntKind.i64 ra] 112) = W3 at *
                        have l0 : wr.heap.size < W3.heap.size := (Array.getElem?_eq_some_iff.1 e0).1
                        have c0 : W3.cell? ⟨wr.heap.size, 0, none⟩ = some (.string r.letter) := by simp [World.cell?, e0]
                        have c1 : W3.cell? ⟨wr.heap.size, 1, none⟩ = some (.int .i64 la) := by simp [World.cell?, e0]
                        have c2 : W3.cell? ⟨wr.heap.size, 2, none⟩ = some (.int .i64 ra) := by simp [World.cell?, e0]
                        have f0 : ∀ o, W3.frozen? ⟨wr.heap.size, o, none⟩ = false := fun o => by simp [World.frozen?, e0]
                        have w3c := (B3.cell (p := ⟨ba, la, none⟩) zba).trans w1c
                        have w4c := (B3.cell (p := ⟨ba, ra, none⟩) zba).trans w2c
                        have BB3 := Lib.hid B3
                        clear B3 e0 w1c w2c p0 p1 p2 cN
                        go_wp2_with fail
                        go_still_tail 10, (by kernel_rfl)
                        change wpList _ _ _ _ _ W3.drew
                        go_wp2_with fail
                        refine (pairI64_any _ _ _).mono ?_
                        rintro e w5 ⟨rfl, hb5⟩
                        have z5 : W3.heap.size ≤ w5.heap.size := hb5.size
                        have l5 : wr.heap.size < w5.heap.size := by omega
                        have d0 : w5.cell? ⟨wr.heap.size, 0, none⟩ = some (.string r.letter) := (hb5.cell (p := ⟨wr.heap.size, 0, none⟩) l0).trans c0
                        have d1 : w5.cell? ⟨wr.heap.size, 1, none⟩ = some (.int .i64 la) := (hb5.cell (p := ⟨wr.heap.size, 1, none⟩) l0).trans c1
                        have d2 : w5.cell? ⟨wr.heap.size, 2, none⟩ = some (.int .i64 ra) := (hb5.cell (p := ⟨wr.heap.size, 2, none⟩) l0).trans c2
                        have g5 : ∀ o, w5.frozen? ⟨wr.heap.size, o, none⟩ = false := fun o => (hb5.frozen (p := ⟨wr.heap.size, o, none⟩) l0).trans (f0 o)
                        have B5 := Lib.hid ((Below.drew BB3.out).trans (hb5.mono (Nat.le_of_lt l0)))
                        clear c0 c1 c2 f0 w3c w4c hb5
                        go_wp2_with fail
                        go_meet
                        rw [HX2.out]
                        exact ⟨((B5.out.setCell (Nat.le_refl _) _).setCell (Nat.le_refl _) _).setCell (Nat.le_refl _) _, by simp [go_sem, pairR, d0], by simp [go_sem, pairR, d1], by simp [go_sem, pairR, d2], by simp; omega⟩
                      · have hpr : r.pair = false := by rw [isEmpty_size] at hp; simpa [GRule.pair] using hp
                        have hX2 : X = r := by rw [← HX.out, trimR_let hpr]
                        have HX2 := Lib.hid hX2
                        have hp2 : r.letter.toList.isEmpty = false := by simpa using hp
                        rw [hp2]
                        clear hX2 hpr hp
                        go_wp2_with fail
                        go_meet
                        rw [HX2.out]
                        exact ⟨(by repeat (first | exact Below.refl _ _ | (refine Below.alloc ?_ (by first | omega | (simp; done) | (simp; omega)) _) | refine below_drewN ?_ _ | refine Below.drew ?_)), by simp [go_sem], by simp [go_sem], by simp [go_sem], by simp; omega⟩
                    case rest =>
                      revert hcut
                      generalize wc = w5
                      intro hcut
                      obtain ⟨hb6, hx6⟩ := hcut
                      have bx6 : Boxed w5 bo 26 (.slice Ao L.length co) := Boxed.up HBX5.out hb6 zbo
                      have hcb := bx6.cell
                      have hfb := bx6.frozen
                      have ri6 := HRI5.out.below hb6 zba
                      have HRI6 := Lib.hid (ri6.set k (L.length : Int))
                      have cT := ri6.cell (i := k) (by have := HTl.out; omega)
                      have fT := ri6.frozen
                      have ow6 : OwnRules w5 w3.heap.size (.slice Ao L.length co) L := OwnRules.below HOW.out hb6
                      have hne2 : ba ≠ wr.heap.size := by omega
                      have HOW6 : Hid (OwnRules (w5.setCell ⟨ba, k, none⟩ (.int .i64 (L.length : Int))) w3.heap.size (.slice Ao L.length co) L) := ownsRow_setCell_other (a := ⟨ba, k, none⟩) ow6 (ri6.not_row ow6 (by decide)).symm _
                      have HX6 := Lib.hid hx6
                      have HBX6 := Lib.hid (boxed_other (o := k) bx6 hne (.int .i64 (L.length : Int)))
                      have BB6 := Lib.hid ((HB5.out.trans (hb6.mono (by omega))).setCell (p := ⟨ba, k, none⟩) hba (.int .i64 (L.length : Int)))
                      clear hb6 hx6 bx6 ri6 ow6 p0 p1 p2 cN
                      go_upto_region 31 with fail
                      have HX7 : Hid (Cells3 (w5.setCell ⟨ba, k, none⟩ (.int .i64 (L.length : Int))) wr.heap.size X) := by
                        obtain ⟨a0, a1, a2, a3⟩ := HX6.out
                        have hb : ∀ o, (w5.setCell ⟨ba, k, none⟩ (.int .i64 (L.length : Int))).cell? ⟨wr.heap.size, o, none⟩ = w5.cell? ⟨wr.heap.size, o, none⟩ := fun o => World.cell?_of_block (a := ⟨wr.heap.size, o, none⟩) (Below.heap_setCell _ _ _ _ hne2.symm)
                        exact ⟨(hb 0).trans a0, (hb 1).trans a1, (hb 2).trans a2, by simpa [World.setCell] using a3⟩
                      clear hcb hfb cT fT HX6
                      generalize w5.setCell ⟨ba, k, none⟩ (.int .i64 (L.length : Int)) = w6 at *
                      obtain ⟨x0, x1, x2, x3⟩ := HX7.out
                      have hcb := HBX6.out.cell
                      have HLL : Hid (L.length ≤ 1099511627775) := by have := HLl.out; exact Nat.le_trans this (by omega)
                      have HW6 : Hid (w3.heap.size ≤ w6.heap.size) := Nat.le_of_lt (Nat.lt_of_le_of_lt hbo HBX6.out.lt)
                      go_wp2_with (first
                        | (at_builtin; refine list_push_rule (base := w3.heap.size) (v := .slice Ao L.length co) rfl _ _ rfl (by rfl) (by rfl) rfl HOW6.out HLL.out HW6.out ?_; intro v7 w7 own7 hg7 hb7; (have bx7 : Boxed w7 bo 26 _ := Boxed.grown HBX6.out (by decide) HOW6.out hg7; have ri7 := Lib.hid ((HRI6.out.alloc _).kept hg7 (HRI6.out.not_row HOW6.out (by decide))); obtain ⟨A7, c7, rfl, _⟩ := own_nil own7; have hcb7 := bx7.cell; have hfb7 := bx7.frozen; have hl7 := bx7.lt; have own8 := Lib.hid (own_put bx7 own7 rfl List.length_append); have B8 := Lib.hid (((BB6.out.alloc HW6.out _).trans hb7).setCell (p := ⟨bo, 0, none⟩) hbo (.slice A7 (L.length + 1) c7)); have X8 : Hid (Boxed (w7.setCell ⟨bo, 0, none⟩ (.slice A7 (L.length + 1) c7)) bo 26 (.slice A7 (L.length + 1) c7)) := Boxed.set _ bx7; have R8 := Lib.hid (ri7.out.other (c := bo) (o := 0) hne.symm (.slice A7 (L.length + 1) c7)); clear own7 hg7 hb7)))
                      refine ⟨⟨k + 1, by omega, rfl, B8.out, _, X8.out, ?_⟩, by simp [intOf]; omega⟩
                      rw [Hst.out]
                      exact ⟨own8.out, R8.out⟩
                · have hkn : k = xs.length := by omega
                  subst hkn
                  have h1b : Below w1.heap.size w1 wr := HB4.out.trans (HB5.out.mono (Nat.le_of_lt z13))
                  have h0b : Below (w.heap.size + 2) _ wr := HB2.out.trans (h1b.mono hwz)
                  have c9 : wr.cell? ⟨w.heap.size + 1, 0, none⟩ = some (.slice none 0 0) := (h0b.cell (p := ⟨w.heap.size + 1, 0, none⟩) (by show w.heap.size + 1 < w.heap.size + 2; omega)).trans (by simp [go_sem])
                  have f9 : wr.frozen? ⟨w.heap.size + 1, 0, none⟩ = false := (h0b.frozen (p := ⟨w.heap.size + 1, 0, none⟩) (by show w.heap.size + 1 < w.heap.size + 2; omega)).trans (by simp [go_sem])
                  have cw : (wr.setCell ⟨w.heap.size + 1, 0, none⟩ (.slice Ao (trimO xs xs.length).1.length co)).cell? ⟨w.heap.size + 1, 0, none⟩ = some (.slice Ao (trimO xs xs.length).1.length co) := by
                    have hn9 : Boxed ((w.alloc (Obj.cells #[Value.slice A xs.length c] 26)).alloc (Obj.cells #[Value.slice none 0 0] 26)) (w.heap.size + 1) 26 (.slice none 0 0) := by
                      have := Boxed.new (w.alloc (Obj.cells #[Value.slice A xs.length c] 26)) 26 (Value.slice none 0 0)
                      rwa [show (w.alloc (Obj.cells #[Value.slice A xs.length c] 26)).heap.size = w.heap.size + 1 by simp] at this
                    have hb9 : Boxed wr (w.heap.size + 1) 26 (.slice none 0 0) := (h0b.block (w.heap.size + 1) (by omega)).trans hn9
                    have := Boxed.set (.slice Ao (trimO xs xs.length).1.length co) hb9
                    exact this.cell
                  have Hcw := Lib.hid cw
                  clear cw
                  have cb := hbx.cell
                  have hz9 : w.heap.size + 1 < wr.heap.size := by have := h0b.size; simp at this; omega
                  have H0 := Lib.hid h0b
                  have hkk : ¬ ((xs.length : Int) < (K.length : Int)) := by have := HKl.out; omega
                  clear h1b h0b
                  go_wp2_with fail
                  refine bodyPost_ret (v := .agg #[.slice Ao (trimO xs xs.length).1.length co]) (by simp [results, Tryz.results103, go_sem, Hcw.out]) rfl ⟨?_, .slice Ao (trimO xs xs.length).1.length co, ?_, rfl⟩
                  · exact (((Below.refl w.heap.size w).alloc (Nat.le_refl _) _).alloc (by simp) _).trans (H0.out.mono (by omega)) |>.setCell (by show w.heap.size ≤ w.heap.size + 1; omega) _
                  · exact ownsRow_setCell_below (a := ⟨w.heap.size + 1, 0, none⟩) (ownsRow_more HOW.out (base' := w.heap.size + 2) (by omega)) (by show w.heap.size + 1 < w.heap.size + 2; omega) _ |> fun h => ownsRow_more h (by omega)
          | succ j =>
            have hz : ((j + 1 : Nat) : Int) - 1 = (j : Int) := by omega
            rw [hz]
            clear hz
            obtain ⟨bK, oK, hAK, hbK, hcK⟩ := HrowK.out.rule (k := j) (by have := HKl.out; omega)
            subst hAK
            obtain ⟨r, hr⟩ : ∃ r, K[j]? = some r := ⟨_, List.getElem?_eq_getElem (by have := HKl.out; omega)⟩
            have Hr := Lib.hid hr
            have Hor := Lib.hid (HKo.out j r hr)
            obtain ⟨q0, q1, q2⟩ := hcK j r hr
            have p0 := (HB3.out.cell (p := ⟨bK, oK + j * 3, none⟩) hbK).trans q0
            have p1 := (HB3.out.cell (p := ⟨bK, oK + j * 3 + 1, none⟩) hbK).trans q1
            have p2 := (HB3.out.cell (p := ⟨bK, oK + j * 3 + 2, none⟩) hbK).trans q2
            have hjK : (j : Int) < (K.length : Int) := by have := HKl.out; omega
            have hjn : (j : Int) < (xs.length : Int) := by omega
            have cN := HRN.out.cell (i := j) (by have := HNlen.out; omega)
            have hlN := HRN.out.lt
            obtain ⟨u, hu⟩ : ∃ u, N.getD j false = u := ⟨_, rfl⟩
            rw [hu] at cN
            have Hu := Lib.hid hu
            clear hr hcK q0 q1 q2 hu hNl
            cases u
            · go_wp2_with fail
              go_roundw
              case rel => exact ⟨j, _, N, by omega, rfl, rfl, HB3.out.alloc (Nat.le_of_lt hlN) _, HRN.out.alloc _, HNlen.out, by rw [← HNN.out, needDown, needStep, Hu.out]; rfl⟩
              case measure => simp [intOf]
            · go_wp2_with fail
              refine (isPair_any _ _ _ _).mono ?_
              rintro e w3 ⟨rfl, rfl⟩
              by_cases hp : r.letter.toList.isEmpty = true
              · rw [hp]
                have hpr : r.pair = true := by rw [isEmpty_size] at hp; exact hp
                obtain ⟨e1, e2, e3, e4⟩ := okRule_at Hor.out hpr
                obtain ⟨la, hla⟩ := Int.eq_ofNat_of_zero_le e1
                obtain ⟨ra, hra⟩ := Int.eq_ofNat_of_zero_le e3
                rw [hla] at e2
                rw [hra] at e4
                simp only [Int.toNat_natCast] at e2 e4
                have Hla := Lib.hid hla
                have Hra := Lib.hid hra
                have Hpr := Lib.hid hpr
                clear hpr
                have i1 : (la : Int) < (xs.length : Int) := by omega
                have i2 : (ra : Int) < (xs.length : Int) := by omega
                rw [hla, hra]
                clear e1 e3 hla hra
                have B3 : Below wr.heap.size wr ((wr.alloc (Obj.cells #[Value.string r.letter, Value.int IntKind.i64 la, Value.int IntKind.i64 ra] 112)).alloc (Obj.cells #[Value.string r.letter, Value.int IntKind.i64 la, Value.int IntKind.i64 ra] 112)) := (by repeat (first | exact Below.refl _ _ | (refine Below.alloc ?_ (by first | omega | (simp; done) | (simp; omega)) _) | refine below_drewN ?_ _ | refine Below.drew ?_))
                have e0 : ((wr.alloc (Obj.cells #[Value.string r.letter, Value.int IntKind.i64 la, Value.int IntKind.i64 ra] 112)).alloc (Obj.cells #[Value.string r.letter, Value.int IntKind.i64 la, Value.int IntKind.i64 ra] 112)).heap[wr.heap.size]? = some (Obj.cells #[Value.string r.letter, Value.int IntKind.i64 la, Value.int IntKind.i64 ra] 112 (0, 0)) := ((Below.refl _ _).alloc (Nat.le_refl _) _).block wr.heap.size (by simp) |>.trans (alloc_heap_last _ _)
                generalize (wr.alloc (Obj.cells #[Value.string r.letter, Value.int IntKind.i64 la, Value.int IntKind.i64 ra] 112)).alloc (Obj.cells #[Value.string r.letter, Value.int IntKind.i64 la, Value.int IntKind.i64 ra] 112) = W3 at *
                have l0 : wr.heap.size < W3.heap.size := (Array.getElem?_eq_some_iff.1 e0).1
                have d1 : W3.cell? ⟨wr.heap.size, 1, none⟩ = some (.int .i64 la) := by simp [World.cell?, e0]
                have d2 : W3.cell? ⟨wr.heap.size, 2, none⟩ = some (.int .i64 ra) := by simp [World.cell?, e0]
                have RN3 := Lib.hid (HRN.out.below B3 hlN)
                have cL := RN3.out.cell (i := la) (by have := HNlen.out; omega)
                have cR := RN3.out.cell (i := ra) (by have := HNlen.out; omega)
                have fN := RN3.out.frozen
                have BB3 := Lib.hid B3
                have hne : wr.heap.size ≠ w1.heap.size := by omega
                clear p0 p1 p2 cN B3 e0
                go_wp2_with fail
                by_cases hlr : la = ra
                · subst hlr
                  have H3 := Lib.hid ((RN3.out.set la true).set la true).drew
                  have B4 := Lib.hid (Below.drew (((HB3.out.trans (BB3.out.mono (Nat.le_of_lt hlN))).setCell (p := ⟨w1.heap.size, la, none⟩) (Nat.le_refl _) (.bool true)).setCell (p := ⟨w1.heap.size, la, none⟩) (Nat.le_refl _) (.bool true)))
                  go_region
                  go_wp2_with fail
                  go_roundw
                  case rel => exact ⟨j, _, _, by omega, rfl, rfl, B4.out, H3.out, by simpa using HNlen.out, by rw [← HNN.out, needDown, needStep, getR_some Hr.out, Hu.out, Hpr.out, Hla.out, Hra.out]; rfl⟩
                  case measure => simp [intOf]
                · have hlr2 : ra ≠ la := fun e => hlr e.symm
                  have H3 := Lib.hid ((RN3.out.set la true).set ra true).drew
                  have B4 := Lib.hid (Below.drew (((HB3.out.trans (BB3.out.mono (Nat.le_of_lt hlN))).setCell (p := ⟨w1.heap.size, la, none⟩) (Nat.le_refl _) (.bool true)).setCell (p := ⟨w1.heap.size, ra, none⟩) (Nat.le_refl _) (.bool true)))
                  go_region
                  go_wp2_with fail
                  go_roundw
                  case rel => exact ⟨j, _, _, by omega, rfl, rfl, B4.out, H3.out, by simpa using HNlen.out, by rw [← HNN.out, needDown, needStep, getR_some Hr.out, Hu.out, Hpr.out, Hla.out, Hra.out]; rfl⟩
                  case measure => simp [intOf]
              · have hpr : r.pair = false := by rw [isEmpty_size] at hp; simpa [GRule.pair] using hp
                have hp2 : r.letter.toList.isEmpty = false := by simpa using hp
                have Hpr := Lib.hid hpr
                have hgr : getR K j = r := getR_some Hr.out
                have Hgr := Lib.hid hgr
                rw [hp2]
                clear hpr hp hgr
                go_wp2_with fail
                go_roundw
                case rel => exact ⟨j, _, N, by omega, rfl, rfl, (HB3.out.alloc (Nat.le_of_lt hlN) _).alloc (by simp; omega) _, (HRN.out.alloc _).alloc _, HNlen.out, by rw [← HNN.out, needDown, needStep, Hgr.out, Hpr.out, Bool.and_false]; rfl⟩
                case measure => simp [intOf]
end Go.Proofs.YtdacndamehiglaaGreatDoor
