import Derived.Test.YtfhiaifdigefdaaDoorM5
import Derived.Test.YtfhiaifdigefdaaDoorM2
import Derived.Test.YtfhiaifdigefdaaDoorM1
import Derived.BigQuiet
import Derived.Test.YtfhiaifdigefdaaDoorM3
import Derived.Deep.RegionWith
import Derived.Deep.RegionLaw
import Derived.Shelf.Small.Strs
import Derived.Shelf.Utf8.RuneCount
import Derived.Shelf.LaysM
import Derived.Shelf.Strings.Search1
import Derived.Shelf.Strings.Search2
import Derived.Shelf.Strings.Search3
import Derived.Shelf.Strings.Count
import Derived.Shelf.Strings.Shaped
import Derived.Shelf.Strings.Split
import Derived.Shelf.Strings.SplitShaped
import Derived.Shelf.Strings.RuneCount
import Derived.Shelf.Strings.Explode
import Derived.Test.YtfhiaifdigefdaaDoorProg
import Derived.Lib.UnsafeStr
import Derived.Laws.IdiomStrings
import Derived.ArgAppend
import Derived.Deep.DeepCutAuto
import Derived.Deep.CutBlock
import Derived.WalkArith
namespace Go.Proofs.YtfhiaifdigefdaaDoor
open Go.RowKit
set_option maxRecDepth 100000 in
set_option maxHeartbeats 4000000 in
theorem trimmed_any (v : Value) (xs : List GRule) (w : World) (h : Sl RuleE w w.heap.size v xs) (hn : xs.length ≤ 4194304) (hok : OkAll xs) :
    Calls Tryd.prog 56 #[.agg #[v]] w (GOwn (trimG xs) w) := by
  obtain ⟨A, c, rfl, hc, hm, hrow⟩ := h
  have Hok := Lib.hid hok
  clear hm hok
  have hmm := @run_makeMap Tryd.prog
  by_cases h0 : xs.length = 0
  · have hx : xs = [] := List.eq_nil_of_length_eq_zero h0
    subst hx
    clear h0
    go_enter Tryd.func56, Tryd.ntmps56
    go_wp2_with fail
    refine bodyPost_ret (v := .agg #[.slice none 0 0]) (by simp [results, Tryd.results56, go_sem]) rfl ⟨(by repeat (first | exact Below.refl _ _ | (refine Below.alloc ?_ (by first | omega | (simp; done) | (simp; omega)) _) | refine below_drewN ?_ _ | refine Below.drew ?_)), _, by exact World.ownsRow_nil _ _ _ _, rfl⟩
  · have g1 : ((xs.length : Int) == 0) = false := by rw [beq_eq_false_iff_ne]; omega
    have hn1 : 1 ≤ xs.length := by omega
    clear h0
    go_enter Tryd.func56, Tryd.ntmps56
    go_wp2_with fail
    have hs0 : ((((((w.alloc (Obj.cells #[Value.slice A xs.length c] 26)).alloc (Obj.cells #[Value.slice none 0 0] 26)).alloc (Obj.cells #[] 42)).alloc (.map #[] 0)).alloc (Obj.cells #[] 2))).heap.size = w.heap.size + 5 := by simp
    go_loopw [4, 6, 30] (fun a s i wr => ∃ k : Nat, k ≤ xs.length ∧ i = .int .i64 k ∧ Below (w.heap.size + 2) ((w.alloc (Obj.cells #[Value.slice A xs.length c] 26)).alloc (Obj.cells #[Value.slice none 0 0] 26)) wr ∧
      OwnRules wr (w.heap.size + 2) a (canon (xs.take k)).1 ∧ OwnInts wr (w.heap.size + 2) s (canon (xs.take k)).2 ∧ RMap wr (w.heap.size + 3) (canon (xs.take k)).1) (fun _ _ i _ => xs.length - (intOf i).toNat)
    case atStart =>
      refine ⟨0, Nat.zero_le _, rfl, (by repeat (first | exact Below.refl _ _ | (refine Below.alloc ?_ (by first | omega | (simp; done) | (simp; omega)) _) | refine below_drewN ?_ _ | refine Below.drew ?_)), ?_, ?_, ?_⟩
      · exact ((OwnRules.empty (N := w.heap.size + 2) (by simp) (by simp)).alloc _).alloc _
      · exact OwnInts.empty (by simp) (by simp)
      · have := RMap.made (((w.alloc (Obj.cells #[Value.slice A xs.length c] 26)).alloc (Obj.cells #[Value.slice none 0 0] 26)).alloc (Obj.cells #[] 42))
        have h2 := this.alloc (Obj.cells #[] 2)
        have e : (((w.alloc (Obj.cells #[Value.slice A xs.length c] 26)).alloc (Obj.cells #[Value.slice none 0 0] 26)).alloc (Obj.cells #[] 42)).heap.size = w.heap.size + 3 := by simp
        rw [e] at h2
        exact h2
    case round =>
      obtain ⟨k, hk, rfl, hb, hown, hint, hmap⟩ := hrel
      have hwz : w.heap.size + 2 ≤ wr.heap.size := by have := hb.size; simpa using this
      have hco := canon_ok Hok.out k hk
      have HB := Lib.hid hb
      have HO := Lib.hid hown
      have HI := Lib.hid hint
      have HMp := Lib.hid hmap
      have HCo := Lib.hid hco
      by_cases hlt : k < xs.length
      · obtain ⟨b, o, rfl, hbl, hcell⟩ := hrow.rule hlt
        obtain ⟨r, hr⟩ : ∃ r, xs[k]? = some r := ⟨_, List.getElem?_eq_getElem hlt⟩
        obtain ⟨q0, q1, q2⟩ := hcell k r hr
        have p0 : wr.cell? ⟨b, o + k * 3, none⟩ = some (.string r.letter) := (hb.cell (p := ⟨b, o + k * 3, none⟩) (by show b < _; omega)).trans (by simp [go_sem, hbl, Nat.lt_succ_of_lt hbl, q0])
        have p1 : wr.cell? ⟨b, o + k * 3 + 1, none⟩ = some (.int .i64 r.left) := (hb.cell (p := ⟨b, o + k * 3 + 1, none⟩) (by show b < _; omega)).trans (by simp [go_sem, hbl, Nat.lt_succ_of_lt hbl, q1])
        have p2 : wr.cell? ⟨b, o + k * 3 + 2, none⟩ = some (.int .i64 r.right) := (hb.cell (p := ⟨b, o + k * 3 + 2, none⟩) (by show b < _; omega)).trans (by simp [go_sem, hbl, Nat.lt_succ_of_lt hbl, q2])
        have hi : (k : Int) < (xs.length : Int) := by omega
        have hbz : b < wr.heap.size := by omega
        have hor := Hok.out k r hr
        have Hr := Lib.hid hr
        have Hor := Lib.hid hor
        clear hcell hr q0 q1 q2 hb hown hint hmap hor hco hrow
        go_wp2_with fail
        refine (isPair_any _ _ _ _).mono ?_
        rintro e w1 ⟨rfl, rfl⟩
        go_upto_if 36 with fail
        obtain ⟨K, hK⟩ : ∃ K, (canon (xs.take k)).1 = K := ⟨_, rfl⟩
        obtain ⟨S, hS⟩ : ∃ S, (canon (xs.take k)).2 = S := ⟨_, rfl⟩
        have hKl : K.length = k := by rw [← hK]; exact HCo.out.l1
        have hSl : S.length = k := by rw [← hS]; exact HCo.out.l2
        have hlow : ∀ i, i < k → 0 ≤ S.getD i 0 ∧ S.getD i 0 ≤ i := by rw [← hS]; exact HCo.out.low
        have hKo : OkAll K := by rw [← hK]; exact HCo.out.ok
        rw [hK] at HO HMp
        rw [hS] at HI
        have hnx : canon (xs.take (k + 1)) = (K ++ [trimR S r], S ++ [((K.idxOf (trimR S r) : Nat) : Int)]) := by rw [canon_snoc Hr.out, trimStep, hK, hS]
        have Hnx := Lib.hid hnx
        obtain ⟨X, hX⟩ : ∃ X, trimR S r = X := ⟨_, rfl⟩
        have hXo : okRule k X = true := by
          have := (canon_ok Hok.out (k + 1) (by omega)).ok
          rw [hnx] at this
          have h9 := this k (trimR S r) (by simp [hKl])
          rw [← hX]; exact h9
        have HX := Lib.hid hX
        have HXo := Lib.hid hXo
        have HK := Lib.hid hK
        have HKo := Lib.hid hKo
        rw [hX] at Hnx
        clear hK hS hnx hX hXo hKo HCo
        have HKl := Lib.hid hKl
        have HSl := Lib.hid hSl
        have Hlow := Lib.hid hlow
        clear hKl hSl hlow
        go_cut [] from 34 to 47 (fun wx => Below wr.heap.size wr wx ∧ Cells3 wx wr.heap.size X)
        case first =>
          by_cases hp : r.letter.toList.isEmpty = true
          · rw [hp]
            have hpr : r.pair = true := by rw [isEmpty_size] at hp; exact hp
            obtain ⟨e1, e2, e3, e4⟩ := okRule_at Hor.out hpr
            obtain ⟨la, hla⟩ := Int.eq_ofNat_of_zero_le e1
            obtain ⟨ra, hra⟩ := Int.eq_ofNat_of_zero_le e3
            rw [hla] at e2
            rw [hra] at e4
            simp only [Int.toNat_natCast] at e2 e4
            have i1 : (la : Int) < (S.length : Int) := by have := HSl.out; omega
            have i2 : (ra : Int) < (S.length : Int) := by have := HSl.out; omega
            obtain ⟨g, cap, rfl, hg1, hg2, hg3, hgc⟩ := OwnInts.at_ HI.out (j := 0) (by omega)
            have w1 := hgc la (by omega)
            have w2 := hgc ra (by omega)
            obtain ⟨va, hva⟩ : ∃ x, S.getD la 0 = x := ⟨_, rfl⟩
            obtain ⟨vb, hvb⟩ : ∃ x, S.getD ra 0 = x := ⟨_, rfl⟩
            rw [hva] at w1
            rw [hvb] at w2
            have hX2 : X = pairR va vb := by rw [← HX.out, trimR_pair hpr, hla, hra, ← hva, ← hvb]; rfl
            have HX2 := Lib.hid hX2
            rw [hla, hra]
            have hcap : S.length ≤ cap := hg3
            clear hX2 hgc hpr e1 e3 hg3 hva hvb
            have y1 : g < wr.heap.size := hg2
            have B3 : Below wr.heap.size wr ((wr.alloc (Obj.cells #[Value.string r.letter, Value.int IntKind.i64 la, Value.int IntKind.i64 ra] 42)).alloc (Obj.cells #[Value.string r.letter, Value.int IntKind.i64 la, Value.int IntKind.i64 ra] 42)) := (by repeat (first | exact Below.refl _ _ | (refine Below.alloc ?_ (by first | omega | (simp; done) | (simp; omega)) _) | refine below_drewN ?_ _ | refine Below.drew ?_))
            have e0 : ((wr.alloc (Obj.cells #[Value.string r.letter, Value.int IntKind.i64 la, Value.int IntKind.i64 ra] 42)).alloc (Obj.cells #[Value.string r.letter, Value.int IntKind.i64 la, Value.int IntKind.i64 ra] 42)).heap[wr.heap.size]? = some (Obj.cells #[Value.string r.letter, Value.int IntKind.i64 la, Value.int IntKind.i64 ra] 42 (0, 0)) := ((Below.refl _ _).alloc (Nat.le_refl _) _).block wr.heap.size (by simp) |>.trans (alloc_heap_last _ _)
            generalize (wr.alloc (Obj.cells #[Value.string r.letter, Value.int IntKind.i64 la, Value.int IntKind.i64 ra] 42)).alloc (Obj.cells #[Value.string r.letter, Value.int IntKind.i64 la, Value.int IntKind.i64 ra] 42) = W3 at *
            have l0 : wr.heap.size < W3.heap.size := (Array.getElem?_eq_some_iff.1 e0).1
            have c0 : W3.cell? ⟨wr.heap.size, 0, none⟩ = some (.string r.letter) := by simp [World.cell?, e0]
            have c1 : W3.cell? ⟨wr.heap.size, 1, none⟩ = some (.int .i64 la) := by simp [World.cell?, e0]
            have c2 : W3.cell? ⟨wr.heap.size, 2, none⟩ = some (.int .i64 ra) := by simp [World.cell?, e0]
            have f0 : ∀ o, W3.frozen? ⟨wr.heap.size, o, none⟩ = false := fun o => by simp [World.frozen?, e0]
            have w3 := (B3.cell (p := ⟨g, la, none⟩) y1).trans w1
            have w4 := (B3.cell (p := ⟨g, ra, none⟩) y1).trans w2
            have BB3 := Lib.hid B3
            clear B3 e0 w1 w2
            go_wp2_with fail
            go_still_tail 10, (by kernel_rfl)
            change wpList _ _ _ _ _ W3.drew
            go_wp2_with fail
            refine (pairI64_any _ _ _).mono ?_
            rintro e w5 ⟨rfl, hb5⟩
            have z5 : W3.heap.size ≤ w5.heap.size := hb5.size
            have l5 : wr.heap.size < w5.heap.size := by omega
            have d0 : w5.cell? ⟨wr.heap.size, 0, none⟩ = some (.string r.letter) := (hb5.cell (p := ⟨wr.heap.size, 0, none⟩) l0).trans c0
            have d1 : w5.cell? ⟨wr.heap.size, 1, none⟩ = some (.int .i64 la) := (hb5.cell (p := ⟨wr.heap.size, 1, none⟩) l0).trans c1
            have d2 : w5.cell? ⟨wr.heap.size, 2, none⟩ = some (.int .i64 ra) := (hb5.cell (p := ⟨wr.heap.size, 2, none⟩) l0).trans c2
            have g5 : ∀ o, w5.frozen? ⟨wr.heap.size, o, none⟩ = false := fun o => (hb5.frozen (p := ⟨wr.heap.size, o, none⟩) l0).trans (f0 o)
            have B5 := Lib.hid ((Below.drew BB3.out).trans (hb5.mono (Nat.le_of_lt l0)))
            clear c0 c1 c2 f0 w3 w4 hb5
            go_wp2_with fail
            go_meet
            rw [HX2.out]
            exact ⟨((B5.out.setCell (Nat.le_refl _) _).setCell (Nat.le_refl _) _).setCell (Nat.le_refl _) _, by simp [go_sem, pairR, d0], by simp [go_sem, pairR, d1], by simp [go_sem, pairR, d2], by simp; omega⟩
          · have hpr : r.pair = false := by rw [isEmpty_size] at hp; simpa [GRule.pair] using hp
            have hX2 : X = r := by rw [← HX.out, trimR_let hpr]
            have HX2 := Lib.hid hX2
            have hp2 : r.letter.toList.isEmpty = false := by simpa using hp
            rw [hp2]
            clear hX2 hpr hp
            go_wp2_with fail
            go_meet
            rw [HX2.out]
            exact ⟨(by repeat (first | exact Below.refl _ _ | (refine Below.alloc ?_ (by first | omega | (simp; done) | (simp; omega)) _) | refine below_drewN ?_ _ | refine Below.drew ?_)), by simp [go_sem], by simp [go_sem], by simp [go_sem], by simp; omega⟩
        case rest =>
          revert hcut
          generalize wc = w1
          intro hcut
          obtain ⟨hb1, hx1⟩ := hcut
          have z1 : wr.heap.size ≤ w1.heap.size := hb1.size
          have HO1 := Lib.hid (OwnRules.below HO.out hb1)
          have HI1 : Hid (OwnInts w1 (w.heap.size + 2) u6 S) := ownsRow_below HI.out hb1
          have HM1 := Lib.hid (HMp.out.below hb1 HMp.out.lt)
          have B1 := Lib.hid (HB.out.trans (hb1.mono hwz))
          have HX1 := Lib.hid hx1
          obtain ⟨c0, c1, c2, lx⟩ := hx1
          have hkx := Lib.hid (okRule_key HXo.out (by omega))
          obtain ⟨d, hd⟩ : ∃ d, decide (X ∈ K) = d := ⟨_, rfl⟩
          obtain ⟨q, hq⟩ : ∃ q : Int, (if X ∈ K then ((K.idxOf X : Nat) : Int) else 0) = q := ⟨_, rfl⟩
          have hlk : (Instr.lookup 109 (.map (some (w.heap.size + 1 + 1 + 1))) (.agg #[.string X.letter, .int .i64 X.left, .int .i64 X.right]) true).run Tryd.prog w1 = .ok (.tuple #[.int .i64 q, .bool d]) w1 := by
            rw [← hd, ← hq]
            by_cases h : X ∈ K
            · rw [if_pos h, decide_eq_true h]; exact HM1.out.yes hkx.out h true
            · rw [if_neg h, decide_eq_false h]; exact HM1.out.no hkx.out h true
          have Hd := Lib.hid hd
          clear hb1 hd hq p0 p1 p2
          go_upto_if 55 with fail
          go_cut [] from 48 to 58 (fun wx => RMap wx (w.heap.size + 3) (K ++ [X]) ∧ w1.grownBy wx (some (w.heap.size + 3)))
          case first =>
            cases d
            · have hmem : ¬ X ∈ K := by have := Hd.out; simpa using this
              obtain ⟨w2, hrun, hm2, hg2⟩ := HM1.out.put hkx.out hmem
              rw [HKl.out] at hrun
              have hrun2 : (Instr.mapUpdate 109 (.map (some (w.heap.size + 1 + 1 + 1))) (.agg #[.string X.letter, .int .i64 X.left, .int .i64 X.right]) (.int .i64 (k : Nat))).run Tryd.prog w1 = .ok () w2 := hrun
              have HM2 := Lib.hid hm2
              have HG2 := Lib.hid hg2
              clear hrun hm2 hg2
              go_wp2_with fail
              go_meet
              exact ⟨HM2.out, HG2.out⟩
            · have hmem : X ∈ K := by have := Hd.out; simpa using this
              have HMm := Lib.hid hmem
              clear hmem
              go_wp2_with fail
              go_meet
              exact ⟨HM1.out.same HMm.out, World.grownBy.refl _ _⟩
          case rest =>
            revert hcut
            generalize wc = w2
            intro hcut
            obtain ⟨hm2, hg2⟩ := hcut
            have B2 : Below (w.heap.size + 2) ((w.alloc (Obj.cells #[Value.slice (some ⟨b, o, none⟩) xs.length c] 26)).alloc (Obj.cells #[Value.slice none 0 0] 26)) w2 := B1.out.grown hg2 (by omega) (fun g hg => by have : w.heap.size + 3 = g := Option.some.inj hg; omega)
            have hxm : X ∈ K ++ [X] := by simp
            have T0 : Hid (T3 ((w.alloc (Obj.cells #[Value.slice (some ⟨b, o, none⟩) xs.length c] 26)).alloc (Obj.cells #[Value.slice none 0 0] 26)) (w.heap.size + 2) (w.heap.size + 3) wr.heap.size X (K ++ [X]) w2 u4 K u6 S) :=
              ⟨B2, own_keep HO1.out fun g hg => hg2.block g (World.ownsRow.lt HO1.out g hg).2 (fun e => rmap_apart HM1.out HO1.out (e ▸ hg).symm), own_keep HI1.out fun g hg => hg2.block g (World.ownsRow.lt HI1.out g hg).2 (fun e => rmap_apart HM1.out HI1.out (e ▸ hg).symm),
                hm2, HX1.out.kept hg2 (fun e => by have h1 := HMp.out.lt; have h2 : wr.heap.size = w.heap.size + 3 := Option.some.inj e; omega), own_far HO.out (Nat.le_refl _), own_far HI.out (Nat.le_refl _), Nat.le_trans (by omega) hg2.size⟩
            obtain ⟨A4, c4, rfl, _⟩ := own_nil T0.out.rows
            obtain ⟨A6, c6, rfl, _⟩ := own_nil T0.out.ints
            have hq : ((K ++ [X]).idxOf X : Nat) = K.idxOf X := by
              rw [List.idxOf_append]
              split
              · rfl
              · rename_i h; rw [List.idxOf_eq_length h]; simp
            obtain ⟨z, hz⟩ : ∃ z : Nat, (K ++ [X]).idxOf X = z := ⟨_, rfl⟩
            have Hz := Lib.hid (hq.symm.trans hz)
            have hl0 : (Instr.lookup 109 (.map (some (w.heap.size + 1 + 1 + 1))) (.agg #[.string X.letter, .int .i64 X.left, .int .i64 X.right]) false).run Tryd.prog w2.drew = .ok (.int .i64 (z : Nat)) w2.drew := by rw [← hz]; exact T0.out.drew.look hkx.out hxm
            have hl1 : ∀ o, (Instr.lookup 109 (.map (some (w.heap.size + 1 + 1 + 1))) (.agg #[.string X.letter, .int .i64 X.left, .int .i64 X.right]) false).run Tryd.prog (w2.alloc o).drew = .ok (.int .i64 (z : Nat)) (w2.alloc o).drew := fun o => by rw [← hz]; exact (T0.out.alloc o).drew.look hkx.out hxm
            have hl2 : ∀ W v L, T3 ((w.alloc (Obj.cells #[Value.slice (some ⟨b, o, none⟩) xs.length c] 26)).alloc (Obj.cells #[Value.slice none 0 0] 26)) (w.heap.size + 2) (w.heap.size + 3) wr.heap.size X (K ++ [X]) W v L (.slice A6 S.length c6) S → (Instr.lookup 109 (.map (some (w.heap.size + 1 + 1 + 1))) (.agg #[.string X.letter, .int .i64 X.left, .int .i64 X.right]) false).run Tryd.prog W = .ok (.int .i64 (z : Nat)) W := fun W v L T => by rw [← hz]; exact T.look hkx.out hxm
            have HL2 := Lib.hid hl2
            obtain ⟨c0, c1, c2, lx⟩ := T0.out.box
            have T1 := Lib.hid T0.out.drew
            have nR := Lib.hid (fun N (h : w2.heap.size ≤ N) => own_far (N := N) T0.out.rows h)
            have nI := Lib.hid (fun N (h : w2.heap.size ≤ N) => own_far (N := N) T0.out.ints h)
            have KL : Hid (K.length ≤ 1099511627775) := by rw [Hid, HKl.out]; omega
            have SL : Hid (S.length ≤ 1099511627775) := by rw [Hid, HSl.out]; omega
            clear hl2 hz hq B2 hm2 hg2 hxm hlk
            have FIN : ∀ W p q, T3 ((w.alloc (Obj.cells #[Value.slice (some ⟨b, o, none⟩) xs.length c] 26)).alloc (Obj.cells #[Value.slice none 0 0] 26)) (w.heap.size + 2) (w.heap.size + 3) wr.heap.size X (K ++ [X]) W p (K ++ [X]) q (S ++ [(z : Int)]) → ∃ k', k' ≤ xs.length ∧ (Value.int .i64 ((k : Int) + 1)) = .int .i64 (k' : Nat) ∧ Below (w.heap.size + 2) ((w.alloc (Obj.cells #[Value.slice (some ⟨b, o, none⟩) xs.length c] 26)).alloc (Obj.cells #[Value.slice none 0 0] 26)) W ∧ OwnRules W (w.heap.size + 2) p (canon (xs.take k')).1 ∧ OwnInts W (w.heap.size + 2) q (canon (xs.take k')).2 ∧ RMap W (w.heap.size + 3) (canon (xs.take k')).1 := fun W p q T =>
              ⟨k + 1, by omega, rfl, T.below, by rw [Hnx.out]; exact T.rows, by rw [Hnx.out, Hz.out]; exact T.ints, by rw [Hnx.out]; exact T.mp⟩
            have FINh := Lib.hid FIN
            clear FIN
            go_wp2_with fail
            go_region_law (first
              | ((refine step_T3R (r := X) (v4 := .slice A4 K.length c4) (by rfl) _ _ (by rfl) (by rfl) (by first | rfl | simp) (by first | exact (T0.out.alloc _).drew | exact ((T0.out.alloc _).alloc _).drew | exact T2 | exact T2.alloc _) (by first | exact (Cells3.new (by simp)).drew | exact ((Cells3.new (by simp)).alloc _).drew | exact Cells3.new rfl | exact (Cells3.new (by simp)).drew.kept hg7 (nI.out _ (by simp)) | exact ((Cells3.new (by simp)).alloc _).drew.kept hg7 (nI.out _ (by simp))) KL.out ?_); intro v8 w8 T3 hg8; have hl3 := HL2.out _ _ _ T3; obtain ⟨c80, c81, c82, l8⟩ := T3.box)
              | ((refine step_T3I (y := (z : Nat)) (v6 := .slice A6 S.length c6) (by rfl) _ _ (by rfl) (by rfl) (by first | rfl | simp) (by first | exact (T0.out.alloc _).drew | exact ((T0.out.alloc _).alloc _).drew | exact T3 | exact T3.alloc _) (by first | exact (Cell1.new (by simp)).drew.1 | exact ((Cell1.new (by simp)).alloc _).drew.1 | exact (Cell1.new rfl).1 | exact ((Cell1.new (by simp)).drew.kept hg8 (nR.out _ (by simp))).1 | exact (((Cell1.new (by simp)).alloc _).drew.kept hg8 (nR.out _ (by simp))).1) SL.out ?_); intro v7 w7 T2 hg7; obtain ⟨c70, c71, c72, l7⟩ := T2.box))
            all_goals
              go_wp2_with fail
              refine ⟨?_, by simp only [intOf]; omega⟩
              first | exact FINh.out _ _ _ T2 | exact FINh.out _ _ _ T3
      · have hkn : k = xs.length := by omega
        subst hkn
        have hcz := canon_all Hok.out
        obtain ⟨K, S, hKS⟩ : ∃ K S, canon xs = (K, S) := ⟨_, _, rfl⟩
        have hown := HO.out
        have hint := HI.out
        rw [List.take_length, hKS] at hown hint
        rw [hKS] at hcz
        dsimp only at hown hint
        have hKl : K.length = xs.length := hcz.l1
        have hSl : S.length = xs.length := hcz.l2
        have hlow : 0 ≤ S.getD (xs.length - 1) 0 ∧ S.getD (xs.length - 1) 0 ≤ ((xs.length - 1 : Nat) : Int) := hcz.low (xs.length - 1) (by omega)
        have HKo : Hid (OkAll K) := hcz.ok
        have Hnd : Hid (needDown K xs.length (rootB xs) = needL xs) := by rw [Hid, needL, hKS]
        have Hrb : Hid (rootB xs = (List.replicate xs.length false).set (S.getD (xs.length - 1) 0).toNat true) := by rw [Hid, rootB, hKS]
        have Hto : Hid (∀ k, trimO xs (k + 1) = outStep K (needL xs) (trimO xs k) k) := fun k => by rw [trimO_succ, hKS]
        have HNl := Lib.hid (needL_len xs)
        obtain ⟨AK, cK, rfl, _, hmK, hrowK⟩ := OwnRules.sl hown
        obtain ⟨AS, cS, rfl, _, hmS, hrowS⟩ := OwnInts.sl hint
        obtain ⟨bS, oS, rfl, hbS, hcS⟩ := hrowS.int (k := xs.length - 1) (by omega)
        have c0 := hcS (xs.length - 1) (by omega)
        obtain ⟨t, ht⟩ := Int.eq_ofNat_of_zero_le hlow.1
        have hm1 : (xs.length : Int) - 1 = ((xs.length - 1 : Nat) : Int) := by omega
        have hm2 : xs.length - 1 < S.length := by omega
        have htl : t < xs.length := by omega
        rw [ht, Int.toNat_natCast] at Hrb
        rw [ht] at c0
        obtain ⟨m, hm⟩ : ∃ m, xs.length - 1 = m := ⟨_, rfl⟩
        rw [hm] at hm1 hm2 c0
        have HB2 := Lib.hid (show Below (w.heap.size + 2) _ wr from HB.out)
        have HrowK := Lib.hid hrowK
        have hmkB : ∀ W : World, (Instr.makeSlice 111 (.int .i64 (xs.length : Int)) (.int .i64 (xs.length : Int))).run Tryd.prog W = .ok (.slice (some ⟨W.heap.size, 0, none⟩) xs.length xs.length) (W.alloc (.cells (madeCells #[.bool false] xs.length) 4)) :=
          fun W => run_make_row' _ _ _ 1 Tryd.underlying111 (by kernel_rfl) rfl .i64 .i64 xs.length (by omega) (by omega) W
        have HKl := Lib.hid hKl
        have HSl := Lib.hid hSl
        clear hown hint hcz hKl hlow hSl hKS HO HI HMp hrowK hrowS hcS ht hm hmm hrow HCo hmK hmS
        clear hown hint hb hmap hco hlt hk
        generalize wr = w1 at *
        go_upto_region 16 with fail
        have hR0 := RowB.made w1 xs.length
        have hb0 : Below w1.heap.size w1 (w1.alloc (.cells (madeCells #[.bool false] xs.length) 4)) := (Below.refl _ _).alloc (Nat.le_refl _) _
        generalize w1.alloc (.cells (madeCells #[.bool false] xs.length) 4) = w2 at *
        have c1 := (hb0.cell (p := ⟨bS, oS + m, none⟩) hbS).trans c0
        have c2 := hR0.cell (i := t) (by simpa using htl)
        have f2 := hR0.frozen
        have hti : (t : Int) < (xs.length : Int) := by omega
        have HR0 := Lib.hid (hR0.set t true)
        rw [← Hrb.out] at HR0
        have HB0 := Lib.hid hb0
        clear hR0 hb0 c0
        go_wp2_with fail
        go_loopw [12] (fun i wx => ∃ (k : Nat) (z : Int) (N : List Bool), k ≤ xs.length ∧ z = (k : Int) - 1 ∧ i = .int .i64 z ∧ Below w1.heap.size w1 wx ∧ RowB wx w1.heap.size N ∧ N.length = xs.length ∧ needDown K k N = needL xs) (fun i _ => (intOf i + 1).toNat)
        case atStart =>
          exact ⟨xs.length, _, rootB xs, Nat.le_refl _, hm1.symm, rfl, HB0.out.setCell (Nat.le_refl _) _, HR0.out, by simp [rootB], Hnd.out⟩
        case round =>
          obtain ⟨k, z, N, hk2, rfl, rfl, hb2, hrN, hNl, hnN⟩ := hrel
          have HB3 := Lib.hid hb2
          have HRN := Lib.hid hrN
          have HNN := Lib.hid hnN
          have HNlen := Lib.hid hNl
          clear hb2 hrN hnN
          cases k with
          | zero =>
            have hz : ((0 : Nat) : Int) - 1 = -1 := by omega
            rw [hz]
            have hNN : N = needL xs := by have := HNN.out; rwa [needDown] at this
            subst hNN
            have HmkI : ∀ W : World, (Instr.makeSlice 58 (.int .i64 (xs.length : Int)) (.int .i64 (xs.length : Int))).run Tryd.prog W = .ok (.slice (some ⟨W.heap.size, 0, none⟩) xs.length xs.length) (W.alloc (.cells (madeCells #[.int .i64 0] xs.length) 2)) :=
              fun W => run_make_row' _ _ _ 8 Tryd.underlying58 Tryd.infoI rfl .i64 .i64 xs.length (by omega) (by omega) W
            obtain ⟨w3, rfl⟩ : ∃ w3 : World, w3 = wr := ⟨_, rfl⟩
            clear hz c1 c2 f2 hmkB hti HR0 HB0 Hrb Hnd HNN
            go_upto_region 23 with fail
            go_cut [14, 15] (fun p q wx => ∃ bo ba : Nat, p = .pointer (some ⟨bo, 0, none⟩) ∧ q = .slice (some ⟨ba, 0, none⟩) xs.length xs.length ∧ w3.heap.size ≤ bo ∧ w3.heap.size ≤ ba ∧ bo ≠ ba ∧ Boxed wx bo 26 (.slice none 0 0) ∧ RowI wx ba (List.replicate xs.length 0) ∧ Below w3.heap.size w3 wx)
            case first =>
              go_region
              all_goals
                go_wp2_with fail
                go_meet
                first
                  | exact ⟨w3.heap.size + 1, w3.heap.size, rfl, rfl, by omega, Nat.le_refl _, by omega, Boxed.of1 w3 _ _ _, (RowI.made w3 xs.length).alloc _, Below.drew (((Below.refl _ _).alloc (Nat.le_refl _) _).alloc (by simp) _)⟩
                  | exact ⟨w3.heap.size, w3.heap.size + 1, rfl, rfl, Nat.le_refl _, by omega, by omega, (Boxed.new w3 _ _).alloc _, RowI.of1 w3 _ _, Below.drew (((Below.refl _ _).alloc (Nat.le_refl _) _).alloc (by simp) _)⟩
            case rest =>
              revert hcut
              generalize wc = w4
              intro hcut
              obtain ⟨bo, ba, rfl, rfl, hbo, hba, hne, hbx, hri, hb4⟩ := hcut
              have HRN4 := Lib.hid (HRN.out.below hb4 HRN.out.lt)
              have z13 := HRN.out.lt
              have HB4 := Lib.hid (HB3.out.trans (hb4.mono (Nat.le_of_lt HRN.out.lt)))
              have HBX := Lib.hid hbx
              have HRI := Lib.hid hri
              have Hb4 := Lib.hid hb4
              clear hbx hri hb4 HRN HB3 HNlen hNl hk2 HmkI
              go_wp2_with fail
              go_loopw [110] (fun i wx => ∃ k : Nat, k ≤ xs.length ∧ i = .int .i64 k ∧ Below w3.heap.size w4 wx ∧ ∃ vo : Value, Boxed wx bo 26 vo ∧ OwnRules wx w3.heap.size vo (trimO xs k).1 ∧ RowI wx ba (trimO xs k).2) (fun i _ => xs.length - (intOf i).toNat)
              case atStart => exact ⟨0, Nat.zero_le _, rfl, Below.refl _ _, _, HBX.out, World.ownsRow_nil _ _ _ _, HRI.out⟩
              case round =>
                obtain ⟨k, hk, rfl, hb5, vo, hbx, hown, hri⟩ := hrel
                obtain ⟨Ao, co, rfl, _⟩ := own_nil hown
                have HB5 := Lib.hid hb5
                have HBX5 := Lib.hid hbx
                have HOW := Lib.hid hown
                have HRI5 := Lib.hid hri
                have z34 : w3.heap.size ≤ w4.heap.size := Hb4.out.size
                have z45 : w4.heap.size ≤ wr.heap.size := hb5.size
                clear hb5 hown hri
                by_cases hlt : k < xs.length
                · obtain ⟨bK, oK, hAK, hbK, hcK⟩ := HrowK.out.rule (k := k) (by have := HKl.out; omega)
                  subst hAK
                  obtain ⟨r, hr⟩ : ∃ r, K[k]? = some r := ⟨_, List.getElem?_eq_getElem (by have := HKl.out; omega)⟩
                  have Hr := Lib.hid hr
                  have Hor := Lib.hid (HKo.out k r hr)
                  obtain ⟨q0, q1, q2⟩ := hcK k r hr
                  have B1 : Below w1.heap.size w1 wr := HB4.out.trans (HB5.out.mono (Nat.le_of_lt z13))
                  have p0 := (B1.cell (p := ⟨bK, oK + k * 3, none⟩) hbK).trans q0
                  have p1 := (B1.cell (p := ⟨bK, oK + k * 3 + 1, none⟩) hbK).trans q1
                  have p2 := (B1.cell (p := ⟨bK, oK + k * 3 + 2, none⟩) hbK).trans q2
                  have hjK : (k : Int) < (K.length : Int) := by have := HKl.out; omega
                  have hjn : (k : Int) < (xs.length : Int) := by omega
                  have RNr := Lib.hid (HRN4.out.below HB5.out z13)
                  have cN := RNr.out.cell (i := k) (by have := HNl.out; omega)
                  have hlN := RNr.out.lt
                  obtain ⟨L, T, hLT⟩ : ∃ L T, trimO xs k = (L, T) := ⟨_, _, rfl⟩
                  have hTl : T.length = xs.length := by have := (trimO_len xs k).1; rw [hLT] at this; exact this
                  have hLl : L.length ≤ k := by have := (trimO_len xs k).2; rw [hLT] at this; exact this
                  rw [hLT] at HBX5 HOW HRI5
                  dsimp only at HBX5 HOW HRI5
                  have hst := Hto.out k
                  rw [hLT, outStep, getR_some hr] at hst
                  obtain ⟨u, hu⟩ : ∃ u, (needL xs).getD k false = u := ⟨_, rfl⟩
                  rw [hu] at cN hst
                  dsimp only at hst
                  have zbo := hbx.lt
                  have zba := HRI5.out.lt
                  clear hr hcK q0 q1 q2 B1 hLT hu hbx
                  cases u
                  · rw [if_neg (by simp)] at hst
                    have Hst := Lib.hid hst
                    clear hst
                    go_wp2_with fail
                    refine ⟨⟨k + 1, by omega, rfl, HB5.out.alloc (by omega) _, _, by rw [Hst.out]; exact ⟨HBX5.out.alloc _, HOW.out.alloc _, HRI5.out.alloc _⟩⟩, by simp [intOf]; omega⟩
                  · rw [if_pos rfl] at hst
                    obtain ⟨X, hX⟩ : ∃ X, trimR T r = X := ⟨_, rfl⟩
                    rw [hX] at hst
                    have Hst := Lib.hid hst
                    have HX := Lib.hid hX
                    have HTl := Lib.hid hTl
                    have HLl := Lib.hid hLl
                    clear hst hX hTl hLl
                    go_wp2_with fail
                    refine (isPair_any _ _ _ _).mono ?_
                    rintro e w5 ⟨rfl, rfl⟩
                    go_upto_if 121 with fail
                    go_cut [] from 114 to 132 (fun wx => Below wr.heap.size wr wx ∧ Cells3 wx wr.heap.size X)
                    case first =>
                      by_cases hp : r.letter.toList.isEmpty = true
                      · rw [hp]
                        have hpr : r.pair = true := by rw [isEmpty_size] at hp; exact hp
                        obtain ⟨e1, e2, e3, e4⟩ := okRule_at Hor.out hpr
                        obtain ⟨la, hla⟩ := Int.eq_ofNat_of_zero_le e1
                        obtain ⟨ra, hra⟩ := Int.eq_ofNat_of_zero_le e3
                        rw [hla] at e2
                        rw [hra] at e4
                        simp only [Int.toNat_natCast] at e2 e4
                        have i1 : (la : Int) < (xs.length : Int) := by omega
                        have i2 : (ra : Int) < (xs.length : Int) := by omega
                        have w1c := HRI5.out.cell (i := la) (by have := HTl.out; omega)
                        have w2c := HRI5.out.cell (i := ra) (by have := HTl.out; omega)
                        obtain ⟨va, hva⟩ : ∃ x, T.getD la 0 = x := ⟨_, rfl⟩
                        obtain ⟨vb, hvb⟩ : ∃ x, T.getD ra 0 = x := ⟨_, rfl⟩
                        rw [hva] at w1c
                        rw [hvb] at w2c
                        have hX2 : X = pairR va vb := by rw [← HX.out, trimR_pair hpr, hla, hra, ← hva, ← hvb]; rfl
                        have HX2 := Lib.hid hX2
                        rw [hla, hra]
                        clear hX2 hpr e1 e3 hva hvb hla hra
                        have B3 : Below wr.heap.size wr ((wr.alloc (Obj.cells #[Value.string r.letter, Value.int IntKind.i64 la, Value.int IntKind.i64 ra] 42)).alloc (Obj.cells #[Value.string r.letter, Value.int IntKind.i64 la, Value.int IntKind.i64 ra] 42)) := (by repeat (first | exact Below.refl _ _ | (refine Below.alloc ?_ (by first | omega | (simp; done) | (simp; omega)) _) | refine below_drewN ?_ _ | refine Below.drew ?_))
                        have e0 : ((wr.alloc (Obj.cells #[Value.string r.letter, Value.int IntKind.i64 la, Value.int IntKind.i64 ra] 42)).alloc (Obj.cells #[Value.string r.letter, Value.int IntKind.i64 la, Value.int IntKind.i64 ra] 42)).heap[wr.heap.size]? = some (Obj.cells #[Value.string r.letter, Value.int IntKind.i64 la, Value.int IntKind.i64 ra] 42 (0, 0)) := ((Below.refl _ _).alloc (Nat.le_refl _) _).block wr.heap.size (by simp) |>.trans (alloc_heap_last _ _)
                        generalize (wr.alloc (Obj.cells #[Value.string r.letter, Value.int IntKind.i64 la, Value.int IntKind.i64 ra] 42)).alloc (Obj.cells #[Value.string r.letter, Value.int IntKind.i64 la, Value.int IntKind.i64 ra] 42) = W3 at *
                        have l0 : wr.heap.size < W3.heap.size := (Array.getElem?_eq_some_iff.1 e0).1
                        have c0 : W3.cell? ⟨wr.heap.size, 0, none⟩ = some (.string r.letter) := by simp [World.cell?, e0]
                        have c1 : W3.cell? ⟨wr.heap.size, 1, none⟩ = some (.int .i64 la) := by simp [World.cell?, e0]
                        have c2 : W3.cell? ⟨wr.heap.size, 2, none⟩ = some (.int .i64 ra) := by simp [World.cell?, e0]
                        have f0 : ∀ o, W3.frozen? ⟨wr.heap.size, o, none⟩ = false := fun o => by simp [World.frozen?, e0]
                        have w3c := (B3.cell (p := ⟨ba, la, none⟩) zba).trans w1c
                        have w4c := (B3.cell (p := ⟨ba, ra, none⟩) zba).trans w2c
                        have BB3 := Lib.hid B3
                        clear B3 e0 w1c w2c p0 p1 p2 cN
                        go_wp2_with fail
                        go_still_tail 10, (by kernel_rfl)
                        change wpList _ _ _ _ _ W3.drew
                        go_wp2_with fail
                        refine (pairI64_any _ _ _).mono ?_
                        rintro e w5 ⟨rfl, hb5⟩
                        have z5 : W3.heap.size ≤ w5.heap.size := hb5.size
                        have l5 : wr.heap.size < w5.heap.size := by omega
                        have d0 : w5.cell? ⟨wr.heap.size, 0, none⟩ = some (.string r.letter) := (hb5.cell (p := ⟨wr.heap.size, 0, none⟩) l0).trans c0
                        have d1 : w5.cell? ⟨wr.heap.size, 1, none⟩ = some (.int .i64 la) := (hb5.cell (p := ⟨wr.heap.size, 1, none⟩) l0).trans c1
                        have d2 : w5.cell? ⟨wr.heap.size, 2, none⟩ = some (.int .i64 ra) := (hb5.cell (p := ⟨wr.heap.size, 2, none⟩) l0).trans c2
                        have g5 : ∀ o, w5.frozen? ⟨wr.heap.size, o, none⟩ = false := fun o => (hb5.frozen (p := ⟨wr.heap.size, o, none⟩) l0).trans (f0 o)
                        have B5 := Lib.hid ((Below.drew BB3.out).trans (hb5.mono (Nat.le_of_lt l0)))
                        clear c0 c1 c2 f0 w3c w4c hb5
                        go_wp2_with fail
                        go_meet
                        rw [HX2.out]
                        exact ⟨((B5.out.setCell (Nat.le_refl _) _).setCell (Nat.le_refl _) _).setCell (Nat.le_refl _) _, by simp [go_sem, pairR, d0], by simp [go_sem, pairR, d1], by simp [go_sem, pairR, d2], by simp; omega⟩
                      · have hpr : r.pair = false := by rw [isEmpty_size] at hp; simpa [GRule.pair] using hp
                        have hX2 : X = r := by rw [← HX.out, trimR_let hpr]
                        have HX2 := Lib.hid hX2
                        have hp2 : r.letter.toList.isEmpty = false := by simpa using hp
                        rw [hp2]
                        clear hX2 hpr hp
                        go_wp2_with fail
                        go_meet
                        rw [HX2.out]
                        exact ⟨(by repeat (first | exact Below.refl _ _ | (refine Below.alloc ?_ (by first | omega | (simp; done) | (simp; omega)) _) | refine below_drewN ?_ _ | refine Below.drew ?_)), by simp [go_sem], by simp [go_sem], by simp [go_sem], by simp; omega⟩
                    case rest =>
                      revert hcut
                      generalize wc = w5
                      intro hcut
                      obtain ⟨hb6, hx6⟩ := hcut
                      have bx6 : Boxed w5 bo 26 (.slice Ao L.length co) := Boxed.up HBX5.out hb6 zbo
                      have hcb := bx6.cell
                      have hfb := bx6.frozen
                      have ri6 := HRI5.out.below hb6 zba
                      have HRI6 := Lib.hid (ri6.set k (L.length : Int))
                      have cT := ri6.cell (i := k) (by have := HTl.out; omega)
                      have fT := ri6.frozen
                      have ow6 : OwnRules w5 w3.heap.size (.slice Ao L.length co) L := OwnRules.below HOW.out hb6
                      have hne2 : ba ≠ wr.heap.size := by omega
                      have HOW6 : Hid (OwnRules (w5.setCell ⟨ba, k, none⟩ (.int .i64 (L.length : Int))) w3.heap.size (.slice Ao L.length co) L) := ownsRow_setCell_other (a := ⟨ba, k, none⟩) ow6 (ri6.not_row ow6 (by decide)).symm _
                      have HX6 := Lib.hid hx6
                      have HBX6 := Lib.hid (boxed_other (o := k) bx6 hne (.int .i64 (L.length : Int)))
                      have BB6 := Lib.hid ((HB5.out.trans (hb6.mono (by omega))).setCell (p := ⟨ba, k, none⟩) hba (.int .i64 (L.length : Int)))
                      clear hb6 hx6 bx6 ri6 ow6 p0 p1 p2 cN
                      go_upto_region 31 with fail
                      have HX7 : Hid (Cells3 (w5.setCell ⟨ba, k, none⟩ (.int .i64 (L.length : Int))) wr.heap.size X) := by
                        obtain ⟨a0, a1, a2, a3⟩ := HX6.out
                        have hb : ∀ o, (w5.setCell ⟨ba, k, none⟩ (.int .i64 (L.length : Int))).cell? ⟨wr.heap.size, o, none⟩ = w5.cell? ⟨wr.heap.size, o, none⟩ := fun o => World.cell?_of_block (a := ⟨wr.heap.size, o, none⟩) (Below.heap_setCell _ _ _ _ hne2.symm)
                        exact ⟨(hb 0).trans a0, (hb 1).trans a1, (hb 2).trans a2, by simpa [World.setCell] using a3⟩
                      clear hcb hfb cT fT HX6
                      generalize w5.setCell ⟨ba, k, none⟩ (.int .i64 (L.length : Int)) = w6 at *
                      obtain ⟨x0, x1, x2, x3⟩ := HX7.out
                      have hcb := HBX6.out.cell
                      have HLL : Hid (L.length ≤ 1099511627775) := by have := HLl.out; exact Nat.le_trans this (by omega)
                      have HW6 : Hid (w3.heap.size ≤ w6.heap.size) := Nat.le_of_lt (Nat.lt_of_le_of_lt hbo HBX6.out.lt)
                      go_wp2_with (first
                        | (at_builtin; refine list_push_rule (base := w3.heap.size) (v := .slice Ao L.length co) rfl _ _ rfl (by rfl) (by rfl) rfl HOW6.out HLL.out HW6.out ?_; intro v7 w7 own7 hg7 hb7; (have bx7 : Boxed w7 bo 26 _ := Boxed.grown HBX6.out (by decide) HOW6.out hg7; have ri7 := Lib.hid ((HRI6.out.alloc _).kept hg7 (HRI6.out.not_row HOW6.out (by decide))); obtain ⟨A7, c7, rfl, _⟩ := own_nil own7; have hcb7 := bx7.cell; have hfb7 := bx7.frozen; have hl7 := bx7.lt; have own8 := Lib.hid (own_put bx7 own7 rfl List.length_append); have B8 := Lib.hid (((BB6.out.alloc HW6.out _).trans hb7).setCell (p := ⟨bo, 0, none⟩) hbo (.slice A7 (L.length + 1) c7)); have X8 : Hid (Boxed (w7.setCell ⟨bo, 0, none⟩ (.slice A7 (L.length + 1) c7)) bo 26 (.slice A7 (L.length + 1) c7)) := Boxed.set _ bx7; have R8 := Lib.hid (ri7.out.other (c := bo) (o := 0) hne.symm (.slice A7 (L.length + 1) c7)); clear own7 hg7 hb7)))
                      refine ⟨⟨k + 1, by omega, rfl, B8.out, _, X8.out, ?_⟩, by simp [intOf]; omega⟩
                      rw [Hst.out]
                      exact ⟨own8.out, R8.out⟩
                · have hkn : k = xs.length := by omega
                  subst hkn
                  have h1b : Below w1.heap.size w1 wr := HB4.out.trans (HB5.out.mono (Nat.le_of_lt z13))
                  have h0b : Below (w.heap.size + 2) _ wr := HB2.out.trans (h1b.mono hwz)
                  have c9 : wr.cell? ⟨w.heap.size + 1, 0, none⟩ = some (.slice none 0 0) := (h0b.cell (p := ⟨w.heap.size + 1, 0, none⟩) (by show w.heap.size + 1 < w.heap.size + 2; omega)).trans (by simp [go_sem])
                  have f9 : wr.frozen? ⟨w.heap.size + 1, 0, none⟩ = false := (h0b.frozen (p := ⟨w.heap.size + 1, 0, none⟩) (by show w.heap.size + 1 < w.heap.size + 2; omega)).trans (by simp [go_sem])
                  have cw : (wr.setCell ⟨w.heap.size + 1, 0, none⟩ (.slice Ao (trimO xs xs.length).1.length co)).cell? ⟨w.heap.size + 1, 0, none⟩ = some (.slice Ao (trimO xs xs.length).1.length co) := by
                    have hn9 : Boxed ((w.alloc (Obj.cells #[Value.slice A xs.length c] 26)).alloc (Obj.cells #[Value.slice none 0 0] 26)) (w.heap.size + 1) 26 (.slice none 0 0) := by
                      have := Boxed.new (w.alloc (Obj.cells #[Value.slice A xs.length c] 26)) 26 (Value.slice none 0 0)
                      rwa [show (w.alloc (Obj.cells #[Value.slice A xs.length c] 26)).heap.size = w.heap.size + 1 by simp] at this
                    have hb9 : Boxed wr (w.heap.size + 1) 26 (.slice none 0 0) := (h0b.block (w.heap.size + 1) (by omega)).trans hn9
                    have := Boxed.set (.slice Ao (trimO xs xs.length).1.length co) hb9
                    exact this.cell
                  have Hcw := Lib.hid cw
                  clear cw
                  have cb := hbx.cell
                  have hz9 : w.heap.size + 1 < wr.heap.size := by have := h0b.size; simp at this; omega
                  have H0 := Lib.hid h0b
                  have hkk : ¬ ((xs.length : Int) < (K.length : Int)) := by have := HKl.out; omega
                  clear h1b h0b
                  go_wp2_with fail
                  refine bodyPost_ret (v := .agg #[.slice Ao (trimO xs xs.length).1.length co]) (by simp [results, Tryd.results56, go_sem, Hcw.out]) rfl ⟨?_, .slice Ao (trimO xs xs.length).1.length co, ?_, rfl⟩
                  · exact (((Below.refl w.heap.size w).alloc (Nat.le_refl _) _).alloc (by simp) _).trans (H0.out.mono (by omega)) |>.setCell (by show w.heap.size ≤ w.heap.size + 1; omega) _
                  · exact ownsRow_setCell_below (a := ⟨w.heap.size + 1, 0, none⟩) (ownsRow_more HOW.out (base' := w.heap.size + 2) (by omega)) (by show w.heap.size + 1 < w.heap.size + 2; omega) _ |> fun h => ownsRow_more h (by omega)
          | succ j =>
            have hz : ((j + 1 : Nat) : Int) - 1 = (j : Int) := by omega
            rw [hz]
            clear hz
            obtain ⟨bK, oK, hAK, hbK, hcK⟩ := HrowK.out.rule (k := j) (by have := HKl.out; omega)
            subst hAK
            obtain ⟨r, hr⟩ : ∃ r, K[j]? = some r := ⟨_, List.getElem?_eq_getElem (by have := HKl.out; omega)⟩
            have Hr := Lib.hid hr
            have Hor := Lib.hid (HKo.out j r hr)
            obtain ⟨q0, q1, q2⟩ := hcK j r hr
            have p0 := (HB3.out.cell (p := ⟨bK, oK + j * 3, none⟩) hbK).trans q0
            have p1 := (HB3.out.cell (p := ⟨bK, oK + j * 3 + 1, none⟩) hbK).trans q1
            have p2 := (HB3.out.cell (p := ⟨bK, oK + j * 3 + 2, none⟩) hbK).trans q2
            have hjK : (j : Int) < (K.length : Int) := by have := HKl.out; omega
            have hjn : (j : Int) < (xs.length : Int) := by omega
            have cN := HRN.out.cell (i := j) (by have := HNlen.out; omega)
            have hlN := HRN.out.lt
            obtain ⟨u, hu⟩ : ∃ u, N.getD j false = u := ⟨_, rfl⟩
            rw [hu] at cN
            have Hu := Lib.hid hu
            clear hr hcK q0 q1 q2 hu hNl
            cases u
            · go_wp2_with fail
              go_roundw
              case rel => exact ⟨j, _, N, by omega, rfl, rfl, HB3.out.alloc (Nat.le_of_lt hlN) _, HRN.out.alloc _, HNlen.out, by rw [← HNN.out, needDown, needStep, Hu.out]; rfl⟩
              case measure => simp [intOf]
            · go_wp2_with fail
              refine (isPair_any _ _ _ _).mono ?_
              rintro e w3 ⟨rfl, rfl⟩
              by_cases hp : r.letter.toList.isEmpty = true
              · rw [hp]
                have hpr : r.pair = true := by rw [isEmpty_size] at hp; exact hp
                obtain ⟨e1, e2, e3, e4⟩ := okRule_at Hor.out hpr
                obtain ⟨la, hla⟩ := Int.eq_ofNat_of_zero_le e1
                obtain ⟨ra, hra⟩ := Int.eq_ofNat_of_zero_le e3
                rw [hla] at e2
                rw [hra] at e4
                simp only [Int.toNat_natCast] at e2 e4
                have Hla := Lib.hid hla
                have Hra := Lib.hid hra
                have Hpr := Lib.hid hpr
                clear hpr
                have i1 : (la : Int) < (xs.length : Int) := by omega
                have i2 : (ra : Int) < (xs.length : Int) := by omega
                rw [hla, hra]
                clear e1 e3 hla hra
                have B3 : Below wr.heap.size wr ((wr.alloc (Obj.cells #[Value.string r.letter, Value.int IntKind.i64 la, Value.int IntKind.i64 ra] 42)).alloc (Obj.cells #[Value.string r.letter, Value.int IntKind.i64 la, Value.int IntKind.i64 ra] 42)) := (by repeat (first | exact Below.refl _ _ | (refine Below.alloc ?_ (by first | omega | (simp; done) | (simp; omega)) _) | refine below_drewN ?_ _ | refine Below.drew ?_))
                have e0 : ((wr.alloc (Obj.cells #[Value.string r.letter, Value.int IntKind.i64 la, Value.int IntKind.i64 ra] 42)).alloc (Obj.cells #[Value.string r.letter, Value.int IntKind.i64 la, Value.int IntKind.i64 ra] 42)).heap[wr.heap.size]? = some (Obj.cells #[Value.string r.letter, Value.int IntKind.i64 la, Value.int IntKind.i64 ra] 42 (0, 0)) := ((Below.refl _ _).alloc (Nat.le_refl _) _).block wr.heap.size (by simp) |>.trans (alloc_heap_last _ _)
                generalize (wr.alloc (Obj.cells #[Value.string r.letter, Value.int IntKind.i64 la, Value.int IntKind.i64 ra] 42)).alloc (Obj.cells #[Value.string r.letter, Value.int IntKind.i64 la, Value.int IntKind.i64 ra] 42) = W3 at *
                have l0 : wr.heap.size < W3.heap.size := (Array.getElem?_eq_some_iff.1 e0).1
                have d1 : W3.cell? ⟨wr.heap.size, 1, none⟩ = some (.int .i64 la) := by simp [World.cell?, e0]
                have d2 : W3.cell? ⟨wr.heap.size, 2, none⟩ = some (.int .i64 ra) := by simp [World.cell?, e0]
                have RN3 := Lib.hid (HRN.out.below B3 hlN)
                have cL := RN3.out.cell (i := la) (by have := HNlen.out; omega)
                have cR := RN3.out.cell (i := ra) (by have := HNlen.out; omega)
                have fN := RN3.out.frozen
                have BB3 := Lib.hid B3
                have hne : wr.heap.size ≠ w1.heap.size := by omega
                clear p0 p1 p2 cN B3 e0
                go_wp2_with fail
                by_cases hlr : la = ra
                · subst hlr
                  have H3 := Lib.hid ((RN3.out.set la true).set la true).drew
                  have B4 := Lib.hid (Below.drew (((HB3.out.trans (BB3.out.mono (Nat.le_of_lt hlN))).setCell (p := ⟨w1.heap.size, la, none⟩) (Nat.le_refl _) (.bool true)).setCell (p := ⟨w1.heap.size, la, none⟩) (Nat.le_refl _) (.bool true)))
                  go_region
                  go_wp2_with fail
                  go_roundw
                  case rel => exact ⟨j, _, _, by omega, rfl, rfl, B4.out, H3.out, by simpa using HNlen.out, by rw [← HNN.out, needDown, needStep, getR_some Hr.out, Hu.out, Hpr.out, Hla.out, Hra.out]; rfl⟩
                  case measure => simp [intOf]
                · have hlr2 : ra ≠ la := fun e => hlr e.symm
                  have H3 := Lib.hid ((RN3.out.set la true).set ra true).drew
                  have B4 := Lib.hid (Below.drew (((HB3.out.trans (BB3.out.mono (Nat.le_of_lt hlN))).setCell (p := ⟨w1.heap.size, la, none⟩) (Nat.le_refl _) (.bool true)).setCell (p := ⟨w1.heap.size, ra, none⟩) (Nat.le_refl _) (.bool true)))
                  go_region
                  go_wp2_with fail
                  go_roundw
                  case rel => exact ⟨j, _, _, by omega, rfl, rfl, B4.out, H3.out, by simpa using HNlen.out, by rw [← HNN.out, needDown, needStep, getR_some Hr.out, Hu.out, Hpr.out, Hla.out, Hra.out]; rfl⟩
                  case measure => simp [intOf]
              · have hpr : r.pair = false := by rw [isEmpty_size] at hp; simpa [GRule.pair] using hp
                have hp2 : r.letter.toList.isEmpty = false := by simpa using hp
                have Hpr := Lib.hid hpr
                have hgr : getR K j = r := getR_some Hr.out
                have Hgr := Lib.hid hgr
                rw [hp2]
                clear hpr hp hgr
                go_wp2_with fail
                go_roundw
                case rel => exact ⟨j, _, N, by omega, rfl, rfl, (HB3.out.alloc (Nat.le_of_lt hlN) _).alloc (by simp; omega) _, (HRN.out.alloc _).alloc _, HNlen.out, by rw [← HNN.out, needDown, needStep, Hgr.out, Hpr.out, Bool.and_false]; rfl⟩
                case measure => simp [intOf]
theorem Row.take {α : Type} {E : Enc α} {w : World} {S : Nat → Prop} {A : Option Addr} {xs : List α} (h : Row E w S A xs) (m : Nat) : Row E w S A (xs.take m) := fun hn => by
  obtain ⟨b, o, rfl, hlt, hc⟩ := h (by simp at hn; omega)
  refine ⟨b, o, rfl, hlt, fun k x hx => hc k x ?_⟩
  rw [List.getElem?_take] at hx
  split at hx
  · exact hx
  · cases hx
theorem sl_take {α : Type} {E : Enc α} {w : World} {S : Nat → Prop} {A : Option Addr} {n c : Nat} {xs : List α} (h : SlS E w S (.slice A n c) xs) {m : Nat} (hm : m ≤ xs.length) : SlS E w S (.slice A m c) (xs.take m) := by
  obtain ⟨A', c', e, h1, h2, h3⟩ := h
  injection e with e1 e2 e3
  subst e1; subst e3
  exact ⟨A, c, by rw [List.length_take, Nat.min_eq_left hm], by rw [List.length_take]; omega, h2, h3.take m⟩
theorem joinFold_len : ∀ (l : List Nat) (p : List GRule × Int), (l.foldl joinStep p).1.length = p.1.length + l.length
  | [], p => rfl
  | a :: l, p => by rw [List.foldl_cons, joinFold_len l]; simp [joinStep]; omega
theorem foldl_snoc (l s : List Nat) : l.foldl (fun s r => s ++ [r]) s = s ++ l := by
  induction l generalizing s with
  | nil => simp
  | cons a l ih => rw [List.foldl_cons, ih]; simp
set_option maxRecDepth 100000 in
set_option maxHeartbeats 4000000 in
theorem part_any (vR vL : Value) (xs : List GRule) (ls : List Int) (i j : Int) (w : World) (hR : Sl RuleE w w.heap.size vR xs) (hL : Sl IntE w w.heap.size vL ls) (hl : lens xs = some ls) (hn : xs.length ≤ 1048576) :
    Calls Tryd.prog 34 #[.agg #[vR], vL, .int .i64 i, .int .i64 j] w (GOwn (partG xs ls i j) w) := by
  have HL := Lib.hid hL
  have HR := Lib.hid hR
  obtain ⟨AR, cR, rfl, _, hmR, _⟩ := hR
  obtain ⟨AL, cL, rfl, _⟩ := hL
  unfold maxLen at hmR
  have Hl := Lib.hid hl
  clear hl
  go_enter Tryd.func34, Tryd.ntmps34
  go_wp2_with fail
  have hz0 : ((((w.alloc (Obj.cells #[Value.slice AR xs.length cR] 26)).alloc (Obj.cells #[Value.slice none 0 0] 26)).alloc (Obj.cells #[] 2)).alloc (Obj.cells #[Value.slice (some ⟨w.heap.size + 1 + 1, 0, none⟩) 0 0] 58)).heap.size = w.heap.size + 4 := by simp
  have hB0 : Below w.heap.size w ((((w.alloc (Obj.cells #[Value.slice AR xs.length cR] 26)).alloc (Obj.cells #[Value.slice none 0 0] 26)).alloc (Obj.cells #[] 2)).alloc (Obj.cells #[Value.slice (some ⟨w.heap.size + 1 + 1, 0, none⟩) 0 0] 58)) := (by repeat (first | exact Below.refl _ _ | (refine Below.alloc ?_ (by first | omega | (simp; done) | (simp; omega)) _) | refine below_drewN ?_ _ | refine Below.drew ?_))
  have hx0 : ((((w.alloc (Obj.cells #[Value.slice AR xs.length cR] 26)).alloc (Obj.cells #[Value.slice none 0 0] 26)).alloc (Obj.cells #[] 2)).alloc (Obj.cells #[Value.slice (some ⟨w.heap.size + 1 + 1, 0, none⟩) 0 0] 58)).cell? ⟨w.heap.size, 0, none⟩ = some (.slice AR xs.length cR) := by simp [go_sem]
  have hbx1 : Boxed ((((w.alloc (Obj.cells #[Value.slice AR xs.length cR] 26)).alloc (Obj.cells #[Value.slice none 0 0] 26)).alloc (Obj.cells #[] 2)).alloc (Obj.cells #[Value.slice (some ⟨w.heap.size + 1 + 1, 0, none⟩) 0 0] 58)) (w.heap.size + 1) 26 (.slice none 0 0) := by
    have := ((Boxed.new (w.alloc (Obj.cells #[Value.slice AR xs.length cR] 26)) 26 (.slice none 0 0)).alloc (Obj.cells #[] 2)).alloc (Obj.cells #[Value.slice (some ⟨w.heap.size + 1 + 1, 0, none⟩) 0 0] 58)
    rwa [show (w.alloc (Obj.cells #[Value.slice AR xs.length cR] 26)).heap.size = w.heap.size + 1 by simp] at this
  have hCJ : CJ (w.heap.size + 3) (w.heap.size + 2) (fun b => b < w.heap.size + 2) [] ((((w.alloc (Obj.cells #[Value.slice AR xs.length cR] 26)).alloc (Obj.cells #[Value.slice none 0 0] 26)).alloc (Obj.cells #[] 2)).alloc (Obj.cells #[Value.slice (some ⟨w.heap.size + 1 + 1, 0, none⟩) 0 0] 58)) := by
    refine ⟨.slice (some ⟨w.heap.size + 1 + 1, 0, none⟩) 0 0, ?_, ?_, by simp, by omega, fun g hg => ?_⟩
    · have := Boxed.new (((w.alloc (Obj.cells #[Value.slice AR xs.length cR] 26)).alloc (Obj.cells #[Value.slice none 0 0] 26)).alloc (Obj.cells #[] 2)) 58 (Value.slice (some ⟨w.heap.size + 1 + 1, 0, none⟩) 0 0)
      rwa [show (((w.alloc (Obj.cells #[Value.slice AR xs.length cR] 26)).alloc (Obj.cells #[Value.slice none 0 0] 26)).alloc (Obj.cells #[] 2)).heap.size = w.heap.size + 3 by simp] at this
    · exact (OwnInts.empty (w := (w.alloc (Obj.cells #[Value.slice AR xs.length cR] 26)).alloc (Obj.cells #[Value.slice none 0 0] 26)) (by simp) (by simp)).alloc _
    · have : w.heap.size + 1 + 1 = g := Option.some.inj hg
      omega
  generalize ((((w.alloc (Obj.cells #[Value.slice AR xs.length cR] 26)).alloc (Obj.cells #[Value.slice none 0 0] 26)).alloc (Obj.cells #[] 2)).alloc (Obj.cells #[Value.slice (some ⟨w.heap.size + 1 + 1, 0, none⟩) 0 0] 58)) = w0 at *
  have HB0 := Lib.hid hB0
  have HX0 := Lib.hid hx0
  have HBX1 := Lib.hid hbx1
  have HZ0 := Lib.hid hz0
  have HCJ := Lib.hid hCJ
  clear hB0 hx0 hbx1 hz0 hCJ
  have hpl := pieces_len Hl.out i j
  have hpm := pieces_mem Hl.out i j
  refine (pieces_any (CJ (w.heap.size + 3) (w.heap.size + 2)) (fun s r => s ++ [r]) (fun s _ => s.length ≤ 1099511627775) 55 #[.pointer (some ⟨w.heap.size + 3, 0, none⟩)] xs ls i j Hl.out (by omega) (enters_of Tryd.func55 (by kernel_rfl) rfl) (fun C s w w' hJ hb _ hC => CJ.ext C s w w' hJ hb hC)
    (fun C s r w' hJ hok hr hC => coverCl_any _ _ C s r w' hJ hok hC) (.slice AL ls.length cL) (.slice AR xs.length cR) [] (fun b => b < w.heap.size + 2) w0 HCJ.out ?_ ?_ ?_ ?_).mono ?_
  · intro l1 r l2 e
    rw [foldl_snoc, List.nil_append]
    have := congrArg List.length e
    simp at this; omega
  · intro b hb
    have := HZ0.out
    omega
  · exact ((HL.out.below HB0.out).le (by omega))
  · exact ((HR.out.below HB0.out).le (by omega))
  rintro e w2 ⟨rfl, C2, g1, g2, g3, g4⟩
  rw [foldl_snoc, List.nil_append] at g3
  obtain ⟨P, hP⟩ : ∃ P, piecesL xs ls i j = P := ⟨_, rfl⟩
  rw [hP] at g3 hpl hpm
  obtain ⟨v, hbc, hoc, _, _, hvC⟩ := g3
  obtain ⟨Ac, cc, rfl, _⟩ := own_nil hoc
  have hb2 : Below (w.heap.size + 2) w0 w2 := g4.below fun k hk => hk
  have hg : partG xs ls i j = trimG (cutG xs P) := by rw [partG, hP]
  have hz2 : w.heap.size + 4 ≤ w2.heap.size := by have := hb2.size; have := HZ0.out; omega
  have hbR : Boxed w2 (w.heap.size + 1) 26 (.slice none 0 0) := Boxed.up HBX1.out hb2 (by omega)
  have c0 := (hb2.cell (p := ⟨w.heap.size, 0, none⟩) (by show w.heap.size < w.heap.size + 2; omega)).trans HX0.out
  have HB2 := Lib.hid (HB0.out.trans (hb2.mono (by omega)))
  have HBC := Lib.hid hbc
  have HOC := Lib.hid hoc
  have Hg := Lib.hid hg
  have HPM := Lib.hid hpm
  have HBR := Lib.hid hbR
  have bxc := hbc.cell
  have fR := hbR.frozen
  have cR1 := hbR.cell
  clear g1 g2 g4 hP hbc hoc hvC hb2 hg hbR hpm
  rcases P with _ | ⟨c, _ | ⟨d, cs⟩⟩
  · replace bxc : w2.cell? ⟨w.heap.size + 3, 0, none⟩ = some (.slice Ac 0 cc) := bxc
    go_wp2_with fail
    refine bodyPost_ret (v := .agg #[.slice none 0 0]) (by simp [results, Tryd.results34, go_sem, (Boxed.set (Value.slice none 0 0) HBR.out).cell]) rfl ⟨HB2.out.setCell (by show w.heap.size ≤ w.heap.size + 1; omega) _, _, ?_, rfl⟩
    rw [Hg.out]
    exact World.ownsRow_nil _ _ _ _
  · replace bxc : w2.cell? ⟨w.heap.size + 3, 0, none⟩ = some (.slice Ac 1 cc) := bxc
    obtain ⟨g, cap, e1, hg1, hg2, hg3, hgc⟩ := OwnInts.at_ HOC.out (j := 0) (by simp [nI])
    injection e1 with e11 e12 e13
    subst e11
    have cc0 : w2.cell? ⟨g, 0, none⟩ = some (.int .i64 (c : Int)) := hgc 0 (by simp [nI])
    have hcx : c < xs.length := HPM.out c (by simp)
    have hcR : (c : Int) + 1 ≤ (cR : Int) := by omega
    have hS2 : Sl RuleE w2 w2.heap.size (.slice AR xs.length cR) xs := (HR.out.below HB2.out).le (by omega)
    have hok := okAll_take (okAll_lens Hl.out) (c + 1)
    have TR := Lib.hid (trimmed_any (.slice AR (c + 1) cR) (xs.take (c + 1)) w2.drew (SlS.keep (sl_take hS2 (m := c + 1) (by omega)) fun _ _ => rfl) (by rw [List.length_take]; omega) hok)
    have htn : ((c : Int) + 1).toNat = c + 1 := by omega
    have hwc : IntKind.i64.wrap ((c : Int) + 1) = (c : Int) + 1 := IntWalk.i64_in _ (by omega)
    have hc0 : (0 : Int) ≤ (c : Int) + 1 := by omega
    clear hgc e12 hg3 hS2 hok
    go_wp2_with fail
    go_region_law (go_simp; go_at_call 56; (with_reducible refine TR.out.mono ?_); rintro e w3 ⟨hb3, v3, own3, rfl⟩; obtain ⟨A3, c3, rfl, _⟩ := own_nil own3; have hbR3 : Boxed w3 (w.heap.size + 1) 26 (.slice none 0 0) := Boxed.up (w := w2.drew) HBR.out hb3 (by show w.heap.size + 1 < w2.heap.size; omega); have fR3 := hbR3.frozen; have cR3 := hbR3.cell)
    all_goals
      go_wp2_with fail
      refine bodyPost_ret (v := .agg #[.slice A3 (trimG (xs.take (c + 1))).length c3]) (by simp [results, Tryd.results34, go_sem, (Boxed.set (Value.slice A3 (trimG (xs.take (c + 1))).length c3) hbR3).cell]) rfl ⟨((HB2.out.trans (Below.drew (Below.refl _ _))).trans (hb3.mono (by show w.heap.size ≤ w2.heap.size; omega))).setCell (by show w.heap.size ≤ w.heap.size + 1; omega) _, _, ?_, rfl⟩
      rw [Hg.out]
      exact ownsRow_more (ownsRow_setCell_other (a := ⟨w.heap.size + 1, 0, none⟩) own3 (hbR3.not_row (by decide) own3).symm _) (by show w.heap.size ≤ w2.heap.size; omega)
  · have hln : (nI (c :: d :: cs)).length = cs.length + 2 := by simp [nI]
    rw [hln] at bxc
    obtain ⟨g, cap, e1, hg1, hg2, hg3, hgc⟩ := OwnInts.at_ HOC.out (j := 0) (by simp [nI])
    injection e1 with e11 e12 e13
    subst e11; subst e13
    rw [hln] at hg3
    have cc0 : w2.cell? ⟨g, 0, none⟩ = some (.int .i64 (c : Int)) := hgc 0 (by simp [nI])
    have hS2 : Sl RuleE w2 w2.heap.size (.slice AR xs.length cR) xs := (HR.out.below HB2.out).le (by omega)
    have cA : ∀ o, Calls Tryd.prog 46 #[.agg #[.slice AR xs.length cR]] (w2.alloc o).drew fun e w' => (∃ A1 c1, e = .returned (.agg #[.slice A1 xs.length c1]) ∧ OwnRules w' w2.heap.size (.slice A1 xs.length c1) xs ∧ Below w2.heap.size w2 w') ∧ w'.heap[w2.heap.size]? = some o :=
      fun o => (copied_any _ xs (w2.alloc o).drew ((hS2.up ((Below.refl _ _).alloc (Nat.le_refl _) o)).keep fun _ _ => rfl) (by omega)).mono fun e w' ⟨v', h1, h2, h3⟩ => by
        obtain ⟨A1, c1, rfl, _⟩ := own_nil h2
        have hsz : w2.heap.size < (w2.alloc o).drew.heap.size := by show w2.heap.size < (w2.alloc o).heap.size; simp
        exact ⟨⟨A1, c1, h1, ownsRow_more h2 (Nat.le_of_lt hsz), (Below.drew ((Below.refl w2.heap.size w2).alloc (Nat.le_refl _) o)).trans (h3.mono (Nat.le_of_lt hsz))⟩, (h3.block w2.heap.size hsz).trans (alloc_heap_last _ _)⟩
    have cB : Calls Tryd.prog 46 #[.agg #[.slice AR xs.length cR]] w2.drew fun e w' => ∃ A1 c1, e = .returned (.agg #[.slice A1 xs.length c1]) ∧ OwnRules w' w2.heap.size (.slice A1 xs.length c1) xs ∧ Below w2.heap.size w2 w' :=
      (copied_any _ xs w2.drew (hS2.keep fun _ _ => rfl) (by omega)).mono fun e w' ⟨v', h1, h2, h3⟩ => by
        obtain ⟨A1, c1, rfl, _⟩ := own_nil h2
        exact ⟨A1, c1, h1, h2, (Below.drew (Below.refl w2.heap.size w2)).trans h3⟩
    have CA := Lib.hid cA
    have CB := Lib.hid cB
    have Hgc := Lib.hid hgc
    have l3 : w.heap.size + 3 < w2.heap.size := by omega
    have l0 : w.heap.size < w2.heap.size := by omega
    have BXC := Lib.hid bxc
    have h02 : (0 : Int) < (cs.length : Int) + 2 := by omega
    clear cA cB hgc hln hS2 e12
    go_upto_region 8 with fail
    go_cut [10, 11] from 24 to 41 (fun p q wx => ∃ (K : Nat) (vo : Value), p = .pointer (some ⟨K, 0, none⟩) ∧ q = .int .i64 (c : Int) ∧ w2.heap.size ≤ K ∧ Boxed wx K 26 vo ∧ OwnRules wx w2.heap.size vo xs ∧ Below w2.heap.size w2 wx)
    case first =>
      go_region_law (go_simp; go_at_call 46; first
        | ((with_reducible refine (CA.out _).mono ?_); rintro e w3 ⟨⟨A1, c1, rfl, own1, hb3⟩, bx3⟩; have bxB : Boxed w3 w2.heap.size 26 (.slice none 0 0) := bx3; have hcb := bxB.cell; have hfb := bxB.frozen; have xx3 := (hb3.cell (p := ⟨w.heap.size + 3, 0, none⟩) l3).trans BXC.out; have yy3 := (hb3.cell (p := ⟨g, 0, none⟩) hg2).trans cc0; have gg3 := Nat.lt_of_lt_of_le hg2 hb3.size; have ll3 := Nat.lt_of_lt_of_le l3 hb3.size; have kk3 := (hb3.cell (p := ⟨w.heap.size, 0, none⟩) l0).trans c0; have mm3 := Nat.lt_of_lt_of_le l0 hb3.size)
        | ((with_reducible refine CB.out.mono ?_); rintro e w3 ⟨A1, c1, rfl, own1, hb3⟩; have xx3 := (hb3.cell (p := ⟨w.heap.size + 3, 0, none⟩) l3).trans BXC.out; have yy3 := (hb3.cell (p := ⟨g, 0, none⟩) hg2).trans cc0; have gg3 := Nat.lt_of_lt_of_le hg2 hb3.size; have ll3 := Nat.lt_of_lt_of_le l3 hb3.size; have kk3 := (hb3.cell (p := ⟨w.heap.size, 0, none⟩) l0).trans c0; have mm3 := Nat.lt_of_lt_of_le l0 hb3.size))
      all_goals
        go_wp2_with fail
        go_meet
        first
          | exact ⟨_, _, rfl, rfl, hb3.size, Boxed.new _ _ _, own1.alloc _, hb3.alloc hb3.size _⟩
          | exact ⟨_, _, rfl, rfl, Nat.le_refl _, Boxed.set _ bxB, ownsRow_setCell_other (a := ⟨w2.heap.size, 0, none⟩) own1 (bxB.not_row (by decide) own1).symm _, hb3.setCell (Nat.le_refl _) _⟩
    case rest =>
      revert hcut
      generalize wc = w3
      intro hcut
      obtain ⟨K, vo, rfl, rfl, hK, bx3, own3, hb3⟩ := hcut
      have c3 := (hb3.cell (p := ⟨w.heap.size + 3, 0, none⟩) l3).trans BXC.out
      have HB3 := Lib.hid hb3
      have Bx3 := Lib.hid bx3
      have Ow3 := Lib.hid own3
      have Hcs : Hid (∀ k, k < cs.length + 1 → w3.cell? ⟨g, 1 + k, none⟩ = some (.int .i64 (((d :: cs).getD k 0 : Nat) : Int))) := fun k hk => by
        rw [hb3.cell (p := ⟨g, 1 + k, none⟩) hg2, Hgc.out (1 + k) (by simp [nI]; omega)]
        have e : (nI (c :: d :: cs)).getD (1 + k) 0 = (((d :: cs).getD k 0 : Nat) : Int) := by
          rw [Nat.add_comm, nI, List.getD_eq_getElem?_getD, List.map_cons, List.getElem?_cons_succ, List.getElem?_map, List.getD_eq_getElem?_getD, List.getElem?_eq_getElem (by simp; omega)]; rfl
        rw [e]
      have hne1 : ¬ cc = 1 := by omega
      clear hb3 bx3 own3
      go_wp2_with fail
      go_loopw [11, 45] (fun q i wx => ∃ (k : Nat) (b : Int) (vo : Value) (L : List GRule), k ≤ cs.length + 1 ∧ q = .int .i64 b ∧ i = .int .i64 k ∧ ((d :: cs).take k).foldl joinStep (xs, (c : Int)) = (L, b) ∧ Boxed wx K 26 vo ∧ OwnRules wx w2.heap.size vo L ∧ Below w2.heap.size w3 wx) (fun _ i _ => cs.length + 1 - (intOf i).toNat)
      case atStart => exact ⟨0, (c : Int), vo, xs, by omega, rfl, rfl, rfl, Bx3.out, Ow3.out, Below.refl _ _⟩
      case round =>
        obtain ⟨k, b, vk, L, hk, rfl, rfl, hLb, hbk, hok, hb4⟩ := hrel
        obtain ⟨Ak, ck, rfl, _⟩ := own_nil hok
        have hLn : L.length ≤ 1099511627774 := by
          have := joinFold_len ((d :: cs).take k) (xs, (c : Int))
          rw [hLb] at this
          simp at this hpl; omega
        have Hb4 := Lib.hid hb4
        have Hbk := Lib.hid hbk
        have Hok := Lib.hid hok
        have HLb := Lib.hid hLb
        have HLn := Lib.hid hLn
        have bxk := hbk.cell
        have cgk := fun k hk => (hb4.cell (p := ⟨g, 1 + k, none⟩) hg2).trans (Hcs.out k hk)
        clear hb4 hbk hok hLb hLn
        by_cases hlt : k < cs.length + 1
        · have cg := cgk k hlt
          clear cgk
          have hki : (k : Int) < (cs.length : Int) + 1 := by omega
          obtain ⟨x, hx⟩ : ∃ x, (d :: cs).getD k 0 = x := ⟨_, rfl⟩
          rw [hx] at cg
          have Hx := Lib.hid hx
          have hcl : cs.length ≤ 2097152 := by simp at hpl; omega
          have HKw := Lib.hid (show K < wr.heap.size from Hbk.out.lt)
          have HW := Lib.hid (show w2.heap.size ≤ wr.heap.size from Nat.le_trans HB3.out.size Hb4.out.size)
          clear hx
          go_upto_region 12 with fail
          go_cut [] from 46 to 56 (fun wx => ∃ vo : Value, Boxed wx K 26 vo ∧ OwnRules wx w2.heap.size vo (L ++ [pairR b x]) ∧ Below w2.heap.size w3 wx)
          case first =>
            go_region_law (first
              | (refine step_push_rule (base := w2.heap.size) (by rfl) _ _ (by rfl) (by rfl) (by first | rfl | simp) rfl (OwnRules.below Hok.out.drew hb2) (Nat.le_trans HLn.out (by omega)) hs2 ?_; intro v5 w5 own5 hg5 hb5; have bx5 : Boxed w5 K 26 _ := Boxed.grown (Boxed.up (Boxed.mk' Hbk.out) hb2 HKw.out) (by decide) (OwnRules.below Hok.out.drew hb2) hg5; obtain ⟨A5, c5, rfl, _⟩ := own_nil own5; have hcb5 := bx5.cell; have hfb5 := bx5.frozen)
              | (go_simp; go_at_call 57; refine (pairI64_any _ _ _).mono ?_; rintro e w4 ⟨rfl, hb2⟩; have bx2 := Boxed.up (Boxed.mk' Hbk.out) hb2 HKw.out; have hcb2 := bx2.cell; have hfb2 := bx2.frozen; have hlb2 := bx2.lt; have hs2 : w2.heap.size ≤ w4.heap.size := Nat.le_trans HW.out hb2.size))
            all_goals
              go_wp2_with fail
              go_meet
              have e9 : (L ++ [pairR b x]).length = L.length + 1 := by simp
              have own9 : OwnRules w5 w2.heap.size (.slice A5 (L.length + 1) c5) (L ++ [pairR b x]) := by rw [← e9]; exact own5
              exact ⟨_, Boxed.set _ bx5, ownsRow_setCell_other (a := ⟨K, 0, none⟩) own9 (bx5.not_row (by decide) own9).symm _, ((((Below.drew Hb4.out).trans (hb2.mono HW.out)).alloc hs2 _).trans hb5).setCell hK _⟩
          case rest =>
            revert hcut
            generalize wc = w5
            intro hcut
            obtain ⟨v5, bx5, own5, hb5⟩ := hcut
            have hM : (L ++ [pairR b x]).length = L.length + 1 := by simp
            obtain ⟨M, hMe⟩ : ∃ M, L ++ [pairR b x] = M := ⟨_, rfl⟩
            rw [hMe] at own5 hM
            obtain ⟨A5, c5, rfl, _⟩ := own_nil own5
            rw [hM] at own5 bx5
            have bxc5 := bx5.cell
            have Bx5 := Lib.hid bx5
            have Ow5 := Lib.hid own5
            have Hb5 := Lib.hid hb5
            have HM := Lib.hid hM
            have HMe := Lib.hid hMe
            have hLn := HLn.out
            clear bx5 own5 hb5 hM hMe
            go_wp2_with fail
            refine ⟨⟨k + 1, (L.length : Int), _, M, by omega, rfl, rfl, ?_, Bx5.out, Ow5.out, Hb5.out⟩, by simp [intOf]; omega⟩
            rw [List.take_add_one, List.getElem?_eq_getElem (show k < (d :: cs).length by simpa using hlt), List.foldl_append, HLb.out]
            have hxe : (d :: cs)[k]'(by simpa using hlt) = x := by rw [← Hx.out, List.getD_eq_getElem?_getD, List.getElem?_eq_getElem (show k < (d :: cs).length by simpa using hlt)]; rfl
            rw [hxe]
            show (L ++ [pairR b x], (L.length : Int)) = _
            rw [HMe.out]
        · have hkn : k = cs.length + 1 := by omega
          subst hkn
          have hki : ¬ ((cs.length : Int) + 1 < (cs.length : Int) + 1) := by omega
          have hL : L = cutG xs (c :: d :: cs) := by
            have := HLb.out
            rw [List.take_of_length_le (by simp)] at this
            rw [cutG, this]
          have HcG := cutG_ok (okAll_lens Hl.out) (c :: d :: cs) HPM.out
          rw [← hL] at HcG
          have hwr2 : w2.heap.size ≤ wr.heap.size := Nat.le_trans HB3.out.size Hb4.out.size
          have TR := Lib.hid (trimmed_any _ L wr (OwnRules.sl Hok.out) (by have := HcG.2; simp at this hpl; omega) HcG.1)
          have B0 : Below w.heap.size w wr := HB2.out.trans ((HB3.out.trans Hb4.out).mono (by omega))
          have hbR3 : Boxed wr (w.heap.size + 1) 26 (.slice none 0 0) := Boxed.up HBR.out (HB3.out.trans Hb4.out) (by omega)
          have HbR3 := Lib.hid hbR3
          have HB0' := Lib.hid B0
          have HL' := Lib.hid hL
          clear HcG hL B0 hbR3 cgk
          go_wp2_with fail
          (with_reducible refine TR.out.mono ?_)
          rintro e w4 ⟨hb4, v4, own4, rfl⟩
          obtain ⟨A4, c4, rfl, _⟩ := own_nil own4
          have hb9 : Boxed w4 (w.heap.size + 1) 26 (.slice none 0 0) := Boxed.up HbR3.out hb4 (by omega)
          have c9 := hb9.cell
          have f9 := hb9.frozen
          go_wp2_with fail
          refine bodyPost_ret (v := .agg #[.slice A4 (trimG L).length c4]) (by simp [results, Tryd.results34, go_sem, (Boxed.set (Value.slice A4 (trimG L).length c4) hb9).cell]) rfl ⟨(HB0'.out.trans (hb4.mono (by omega))).setCell (by show w.heap.size ≤ w.heap.size + 1; omega) _, _, ?_, rfl⟩
          rw [Hg.out, ← HL'.out]
          exact ownsRow_more (ownsRow_setCell_other (a := ⟨w.heap.size + 1, 0, none⟩) own4 (hb9.not_row (by decide) own4).symm _) (by omega)
def partX (xs : List GRule) (i j : Int) : List GRule := match lens xs with
  | some ls => partG xs ls i j
  | none => []
def partIn (xs : List GRule) (i j : Int) : Bool := match lens xs with
  | some ls => decide (0 ≤ i) && decide (i ≤ j) && decide (j ≤ lastI ls)
  | none => false
def partOut (xs : List GRule) (i j : Int) : List GRule := if gramOk xs && partIn xs i j then limOut (partX xs i j) else []
def partCode (xs : List GRule) (i j : Int) : Int := if gramOk xs then if partIn xs i j then limCode (partX xs i j) else 2 else 1
theorem partOut_yes {xs : List GRule} {ls : List Int} {i j : Int} (h : gramOk xs = true) (hl : lens xs = some ls) (hi : 0 ≤ i ∧ i ≤ j ∧ j ≤ lastI ls) : partOut xs i j = limOut (partG xs ls i j) ∧ partCode xs i j = limCode (partG xs ls i j) := by
  have e1 : partIn xs i j = true := by simp [partIn, hl, hi]
  have e2 : partX xs i j = partG xs ls i j := by simp [partX, hl]
  simp [partOut, partCode, h, e1, e2]
theorem partOut_no {xs : List GRule} {ls : List Int} {i j : Int} (h : gramOk xs = true) (hl : lens xs = some ls) (hi : ¬ (0 ≤ i ∧ i ≤ j ∧ j ≤ lastI ls)) : partOut xs i j = [] ∧ partCode xs i j = 2 := by
  have e1 : partIn xs i j = false := by
    simp only [partIn, hl]
    rw [Bool.eq_false_iff]
    intro e; simp at e; exact hi ⟨e.1.1, e.1.2, e.2⟩
  simp [partOut, partCode, h, e1]
theorem partOut_bad {xs : List GRule} {i j : Int} (h : gramOk xs = false) : partOut xs i j = [] ∧ partCode xs i j = 1 := by simp [partOut, partCode, h]
theorem inR_iff (n a b : Int) : inR n a b = (decide (a ≤ n) && decide (n ≤ b)) := rfl
set_option maxRecDepth 100000 in
set_option maxHeartbeats 1000000 in
theorem implPart_any (v : Value) (xs : List GRule) (i j : Int) (w : World) (h : Sl RuleE w w.heap.size v xs) (hn : xs.length ≤ 1048576) :
    Calls Tryd.prog 13 #[.agg #[v], .int .i64 i, .int .i64 j] w (GRes (partOut xs i j) (partCode xs i j) w) := by
  have h1 := fun o o' => (h.below (((Below.refl w.heap.size w).alloc (Nat.le_refl _) o).alloc (by simp) o')).le (B' := ((w.alloc o).alloc o').heap.size) (by simp; omega)
  have H1 := Lib.hid h1
  clear h1
  obtain ⟨A, c, rfl, hc, hm, hrow⟩ := h
  clear hm hrow
  go_enter Tryd.func13, Tryd.ntmps13
  go_wp2_with fail
  refine (lengths_any _ xs _ (H1.out _ _) (by omega)).mono ?_
  rintro e w1 ⟨hb1, hpost⟩
  obtain ⟨hc1, hf1⟩ := bcell hb1
  have hz1 : w.heap.size + 1 < w1.heap.size := by have := hb1.size; simp at this; omega
  have a1 : w1.cell? ⟨w.heap.size, 0, none⟩ = some (.slice A xs.length c) := by rw [hc1 _ _ (by first | omega | (simp; done) | (simp; omega))]; simp [go_sem]
  have c1 : w1.cell? ⟨w.heap.size + 1, 0, none⟩ = some (.slice none 0 0) := by rw [hc1 _ _ (by first | omega | (simp; done) | (simp; omega))]; simp [go_sem]
  have f1 : w1.frozen? ⟨w.heap.size + 1, 0, none⟩ = false := by rw [hf1 _ _ (by first | omega | (simp; done) | (simp; omega))]; simp [go_sem]
  have S1 := Lib.hid ((H1.out (Obj.cells #[Value.slice A xs.length c] 26) (Obj.cells #[Value.slice none 0 0] 26)).up hb1)
  have B1 := Lib.hid (((Below.refl w.heap.size w).alloc (Nat.le_refl _) (Obj.cells #[Value.slice A xs.length c] 26)).alloc (by simp) (Obj.cells #[Value.slice none 0 0] 26) |>.trans (hb1.mono (by simp; omega)))
  clear hc1 hf1 hb1
  have hcase : (gramOk xs = false ∧ ∃ vv, e = .returned (.tuple #[vv, .bool false])) ∨ (gramOk xs = true ∧ ∃ ls vv, lens xs = some ls ∧ e = .returned (.tuple #[vv, .bool true]) ∧ Sl IntE w1 w1.heap.size vv ls) := by
    rcases hpost with ⟨ls, vv, hl, he, ho⟩ | ⟨hl, he⟩
    · by_cases h4 : xs.length ≤ 400
      · exact .inr ⟨by simp [gramOk, h4, hl], ls, vv, hl, by rw [he]; simp [h4], ho.sl⟩
      · exact .inl ⟨by simp [gramOk, h4], vv, by rw [he]; simp [h4]⟩
    · exact .inl ⟨by simp [gramOk, hl], _, he⟩
  clear hpost
  rcases hcase with ⟨hok, vv, rfl⟩ | ⟨hok, ls, vv, hl, rfl, hL⟩
  · obtain ⟨e1, e2⟩ := partOut_bad (i := i) (j := j) hok
    have E1 := Lib.hid e1
    have E2 := Lib.hid e2
    clear e1 e2 hok
    go_wp2
    refine bodyPost_ret (v := .tuple #[.agg #[.slice none 0 0], .int .i64 1]) (by simp [results, Tryd.results13, go_sem, c1]) rfl ⟨?_, _, ?_, by rw [E2.out]⟩
    · exact B1.out.setCell (by show w.heap.size ≤ w.heap.size + 1; omega) _
    · rw [E1.out]; exact World.ownsRow_nil _ _ _ _
  · have Hok := Lib.hid hok
    have Hl := Lib.hid hl
    have HL := Lib.hid hL
    obtain ⟨AL, cL, rfl, _⟩ := hL
    clear hok hl
    by_cases hin : 0 ≤ i ∧ i ≤ j ∧ j ≤ lastI ls
    · obtain ⟨E1, E2⟩ := partOut_yes Hok.out Hl.out hin
      obtain ⟨i1, i2, i3⟩ := hin
      have E1 := Lib.hid E1
      have E2 := Lib.hid E2
      have hw1 : inR i 0 j = true := by simp [inR_iff, i1, i2]
      have hgt : ¬ (j > lastI ls) := by omega
      clear i1 i2 i3
      go_wp2_with fail
      refine (within_yes _ _ _ _ hw1).mono ?_
      rintro e w' ⟨rfl, rfl⟩
      go_wp2_with fail
      refine (last_any _ ls _ HL.out).mono ?_
      rintro e w' ⟨rfl, rfl⟩
      go_wp2_with fail
      refine (part_any _ _ xs ls i j _ S1.out HL.out Hl.out hn).mono ?_
      rintro e w3 ⟨hb3, v3, own3, rfl⟩
      have z3 : w1.heap.size ≤ w3.heap.size := hb3.size
      have hz3 : w.heap.size + 1 < w3.heap.size := by omega
      have c3 := cell_up c1 hb3 (by omega)
      have f3 : w3.frozen? ⟨w.heap.size + 1, 0, none⟩ = false := by rw [hb3.frozen hz1, f1]
      have B3 := Lib.hid (B1.out.trans (hb3.mono (by omega)))
      have O3 := Lib.hid own3
      have hpl := partG_len Hl.out i j
      clear a1 c1 f1 hb3 own3
      go_wp2_with fail
      refine (orLimit_any _ _ _ _ O3.out (by omega)).mono ?_
      rintro e w4 ⟨hb4, v4, own4, rfl⟩
      obtain ⟨A4, k4, rfl, _⟩ := own_nil own4
      have c4 := cell_up c3 hb4 (by omega)
      have f4 : w4.frozen? ⟨w.heap.size + 1, 0, none⟩ = false := by rw [hb4.frozen hz3, f3]
      have B4 := Lib.hid (B3.out.trans (hb4.mono (by omega)))
      have O4 := Lib.hid own4
      clear c3 f3 hb4 own4
      go_wp2
      refine bodyPost_ret (v := .tuple #[.agg #[.slice A4 (limOut (partG xs ls i j)).length k4], .int .i64 (limCode (partG xs ls i j))]) (by simp [results, Tryd.results13, go_sem, c4]) rfl ⟨?_, _, ?_, by rw [E2.out]⟩
      · exact B4.out.setCell (by show w.heap.size ≤ w.heap.size + 1; omega) _
      · rw [E1.out]
        exact ownsRow_more (ownsRow_setCell_below O4.out (a := ⟨w.heap.size + 1, 0, none⟩) (by show w.heap.size + 1 < w1.heap.size; omega) _) (by omega)
    · obtain ⟨e1, e2⟩ := partOut_no Hok.out Hl.out hin
      have E1 := Lib.hid e1
      have E2 := Lib.hid e2
      have hcs : inR i 0 j = false ∨ (inR i 0 j = true ∧ j > lastI ls) := by
        by_cases h : 0 ≤ i ∧ i ≤ j
        · refine .inr ⟨by simp [inR_iff, h], ?_⟩
          omega
        · refine .inl ?_
          rw [Bool.eq_false_iff]
          intro e; simp [inR_iff] at e; exact h e
      clear e1 e2 hin
      rcases hcs with hw1 | ⟨hw1, hgt⟩
      · go_wp2_with fail
        refine (within_no _ _ _ _ hw1).mono ?_
        rintro e w' ⟨rfl, rfl⟩
        go_wp2_with fail
        refine bodyPost_ret (v := .tuple #[.agg #[.slice none 0 0], .int .i64 2]) (by simp [results, Tryd.results13, go_sem, c1]) rfl ⟨?_, _, ?_, by rw [E2.out]⟩
        · exact B1.out.setCell (by show w.heap.size ≤ w.heap.size + 1; omega) _
        · rw [E1.out]; exact World.ownsRow_nil _ _ _ _
      · go_wp2_with fail
        refine (within_yes _ _ _ _ hw1).mono ?_
        rintro e w' ⟨rfl, rfl⟩
        go_wp2_with fail
        refine (last_any _ ls _ HL.out).mono ?_
        rintro e w' ⟨rfl, rfl⟩
        go_wp2_with fail
        refine bodyPost_ret (v := .tuple #[.agg #[.slice none 0 0], .int .i64 2]) (by simp [results, Tryd.results13, go_sem, c1]) rfl ⟨?_, _, ?_, by rw [E2.out]⟩
        · exact B1.out.setCell (by show w.heap.size ≤ w.heap.size + 1; omega) _
        · rw [E1.out]; exact World.ownsRow_nil _ _ _ _
end Go.Proofs.YtfhiaifdigefdaaDoor
namespace Go.Proofs
open Go.Shelf Go.RowKit
end Go.Proofs
namespace Go.Proofs.YtfhiaifdigefdaaDoor
open Go.RowKit
theorem convB (L : List UInt8) (b p n c : Nat) (W : World) (hn : n = L.length) (h : ∀ t (ht : t < L.length), W.cell? ⟨b, p + t, none⟩ = some (.int .u8 (L[t].toNat : Int))) :
    (convert 22 9 (.slice (some ⟨b, p, none⟩) n c)).run Tryd.prog W = .ok (.string ⟨L.toArray⟩) W := by
  subst hn
  exact run_convert_bytes_back (P := Tryd.prog) W 22 9 5 ⟨b, p, none⟩ c L Tryd.underlying22 Tryd.underlying5 Tryd.underlying9 (fun j hj => by
    have e : (⟨b, p, none⟩ : Addr).add j = ⟨b, p + j, none⟩ := by unfold Addr.add; split <;> simp_all
    rw [e]; exact h j hj)
structure GEdit where
  kind : Int
  i : Int
  j : Int
  k : Int
  part : List GRule
  map : ByteArray
def inB (n a b : Int) : Bool := decide (a ≤ n) && decide (n ≤ b)
theorem withinY (n a b : Int) (r : Bool) (w : World) (h : inB n a b = r) : Calls Tryd.prog 25 #[.int .i64 n, .int .i64 a, .int .i64 b] w fun e w' => e = .returned (.bool r) ∧ w = w' :=
  (within_any n a b w).mono fun _ _ ⟨he, hw⟩ => ⟨by rw [he, ← h]; rfl, hw⟩
def powOut (xs : List GRule) (t : Int) : List GRule := if gramOk xs && inB t 0 1000000000000000 then limOut (powG xs t.toNat) else []
def powCode (xs : List GRule) (t : Int) : Int := if gramOk xs then if inB t 0 1000000000000000 then limCode (powG xs t.toNat) else 2 else 1
theorem powG_len (xs : List GRule) (n : Nat) (h : n < 1152921504606846976) : (powG xs n).length ≤ xs.length + 120 := by
  unfold powG
  split
  · simp
  · have h1 := powFold_len ((xs.length : Int) - 1) (binL n).tail xs
    have h2 := binL_len n 60 h (by omega)
    have h3 : (binL n).tail.length ≤ 60 := by simp; omega
    omega
set_option maxRecDepth 100000 in
set_option maxHeartbeats 1000000 in
theorem implPower_any (v : Value) (xs : List GRule) (t : Int) (w : World) (h : Sl RuleE w w.heap.size v xs) (hn : xs.length ≤ 1048576) (htab : Lib.TabIs Tryd.prog w "math/bits.deBruijn64tab" .u8 deB64) :
    Calls Tryd.prog 8 #[.agg #[v], .int .i64 t] w (GRes (powOut xs t) (powCode xs t) w) := by
  have h1 := fun o o' => (h.below (((Below.refl w.heap.size w).alloc (Nat.le_refl _) o).alloc (by simp) o')).le (B' := ((w.alloc o).alloc o').heap.size) (by simp; omega)
  have H1 := Lib.hid h1
  have HT := Lib.hid htab
  clear h1 htab
  obtain ⟨A, c, rfl, hc, hm, hrow⟩ := h
  clear hm hrow
  go_enter Tryd.func8, Tryd.ntmps8
  go_wp2_with fail
  refine (ValidGrammar_any _ _ _ (H1.out _ _) (by omega)).mono ?_
  rintro e w1 ⟨rfl, hb1⟩
  obtain ⟨hc1, hf1⟩ := bcell hb1
  have hz1 : w.heap.size + 1 < w1.heap.size := by have := hb1.size; simp at this; omega
  have a1 : w1.cell? ⟨w.heap.size, 0, none⟩ = some (.slice A xs.length c) := by rw [hc1 _ _ (by first | omega | (simp; done) | (simp; omega))]; simp [go_sem]
  have c1 : w1.cell? ⟨w.heap.size + 1, 0, none⟩ = some (.slice none 0 0) := by rw [hc1 _ _ (by first | omega | (simp; done) | (simp; omega))]; simp [go_sem]
  have f1 : w1.frozen? ⟨w.heap.size + 1, 0, none⟩ = false := by rw [hf1 _ _ (by first | omega | (simp; done) | (simp; omega))]; simp [go_sem]
  have S1 := Lib.hid ((H1.out (Obj.cells #[Value.slice A xs.length c] 26) (Obj.cells #[Value.slice none 0 0] 26)).up hb1)
  have B1 := Lib.hid (((Below.refl w.heap.size w).alloc (Nat.le_refl _) (Obj.cells #[Value.slice A xs.length c] 26)).alloc (by simp) (Obj.cells #[Value.slice none 0 0] 26) |>.trans (hb1.mono (by simp; omega)))
  clear hc1 hf1 hb1
  by_cases hok : gramOk xs = true
  · have hok2 : (!gramOk xs) = false := by simp [hok]
    have Hok := Lib.hid hok
    clear hok
    go_wp2_with fail
    by_cases hin : inB t 0 1000000000000000 = true
    · have Hin := Lib.hid hin
      have ht : 0 ≤ t ∧ t ≤ 1000000000000000 := by simpa [inB] using hin
      obtain ⟨n, rfl⟩ := Int.eq_ofNat_of_zero_le ht.1
      have hn60 : n < 1152921504606846976 := by omega
      clear hin ht
      refine (withinY _ _ _ _ _ Hin.out).mono ?_
      rintro e w' ⟨rfl, rfl⟩
      go_wp2_with fail
      refine (power_any _ xs n _ S1.out hn hn60 (tab_below HT.out B1.out)).mono ?_
      rintro e w3 ⟨hb3, v3, own3, rfl⟩
      have z3 : w1.heap.size ≤ w3.heap.size := hb3.size
      have hz3 : w.heap.size + 1 < w3.heap.size := by omega
      have c3 := cell_up c1 hb3 (by omega)
      have f3 : w3.frozen? ⟨w.heap.size + 1, 0, none⟩ = false := by rw [hb3.frozen hz1, f1]
      have B3 := Lib.hid (B1.out.trans (hb3.mono (by omega)))
      have O3 := Lib.hid own3
      have hpl := powG_len xs n hn60
      clear a1 c1 f1 hb3 own3
      go_wp2_with fail
      refine (orLimit_any _ _ _ _ O3.out (by omega)).mono ?_
      rintro e w4 ⟨hb4, v4, own4, rfl⟩
      obtain ⟨A4, k4, rfl, _⟩ := own_nil own4
      have c4 := cell_up c3 hb4 (by omega)
      have f4 : w4.frozen? ⟨w.heap.size + 1, 0, none⟩ = false := by rw [hb4.frozen hz3, f3]
      have B4 := Lib.hid (B3.out.trans (hb4.mono (by omega)))
      have O4 := Lib.hid own4
      clear c3 f3 hb4 own4
      have e1 : powOut xs n = limOut (powG xs n) := by rw [powOut, Hok.out, Hin.out]; rfl
      have e2 : powCode xs n = limCode (powG xs n) := by rw [powCode, Hok.out, Hin.out]; rfl
      have E1 := Lib.hid e1
      have E2 := Lib.hid e2
      clear e1 e2
      go_wp2
      refine bodyPost_ret (v := .tuple #[.agg #[.slice A4 (limOut (powG xs n)).length k4], .int .i64 (limCode (powG xs n))]) (by simp [results, Tryd.results8, go_sem, c4]) rfl ⟨?_, _, ?_, by rw [E2.out]⟩
      · exact B4.out.setCell (by show w.heap.size ≤ w.heap.size + 1; omega) _
      · rw [E1.out]
        exact ownsRow_more (ownsRow_setCell_below O4.out (a := ⟨w.heap.size + 1, 0, none⟩) (by show w.heap.size + 1 < w1.heap.size; omega) _) (by omega)
    · have hin' : inB t 0 1000000000000000 = false := by simpa using hin
      have Hin := Lib.hid hin'
      clear hin hin'
      refine (withinY _ _ _ _ _ Hin.out).mono ?_
      rintro e w' ⟨rfl, rfl⟩
      go_wp2
      refine bodyPost_ret (v := .tuple #[.agg #[.slice none 0 0], .int .i64 2]) (by simp [results, Tryd.results8, go_sem, c1]) rfl ⟨?_, _, ?_, by rw [powCode, if_pos Hok.out, if_neg (by rw [Hin.out]; decide)]⟩
      · exact B1.out.setCell (by show w.heap.size ≤ w.heap.size + 1; omega) _
      · rw [powOut, if_neg (by simp [Hin.out])]; exact World.ownsRow_nil _ _ _ _
  · have hok2 : (!gramOk xs) = true := by simp [hok]
    have Hok := Lib.hid hok
    clear hok
    go_wp2
    refine bodyPost_ret (v := .tuple #[.agg #[.slice none 0 0], .int .i64 1]) (by simp [results, Tryd.results8, go_sem, c1]) rfl ⟨?_, _, ?_, by rw [powCode, if_neg (by simp [Hok.out])]⟩
    · exact B1.out.setCell (by show w.heap.size ≤ w.heap.size + 1; omega) _
    · rw [powOut, if_neg (by simp [Hok.out])]; exact World.ownsRow_nil _ _ _ _
section
variable {w w' : World} {E o b : Nat} {e : GEdit} {vR : Value}
end
section
variable {w w' : World} {lo hi : Nat} {v : Value} {l : List GRule} {row : Option Nat}
end
theorem Blk.grown {w w' : World} {b : Nat} {a : Array Value} {t : TypeId} {row : Option Nat} (h : Blk w b a t) (hg : w.grownBy w' row) (hne : ∀ g, row = some g → g ≠ b) : Blk w' b a t :=
  (hg.block b h.lt (fun e => hne b e.symm rfl)).trans h
theorem Below.grown {w0 w w' : World} {N : Nat} {row : Option Nat} (h : Below N w0 w) (hN : N ≤ w.heap.size) (hg : w.grownBy w' row) (hr : ∀ g, row = some g → N ≤ g) : Below N w0 w' := h.trans (below_of_grown hg hN hr)
end Go.Proofs.YtfhiaifdigefdaaDoor
namespace Go.Proofs
end Go.Proofs
namespace Go.Proofs.YtfhiaifdigefdaaDoor
open Go.RowKit
section
variable {w w' : World} {lo hi : Nat} {v : Value} {es : List GEdit}
end
end Go.Proofs.YtfhiaifdigefdaaDoor
