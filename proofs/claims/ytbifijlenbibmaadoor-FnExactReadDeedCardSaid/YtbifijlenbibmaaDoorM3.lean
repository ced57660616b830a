import Derived.Test.YtbifijlenbibmaaDoorM2
import Derived.StillTailTactics
import Derived.Deep.RegionLaw
import Derived.Deep.RegionHeld3
import Derived.Test.YtbifijlenbibmaaDoorRows
import Derived.WalkKit
import Derived.ProofKit
import Derived.Below
import Derived.ChangeSame
import Derived.Lib.SmallJoins
import Derived.Carry
import Derived.WideKeyArgs
import Derived.OpenShut
import Derived.Test.YtbifijlenbibmaaDoorM1
import Derived.Deep.Slices
import Derived.Deep.Fields
namespace Go.Proofs.YtbifijlenbibmaaDoor
open Go.RowKit
theorem l01Split32 (s : ByteArray) (w : World) (hs : s.size ≤ 1048576) :
    Calls Tryd.prog 7 #[.string s, .int .u8 32] w fun e w' => Below w.heap.size w w' ∧ ∃ v, OwnW w' w.heap.size v (splB 32 s) ∧ e = .returned v := l01Split_any s 32 w hs
theorem push_int2 {W : World} {ops : Array Oper} {rest : List Oper} {o : Oper} {a : Act} {Q : Exit → Act → World → Prop} (hgd : o.guard = none) (s x : Operand)
    (ho : o.op = .call { callee := .builtin .append, args := #[s, x], argTypes := #[31, 31] }) {base : Nat} {v : Value} {l : List Int}
    (hs : a.eval s = v) {N : Nat} (hx : a.eval x = .slice (some ⟨N, 0, none⟩) 2 2) (hN : N = W.heap.size) (hown : OwnInts W base v l) (hlen : l.length ≤ 1099511627776) (hbase : base ≤ W.heap.size)
    (h : ∀ v' w', OwnInts w' base v' (l ++ [0, 0]) → (∀ k, k < W.heap.size → v.ownBlock ≠ some k → w'.heap[k]? = W.heap[k]?) → Below base W w' → wpList Tryd.prog ops Q rest (a.put o.dst v') w') :
    wpList Tryd.prog ops Q (o :: rest) a (W.alloc (.cells #[.int .i64 0, .int .i64 0] 2)) := by
  subst hN
  refine wpList_plain hgd fun _ hK => ?_
  obtain ⟨i0, hi0, hz0, hz1, hz2⟩ := info_parts Tryd.infoI
  obtain ⟨v', w', hrun, h2, h3, _, h5⟩ := run_append_own_at (P := Tryd.prog) (W.alloc (.cells #[.int .i64 0, .int .i64 0] 2)) base 31 o.type 2 i0 (.int .i64 0) 1 8 Tryd.underlying31 hi0 hz0 hz1 hz2 rfl (by decide) v _ _ (World.ownsRow.alloc hown _) ⟨W.heap.size, 0, none⟩ 2 2 [.int .i64 0, .int .i64 0] rfl
    (fun j u hu => by
      have : (W.alloc (.cells #[.int .i64 0, .int .i64 0] 2)).cell? ⟨W.heap.size, j, none⟩ = (#[.int .i64 0, .int .i64 0] : Array Value)[j]? := cell_of_row _ _ _ _ 2 (0, 0) (heap_alloc_new W _)
      have ha : (⟨W.heap.size, 0, none⟩ : Addr).add j = ⟨W.heap.size, j, none⟩ := by unfold Addr.add; split <;> simp_all
      rw [ha, this]; simpa using hu) (by simp [Value.oneCell']) (by simp only [maxLen]; omega) (by omega) (by simp; omega)
  unfold Oper.wp execOp
  simp only [ho, resolve, invoke, builtin, Sem.run_bind, Sem.run_pure, Result.andThen_ok, List.map_toArray, List.map_cons, List.map_nil, hs, hx, hrun]
  refine hK _ _ (h v' w' (by unfold OwnInts; simpa using h2) (fun k hk hv => ?_) (((Below.refl base W).alloc hbase _).trans (below_of_grown h3 (by simp; omega) fun y hy => (World.ownsRow.lt hown y hy).1)))
  exact (h3.block k (by simp; omega) (fun q => hv q.symm)).trans (Below.heap_alloc W _ k hk)
theorem deed_all {t : ByteArray} {k a b c : Int} (h : DeedIs t k a b c) : (splB 32 t).tail.all nOk = true := by
  rw [List.all_eq_true]
  intro x hx
  obtain ⟨j, hj⟩ := List.mem_iff_getElem?.1 hx
  have hjl : j < (tailP t).length := (List.getElem?_eq_some_iff.1 hj).1
  obtain ⟨n1, n2, _, _⟩ := tail_num h hjl
  obtain ⟨_, _, n3⟩ := tail_at h hjl
  have e : (tailP t).getD j ⟨#[]⟩ = x := by
    show (splB 32 t).tail.getD j ⟨#[]⟩ = x
    rw [List.getD_eq_getElem?_getD, hj]; rfl
  rw [e] at n1 n2
  unfold nOk
  rw [n1, n2]
  simpa using n3
theorem deed_head {t : ByteArray} {k a b c : Int} (h : DeedIs t k a b c) : (splB 32 t).headD ⟨#[]⟩ = ⟨(wordL k).toArray⟩ := by
  have := h.numbers.1
  unfold splB
  cases hs : spl 32 [] t.data.toList with
  | nil => rw [hs] at this; simp at this
  | cons u r => rw [hs] at this; simp at this; rw [this]; rfl
theorem deed_nums {t : ByteArray} {k a b c : Int} (h : DeedIs t k a b c) : ((splB 32 t).tail.map nmB) = numsL k a b c := by
  obtain ⟨hl, _⟩ := tail_len h
  apply List.ext_getElem?
  intro j
  rcases Nat.lt_or_ge j (tailP t).length with hj | hj
  · obtain ⟨_, n2, _, _⟩ := tail_num h hj
    have e1 : (tailP t)[j]? = some ((tailP t).getD j ⟨#[]⟩) := by rw [List.getD_eq_getElem?_getD, List.getElem?_eq_getElem hj]; rfl
    have e2 : (numsL k a b c)[j]? = some ((numsL k a b c).getD j 0) := by rw [List.getD_eq_getElem?_getD, List.getElem?_eq_getElem (by omega)]; rfl
    show ((tailP t).map nmB)[j]? = _
    rw [List.getElem?_map, e1, e2]
    exact congrArg some n2
  · show ((tailP t).map nmB)[j]? = _
    rw [List.getElem?_eq_none (by rw [List.length_map]; exact hj), List.getElem?_eq_none (by omega)]
def nz (N : List Int) (i : Nat) : Int := (N ++ [0, 0]).getD i 0
theorem deed_try {t : ByteArray} {k a b c : Int} (h : DeedIs t k a b c) : DeedIs t k (nz ((splB 32 t).tail.map nmB) 0) (nz ((splB 32 t).tail.map nmB) 1) (nz ((splB 32 t).tail.map nmB) 2) := by
  rw [deed_nums h]
  obtain ⟨_, _, _, _, g0, g1, g2⟩ := h.numbers
  have key : ∀ i, nz (numsL k a b c) i = (numsL k a b c).getD i 0 := by
    intro i
    unfold nz
    rw [List.getD_eq_getElem?_getD, List.getD_eq_getElem?_getD]
    rcases Nat.lt_or_ge i (numsL k a b c).length with hi | hi
    · rw [List.getElem?_append_left hi]
    · rw [List.getElem?_append_right hi, List.getElem?_eq_none hi]
      generalize i - (numsL k a b c).length = d
      match d with
      | 0 => rfl
      | 1 => rfl
      | n + 2 => rfl
  rw [key, key, key, g0, g1, g2]
  exact h
structure CS1 (w : World) (p : Addr) (v : Value) : Prop where
  c : w.cell? p = some v
  lt : p.block < w.heap.size
theorem CS1.same {w w' : World} {p : Addr} {v : Value} (h : CS1 w p v) (hz : w.heap.size ≤ w'.heap.size) (hs : w'.heap[p.block]? = w.heap[p.block]?) : CS1 w' p v :=
  ⟨(World.cell?_of_block hs).trans h.c, Nat.lt_of_lt_of_le h.lt hz⟩
theorem CS1.up {w w' : World} {p : Addr} {v : Value} (h : CS1 w p v) (hb : Below w.heap.size w w') : CS1 w' p v := h.same hb.size (hb.block _ h.lt)
theorem wordL_ne {k : Int} (h : 1 ≤ k ∧ k ≤ 9) : wordL k ≠ [] := by
  rcases kind9 h with rfl | rfl | rfl | rfl | rfl | rfl | rfl | rfl | rfl <;> decide
structure RdSt4 (w wx : World) (g B : Nat) (X : ByteArray) : Prop where
  bel : Below w.heap.size w wx
  box : Blk wx w.heap.size #[.int .i64 0, .int .i64 0, .int .i64 0, .int .i64 0] 23
  hd : CS1 wx ⟨g, 0, none⟩ (.string X)
  nm : ∀ k : Nat, 1 ≤ k → k ≤ 9 → CS1 wx ⟨B, k, none⟩ (.string ⟨(wordL k).toArray⟩)
theorem RdSt4.up {w wx w' : World} {g B : Nat} {X : ByteArray} (h : RdSt4 w wx g B X) (hb : Below wx.heap.size wx w') : RdSt4 w w' g B X :=
  ⟨Below.tr h.bel hb, h.box.up hb, h.hd.up hb, fun k a b => (h.nm k a b).up hb⟩
set_option maxRecDepth 100000 in
set_option maxHeartbeats 8000000 in
theorem specReadDeed_any (t : ByteArray) (w : World) (hs : t.size ≤ 1048576) :
    Calls Tryd.prog 4 #[.string t] w fun e w' => Below w.heap.size w w' ∧ DeedRead t e := by
  have ba := (Below.refl w.heap.size w).alloc (Nat.le_refl _) (Obj.cells #[.int .i64 0, .int .i64 0, .int .i64 0, .int .i64 0] 23)
  have K0 := Blk.new w #[.int .i64 0, .int .i64 0, .int .i64 0, .int .i64 0] 23
  by_cases h40 : 40 < t.size
  · have h40i : (40 : Int) < (t.size : Int) := by omega
    have HN := Lib.hid (show ∀ k a b c, ¬ DeedIs t k a b c from fun k a b c h => by have := h.small; omega)
    have HB := Lib.hid ba
    have HK := Lib.hid K0
    clear ba K0
    go_enter Tryd.func4, Tryd.ntmps4
    go_upto_region 2 with fail
    revert HB HK
    generalize (w.alloc (Obj.cells #[.int .i64 0, .int .i64 0, .int .i64 0, .int .i64 0] 23)) = w1
    intro HB HRx
    have f0 := Blk.frozen HRx.out 0
    have f1 := Blk.frozen HRx.out 1
    have f2 := Blk.frozen HRx.out 2
    have f3 := Blk.frozen HRx.out 3
    have g0 := Blk.cell (i := 0) HRx.out rfl
    have g1 := Blk.cell (i := 1) HRx.out rfl
    have g2 := Blk.cell (i := 2) HRx.out rfl
    have g3 := Blk.cell (i := 3) HRx.out rfl
    have lR := HRx.out.lt
    go_wp2_with fail
    obtain ⟨s1, s2, s3⟩ := fin4 HRx.out (.int .i64 0) (.int .i64 0) (.int .i64 0) (.int .i64 0)
    exact bodyPost_ret (v := .tuple #[.agg #[.int .i64 0, .int .i64 0, .int .i64 0, .int .i64 0], .int .i64 5]) (by simp [results, Tryd.results4, go_sem, Blk.cell (i := 0) s1 rfl, Blk.cell (i := 1) s1 rfl, Blk.cell (i := 2) s1 rfl, Blk.cell (i := 3) s1 rfl]) rfl ⟨HB.out.trans s3, .inr ⟨HN.out, rfl⟩⟩
  · have h40i : ¬ (40 : Int) < (t.size : Int) := by omega
    have HB := Lib.hid ba
    have HK := Lib.hid K0
    clear ba K0
    go_enter Tryd.func4, Tryd.ntmps4
    go_upto_region 3 with fail
    revert HB HK
    generalize (w.alloc (Obj.cells #[.int .i64 0, .int .i64 0, .int .i64 0, .int .i64 0] 23)) = w1
    intro HB HK
    go_wp2_with fail
    refine (l01Split32 t _ hs).mono ?_
    rintro e w2 ⟨hb2, v, own, rfl⟩
    have hpos : 0 < (splB 32 t).length := by
      unfold splB
      rw [List.length_map]
      exact List.length_pos_iff.2 (spl_pos 32 _ _)
    obtain ⟨g, cL, rfl, _, hgl, hcap, hcell⟩ := own_form own hpos
    have hle : (splB 32 t).length ≤ 1048577 := by
      rw [← splitB_eq, Lib.splitB_all ⟨#[32]⟩ (by decide) 0 _ t rfl]
      have := Lib.countB_le ⟨#[32]⟩ (by decide) t.size t (Nat.le_refl _); omega
    have hcl : ∀ k x, (splB 32 t)[k]? = some x → w2.cell? ⟨g, k, none⟩ = some (.string x) ∧ x.size ≤ 1048576 := fun k x hx => ⟨hcell k _ (by rw [List.getElem?_map, hx]; rfl), Nat.le_trans (splB_size (List.mem_of_getElem? hx)) hs⟩
    have HCL := Lib.hid hcl
    have HB2 := Lib.hid (Below.tr HB.out hb2)
    have HK2 := Lib.hid (HK.out.up hb2)
    have HLE := Lib.hid hle
    have HPO := Lib.hid hpos
    clear own hcell hcl hb2 hcap hle
    go_wp2_with fail
    refine (l08Words_any _).mono ?_
    rintro e w3 ⟨B, rfl, hb3, hB, hw3⟩
    have HB3 := Lib.hid (Below.tr HB2.out hb3)
    have HK3 := Lib.hid (HK2.out.up hb3)
    have HC3 := Lib.hid (fun k x hx => (show w3.cell? ⟨g, k, none⟩ = some (.string x) ∧ x.size ≤ 1048576 from ⟨(hb3.cell (p := ⟨g, k, none⟩) hgl).trans (HCL.out k x hx).1, (HCL.out k x hx).2⟩))
    have hg3 : g < w3.heap.size := Nat.lt_of_lt_of_le hgl hb3.size
    have HW3 := Lib.hid hw3
    clear hb3 hw3 HB2 HK2 HCL hpos
    go_wp2_with fail
    refine (l08Numbers_any g cL (splB 32 t) _ HPO.out HLE.out hg3 HC3.out).mono ?_
    rintro e w4 ⟨hb4, hn⟩
    obtain ⟨X, hX⟩ : ∃ X, (splB 32 t).headD ⟨#[]⟩ = X := ⟨_, rfl⟩
    have hX0 : (splB 32 t)[0]? = some X := by
      rw [← hX]
      cases hq : splB 32 t with
      | nil => have := HPO.out; rw [hq] at this; simp at this
      | cons a r => rfl
    have St4 := Lib.hid (show RdSt4 w w4 g B X from ⟨Below.tr HB3.out hb4, HK3.out.up hb4, (CS1.mk (HC3.out 0 X hX0).1 hg3).up hb4, fun k a b => (CS1.mk (HW3.out k a b) hB).up hb4⟩)
    have HX := Lib.hid hX
    rcases hn with ⟨hall, u, own, rfl⟩ | ⟨hno, u, rfl⟩
    · obtain ⟨N, hN⟩ : ∃ N, (splB 32 t).tail.map nmB = N := ⟨_, rfl⟩
      rw [hN] at own
      have HDT := Lib.hid (fun k a b c (h : DeedIs t k a b c) => (show DeedIs t k (nz N 0) (nz N 1) (nz N 2) from by rw [← hN]; exact deed_try h))
      have HDN := Lib.hid (fun k a b c (h : DeedIs t k a b c) => (show N.length = (deedN k).toNat from by rw [← hN, deed_nums h]; exact h.numbers.2.2.1))
      have HDH := Lib.hid (fun k a b c (h : DeedIs t k a b c) => (show X = ⟨(wordL k).toArray⟩ from by rw [← HX.out]; exact deed_head h))
      have hNl : N.length ≤ 1048577 := by rw [← hN, List.length_map, List.length_tail]; have := HLE.out; omega
      obtain ⟨AN, cN, rfl, _⟩ := own_nil own
      have hz34 : w3.heap.size ≤ w4.heap.size := hb4.size
      have HO4 := Lib.hid (show OwnInts w4 w3.heap.size (.slice AN N.length cN) N from own)
      have hwR : w.heap.size < w3.heap.size := Nat.lt_of_lt_of_le HK3.out.lt (Nat.le_refl _)
      clear hall own hX hX0 hb4 hN
      go_wp2_with fail
      go_loopw [8] (fun κ wx => ∃ q : Nat, 1 ≤ q ∧ q ≤ 10 ∧ κ = .int .i64 q ∧ Hid (∀ j : Nat, 1 ≤ j → j < q → ∀ a b c, ¬ DeedIs t (j : Int) a b c) ∧ Hid (RdSt4 w wx g B X) ∧ Hid (w3.heap.size ≤ wx.heap.size ∧ (OwnInts wx w3.heap.size (.slice AN N.length cN) N ∨ ∃ j : Nat, 1 ≤ j ∧ j < q ∧ X = ⟨(wordL (j : Int)).toArray⟩))) (fun κ _ => 10 - (intOf κ).toNat)
      case atStart => exact ⟨1, Nat.le_refl _, by omega, rfl, Lib.hid (fun j h1 h2 => by omega), St4, Lib.hid ⟨hz34, .inl HO4.out⟩⟩
      case round =>
        obtain ⟨q, hq1, hq10, rfl, HNO, St, HOw⟩ := hrel
        by_cases hle : q ≤ 9
        · have hqi : (q : Int) ≤ 9 := by omega
          have hqt : (q : Int) < 10 := by omega
          have hqtn : q < 10 := by omega
          have hpn := HPO.out
          have hpi : (0 : Int) < ((splB 32 t).length : Int) := by omega
          have hq19 : 1 ≤ (q : Int) ∧ (q : Int) ≤ 9 := by omega
          have HQ19 := Lib.hid hq19
          have cX := St.out.hd.c
          have lX := St.out.hd.lt
          have cW := (St.out.nm q hq1 hle).c
          have lW := (St.out.nm q hq1 hle).lt
          have hwz := HOw.out.1
          by_cases he : X = ⟨(wordL (q : Int)).toArray⟩
          · have hno : ¬ ∃ j : Nat, 1 ≤ j ∧ j < q ∧ X = ⟨(wordL (j : Int)).toArray⟩ := by
              rintro ⟨j, h1, h2, h3⟩
              have h4 : (wordL (j : Int)) = wordL (q : Int) := by
                have := congrArg (fun x : ByteArray => x.data.toList) (h3.symm.trans he)
                simpa using this
              have := wordL_inj (k := (j : Int)) (k' := (q : Int)) (by omega) (by omega) h4
              omega
            have hown : OwnInts wr w3.heap.size (.slice AN N.length cN) N := by
              rcases HOw.out.2 with h | h
              · exact h
              · exact absurd h hno
            have HOR := Lib.hid hown
            have hmi : ((X.toList == (⟨(wordL (q : Int)).toArray⟩ : ByteArray).toList)) = true := by rw [← he]; simp
            have HXE := Lib.hid he
            have HXE0 := Lib.hid he
            have hdn := deedN_in hq19
            obtain ⟨D, hD⟩ : ∃ D : Nat, deedN (q : Int) = (D : Int) := ⟨(deedN (q : Int)).toNat, by omega⟩
            have HD := Lib.hid hD
            obtain ⟨WL, hWL⟩ : ∃ WL : ByteArray, (⟨(wordL (q : Int)).toArray⟩ : ByteArray) = WL := ⟨_, rfl⟩
            rw [hWL] at cW hmi HXE
            clear hno hown he hq19 hdn hD hWL
            by_cases hln : N.length = D
            · have hli : ((N.length : Int) == (D : Int)) = true := by simp [hln]
              have HLN := Lib.hid hln
              clear hln
              go_upto_region 9 with fail
              go_region_law (first
                | (go_simp; go_at_call 10; refine (l08Fields_b _ _ HQ19.out).mono ?_; rintro e w6 ⟨rfl, hb6⟩; rw [HD.out]))
              all_goals
                have HB6 := Lib.hid (Below.undrew hb6)
                have St6 := Lib.hid (St.out.up HB6.out)
                have HO6 := Lib.hid (ownsRow_below HOR.out HB6.out)
                have hz6 := HB6.out.size
                have hz36 : w3.heap.size ≤ w6.heap.size := by omega
                have hN3 : 3 ≤ (N ++ [0, 0]).length := by rw [List.length_append]; have := deedN_in HQ19.out; have := HD.out; have := HLN.out; simp; omega
                have hNl2 : N.length ≤ 1099511627776 := by omega
                have HN3 := Lib.hid hN3
                clear hb6 hN3 cX lX cW lW hmi
                go_wp2_with (first
                  | (at_builtin; go_loud (refine push_int2 (base := w3.heap.size) (v := .slice AN N.length cN) (l := N) rfl _ _ rfl (by rfl) (by rfl) rfl HO6.out hNl2 hz36 ?_); intro v7 w7 own7 kp7 hb7; obtain ⟨L7, hL7⟩ : ∃ L7, N ++ [0, 0] = L7 := ⟨_, rfl⟩; rw [hL7] at own7; obtain ⟨G, c7, rfl, hG3, hG7, hcap7, hcell7⟩ := own_form own7 (by rw [← hL7]; simp)))
                have hcn : ∀ i : Nat, i < 3 → w7.cell? ⟨G, i, none⟩ = some (.int .i64 (nz N i)) := fun i hi => hcell7 i _ (by
                  have h3 := HN3.out
                  rw [← hL7, List.getElem?_map, List.getElem?_eq_getElem (by omega)]
                  unfold nz
                  rw [List.getD_eq_getElem?_getD, List.getElem?_eq_getElem (by omega)]
                  rfl)
                have hL3 : 3 ≤ L7.length := by rw [← hL7]; exact HN3.out
                have c0 := hcn 0 (by omega)
                have c1 := hcn 1 (by omega)
                have c2 := hcn 2 (by omega)
                have HDT2 := Lib.hid (fun k a b c (h : DeedIs t k a b c) => HDT.out k a b c h)
                have St7 := Lib.hid (show RdSt4 w w7 g B X from ⟨St6.out.bel.trans (hb7.mono (by omega)), (kp7 _ (by have := St6.out.box.lt; omega) (fun q => by have := (World.ownsRow.lt HO6.out _ q).1; omega)).trans St6.out.box, St6.out.hd.same hb7.size (kp7 _ St6.out.hd.lt (fun q => by have h1 : w3.heap.size ≤ g := (World.ownsRow.lt HO6.out g q).1; omega)), fun k a b => (St6.out.nm k a b).same hb7.size (kp7 _ (St6.out.nm k a b).lt (fun q => by have h1 : w3.heap.size ≤ B := (World.ownsRow.lt HO6.out B q).1; omega))⟩)
                have hw37 : w3.heap.size ≤ w7.heap.size := Nat.le_trans hz36 hb7.size
                obtain ⟨n0, hn0⟩ : ∃ n, nz N 0 = n := ⟨_, rfl⟩
                obtain ⟨n1, hn1⟩ : ∃ n, nz N 1 = n := ⟨_, rfl⟩
                obtain ⟨n2, hn2⟩ : ∃ n, nz N 2 = n := ⟨_, rfl⟩
                rw [hn0] at c0
                rw [hn1] at c1
                rw [hn2] at c2
                rw [hn0, hn1, hn2] at HDT2
                have l0 : (0 : Int) < (L7.length : Int) := by omega
                have l1 : (1 : Int) < (L7.length : Int) := by omega
                have l2 : (2 : Int) < (L7.length : Int) := by omega
                have m0 : 0 < L7.length := by omega
                have m1 : 1 < L7.length := by omega
                have m2 : 2 < L7.length := by omega
                have HBA := Lib.hid (fun o => (Below.refl w7.heap.size w7.drew).alloc (Nat.le_refl _) o)
                have hGs : G < w7.drew.heap.size := hG7
                have KA : ∀ o, (w7.drew.alloc o).cell? ⟨G, 0, none⟩ = some (.int .i64 n0) ∧ (w7.drew.alloc o).cell? ⟨G, 1, none⟩ = some (.int .i64 n1) ∧ (w7.drew.alloc o).cell? ⟨G, 2, none⟩ = some (.int .i64 n2) := fun o => ⟨((HBA.out o).cell (p := ⟨G, 0, none⟩) hGs).trans c0, ((HBA.out o).cell (p := ⟨G, 1, none⟩) hGs).trans c1, ((HBA.out o).cell (p := ⟨G, 2, none⟩) hGs).trans c2⟩
                clear hcn hL3 hn0 hn1 hn2 hcap7 hcell7 own7 kp7 hb7 hL7 hG3
                go_region_held3 (fun w' => w'.cell? ⟨G, 0, none⟩ = some (.int .i64 n0) ∧ w'.cell? ⟨G, 1, none⟩ = some (.int .i64 n1) ∧ w'.cell? ⟨G, 2, none⟩ = some (.int .i64 n2))
                  (first | exact ⟨c0, c1, c2⟩ | exact KA _)
                  (fail)
                go_wp2_with fail
                have b8 : Below w7.heap.size w7 (w7.alloc (Obj.cells #[.int .i64 q, .int .i64 n0, .int .i64 n1, .int .i64 n2] 23)).drew := ((Below.refl _ w7).alloc (Nat.le_refl _) _).drew
                have K8 : Blk (w7.alloc (Obj.cells #[.int .i64 q, .int .i64 n0, .int .i64 n1, .int .i64 n2] 23)).drew w7.heap.size #[.int .i64 q, .int .i64 n0, .int .i64 n1, .int .i64 n2] 23 := Blk.new w7 _ _
                refine (specDeedText_any (q : Int) n0 n1 n2 _).mono ?_
                rintro e w9 ⟨rfl, hb9⟩
                have B9 : Below w7.heap.size w7 w9 := Below.tr b8 hb9
                have HK9 := Lib.hid (K8.up hb9)
                have St9 := Lib.hid (St7.out.up B9)
                have hz9 : w3.heap.size ≤ w9.heap.size := Nat.le_trans hw37 B9.size
                clear b8 K8 hb9 B9 c0 c1 c2 l0 l1 l2 m0 m1 m2 KA HBA hGs hG7 St7
                cases hq : ((textS (q : Int) n0 n1 n2).toList == t.toList) with
                | false =>
                  have HNO2 : Hid (∀ j : Nat, 1 ≤ j → j < q + 1 → ∀ a b c, ¬ DeedIs t (j : Int) a b c) := fun j h1 h2 a b c hd => by
                    rcases Nat.lt_or_ge j q with h | h
                    · exact HNO.out j h1 h a b c hd
                    · have : j = q := by omega
                      subst this
                      have h9 := (HDT2.out _ _ _ _ hd).2
                      rw [h9] at hq
                      simp at hq
                  have HOw2 := Lib.hid (show w3.heap.size ≤ w9.heap.size ∧ (OwnInts w9 w3.heap.size (.slice AN N.length cN) N ∨ ∃ j : Nat, 1 ≤ j ∧ j < q + 1 ∧ X = ⟨(wordL (j : Int)).toArray⟩) from ⟨hz9, .inr ⟨q, hq1, by omega, HXE0.out⟩⟩)
                  go_wp2_with fail
                  go_roundw
                  case rel => exact ⟨q + 1, by omega, by omega, by go_num, HNO2, St9, HOw2⟩
                  case measure => simp [intOf]; omega
                | true =>
                  have HTX := Lib.hid (show textS (q : Int) n0 n1 n2 = t by
                    rw [beq_iff_eq, ByteArray.toList_eq, ByteArray.toList_eq] at hq
                    apply ByteArray.ext
                    exact Array.ext' hq)
                  have HOK := Lib.hid (show deedOk (q : Int) n0 n1 n2 = true by
                    cases ho : deedOk (q : Int) n0 n1 n2 with
                    | true => rfl
                    | false =>
                      exfalso
                      have h1 := HTX.out
                      rw [textS, ho] at h1
                      have h2 : splB 32 t = [⟨#[]⟩] := by rw [← h1]; rfl
                      have h3 := HX.out
                      rw [h2, HXE0.out] at h3
                      have h4 := congrArg (fun x : ByteArray => x.data.toList) h3
                      simp at h4
                      exact wordL_ne HQ19.out h4)
                  have HRx := Lib.hid St9.out.box
                  have d0 := Blk.cell (i := 0) (v := .int .i64 q) HK9.out rfl
                  have d1 := Blk.cell (i := 1) (v := .int .i64 n0) HK9.out rfl
                  have d2 := Blk.cell (i := 2) (v := .int .i64 n1) HK9.out rfl
                  have d3 := Blk.cell (i := 3) (v := .int .i64 n2) HK9.out rfl
                  have lD := HK9.out.lt
                  have f0 := Blk.frozen HRx.out 0
                  have f1 := Blk.frozen HRx.out 1
                  have f2 := Blk.frozen HRx.out 2
                  have f3 := Blk.frozen HRx.out 3
                  have g0 := Blk.cell (i := 0) HRx.out rfl
                  have g1 := Blk.cell (i := 1) HRx.out rfl
                  have g2 := Blk.cell (i := 2) HRx.out rfl
                  have g3 := Blk.cell (i := 3) HRx.out rfl
                  have lR := HRx.out.lt
                  go_wp2_with fail
                  obtain ⟨s1, s2, s3⟩ := fin4 HRx.out (.int .i64 q) (.int .i64 n0) (.int .i64 n1) (.int .i64 n2)
                  exact bodyPost_ret (v := .tuple #[.agg #[.int .i64 q, .int .i64 n0, .int .i64 n1, .int .i64 n2], .int .i64 0]) (by simp [results, Tryd.results4, go_sem, Blk.cell (i := 0) s1 rfl, Blk.cell (i := 1) s1 rfl, Blk.cell (i := 2) s1 rfl, Blk.cell (i := 3) s1 rfl]) rfl ⟨St9.out.bel.trans s3, .inl ⟨_, _, _, _, ⟨HOK.out, HTX.out⟩, rfl⟩⟩
            · have hli : ((N.length : Int) == (D : Int)) = false := by simp; omega
              have HLN := Lib.hid hln
              clear hln
              go_upto_region 9 with fail
              go_region_law (first
                | (go_simp; go_at_call 10; refine (l08Fields_b _ _ HQ19.out).mono ?_; rintro e w6 ⟨rfl, hb6⟩; rw [HD.out]))
              all_goals
                have HB6 := Lib.hid (Below.undrew hb6)
                have St6 := Lib.hid (St.out.up HB6.out)
                have HOw2 := Lib.hid (show w3.heap.size ≤ w6.heap.size ∧ (OwnInts w6 w3.heap.size (.slice AN N.length cN) N ∨ ∃ j : Nat, 1 ≤ j ∧ j < q + 1 ∧ X = ⟨(wordL (j : Int)).toArray⟩) from ⟨Nat.le_trans HOw.out.1 HB6.out.size, .inr ⟨q, hq1, by omega, HXE0.out⟩⟩)
                have HNO2 : Hid (∀ j : Nat, 1 ≤ j → j < q + 1 → ∀ a b c, ¬ DeedIs t (j : Int) a b c) := fun j h1 h2 a b c hd => by
                  rcases Nat.lt_or_ge j q with h | h
                  · exact HNO.out j h1 h a b c hd
                  · have : j = q := by omega
                    subst this
                    have h9 := HDN.out _ _ _ _ hd
                    have := HD.out
                    exact HLN.out (by omega)
                clear hb6
                go_wp2_with fail
                go_roundw
                case rel => exact ⟨q + 1, by omega, by omega, by go_num, HNO2, St6, HOw2⟩
                case measure => simp [intOf]; omega
          · have hne : (X.toList == (⟨(wordL (q : Int)).toArray⟩ : ByteArray).toList) = false := by
              rw [beq_eq_false_iff_ne]
              intro h
              rw [ByteArray.toList_eq, ByteArray.toList_eq] at h
              exact he (ByteArray.ext (Array.ext' h))
            have HNO2 : Hid (∀ j : Nat, 1 ≤ j → j < q + 1 → ∀ a b c, ¬ DeedIs t (j : Int) a b c) := fun j h1 h2 a b c hd => by
              rcases Nat.lt_or_ge j q with h | h
              · exact HNO.out j h1 h a b c hd
              · have : j = q := by omega
                subst this
                exact he (HDH.out _ _ _ _ hd)
            have HOw2 := Lib.hid (show w3.heap.size ≤ wr.heap.size ∧ (OwnInts wr w3.heap.size (.slice AN N.length cN) N ∨ ∃ j : Nat, 1 ≤ j ∧ j < q + 1 ∧ X = ⟨(wordL (j : Int)).toArray⟩) from ⟨HOw.out.1, HOw.out.2.imp id fun ⟨j, a, b, c⟩ => ⟨j, a, by omega, c⟩⟩)
            clear he hq19
            obtain ⟨WL, hWL⟩ : ∃ WL : ByteArray, (⟨(wordL (q : Int)).toArray⟩ : ByteArray) = WL := ⟨_, rfl⟩
            rw [hWL] at cW hne
            clear hWL
            go_wp2_with fail
            go_quiet (fail)
            go_wp2_with fail
            go_roundw
            case rel => exact ⟨q + 1, by omega, by omega, by go_num, HNO2, Lib.hid (St.out.up (below_drewN (Below.refl _ _) nq)), HOw2⟩
            case measure => simp [intOf]; omega
        · have HN := Lib.hid (show ∀ k a b c, ¬ DeedIs t k a b c from fun k a b c h => by
            have hk := (deedOk_all h.1).1
            obtain ⟨j, rfl⟩ := Int.eq_ofNat_of_zero_le (show 0 ≤ k by omega)
            exact HNO.out j (by omega) (by omega) a b c h)
          have HRx := Lib.hid St.out.box
          have hq9 : ¬ (q : Int) ≤ 9 := by omega
          have f0 := Blk.frozen HRx.out 0
          have f1 := Blk.frozen HRx.out 1
          have f2 := Blk.frozen HRx.out 2
          have f3 := Blk.frozen HRx.out 3
          have g0 := Blk.cell (i := 0) HRx.out rfl
          have g1 := Blk.cell (i := 1) HRx.out rfl
          have g2 := Blk.cell (i := 2) HRx.out rfl
          have g3 := Blk.cell (i := 3) HRx.out rfl
          have lR := HRx.out.lt
          go_wp2_with fail
          obtain ⟨s1, s2, s3⟩ := fin4 HRx.out (.int .i64 0) (.int .i64 0) (.int .i64 0) (.int .i64 0)
          exact bodyPost_ret (v := .tuple #[.agg #[.int .i64 0, .int .i64 0, .int .i64 0, .int .i64 0], .int .i64 5]) (by simp [results, Tryd.results4, go_sem, Blk.cell (i := 0) s1 rfl, Blk.cell (i := 1) s1 rfl, Blk.cell (i := 2) s1 rfl, Blk.cell (i := 3) s1 rfl]) rfl ⟨St.out.bel.trans s3, .inr ⟨HN.out, rfl⟩⟩
    · have HN := Lib.hid (show ∀ k a b c, ¬ DeedIs t k a b c from fun k a b c h => by rw [deed_all h] at hno; cases hno)
      have HRx := Lib.hid St4.out.box
      clear hno hX hX0
      go_wp2_with fail
      go_loopw [8] (fun k wx => k = .int .i64 1 ∧ wx = w4) (fun _ _ => 0)
      case atStart => exact ⟨rfl, by first | rfl | trivial⟩
      case round =>
        obtain ⟨rfl, rfl⟩ := hrel
        have f0 := Blk.frozen HRx.out 0
        have f1 := Blk.frozen HRx.out 1
        have f2 := Blk.frozen HRx.out 2
        have f3 := Blk.frozen HRx.out 3
        have g0 := Blk.cell (i := 0) HRx.out rfl
        have g1 := Blk.cell (i := 1) HRx.out rfl
        have g2 := Blk.cell (i := 2) HRx.out rfl
        have g3 := Blk.cell (i := 3) HRx.out rfl
        have lR := HRx.out.lt
        go_wp2_with fail
        obtain ⟨s1, s2, s3⟩ := fin4 HRx.out (.int .i64 0) (.int .i64 0) (.int .i64 0) (.int .i64 0)
        exact bodyPost_ret (v := .tuple #[.agg #[.int .i64 0, .int .i64 0, .int .i64 0, .int .i64 0], .int .i64 5]) (by simp [results, Tryd.results4, go_sem, Blk.cell (i := 0) s1 rfl, Blk.cell (i := 1) s1 rfl, Blk.cell (i := 2) s1 rfl, Blk.cell (i := 3) s1 rfl]) rfl ⟨St4.out.bel.trans s3, .inr ⟨HN.out, rfl⟩⟩
set_option maxRecDepth 100000 in
theorem eqDeed_same (k a b c : Int) (w : World) :
    Calls Tryd.prog 6 #[.agg #[.int .i64 k, .int .i64 a, .int .i64 b, .int .i64 c], .agg #[.int .i64 k, .int .i64 a, .int .i64 b, .int .i64 c]] w fun e w' => e = .returned (.bool true) ∧ Below w.heap.size w w' := by
  go_enter Tryd.func6, Tryd.ntmps6
  go_wp2_with fail
  go_ret
  exact ⟨rfl, ((Below.refl w.heap.size w).alloc (Nat.le_refl _) _).alloc (by simp) _⟩
theorem deedRead_eq {t : ByteArray} {e e' : Ending} (h : DeedRead t e) (h' : DeedRead t e') : ∃ k a b c cd, e = .returned (.tuple #[.agg #[.int .i64 k, .int .i64 a, .int .i64 b, .int .i64 c], .int .i64 cd]) ∧ e' = .returned (.tuple #[.agg #[.int .i64 k, .int .i64 a, .int .i64 b, .int .i64 c], .int .i64 cd]) := by
  rcases h with ⟨k, a, b, c, h1, rfl⟩ | ⟨h1, rfl⟩
  · rcases h' with ⟨k', a', b', c', h2, rfl⟩ | ⟨h2, rfl⟩
    · obtain ⟨rfl, rfl, rfl, rfl⟩ := h1.uniq h2
      exact ⟨_, _, _, _, _, rfl, rfl⟩
    · exact absurd h1 (h2 _ _ _ _)
  · rcases h' with ⟨k', a', b', c', h2, rfl⟩ | ⟨h2, rfl⟩
    · exact absurd h2 (h1 _ _ _ _)
    · exact ⟨_, _, _, _, _, rfl, rfl⟩
set_option maxRecDepth 100000 in
set_option maxHeartbeats 2000000 in
theorem lawReadDeed_any (t : ByteArray) (w : World) (_hsz : t.size ≤ maxLen) (hv : RdVars w) :
    Calls Tryd.prog 3 #[.string t] w fun r w' => r = .returned (.bool true) ∧ Below w.heap.size w w' := by
  have HV := Lib.hid hv
  clear hv
  by_cases hbig : 1048576 < t.size
  · have hb2 : (1048576 : Int) < (t.size : Int) := by omega
    go_enter Tryd.func3, Tryd.ntmps3
    go_wp2_with fail
    go_ret
    exact ⟨rfl, Below.refl _ _⟩
  have hb2 : ¬ (1048576 : Int) < (t.size : Int) := by omega
  have hs : t.size ≤ 1048576 := by omega
  go_enter Tryd.func3, Tryd.ntmps3
  go_wp2_with fail
  refine (specReadDeed_any t _ hs).mono ?_
  rintro e w1 ⟨hb1, hr⟩
  have HR := Lib.hid hr
  have hcase : ∃ k a b c cd, e = .returned (.tuple #[.agg #[.int .i64 k, .int .i64 a, .int .i64 b, .int .i64 c], .int .i64 cd]) := by
    obtain ⟨k, a, b, c, cd, h, _⟩ := deedRead_eq hr hr
    exact ⟨k, a, b, c, cd, h⟩
  obtain ⟨k, a, b, c, cd, rfl⟩ := hcase
  have b2 := (hb1.alloc hb1.size (Obj.cells #[.int .i64 k, .int .i64 a, .int .i64 b, .int .i64 c] 23))
  have K2 := Lib.hid (Blk.new w1 #[.int .i64 k, .int .i64 a, .int .i64 b, .int .i64 c] 23)
  have HB2 := Lib.hid b2
  clear hr hb1 b2
  go_upto_region 4 with fail
  revert K2 HB2
  generalize (w1.alloc (Obj.cells #[.int .i64 k, .int .i64 a, .int .i64 b, .int .i64 c] 23)) = w2
  intro K2 HB2
  go_wp2_with fail
  refine (implReadDeed_any t _ hs (HV.out.up HB2.out)).mono ?_
  rintro e w3 ⟨hb3, hr3⟩
  obtain ⟨k', a', b', c', cd', h1, rfl⟩ := deedRead_eq HR.out hr3
  injection h1 with h1
  injection h1 with h1
  simp only [Array.mk.injEq, List.cons.injEq, Value.agg.injEq, Value.int.injEq, true_and, and_true] at h1
  obtain ⟨⟨rfl, rfl, rfl, rfl⟩, rfl⟩ := h1
  have K3 := Lib.hid (K2.out.up hb3)
  have b4 := (Below.refl _ w3).alloc (Nat.le_refl _) (Obj.cells #[.int .i64 k, .int .i64 a, .int .i64 b, .int .i64 c] 23)
  have K4 := Lib.hid (Blk.new w3 #[.int .i64 k, .int .i64 a, .int .i64 b, .int .i64 c] 23)
  have K34 := Lib.hid (K3.out.up b4)
  have HB4 := Lib.hid (Below.tr (Below.tr HB2.out hb3) b4)
  clear hb3 hr3 b4 K2 K3 HB2
  go_upto_region 5 with fail
  revert K4 K34 HB4
  generalize (w3.alloc (Obj.cells #[.int .i64 k, .int .i64 a, .int .i64 b, .int .i64 c] 23)) = w5
  intro K4 K34 HB4
  have x0 := Blk.cell (i := 0) (v := .int .i64 k) K4.out rfl
  have x1 := Blk.cell (i := 1) (v := .int .i64 a) K4.out rfl
  have x2 := Blk.cell (i := 2) (v := .int .i64 b) K4.out rfl
  have x3 := Blk.cell (i := 3) (v := .int .i64 c) K4.out rfl
  have xl := K4.out.lt
  have y0 := Blk.cell (i := 0) (v := .int .i64 k) K34.out rfl
  have y1 := Blk.cell (i := 1) (v := .int .i64 a) K34.out rfl
  have y2 := Blk.cell (i := 2) (v := .int .i64 b) K34.out rfl
  have y3 := Blk.cell (i := 3) (v := .int .i64 c) K34.out rfl
  have yl := K34.out.lt
  go_wp2_with fail
  refine (eqDeed_same k a b c _).mono ?_
  rintro e w6 ⟨rfl, hb6⟩
  have HB6 := Lib.hid (Below.tr HB4.out hb6)
  go_wp2_with fail
  go_ret
  exact ⟨rfl, HB6.out⟩
open Go.RowKit Go.WideShapes Go.ChangeShapes
section
variable {H : Type} {enc : TypeId × Value → H} {P : Program}
theorem post_of_below {f : Func} {s : ChangeSpec} {apart fresh handsOn again : Bool} {W W' : World} {args : Array Value} {v : Value} {ds gs : List (DataW H)} {before pa pv : List MemPlace}
    (hW : DataW.Whole enc P f.params.toList s.vars apart W args.toList ds gs before)
    (hres : ∀ (b : Nat) (sp : Nat → Bool) (hd : Bool), DataW.TrodAll enc P W' b sp hd f.resultTypes.toList (v.resultList f.resultTypes.size) (s.fn H (ds ++ gs)).results [])
    (hargs : ∀ sp : Nat → Bool, (∀ p ∈ before, sp p.block = true) → DataW.TrodAll enc P W' 0 sp true f.params.toList args.toList (s.fn H (ds ++ gs)).args pa)
    (hvars : ∀ sp : Nat → Bool, (∀ p ∈ before, sp p.block = true) → DataW.TrodVars enc P W' sp s.vars (s.fn H (ds ++ gs)).vars pv)
    (hps : before = pa ++ pv) (hb : Below W.heap.size W W')
    (hok : ∀ (j : Nat) (t : TypeId) (r : Value), f.resultTypes[j]? = some t → (v.resultList f.resultTypes.size)[j]? = some r → Value.okWide P W' .any 0 t r) :
    s.post enc P f apart fresh handsOn again W args v W' := by
  have hlt : ∀ p ∈ before, p.block < W.heap.size := fun p hp => hW.lt p hp
  have hold : ∀ p ∈ before, (fun b => decide (b < W.heap.size)) p.block = true := fun p hp => by simpa using hlt p hp
  refine ⟨ds, gs, before, [], pa, pv, hW, hres _ _ _, hargs _ hold, hvars _ hold, World.keptBut_mono (fun p hp => ⟨hp, ?_⟩) (hb.frame (· ∈ before)), fun _ => ?_⟩
  · rw [hps, List.mem_append] at hp
    exact Or.inr hp
  · obtain ⟨_, _, _, _, _, hz, hn⟩ := hW
    refine ⟨hok, _, _, ([] ++ pa) ++ pv, ⟨[] ++ pa, pv, trodAll_append (hargs _ (fun _ _ => rfl)) (hres _ _ _), hvars _ (fun _ _ => rfl), rfl, ?_, ?_⟩, ?_⟩
    · intro b off hp
      have hin : MemPlace.cell b off ∈ before := by rw [hps]; simpa using hp
      rw [hb.frozen (hlt _ hin)]
      exact hz b off hin
    · intro ha
      have := hn ha
      rw [hps] at this
      simpa using this
    · intro p hp _
      rw [hps]
      simpa using hp
theorem trodAll_below (hl : laidOutB P = true) {W W' : World} (hb : Below W.heap.size W W') : ∀ {ts : List TypeId} {vs : List Value} {ds : List (DataW H)} {ps : List MemPlace},
    (∀ t ∈ ts, P.readableRec t = true ∧ t < P.types.size) → DataW.TrodAll enc P W 0 (fun _ => true) true ts vs ds ps → (∀ x ∈ ps, x.block < W.heap.size) → ∀ sp : Nat → Bool, (∀ p ∈ ps, sp p.block = true) →
    DataW.TrodAll enc P W' 0 sp true ts vs ds ps
  | [], _, _, _, _, h, _, _, _ => by
    obtain ⟨rfl, rfl, rfl⟩ := trodAll_nil h
    exact trodAll_mk0
  | t :: ts, vs, ds, ps, hts, h, hlt, sp, hsp => by
    obtain ⟨v, vs', d, ds', p, q, rfl, rfl, rfl, h0, r0⟩ := trodAll_cons h
    refine trodAll_cons_mk (WideElems.Trod_stays hl (hts t (by simp)).1 (hts t (by simp)).2 h0 (fun x hx => hb.same (hlt x (by simp [hx]))) (fun x hx => hsp x (by simp [hx]))) ?_
    exact trodAll_below hl hb (fun t ht => hts t (by simp [ht])) r0 (fun x hx => hlt x (by simp [hx])) sp (fun x hx => hsp x (by simp [hx]))
end
theorem laidOut : laidOutB Tryd.prog = true := by kernel_rfl
theorem own : ownKnob Tryd.prog.godebug = none := by kernel_rfl
open Go.RowKit Go.ChangeShapes Go.WideShapes Go.Deep
section
variable {H : Type} {enc : TypeId × Value → H} {P : Program} {w : World} {base : Nat} {spare : Nat → Bool} {held : Bool}
end
end Go.Proofs.YtbifijlenbibmaaDoor
