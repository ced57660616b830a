import Derived.Test.YtfkijaamfmpboaaM4
import Derived.Test.YtfkijaamfmpboaaM1
import Derived.Test.YtfkijaamfmpboaaM2
import Derived.Deep.RegionHeld3
namespace Go.Proofs.Ytfkijaamfmpboaa
open Go.RowKit
def arC (x : List Int) : List Value := x.map (Value.int .i64)
def OwnA (w : World) (base : Nat) (v : Value) (l : List (List Int)) : Prop := (∀ x ∈ l, x.length = 4) ∧ w.ownsRow base 128 4 v l.length (l.flatMap arC)
theorem arC_at {l : List (List Int)} (h4 : ∀ x ∈ l, x.length = 4) {k : Nat} {x : List Int} (h : l[k]? = some x) {j : Nat} (hj : j < 4) : (l.flatMap arC)[k * 4 + j]? = some (.int .i64 (x.getD j 0)) := by
  induction l generalizing k with
  | nil => simp at h
  | cons y ys ih =>
    have hy : (arC y).length = 4 := by unfold arC; rw [List.length_map]; exact h4 y (by simp)
    rw [List.flatMap_cons]
    cases k with
    | zero =>
      simp at h; subst h
      rw [List.getElem?_append_left (by omega), Nat.zero_mul, Nat.zero_add]
      unfold arC at hy ⊢
      rw [List.length_map] at hy
      rw [List.getElem?_map, List.getD_eq_getElem?_getD, List.getElem?_eq_getElem (by omega)]; rfl
    | succ k =>
      have h2 : ys[k]? = some x := by simpa using h
      rw [List.getElem?_append_right (by omega), hy, show (k + 1) * 4 + j - 4 = k * 4 + j by omega]
      exact ih (fun z hz => h4 z (by simp [hz])) h2
theorem OwnA.cells {w : World} {base : Nat} {v : Value} {l : List (List Int)} (h : OwnA w base v l) (hl : 0 < l.length) :
    ∃ g cap, v = .slice (some ⟨g, 0, none⟩) l.length cap ∧ base ≤ g ∧ g < w.heap.size ∧ l.length ≤ cap ∧ ∀ (k j : Nat) (x : List Int), l[k]? = some x → j < 4 → w.cell? ⟨g, k * 4 + j, none⟩ = some (.int .i64 (x.getD j 0)) := by
  obtain ⟨g, cap, rfl, hb, hg, hc1, hc⟩ := own_form h.2 hl
  exact ⟨g, cap, rfl, hb, hg, hc1.1, fun k j x hk hj => hc _ _ (arC_at h.1 hk hj)⟩
theorem OwnA.below {w w' : World} {base : Nat} {v : Value} {l : List (List Int)} (h : OwnA w base v l) (hb : Below w.heap.size w w') : OwnA w' base v l := ⟨h.1, ownsRow_below h.2 hb⟩
theorem OwnA.more {w : World} {base base' : Nat} {v : Value} {l : List (List Int)} (h : OwnA w base v l) (hb : base' ≤ base) : OwnA w base' v l := ⟨h.1, ownsRow_more h.2 hb⟩
theorem OwnA.empty {w : World} {base N : Nat} (hN : N = w.heap.size) (hb : base ≤ w.heap.size) : OwnA (w.alloc (Obj.cells #[] 128)) base (Value.slice (some ⟨N, 0, none⟩) 0 0) [] := by
  subst hN
  exact ⟨by simp, World.ownsRow_lit w #[] 0 hb (Nat.zero_le _) rfl⟩
theorem OwnA.nil4 {w : World} {base : Nat} {v : Value} {l : List (List Int)} (h : OwnA w base v l) : ∃ A cap, v = .slice A l.length cap := by
  obtain ⟨A, cap, rfl, _⟩ := own_nil h.2
  exact ⟨A, cap, rfl⟩
theorem Try.infoA4 : (Try.prog.info? 128).map (fun i => (i.zero, i.size, i.bytes)) = some (some (.agg #[.int .i64 0, .int .i64 0, .int .i64 0, .int .i64 0]), 4, 32) := by kernel_rfl
theorem append_moved {P : Program} (w : World) (base : Nat) (t ty e : TypeId) (i : TypeInfo) (z : Value) (size bytes : Nat) (ht : P.underlying t = some (.slice e)) (hi : P.info? e = some i) (hz : i.zero = some z) (hsize : i.size = size) (hby : i.bytes = bytes)
    {v : Value} {n : Nat} {xs : List Value} (hown : w.ownsRow base e size v n xs) (a : Addr) (m c : Nat) (news : List Value) (hl : news.length = m * size) (hnews : ∀ j u, news[j]? = some u → w.cell? (a.add j) = some u) (h1 : ∀ u ∈ news, u.oneCell' = true)
    (h63 : n + m ≤ maxLen) (hbytes : (n + m) * bytes ≤ 140737488355328) {v' : Value} {w' : World} (hr : (Builtin.append_ #[t, t] ty #[v, .slice (some a) m c]).run P w = .ok v' w') (hg : w.grownBy w' v.ownBlock) : v'.ownBlock = v.ownBlock ∨ w.grownBy w' none := by
  subst hsize
  subst hby
  have hsmall : n + m ≤ 9223372036854775807 := by simp only [maxLen] at h63; omega
  rcases hown.2 with ⟨rfl, rfl⟩ | ⟨g, cap, cur, rfl, hbg, hgc, hnc, hcm, hcs, htake⟩
  · exact .inr hg
  · by_cases hroom : n + m ≤ cap
    · have hfit : n * i.size + news.length ≤ cur.size := by rw [hl, hcs, ← Nat.add_mul]; exact Nat.mul_le_mul_right _ hroom
      have hr2 := run_append_room (P := P) w t ty e i ht hi g n cap cur hgc a m c news hl hnews h1 hroom hfit
      rw [hr] at hr2
      injection hr2 with e1 e2
      subst e1
      exact .inl rfl
    · have holds : ∀ j u, xs[j]? = some u → w.cell? ((⟨g, 0, none⟩ : Addr).add j) = some u := hown.cells (g := g) rfl
      have hr2 := run_append_grow (P := P) w t ty e i z ht hi hz ⟨g, 0, none⟩ n cap xs hown.1 holds a m c news hl hnews (by omega) (by omega) (growslice_fits (by omega) hbytes)
      rw [hr] at hr2
      injection hr2 with e1 e2
      subst e2
      exact .inr ⟨rfl, rfl, rfl, by simp, fun k hk _ => Below.heap_alloc w.drew _ k hk⟩
theorem run_push_a4 {W : World} (ty : TypeId) {a b c d : Int} {base N : Nat} {v : Value} {l : List (List Int)} (hN : W.heap[N]? = some (.cells #[.int .i64 a, .int .i64 b, .int .i64 c, .int .i64 d] 128 (0, 0))) (hown : OwnA W base v l) (hlen : l.length ≤ 1048576) (hbase : base ≤ W.heap.size) :
    ∃ A' c' w', (Builtin.append_ #[97, 97] ty #[v, .slice (some ⟨N, 0, none⟩) 1 1]).run Try.prog W = .ok (.slice A' (l.length + 1) c') w' ∧ OwnA w' base (.slice A' (l.length + 1) c') (l ++ [[a, b, c, d]]) ∧
      W.grownBy w' v.ownBlock ∧ Below base W w' ∧ ∀ (g cc i : Nat) (u : Value), v = .slice (some ⟨g, 0, none⟩) l.length cc → i < l.length * 4 → W.cell? ⟨g, i, none⟩ = some u → w'.cell? ⟨g, i, none⟩ = some u := by
  obtain ⟨i0, hi0, hz0, hz1, hz2⟩ := info_parts Try.infoA4
  have hnews : ∀ j u, (arC [a, b, c, d])[j]? = some u → W.cell? ((⟨N, 0, none⟩ : Addr).add j) = some u := fun j y hy => by
      have : W.cell? ⟨N, j, none⟩ = (#[Value.int .i64 a, .int .i64 b, .int .i64 c, .int .i64 d] : Array Value)[j]? := cell_of_row _ _ _ _ 128 (0, 0) hN
      have ha : (⟨N, 0, none⟩ : Addr).add j = ⟨N, j, none⟩ := by unfold Addr.add; split <;> simp_all
      rw [ha, this]; simpa [arC] using hy
  have hone : ∀ u ∈ arC [a, b, c, d], u.oneCell' = true := by simp [arC, Value.oneCell']
  obtain ⟨v', w', hrun, k1, k2, _, k3⟩ := run_append_own_at (P := Try.prog) W base 97 ty 128 i0 _ 4 32 Try.underlying97 hi0 hz0 hz1 hz2 rfl (by decide) v l.length _ hown.2 ⟨N, 0, none⟩ 1 1 (arC [a, b, c, d]) rfl hnews hone (by simp only [maxLen]; omega) (by omega) hbase
  have hmv := append_moved (P := Try.prog) W base 97 ty 128 i0 _ 4 32 Try.underlying97 hi0 hz0 hz1 hz2 hown.2 ⟨N, 0, none⟩ 1 1 (arC [a, b, c, d]) rfl hnews hone (by simp only [maxLen]; omega) (by omega) hrun k2
  have k1' : w'.ownsRow base 128 4 v' (l.length + 1) ((l ++ [[a, b, c, d]]).flatMap arC) := by simpa using k1
  obtain ⟨A', c', rfl, _⟩ := own_nil k1'
  refine ⟨A', c', w', hrun, ⟨fun x hx => ?_, by rw [List.length_append]; exact k1'⟩, k2, (Below.refl base W).grown k2 hbase (fun y hy => (World.ownsRow.lt hown.2 y hy).1), fun g cc i u hv hi hc => ?_⟩
  · rcases List.mem_append.1 hx with hx | hx
    · exact hown.1 x hx
    · rw [List.mem_singleton] at hx; subst hx; rfl
  · subst hv
    rcases hmv with hmv | hmv
    · obtain ⟨g', c2, hv2, _⟩ := own_form k1' (by omega)
      rw [hv2] at k1' hmv
      have e : g' = g := by simpa [Value.ownBlock] using hmv
      subst e
      rw [World.ownsRow.cellAt k1' i (by omega)]
      have h2 := World.ownsRow.cellAt hown.2 i hi
      rw [h2] at hc
      rw [List.flatMap_append, List.getElem?_append_left (List.getElem?_eq_some_iff.1 hc).1]
      exact hc
    · exact hmv.cell hc (by simp)
theorem step_push_a4 {W : World} {ops : Array Oper} {o : Oper} {r : Act} {K : Act → World → Prop} {Q : Exit → Act → World → Prop} {E : Prop} (hgd : o.guard = none) (s x : Operand)
    (ho : o.op = .call { callee := .builtin .append, args := #[s, x], argTypes := #[97, 97] }) {a b c d : Int} {base N n cc : Nat} {A : Option Addr} {l : List (List Int)}
    (hs : r.eval s = .slice A n cc) (hx : r.eval x = .slice (some ⟨N, 0, none⟩) 1 1) (hN : W.heap[N]? = some (.cells #[.int .i64 a, .int .i64 b, .int .i64 c, .int .i64 d] 128 (0, 0))) (hown : OwnA W base (.slice A n cc) l) (hn : n = l.length) (hlen : l.length ≤ 1048576) (hbase : base ≤ W.heap.size)
    (h : ∀ A' c' w', OwnA w' base (.slice A' (n + 1) c') (l ++ [[a, b, c, d]]) → W.grownBy w' (Value.slice A n cc).ownBlock → Below base W w' → (∀ (g i : Nat) (u : Value), A = some ⟨g, 0, none⟩ → i < n * 4 → W.cell? ⟨g, i, none⟩ = some u → w'.cell? ⟨g, i, none⟩ = some u) → K (r.put o.dst (.slice A' (n + 1) c')) w') :
    if Region.wanted o (yielded ops r.tmps) = true then Oper.wp Try.prog o r W K Q else E := by
  subst hn
  have hw : Region.wanted o (yielded ops r.tmps) = true := by simp [Region.wanted, hgd]
  rw [if_pos hw]
  obtain ⟨A', c', w', hrun, k1, k2, k4, k5⟩ := run_push_a4 o.type hN hown hlen hbase
  unfold Oper.wp execOp
  simp only [ho, resolve, invoke, builtin, Sem.run_bind, Sem.run_pure, Result.andThen_ok, List.map_toArray, List.map_cons, List.map_nil, hs, hx, hrun]
  exact h A' c' w' k1 k2 k4 (fun g i u hA hi hc => k5 g cc i u (by rw [hA]) hi hc)
theorem push_a4 {W : World} {ops : Array Oper} {rest : List Oper} {o : Oper} {r : Act} {Q : Exit → Act → World → Prop} (hgd : o.guard = none) (s x : Operand)
    (ho : o.op = .call { callee := .builtin .append, args := #[s, x], argTypes := #[97, 97] }) {a b c d : Int} {base N n cc : Nat} {A : Option Addr} {l : List (List Int)}
    (hs : r.eval s = .slice A n cc) (hx : r.eval x = .slice (some ⟨N, 0, none⟩) 1 1) (hN : W.heap[N]? = some (.cells #[.int .i64 a, .int .i64 b, .int .i64 c, .int .i64 d] 128 (0, 0))) (hown : OwnA W base (.slice A n cc) l) (hn : n = l.length) (hlen : l.length ≤ 1048576) (hbase : base ≤ W.heap.size)
    (h : ∀ A' c' w', OwnA w' base (.slice A' (n + 1) c') (l ++ [[a, b, c, d]]) → W.grownBy w' (Value.slice A n cc).ownBlock → Below base W w' → wpList Try.prog ops Q rest (r.put o.dst (.slice A' (n + 1) c')) w') :
    wpList Try.prog ops Q (o :: rest) r W := by
  subst hn
  refine wpList_plain hgd fun _ hK => ?_
  obtain ⟨A', c', w', hrun, k1, k2, k4, k5⟩ := run_push_a4 o.type hN hown hlen hbase
  unfold Oper.wp execOp
  simp only [ho, resolve, invoke, builtin, Sem.run_bind, Sem.run_pure, Result.andThen_ok, List.map_toArray, List.map_cons, List.map_nil, hs, hx, hrun]
  exact hK _ _ (h A' c' w' k1 k2 k4)
def hot (l i : Nat) : Int := if l = i then 1 else 0
set_option maxRecDepth 100000 in
set_option maxHeartbeats 2000000 in
theorem census1_any (l : Nat) (w : World) (hl : l < 4) : Calls Try.prog 87 #[.int .i64 (l : Int)] w fun e w' => e = .returned (.agg #[.int .i64 (hot l 0), .int .i64 (hot l 1), .int .i64 (hot l 2), .int .i64 (hot l 3)]) ∧ Below w.heap.size w w' := by
  have hl9 : l = 0 ∨ l = 1 ∨ l = 2 ∨ l = 3 := by omega
  rcases hl9 with rfl | rfl | rfl | rfl
  · go_enter Try.func87, Try.ntmps87
    go_wp2_with fail
    refine bodyPost_ret (v := .agg #[.int .i64 1, .int .i64 0, .int .i64 0, .int .i64 0]) (by simp [results, Try.results87, go_sem]) rfl ⟨by simp [hot], (by repeat (first | exact Below.refl _ _ | (refine Below.alloc ?_ (by first | omega | (simp; done) | (simp; omega)) _) | (refine Below.setCell ?_ (by first | exact Nat.le_refl _ | (show _ ≤ _; omega) | (simp; done) | (simp; omega)) _) | refine below_drewN ?_ _ | refine Below.drew ?_))⟩
  · go_enter Try.func87, Try.ntmps87
    go_wp2_with fail
    refine bodyPost_ret (v := .agg #[.int .i64 0, .int .i64 1, .int .i64 0, .int .i64 0]) (by simp [results, Try.results87, go_sem]) rfl ⟨by simp [hot], (by repeat (first | exact Below.refl _ _ | (refine Below.alloc ?_ (by first | omega | (simp; done) | (simp; omega)) _) | (refine Below.setCell ?_ (by first | exact Nat.le_refl _ | (show _ ≤ _; omega) | (simp; done) | (simp; omega)) _) | refine below_drewN ?_ _ | refine Below.drew ?_))⟩
  · go_enter Try.func87, Try.ntmps87
    go_wp2_with fail
    refine bodyPost_ret (v := .agg #[.int .i64 0, .int .i64 0, .int .i64 1, .int .i64 0]) (by simp [results, Try.results87, go_sem]) rfl ⟨by simp [hot], (by repeat (first | exact Below.refl _ _ | (refine Below.alloc ?_ (by first | omega | (simp; done) | (simp; omega)) _) | (refine Below.setCell ?_ (by first | exact Nat.le_refl _ | (show _ ≤ _; omega) | (simp; done) | (simp; omega)) _) | refine below_drewN ?_ _ | refine Below.drew ?_))⟩
  · go_enter Try.func87, Try.ntmps87
    go_wp2_with fail
    refine bodyPost_ret (v := .agg #[.int .i64 0, .int .i64 0, .int .i64 0, .int .i64 1]) (by simp [results, Try.results87, go_sem]) rfl ⟨by simp [hot], (by repeat (first | exact Below.refl _ _ | (refine Below.alloc ?_ (by first | omega | (simp; done) | (simp; omega)) _) | (refine Below.setCell ?_ (by first | exact Nat.le_refl _ | (show _ ≤ _; omega) | (simp; done) | (simp; omega)) _) | refine below_drewN ?_ _ | refine Below.drew ?_))⟩
theorem run_index_a4 (a b c d : Int) (w : World) : (Instr.index 128 (.agg #[.int .i64 a, .int .i64 b, .int .i64 c, .int .i64 d]) (.int .i64 0)).run Try.prog w = .ok (.int .i64 a) w ∧ (Instr.index 128 (.agg #[.int .i64 a, .int .i64 b, .int .i64 c, .int .i64 d]) (.int .i64 1)).run Try.prog w = .ok (.int .i64 b) w ∧
    (Instr.index 128 (.agg #[.int .i64 a, .int .i64 b, .int .i64 c, .int .i64 d]) (.int .i64 2)).run Try.prog w = .ok (.int .i64 c) w ∧ (Instr.index 128 (.agg #[.int .i64 a, .int .i64 b, .int .i64 c, .int .i64 d]) (.int .i64 3)).run Try.prog w = .ok (.int .i64 d) w := by
  refine ⟨?_, ?_, ?_, ?_⟩ <;> simp [Instr.index, asIntOf, run_underlying Try.underlying128, part, Try.isAgg2, Try.sizeOf2, Result.andThen]
def upTo (a b : Int) (i j : Nat) : Int := if i < j then a + b else a
set_option maxRecDepth 100000 in
set_option maxHeartbeats 4000000 in
theorem census2_any (a0 a1 a2 a3 b0 b1 b2 b3 : Int) (s : ByteArray) (x y : Int) (w : World) (h0 : 0 ≤ a0 ∧ a0 ≤ 1000000000000000) (h1 : 0 ≤ a1 ∧ a1 ≤ 1000000000000000) (h2 : 0 ≤ a2 ∧ a2 ≤ 1000000000000000) (h3 : 0 ≤ a3 ∧ a3 ≤ 1000000000000000)
    (k0 : 0 ≤ b0 ∧ b0 ≤ 1000000000000000) (k1 : 0 ≤ b1 ∧ b1 ≤ 1000000000000000) (k2 : 0 ≤ b2 ∧ b2 ≤ 1000000000000000) (k3 : 0 ≤ b3 ∧ b3 ≤ 1000000000000000) :
    Calls Try.prog 88 #[.agg #[.int .i64 a0, .int .i64 a1, .int .i64 a2, .int .i64 a3], .agg #[.int .i64 b0, .int .i64 b1, .int .i64 b2, .int .i64 b3], .agg #[.string s, .int .i64 x, .int .i64 y]] w fun e w' =>
      e = .returned (.agg #[.int .i64 (a0 + b0), .int .i64 (a1 + b1), .int .i64 (a2 + b2), .int .i64 (a3 + b3)]) ∧ Below w.heap.size w w' := by
  have w0 : IntKind.i64.wrap (a0 + b0) = a0 + b0 := IntWalk.i64_in _ (by omega)
  have w1 : IntKind.i64.wrap (a1 + b1) = a1 + b1 := IntWalk.i64_in _ (by omega)
  have w2 : IntKind.i64.wrap (a2 + b2) = a2 + b2 := IntWalk.i64_in _ (by omega)
  have w3 : IntKind.i64.wrap (a3 + b3) = a3 + b3 := IntWalk.i64_in _ (by omega)
  clear h0 h1 h2 h3 k0 k1 k2 k3
  go_enter Try.func88, Try.ntmps88
  go_upto_region 1 with fail
  have hb := ((((Below.refl w.heap.size w).alloc (Nat.le_refl _) (Obj.cells #[.int .i64 a0, .int .i64 a1, .int .i64 a2, .int .i64 a3] 128)).alloc (by simp) (Obj.cells #[.int .i64 b0, .int .i64 b1, .int .i64 b2, .int .i64 b3] 128)).alloc (by simp; omega) (Obj.cells #[.string s, .int .i64 x, .int .i64 y] 111)).alloc (by simp; omega) (Obj.cells #[.int .i64 0, .int .i64 0, .int .i64 0, .int .i64 0] 128)
  have hA := (((Blk.new w #[.int .i64 a0, .int .i64 a1, .int .i64 a2, .int .i64 a3] 128).alloc (Obj.cells #[.int .i64 b0, .int .i64 b1, .int .i64 b2, .int .i64 b3] 128)).alloc (Obj.cells #[.string s, .int .i64 x, .int .i64 y] 111)).alloc (Obj.cells #[.int .i64 0, .int .i64 0, .int .i64 0, .int .i64 0] 128)
  have hB := ((Blk.new (w.alloc (Obj.cells #[.int .i64 a0, .int .i64 a1, .int .i64 a2, .int .i64 a3] 128)) #[.int .i64 b0, .int .i64 b1, .int .i64 b2, .int .i64 b3] 128).alloc (Obj.cells #[.string s, .int .i64 x, .int .i64 y] 111)).alloc (Obj.cells #[.int .i64 0, .int .i64 0, .int .i64 0, .int .i64 0] 128)
  have hC := Blk.new (((w.alloc (Obj.cells #[.int .i64 a0, .int .i64 a1, .int .i64 a2, .int .i64 a3] 128)).alloc (Obj.cells #[.int .i64 b0, .int .i64 b1, .int .i64 b2, .int .i64 b3] 128)).alloc (Obj.cells #[.string s, .int .i64 x, .int .i64 y] 111)) #[.int .i64 0, .int .i64 0, .int .i64 0, .int .i64 0] 128
  rw [show (w.alloc (Obj.cells #[.int .i64 a0, .int .i64 a1, .int .i64 a2, .int .i64 a3] 128)).heap.size = w.heap.size + 1 by simp] at hB
  rw [show (((w.alloc (Obj.cells #[.int .i64 a0, .int .i64 a1, .int .i64 a2, .int .i64 a3] 128)).alloc (Obj.cells #[.int .i64 b0, .int .i64 b1, .int .i64 b2, .int .i64 b3] 128)).alloc (Obj.cells #[.string s, .int .i64 x, .int .i64 y] 111)).heap.size = w.heap.size + 1 + 1 + 1 by simp] at hC
  generalize ((((w.alloc (Obj.cells #[.int .i64 a0, .int .i64 a1, .int .i64 a2, .int .i64 a3] 128)).alloc (Obj.cells #[.int .i64 b0, .int .i64 b1, .int .i64 b2, .int .i64 b3] 128)).alloc (Obj.cells #[.string s, .int .i64 x, .int .i64 y] 111)).alloc (Obj.cells #[.int .i64 0, .int .i64 0, .int .i64 0, .int .i64 0] 128)) = W at *
  have KA := Lib.hid hA
  have KC := Lib.hid hC
  have KB := Lib.hid hb
  have e0 := Blk.cell (i := 0) (v := .int .i64 b0) hB rfl
  have e1 := Blk.cell (i := 1) (v := .int .i64 b1) hB rfl
  have e2 := Blk.cell (i := 2) (v := .int .i64 b2) hB rfl
  have e3 := Blk.cell (i := 3) (v := .int .i64 b3) hB rfl
  have lB := Blk.lt hB
  clear hA hB hC hb
  have j0 := fun w => (run_index_a4 b0 b1 b2 b3 w).1
  have j1 := fun w => (run_index_a4 b0 b1 b2 b3 w).2.1
  have j2 := fun w => (run_index_a4 b0 b1 b2 b3 w).2.2.1
  have j3 := fun w => (run_index_a4 b0 b1 b2 b3 w).2.2.2
  go_wp2_with fail
  go_loopw [10] (fun i wx => ∃ (iv : Int) (j : Nat), j ≤ 4 ∧ i = .int .i64 iv ∧ iv = (j : Int) ∧ Blk wx w.heap.size #[.int .i64 (upTo a0 b0 0 j), .int .i64 (upTo a1 b1 1 j), .int .i64 (upTo a2 b2 2 j), .int .i64 (upTo a3 b3 3 j)] 128 ∧ Blk wx (w.heap.size + 1 + 1 + 1) #[.int .i64 0, .int .i64 0, .int .i64 0, .int .i64 0] 128 ∧ Below w.heap.size w wx) (fun i _ => 4 - (intOf i).toNat)
  case atStart => exact ⟨0, 0, by omega, rfl, rfl, KA.out, KC.out, KB.out⟩
  case round =>
    obtain ⟨iv, j, hj, rfl, hiv, hA, hC, hb⟩ := hrel
    have HA := Lib.hid hA
    have HC := Lib.hid hC
    have HB := Lib.hid hb
    have lA := Blk.lt hA
    have lC := Blk.lt hC
    have fA := Blk.frozen hA
    have fC := Blk.frozen hC
    clear hA hC hb
    have hj9 : j = 0 ∨ j = 1 ∨ j = 2 ∨ j = 3 ∨ j = 4 := by omega
    rcases hj9 with rfl | rfl | rfl | rfl | rfl
    · have m0 := Blk.cell (i := 0) (v := .int .i64 a0) HA.out rfl
      have hv : iv = 0 := hiv
      subst hv
      clear e0 e1 e2 e3 hiv
      go_wp2_with fail
      go_roundw
      case rel => exact ⟨1, 1, by omega, rfl, rfl, by have := HA.out.set 0 (.int .i64 (a0 + b0)); simpa [upTo] using this, HC.out.other (show w.heap.size + 1 + 1 + 1 ≠ w.heap.size by omega) _, (by repeat (first | exact HB.out | (refine Below.alloc ?_ (by first | omega | (simp; done) | (simp; omega)) _) | (refine Below.setCell ?_ (by first | exact Nat.le_refl _ | (show _ ≤ _; omega) | (simp; done) | (simp; omega)) _) | refine below_drewN ?_ _ | refine Below.drew ?_))⟩
      case measure => simp [intOf]
    · have m0 := Blk.cell (i := 1) (v := .int .i64 a1) HA.out rfl
      have hv : iv = 1 := hiv
      subst hv
      clear e0 e1 e2 e3 hiv
      go_wp2_with fail
      go_roundw
      case rel => exact ⟨2, 2, by omega, rfl, rfl, by have := HA.out.set 1 (.int .i64 (a1 + b1)); simpa [upTo] using this, HC.out.other (show w.heap.size + 1 + 1 + 1 ≠ w.heap.size by omega) _, (by repeat (first | exact HB.out | (refine Below.alloc ?_ (by first | omega | (simp; done) | (simp; omega)) _) | (refine Below.setCell ?_ (by first | exact Nat.le_refl _ | (show _ ≤ _; omega) | (simp; done) | (simp; omega)) _) | refine below_drewN ?_ _ | refine Below.drew ?_))⟩
      case measure => simp [intOf]
    · have m0 := Blk.cell (i := 2) (v := .int .i64 a2) HA.out rfl
      have hv : iv = 2 := hiv
      subst hv
      clear e0 e1 e2 e3 hiv
      go_wp2_with fail
      go_roundw
      case rel => exact ⟨3, 3, by omega, rfl, rfl, by have := HA.out.set 2 (.int .i64 (a2 + b2)); simpa [upTo] using this, HC.out.other (show w.heap.size + 1 + 1 + 1 ≠ w.heap.size by omega) _, (by repeat (first | exact HB.out | (refine Below.alloc ?_ (by first | omega | (simp; done) | (simp; omega)) _) | (refine Below.setCell ?_ (by first | exact Nat.le_refl _ | (show _ ≤ _; omega) | (simp; done) | (simp; omega)) _) | refine below_drewN ?_ _ | refine Below.drew ?_))⟩
      case measure => simp [intOf]
    · have m0 := Blk.cell (i := 3) (v := .int .i64 a3) HA.out rfl
      have hv : iv = 3 := hiv
      subst hv
      clear e0 e1 e2 e3 hiv
      go_wp2_with fail
      go_roundw
      case rel => exact ⟨4, 4, by omega, rfl, rfl, by have := HA.out.set 3 (.int .i64 (a3 + b3)); simpa [upTo] using this, HC.out.other (show w.heap.size + 1 + 1 + 1 ≠ w.heap.size by omega) _, (by repeat (first | exact HB.out | (refine Below.alloc ?_ (by first | omega | (simp; done) | (simp; omega)) _) | (refine Below.setCell ?_ (by first | exact Nat.le_refl _ | (show _ ≤ _; omega) | (simp; done) | (simp; omega)) _) | refine below_drewN ?_ _ | refine Below.drew ?_))⟩
      case measure => simp [intOf]
    · have hv : iv = 4 := hiv
      subst hv
      clear hiv
      have m0 := Blk.cell (i := 0) (v := .int .i64 (a0 + b0)) HA.out rfl
      have m1 := Blk.cell (i := 1) (v := .int .i64 (a1 + b1)) HA.out rfl
      have m2 := Blk.cell (i := 2) (v := .int .i64 (a2 + b2)) HA.out rfl
      have m3 := Blk.cell (i := 3) (v := .int .i64 (a3 + b3)) HA.out rfl
      have n0 := Blk.cell (i := 0) (v := .int .i64 0) HC.out rfl
      have n1 := Blk.cell (i := 1) (v := .int .i64 0) HC.out rfl
      have n2 := Blk.cell (i := 2) (v := .int .i64 0) HC.out rfl
      have n3 := Blk.cell (i := 3) (v := .int .i64 0) HC.out rfl
      go_wp2_with fail
      refine bodyPost_ret (v := .agg #[.int .i64 (a0 + b0), .int .i64 (a1 + b1), .int .i64 (a2 + b2), .int .i64 (a3 + b3)]) (by simp [results, Try.results88, go_sem, n0, n1, n2, n3]) rfl ⟨rfl, (by repeat (first | exact HB.out | (refine Below.alloc ?_ (by first | omega | (simp; done) | (simp; omega)) _) | (refine Below.setCell ?_ (by first | exact Nat.le_refl _ | (show _ ≤ _; omega) | (simp; done) | (simp; omega)) _) | refine below_drewN ?_ _ | refine Below.drew ?_))⟩
theorem OwnA.drew {w : World} {base : Nat} {v : Value} {l : List (List Int)} (h : OwnA w base v l) : OwnA w.drew base v l := h
theorem OwnA.alloc {w : World} {base : Nat} {v : Value} {l : List (List Int)} (h : OwnA w base v l) (o : Obj) : OwnA (w.alloc o) base v l := ⟨h.1, World.ownsRow.alloc h.2 o⟩
def manyL (xs : List GRule) : List (List Int) := if xs.length = 0 then [[0, 0, 0, 0]] else cntsL xs xs.length
def cI (xs : List GRule) (r i : Nat) : Int := (cntW (ltr i) (W1 xs r) : Nat)
theorem cI_row (xs : List GRule) (r : Nat) : cntR xs r = [cI xs r 0, cI xs r 1, cI xs r 2, cI xs r 3] := rfl
theorem cI_bd {xs : List GRule} {ls : List Int} (h : lens xs = some ls) {r : Nat} (hx : r < xs.length) (i : Nat) : 0 ≤ cI xs r i ∧ cI xs r i ≤ 1000000000000000 := ⟨by unfold cI; omega, cnt_le h hx _⟩
theorem keep11A {wr W : World} {x g : Nat} {t : TypeId} {d0 d1 d2 a0 a1 a2 a3 b0 b1 b2 b3 : Value} {l q : Nat} (hx : Blk wr x #[d0, d1, d2] t) (hg : g < wr.heap.size)
    (ha : wr.cell? ⟨g, l * 4, none⟩ = some a0 ∧ wr.cell? ⟨g, l * 4 + 1, none⟩ = some a1 ∧ wr.cell? ⟨g, l * 4 + 2, none⟩ = some a2 ∧ wr.cell? ⟨g, l * 4 + 3, none⟩ = some a3)
    (hb : wr.cell? ⟨g, q * 4, none⟩ = some b0 ∧ wr.cell? ⟨g, q * 4 + 1, none⟩ = some b1 ∧ wr.cell? ⟨g, q * 4 + 2, none⟩ = some b2 ∧ wr.cell? ⟨g, q * 4 + 3, none⟩ = some b3) (h : Below wr.heap.size wr W) :
    Below wr.heap.size wr W ∧ W.cell? ⟨x, 0, none⟩ = some d0 ∧ W.cell? ⟨x, 1, none⟩ = some d1 ∧ W.cell? ⟨x, 2, none⟩ = some d2 ∧ W.cell? ⟨g, l * 4, none⟩ = some a0 ∧ W.cell? ⟨g, l * 4 + 1, none⟩ = some a1 ∧ W.cell? ⟨g, l * 4 + 2, none⟩ = some a2 ∧ W.cell? ⟨g, l * 4 + 3, none⟩ = some a3 ∧
      W.cell? ⟨g, q * 4, none⟩ = some b0 ∧ W.cell? ⟨g, q * 4 + 1, none⟩ = some b1 ∧ W.cell? ⟨g, q * 4 + 2, none⟩ = some b2 ∧ W.cell? ⟨g, q * 4 + 3, none⟩ = some b3 := by
  have h2 := hx.up h
  have k : ∀ {o : Nat} {v : Value}, wr.cell? ⟨g, o, none⟩ = some v → W.cell? ⟨g, o, none⟩ = some v := fun hc => (h.cell (p := ⟨g, _, none⟩) hg).trans hc
  exact ⟨h, h2.cell rfl, h2.cell rfl, h2.cell rfl, k ha.1, k ha.2.1, k ha.2.2.1, k ha.2.2.2, k hb.1, k hb.2.1, k hb.2.2.1, k hb.2.2.2⟩
theorem keepPA {W w' : World} {x g k : Nat} {d0 d1 d2 a0 a1 a2 a3 b0 b1 b2 b3 : Value} {l q : Nat} (h : W.cell? ⟨x, 0, none⟩ = some d0 ∧ W.cell? ⟨x, 1, none⟩ = some d1 ∧ W.cell? ⟨x, 2, none⟩ = some d2 ∧ W.cell? ⟨g, l * 4, none⟩ = some a0 ∧ W.cell? ⟨g, l * 4 + 1, none⟩ = some a1 ∧ W.cell? ⟨g, l * 4 + 2, none⟩ = some a2 ∧ W.cell? ⟨g, l * 4 + 3, none⟩ = some a3 ∧
      W.cell? ⟨g, q * 4, none⟩ = some b0 ∧ W.cell? ⟨g, q * 4 + 1, none⟩ = some b1 ∧ W.cell? ⟨g, q * 4 + 2, none⟩ = some b2 ∧ W.cell? ⟨g, q * 4 + 3, none⟩ = some b3) {n c : Nat} (hg : W.grownBy w' (Value.slice (some ⟨g, 0, none⟩) n c).ownBlock) (hx : x ≠ g) (hl : l < k) (hq : q < k)
    (hk : ∀ (g' i : Nat) (u : Value), (some (⟨g, 0, none⟩ : Addr)) = some ⟨g', 0, none⟩ → i < k * 4 → W.cell? ⟨g', i, none⟩ = some u → w'.cell? ⟨g', i, none⟩ = some u) :
    w'.cell? ⟨x, 0, none⟩ = some d0 ∧ w'.cell? ⟨x, 1, none⟩ = some d1 ∧ w'.cell? ⟨x, 2, none⟩ = some d2 ∧ w'.cell? ⟨g, l * 4, none⟩ = some a0 ∧ w'.cell? ⟨g, l * 4 + 1, none⟩ = some a1 ∧ w'.cell? ⟨g, l * 4 + 2, none⟩ = some a2 ∧ w'.cell? ⟨g, l * 4 + 3, none⟩ = some a3 ∧
      w'.cell? ⟨g, q * 4, none⟩ = some b0 ∧ w'.cell? ⟨g, q * 4 + 1, none⟩ = some b1 ∧ w'.cell? ⟨g, q * 4 + 2, none⟩ = some b2 ∧ w'.cell? ⟨g, q * 4 + 3, none⟩ = some b3 := by
  obtain ⟨h0, h1, h2, h3, h4, h5, h6, h7, h8, h9, h10⟩ := h
  have hne : ∀ o, (some (⟨x, o, none⟩ : Addr).block) ≠ (Value.slice (some ⟨g, 0, none⟩) n c).ownBlock := fun o e => hx (by simpa [Value.ownBlock] using e)
  exact ⟨hg.cell h0 (hne 0), hg.cell h1 (hne 1), hg.cell h2 (hne 2), hk g _ _ rfl (by omega) h3, hk g _ _ rfl (by omega) h4, hk g _ _ rfl (by omega) h5, hk g _ _ rfl (by omega) h6, hk g _ _ rfl (by omega) h7, hk g _ _ rfl (by omega) h8, hk g _ _ rfl (by omega) h9, hk g _ _ rfl (by omega) h10⟩
set_option maxRecDepth 100000 in
set_option maxHeartbeats 8000000 in
theorem folded_any (vR : Value) (xs : List GRule) (ls : List Int) (w : World) (hR : Sl RuleE w w.heap.size vR xs) (hl : lens xs = some ls) (hn : xs.length ≤ 400) :
    Calls Try.prog 86 #[.agg #[vR], .agg #[.int .i64 0, .int .i64 0, .int .i64 0, .int .i64 0], .func (.func 87) #[] #[], .func (.func 88) #[] #[]] w fun e w' => ∃ v, e = .returned v ∧ OwnA w' w.heap.size v (manyL xs) ∧ Below w.heap.size w w' := by
  have HR0 := Lib.hid hR
  obtain ⟨AR, cR, rfl, _, _, hrowR⟩ := hR
  have Hl := Lib.hid hl
  have HR := Lib.hid hrowR
  clear hl hrowR
  have eg1 := enters_of Try.func87 (by kernel_rfl) rfl
  have eg2 := enters_of Try.func88 (by kernel_rfl) rfl
  go_enter Try.func86, Try.ntmps86
  go_upto_region 1 with fail
  have kb := ((Below.refl w.heap.size w).alloc (Nat.le_refl _) (Obj.cells #[.slice AR xs.length cR] 30)).alloc (by simp) (Obj.cells #[.int .i64 0, .int .i64 0, .int .i64 0, .int .i64 0] 128)
  have kg := (Blk.new w #[.slice AR xs.length cR] 30).alloc (Obj.cells #[.int .i64 0, .int .i64 0, .int .i64 0, .int .i64 0] 128)
  have kz := Blk.new (w.alloc (Obj.cells #[.slice AR xs.length cR] 30)) #[.int .i64 0, .int .i64 0, .int .i64 0, .int .i64 0] 128
  rw [show (w.alloc (Obj.cells #[.slice AR xs.length cR] 30)).heap.size = w.heap.size + 1 by simp] at kz
  generalize ((w.alloc (Obj.cells #[.slice AR xs.length cR] 30)).alloc (Obj.cells #[.int .i64 0, .int .i64 0, .int .i64 0, .int .i64 0] 128)) = w1 at *
  have KB := Lib.hid kb
  have KZ := Lib.hid kz
  have g0 := Blk.cell (i := 0) (v := .slice AR xs.length cR) kg rfl
  have gl := Blk.lt kg
  have zl := Blk.lt kz
  have z1 := kb.size
  clear kb kg kz
  go_wp2_with fail
  go_loopw [9, 16] (fun out i wx => ∃ k : Nat, k ≤ xs.length ∧ i = .int .i64 (k : Int) ∧ Below w1.heap.size w1 wx ∧ OwnA wx w1.heap.size out (cntsL xs k)) (fun _ i _ => xs.length - (intOf i).toNat)
  case atStart => exact ⟨0, Nat.zero_le _, rfl, (Below.refl _ _).alloc (Nat.le_refl _) _, OwnA.empty rfl (Nat.le_refl _)⟩
  case round =>
    obtain ⟨k, hk, rfl, hb, hown⟩ := hrel
    obtain ⟨A, c, rfl⟩ := hown.nil4
    have HB := Lib.hid hb
    have Hown := Lib.hid hown
    have zo := hb.size
    clear hb hown g0
    by_cases hlt : k < xs.length
    · obtain ⟨b2, o2, rfl, hb2, hcellR⟩ := HR.out.rule (k := k) hlt
      have hrk := getR_at hlt
      obtain ⟨k0, k1, k2⟩ := hcellR k _ hrk
      have hBw : Below w.heap.size w wr := Below.tr KB.out HB.out
      have hc0 := (hBw.cell (p := ⟨b2, o2 + k * 3, none⟩) hb2).trans k0
      have hc1 := (hBw.cell (p := ⟨b2, o2 + k * 3 + 1, none⟩) hb2).trans k1
      have hc2 := (hBw.cell (p := ⟨b2, o2 + k * 3 + 2, none⟩) hb2).trans k2
      have hki : (k : Int) < (xs.length : Int) := by omega
      have Hpair := Lib.hid (fun hp => lens_pair Hl.out hlt hp)
      have Hcp := Lib.hid (fun hp c => cnt_pair Hl.out hlt hp c)
      have Hlet := Lib.hid (fun hp => let_one Hl.out hlt hp)
      have Hsn := Lib.hid (cntsL_succ xs k)
      rw [cntsL_len]
      clear hrk k0 k1 k2 hcellR hBw
      obtain ⟨R, hR⟩ : ∃ R, getR xs k = R := ⟨_, rfl⟩
      rw [hR] at hc0 hc1 hc2 Hpair Hlet Hcp
      clear hR
      obtain ⟨rs, rl, rr⟩ := R
      simp only at hc0 hc1 hc2
      go_upto_region 5 with fail
      have kB := (Below.refl wr.heap.size wr).alloc (Nat.le_refl _) (Obj.cells #[.string rs, .int .i64 rl, .int .i64 rr] 111)
      have kX := Blk.new wr #[.string rs, .int .i64 rl, .int .i64 rr] 111
      generalize wr.alloc (Obj.cells #[.string rs, .int .i64 rl, .int .i64 rr] 111) = w2 at *
      have KX := Lib.hid kX
      have KB2 := Lib.hid kB
      have d0 := Blk.cell (i := 0) (v := .string rs) kX rfl
      have d1 := Blk.cell (i := 1) (v := .int .i64 rl) kX rfl
      have d2 := Blk.cell (i := 2) (v := .int .i64 rr) kX rfl
      have lX := Blk.lt kX
      have z2 := kB.size
      clear kB kX hc0 hc1 hc2
      go_wp2_with fail
      refine (isPair_b rs rl rr w2).mono ?_
      rintro e w3 ⟨rfl, hb3⟩
      have HB3 := Lib.hid (HB.out.trans ((KB2.out.trans (hb3.mono z2)).mono (by omega)))
      have Hown3 := Lib.hid ((Hown.out.below KB2.out).below hb3)
      have KX3 := Lib.hid (KX.out.up hb3)
      have z3 := hb3.size
      clear hb3 d0 d1 d2 lX
      have d0 := Blk.cell (i := 0) (v := .string rs) KX3.out rfl
      have d1 := Blk.cell (i := 1) (v := .int .i64 rl) KX3.out rfl
      have d2 := Blk.cell (i := 2) (v := .int .i64 rr) KX3.out rfl
      have lX := Blk.lt KX3.out
      have hcl : (cntsL xs k).length = k := cntsL_len _ _
      have Hcl := Lib.hid hcl
      by_cases hp : (⟨rs, rl, rr⟩ : GRule).pair = true
      · -- @V p
        obtain ⟨p1, p2, p3, p4, p5⟩ := Hpair.out hp
        have hemp : rs.toList.isEmpty = true := by rw [isEmpty_size]; exact hp
        have hval := fun i => Hcp.out hp (ltr i)
        obtain ⟨l, hl⟩ := Int.eq_ofNat_of_zero_le p1
        obtain ⟨q, hq⟩ := Int.eq_ofNat_of_zero_le p3
        (try simp only at hl hq p2 p4 hval)
        rw [hl, Int.toNat_natCast] at p2
        rw [hq, Int.toNat_natCast] at p4
        rw [hl, hq] at hval
        simp only [Int.toNat_natCast] at hval
        have hrow : cntR xs k = [cI xs l 0 + cI xs q 0, cI xs l 1 + cI xs q 1, cI xs l 2 + cI xs q 2, cI xs l 3 + cI xs q 3] := by
          have e : ∀ i, cI xs k i = cI xs l i + cI xs q i := fun i => by unfold cI; rw [hval i]; omega
          rw [cI_row, e, e, e, e]
        have Hrow := Lib.hid hrow
        have KX4 := Lib.hid (show Blk w3 wr.heap.size #[.string rs, .int .i64 (l : Int), .int .i64 (q : Int)] 111 by rw [← hl, ← hq]; exact KX3.out)
        rw [hl] at d1
        rw [hq] at d2
        obtain ⟨g, cap, hv, hgb, hgl, _, hcA⟩ := OwnA.cells Hown3.out (by rw [hcl]; omega)
        rw [hcl] at hv
        injection hv with hv1 _ hv3
        subst hv1
        subst hv3
        have hL := fun j hj => hcA l j (cntR xs l) (cntsL_at xs (by omega)) hj
        have hQ := fun j hj => hcA q j (cntR xs q) (cntsL_at xs (by omega)) hj
        have ha : w3.cell? ⟨g, l * 4, none⟩ = some (.int .i64 (cI xs l 0)) ∧ w3.cell? ⟨g, l * 4 + 1, none⟩ = some (.int .i64 (cI xs l 1)) ∧ w3.cell? ⟨g, l * 4 + 2, none⟩ = some (.int .i64 (cI xs l 2)) ∧ w3.cell? ⟨g, l * 4 + 3, none⟩ = some (.int .i64 (cI xs l 3)) := ⟨hL 0 (by omega), hL 1 (by omega), hL 2 (by omega), hL 3 (by omega)⟩
        have hbq : w3.cell? ⟨g, q * 4, none⟩ = some (.int .i64 (cI xs q 0)) ∧ w3.cell? ⟨g, q * 4 + 1, none⟩ = some (.int .i64 (cI xs q 1)) ∧ w3.cell? ⟨g, q * 4 + 2, none⟩ = some (.int .i64 (cI xs q 2)) ∧ w3.cell? ⟨g, q * 4 + 3, none⟩ = some (.int .i64 (cI xs q 3)) := ⟨hQ 0 (by omega), hQ 1 (by omega), hQ 2 (by omega), hQ 3 (by omega)⟩
        have L0 := cI_bd Hl.out (r := l) (by omega)
        have Q0 := cI_bd Hl.out (r := q) (by omega)
        have i1 : (l : Int) < (k : Int) := by omega
        have i2 : (q : Int) < (k : Int) := by omega
        have hXg : wr.heap.size ≠ g := fun e => by have := (World.ownsRow.lt Hown.out.2 g (by rfl)).2; omega
        have z9 : Below w3.heap.size w3 w3.drew := Below.drew (Below.refl _ _)
        obtain ⟨a1', a2', a3', a4'⟩ := ha
        obtain ⟨b1', b2', b3', b4'⟩ := hbq
        have hk9 : (cntsL xs k).length ≤ 1048576 := by rw [hcl]; omega
        have hw13 : w1.heap.size ≤ w3.heap.size := by omega
        have Hown3k := Lib.hid (show OwnA w3 w1.heap.size (.slice (some ⟨g, 0, none⟩) k c) (cntsL xs k) by have := Hown3.out; rwa [hcl] at this)
        clear hcA hL hQ hval hl hq hrow d0 hcl
        have d0 := Blk.cell (i := 0) (v := .string rs) KX3.out rfl
        go_wp2_with fail
        go_region_held3 (fun w' => w'.cell? ⟨wr.heap.size, 0, none⟩ = some (.string rs) ∧ w'.cell? ⟨wr.heap.size, 1, none⟩ = some (.int .i64 (l : Int)) ∧ w'.cell? ⟨wr.heap.size, 2, none⟩ = some (.int .i64 (q : Int)) ∧ w'.cell? ⟨g, l * 4, none⟩ = some (.int .i64 (cI xs l 0)) ∧ w'.cell? ⟨g, l * 4 + 1, none⟩ = some (.int .i64 (cI xs l 1)) ∧ w'.cell? ⟨g, l * 4 + 2, none⟩ = some (.int .i64 (cI xs l 2)) ∧ w'.cell? ⟨g, l * 4 + 3, none⟩ = some (.int .i64 (cI xs l 3)) ∧ w'.cell? ⟨g, q * 4, none⟩ = some (.int .i64 (cI xs q 0)) ∧ w'.cell? ⟨g, q * 4 + 1, none⟩ = some (.int .i64 (cI xs q 1)) ∧ w'.cell? ⟨g, q * 4 + 2, none⟩ = some (.int .i64 (cI xs q 2)) ∧ w'.cell? ⟨g, q * 4 + 3, none⟩ = some (.int .i64 (cI xs q 3)))
          (first | (with_reducible exact (keep11A KX4.out hgl ⟨a1', a2', a3', a4'⟩ ⟨b1', b2', b3', b4'⟩ z9).2) | (with_reducible exact (keep11A KX4.out hgl ⟨a1', a2', a3', a4'⟩ ⟨b1', b2', b3', b4'⟩ (Below.tr z9 hb4)).2) | (with_reducible exact (keep11A KX4.out hgl ⟨a1', a2', a3', a4'⟩ ⟨b1', b2', b3', b4'⟩ (Below.tr (Below.tr z9 hb4) ((Below.refl w4.heap.size w4).alloc (Nat.le_refl _) _))).2) | (with_reducible exact keepPA (keep11A KX4.out hgl ⟨a1', a2', a3', a4'⟩ ⟨b1', b2', b3', b4'⟩ (Below.tr (Below.tr z9 hb4) ((Below.refl w4.heap.size w4).alloc (Nat.le_refl _) _))).2 hg6 hXg p2 p4 hk6))
          (first
            | (go_at_call 88; refine (census2_any _ _ _ _ _ _ _ _ rs _ _ _ (L0 0) (L0 1) (L0 2) (L0 3) (Q0 0) (Q0 1) (Q0 2) (Q0 3)).mono ?_; rintro e w4 ⟨rfl, hb4⟩)
            | (refine step_push_a4 (a := cI xs l 0 + cI xs q 0) (b := cI xs l 1 + cI xs q 1) (c := cI xs l 2 + cI xs q 2) (d := cI xs l 3 + cI xs q 3) (N := w4.heap.size) (base := w1.heap.size) (l := cntsL xs k) (by rfl) _ _ (by rfl) (by rfl) (by rfl) (Blk.new w4 #[.int .i64 (cI xs l 0 + cI xs q 0), .int .i64 (cI xs l 1 + cI xs q 1), .int .i64 (cI xs l 2 + cI xs q 2), .int .i64 (cI xs l 3 + cI xs q 3)] 128) (OwnA.alloc (Hown3k.out.below (Below.tr z9 hb4)) _) Hcl.out.symm hk9 (Nat.le_trans hw13 (Nat.le_trans (Below.tr z9 hb4).size (by simp))) ?_; intro A6 c6 w6 own6 hg6 hb6 hk6))
        have hB6 : Below w1.heap.size w1 w6 := (((HB3.out.trans ((Below.tr z9 hb4).mono hw13)).alloc (Nat.le_trans hw13 (Below.tr z9 hb4).size) _)).trans hb6
        have HB6 := Lib.hid hB6
        have Hown6 := Lib.hid own6
        clear hB6 own6 hg6 hb6 hb4 hk6 a1' a2' a3' a4' b1' b2' b3' b4'
        go_wp2_with fail
        go_roundw
        case rel => exact ⟨k + 1, by omega, by go_num, HB6.out, by rw [Hsn.out, Hrow.out]; exact Hown6.out⟩
        case measure => simp [intOf]; omega
      · -- @V l
        have hp' : (⟨rs, rl, rr⟩ : GRule).pair = false := by simpa using hp
        have hemp : rs.toList.isEmpty = false := by rw [isEmpty_size]; simpa [GRule.pair] using hp'
        obtain ⟨m, hm4, hrs, hW⟩ := Hlet.out hp'
        (try simp only at hrs)
        have hs1 : rs.size = 1 := by rw [hrs]; rfl
        have hs0 : 0 < rs.size := by omega
        have hd : rs[0].toNat = 97 + m := by
          have : rs[0] = ltr m := by subst hrs; rfl
          rw [this, ltr_nat hm4]
        have his : (0 : Int) < (rs.size : Int) := by omega
        have h8 : IntKind.u8.wrap ((rs[0].toNat : Int) - 97) = (m : Int) := by rw [hd, IntWalk.u8_in _ (by omega)]; omega
        have h64 : IntKind.i64.wrap (m : Int) = (m : Int) := IntWalk.i64_in _ (by omega)
        have hrow : cntR xs k = [hot m 0, hot m 1, hot m 2, hot m 3] := by
          rw [cI_row]
          have e : ∀ i, i < 4 → cI xs k i = hot m i := fun i hi => by unfold cI hot; rw [hW, cnt_let hm4 hi]; split <;> rfl
          rw [e 0 (by omega), e 1 (by omega), e 2 (by omega), e 3 (by omega)]
        have Hrow := Lib.hid hrow
        have Hown3k := Lib.hid (show OwnA w3 w1.heap.size (.slice A k c) (cntsL xs k) by have := Hown3.out; rwa [hcl] at this)
        have hk9 : (cntsL xs k).length ≤ 1048576 := by rw [hcl]; omega
        have hw13 : w1.heap.size ≤ w3.heap.size := by omega
        have H8 := Lib.hid h8
        clear hrs hs1 hd hp hp' hW hrow hcl
        go_wp2_with (first
          | (go_at_call 87; refine (census1_any m _ hm4).mono ?_; rintro e w4 ⟨rfl, hb4⟩)
          | (at_builtin; refine push_a4 (a := hot m 0) (b := hot m 1) (c := hot m 2) (d := hot m 3) (N := w4.heap.size) (base := w1.heap.size) (l := cntsL xs k) rfl _ _ rfl rfl rfl (Blk.new w4 #[.int .i64 (hot m 0), .int .i64 (hot m 1), .int .i64 (hot m 2), .int .i64 (hot m 3)] 128) (OwnA.alloc (Hown3k.out.below hb4) _) Hcl.out.symm hk9 (Nat.le_trans hw13 (Nat.le_trans hb4.size (by simp))) ?_; intro A6 c6 w6 own6 hg6 hb6))
        have hB6 : Below w1.heap.size w1 w6 := (((HB3.out.trans (hb4.mono hw13)).alloc (Nat.le_trans hw13 hb4.size) _)).trans hb6
        have HB6 := Lib.hid hB6
        have Hown6 := Lib.hid own6
        clear hB6 own6 hg6 hb6 hb4
        go_roundw
        case rel => exact ⟨k + 1, by omega, by go_num, HB6.out, by rw [Hsn.out, Hrow.out]; exact Hown6.out⟩
        case measure => simp [intOf]; omega
    · -- @V e
      have hkn : k = xs.length := by omega
      subst hkn
      have hcl : (cntsL xs xs.length).length = xs.length := cntsL_len _ _
      have Hown9 := Lib.hid (show OwnA wr w1.heap.size (.slice A xs.length c) (cntsL xs xs.length) by have := Hown.out; rwa [hcl] at this)
      have KZ9 := Lib.hid (KZ.out.upB HB.out zl)
      have zl9 := Blk.lt KZ9.out
      rw [hcl]
      clear hcl
      by_cases h0 : xs.length = 0
      · have hx : xs = [] := List.eq_nil_of_length_eq_zero h0
        subst hx
        have z0 := Blk.cell (i := 0) (v := .int .i64 0) KZ9.out rfl
        have z1' := Blk.cell (i := 1) (v := .int .i64 0) KZ9.out rfl
        have z2' := Blk.cell (i := 2) (v := .int .i64 0) KZ9.out rfl
        have z3' := Blk.cell (i := 3) (v := .int .i64 0) KZ9.out rfl
        clear h0
        go_wp2_with (first
          | (at_builtin; refine push_a4 (a := 0) (b := 0) (c := 0) (d := 0) (N := wr.heap.size) (base := w1.heap.size) (l := cntsL [] 0) rfl _ _ rfl rfl rfl (Blk.new wr #[.int .i64 0, .int .i64 0, .int .i64 0, .int .i64 0] 128) (OwnA.alloc Hown9.out _) rfl (by decide) (by simp; omega) ?_; intro A6 c6 w6 own6 hg6 hb6))
        go_ret
        exact ⟨_, rfl, own6.more (by omega), Below.tr KB.out ((HB.out.alloc zo _).trans hb6)⟩
      · have h0b : ((xs.length : Int) == 0) = false := by rw [beq_eq_false_iff_ne]; omega
        have Hm := Lib.hid (show manyL xs = cntsL xs xs.length by rw [manyL, if_neg h0])
        clear h0
        go_wp2_with fail
        go_ret
        exact ⟨_, rfl, by rw [Hm.out]; exact Hown9.out.more (by omega), Below.tr KB.out HB.out⟩
theorem lastI_get {xs : List GRule} {ls : List Int} (hl : lens xs = some ls) : lastI ls = ls.getD (xs.length - 1) 0 := by
  have := lens_length hl
  unfold lastI; rw [this]
set_option maxRecDepth 100000 in
set_option maxHeartbeats 8000000 in
theorem l05Rank_any (bg l : Nat) (n0 : Int) (vR vL vC : Value) (xs : List GRule) (ls : List Int) (w : World) (hR : Sl RuleE w w.heap.size vR xs) (hL : Sl IntE w w.heap.size vL ls) (hC : Sl (SliceE IntE) w w.heap.size vC (cntsL xs xs.length))
    (hl : lens xs = some ls) (hn : xs.length ≤ 1099511627776) (hp : w.cell? ⟨bg, 0, none⟩ = some vR) (hbg : bg < w.heap.size) (hl4 : l < 4) (hn0 : 0 ≤ n0 ∧ n0 ≤ lastI ls) :
    Calls Try.prog 47 #[.pointer (some ⟨bg, 0, none⟩), vL, vC, .int .i64 (l : Int), .int .i64 n0] w fun e w' =>
      e = .returned (.int .i64 (cntW (ltr l) ((wordG xs).take n0.toNat) : Nat)) ∧ Below w.heap.size w w' := by
  have HR := Lib.hid hR
  have HL := Lib.hid hL
  have HC := Lib.hid hC
  have Hl := Lib.hid hl
  have Hp := Lib.hid hp
  have Hll := Lib.hid (lens_length hl)
  obtain ⟨AR, cR, rfl, _⟩ := hR
  obtain ⟨AL, cL, rfl, _⟩ := hL
  obtain ⟨AC, cC, rfl, _⟩ := hC
  obtain ⟨RES, hRES⟩ : ∃ RES, cntW (ltr l) ((wordG xs).take n0.toNat) = RES := ⟨_, rfl⟩
  rw [hRES]
  have hbl := lastI_bounds hl
  have hRb : RES ≤ 1000000000000000 := by
    have h1 := cntW_le (ltr l) ((wordG xs).take n0.toNat)
    have h2 := wordG_len hl
    rw [List.length_take] at h1
    omega
  have hst : n0 = 0 ∧ (0 : Nat) = RES ∨ ∃ r : Nat, (xs.length : Int) - 1 = r ∧ r < xs.length ∧ n0 ≤ ls.getD r 0 ∧ 0 + cntW (ltr l) ((W1 xs r).take n0.toNat) = RES := by
    by_cases h0 : xs.length = 0
    · left
      have hx : xs = [] := List.eq_nil_of_length_eq_zero h0
      subst hx
      have e : lastI ls = 0 := by rw [lastI_get hl]; have := lens_length hl; have e2 : ls = [] := List.eq_nil_of_length_eq_zero (by simpa using this); rw [e2]; rfl
      have e3 : n0 = 0 := by omega
      refine ⟨e3, ?_⟩
      rw [← hRES, e3]; rfl
    · right
      refine ⟨xs.length - 1, by omega, by omega, by rw [← lastI_get hl]; exact hn0.2, ?_⟩
      rw [← hRES, wordG_pos (by omega), Nat.zero_add]
  have Hst := Lib.hid hst
  have hw0 : IntKind.i64.wrap ((xs.length : Int) - 1) = (xs.length : Int) - 1 := IntWalk.i64_in _ (by omega)
  clear hl hst hRES
  go_enter Try.func47, Try.ntmps47
  go_wp2_with fail
  go_loopw [4, 11, 12] (fun vn vs vr wx => ∃ (n ri : Int) (s : Nat), vn = .int .i64 n ∧ vs = .int .i64 (s : Int) ∧ vr = .int .i64 ri ∧ 0 ≤ n ∧ Hid (n = 0 ∧ s = RES ∨ ∃ r : Nat, ri = r ∧ r < xs.length ∧ n ≤ ls.getD r 0 ∧ s + cntW (ltr l) ((W1 xs r).take n.toNat) = RES) ∧ s ≤ 1000000000000000 ∧ Below w.heap.size w wx) (fun _ _ vr _ => (intOf vr).toNat)
  case atStart => exact ⟨n0, _, 0, rfl, rfl, rfl, hn0.1, Hst, by omega, Below.refl _ _⟩
  case round =>
    obtain ⟨n, ri, s, rfl, rfl, rfl, hn1, HI, hs9, hb⟩ := hrel
    have HB := Lib.hid hb
    have xg := (hb.cell (p := ⟨bg, 0, none⟩) hbg).trans Hp.out
    have HRw := Lib.hid (HR.out.below hb)
    have HLw := Lib.hid (HL.out.below hb)
    have HCw := Lib.hid (HC.out.below hb)
    have hwz := hb.size
    have hbg2 : bg < wr.heap.size := by omega
    clear hb
    by_cases hpos : 0 < n
    · rcases HI.out with h | ⟨r, hr, hrx, hnl, hE⟩
      · omega
      subst hr
      have hHE := Lib.hid hE
      have hri : (r : Int) < (xs.length : Int) := by omega
      have hri2 : (r : Int) < (ls.length : Int) := by rw [Hll.out]; exact hri
      obtain ⟨bl, ol, e1, e2, hcL⟩ := row_cell HLw.out (by rw [Hll.out]; omega)
      have e3 := hcL r _ (by rw [Hll.out]; exact hrx) rfl
      subst e1
      obtain ⟨bc, oc, f1, f2, hcC⟩ := tab_cell HCw.out (by rw [cntsL_len]; omega)
      subst f1
      have hlz := lens_pos' Hl.out hrx
      obtain ⟨z, hz⟩ : ∃ z, ls.getD r 0 = z := ⟨_, rfl⟩
      rw [hz] at e3 hnl hlz
      have Hz := Lib.hid hz
      rw [cntsL_len]
      by_cases he : n = z
      · -- @V a
        obtain ⟨b', o', c', g1, g2, g3⟩ := hcC r l 4 (cntW (ltr l) (W1 xs r)) (by rw [cntsL_len]; exact hrx) (by rw [cntsL_get _ hrx, cntR_len]) hl4 (by rw [cntsL_get _ hrx, cntR_get _ _ hl4])
        have hlen := W1_len Hl.out r hrx
        have hcl := cntW_le (ltr l) (W1 xs r)
        rw [List.take_of_length_le (by omega)] at hE
        have HE2 := Lib.hid hE
        generalize cntW (ltr l) (W1 xs r) = y at *
        have hwr : IntKind.i64.wrap ((s : Int) + (y : Int)) = (s : Int) + (y : Int) := IntWalk.i64_in _ (by omega)
        subst he
        clear hcC hcL hz hlen hcl hE
        go_wp2_with fail
        go_ret
        exact ⟨ret_int (by have := HE2.out; omega), HB.out⟩
      · have hnz : (n == z) = false := by simpa using he
        cases hpr : (getR xs r).pair with
        | false => rw [lens_letter Hl.out hrx hpr] at hz; omega
        | true =>
          obtain ⟨q1, q2, q3, q4, q5⟩ := lens_pair Hl.out hrx hpr
          have hW := W1_pair Hl.out hrx hpr
          obtain ⟨bR, oR, e6, e7, k0, k1, k2⟩ := rule_cell HRw.out hrx
          subst e6
          obtain ⟨a, ha⟩ := Int.eq_ofNat_of_zero_le (show 0 ≤ (getR xs r).left by omega)
          obtain ⟨q, hq⟩ := Int.eq_ofNat_of_zero_le (show 0 ≤ (getR xs r).right by omega)
          rw [ha] at k1 q2 q5 hW
          rw [hq] at k2 q4 q5 hW
          simp only [Int.toNat_natCast] at q2 q4 q5 hW
          have hax : a < xs.length := by omega
          have hqx : q < xs.length := by omega
          have hla := W1_len Hl.out a hax
          have hlq := W1_len Hl.out q hqx
          have gL := hcL a _ (by rw [Hll.out]; exact hax) rfl
          have hza := lens_pos' Hl.out hax
          have hzq := lens_pos' Hl.out hqx
          obtain ⟨b4, o4, c4, g1, g2, g3⟩ := hcC a l 4 (cntW (ltr l) (W1 xs a)) (by rw [cntsL_len]; exact hax) (by rw [cntsL_get _ hax, cntR_len]) hl4 (by rw [cntsL_get _ hax, cntR_get _ _ hl4])
          have hcl := cntW_le (ltr l) (W1 xs a)
          obtain ⟨za, hzae⟩ : ∃ z, ls.getD a 0 = z := ⟨_, rfl⟩
          rw [hzae] at gL hza hla q5
          have Hza := Lib.hid hzae
          rw [hW] at hE
          have hap : a < r ∧ q < r := ⟨q2, q4⟩
          obtain ⟨letr, hletr⟩ : ∃ x, (getR xs r).letter = x := ⟨_, rfl⟩
          rw [hletr] at k0
          have i1 : (a : Int) < (xs.length : Int) := by omega
          have i3 : (a : Int) < (ls.length : Int) := by rw [Hll.out]; exact i1
          have i4 : (l : Int) < 4 := by omega
          have hpart : za ≤ n → s + cntW (ltr l) (W1 xs a) + cntW (ltr l) ((W1 xs q).take (n - za).toNat) = RES := fun h => by
            rw [List.take_append, cntW_app, List.take_of_length_le (l := W1 xs a) (by omega)] at hE
            rw [show (n - za).toNat = n.toNat - (W1 xs a).length by omega]; omega
          have hpart2 : ¬ za ≤ n → s + cntW (ltr l) ((W1 xs a).take n.toNat) = RES := fun h => by
            rw [List.take_append, show n.toNat - (W1 xs a).length = 0 by omega] at hE
            simpa using hE
          have hle2 : za ≤ n → s + cntW (ltr l) (W1 xs a) ≤ 1000000000000000 + 1000000000000000 := fun _ => by omega
          have Q5 := Lib.hid (show z = za + ls.getD q 0 by have := Hz.out; omega)
          have HP := Lib.hid hpart
          have HP2 := Lib.hid hpart2
          have hsR : za ≤ n → s + cntW (ltr l) (W1 xs a) ≤ RES := fun h => by have := hpart h; omega
          clear hcC hcL hz hzae hletr ha hq hpr hW hE hpart hpart2 q5
          generalize cntW (ltr l) (W1 xs a) = y at *
          go_upto_region 7 with fail
          have kB := (Below.refl wr.heap.size wr).alloc (Nat.le_refl _) (Obj.cells #[.string letr, .int .i64 (a : Int), .int .i64 (q : Int)] 111)
          have kN := Blk.new wr #[.string letr, .int .i64 (a : Int), .int .i64 (q : Int)] 111
          generalize wr.alloc (Obj.cells #[.string letr, .int .i64 (a : Int), .int .i64 (q : Int)] 111) = w2 at *
          have d1 := Blk.cell (i := 1) (v := .int .i64 (a : Int)) kN rfl
          have d2 := Blk.cell (i := 2) (v := .int .i64 (q : Int)) kN rfl
          have ln := Blk.lt kN
          have KB := Lib.hid kB
          have h1 := (kB.cell (p := ⟨bc, oc + a, none⟩) (by show bc < _; have : bc < w.heap.size := f2; omega)).trans g1
          have h2 := (kB.cell (p := ⟨b4, o4 + l, none⟩) (by show b4 < _; have : b4 < w.heap.size := g2; omega)).trans g3
          have h3 := (kB.cell (p := ⟨bl, ol + a, none⟩) (by show bl < _; have : bl < w.heap.size := e2; omega)).trans gL
          clear g1 g3 gL k0 k1 k2 e3 kB kN xg
          by_cases hc : za ≤ n
          · -- @V b
            have hsy := hsR hc
            have hw1 : IntKind.i64.wrap ((s : Int) + (y : Int)) = ((s + y : Nat) : Int) := by rw [IntWalk.i64_in _ (by omega)]; omega
            have hw2 : IntKind.i64.wrap (n - za) = n - za := IntWalk.i64_in _ (by omega)
            clear hsR
            go_wp2_with fail
            go_roundw
            case rel => exact ⟨n - za, q, s + y, rfl, rfl, rfl, by omega, Or.inr ⟨q, rfl, hqx, by have := Q5.out; omega, HP.out hc⟩, by omega, (by repeat (first | exact Below.tr HB.out KB.out | (refine Below.alloc ?_ (by first | omega | (simp; done) | (simp; omega)) _) | refine below_drewN ?_ _ | refine Below.drew ?_))⟩
            case measure => simp [intOf]; omega
          · -- @V c
            clear hsR
            go_wp2_with fail
            go_roundw
            case rel => exact ⟨n, a, s, rfl, rfl, rfl, hn1, Or.inr ⟨a, rfl, hax, by rw [Hza.out]; omega, HP2.out hc⟩, hs9, (by repeat (first | exact Below.tr HB.out KB.out | (refine Below.alloc ?_ (by first | omega | (simp; done) | (simp; omega)) _) | refine below_drewN ?_ _ | refine Below.drew ?_))⟩
            case measure => simp [intOf]; omega
    · -- @V d
      have hn9 : n = 0 := by omega
      have hsR : s = RES := by
        rcases HI.out with h | ⟨r, hr, hrx, hnl, hE⟩
        · exact h.2
        · rw [hn9] at hE; simpa [cntW] using hE
      subst hn9
      have HS := Lib.hid hsR
      clear hsR
      go_wp2_with fail
      go_ret
      exact ⟨ret_int (by rw [HS.out]), HB.out⟩
theorem l05Total_any (l : Nat) (vC : Value) (xs : List GRule) (ls : List Int) (w : World) (hC : Sl (SliceE IntE) w w.heap.size vC (cntsL xs xs.length)) (hl : lens xs = some ls) (hn : xs.length ≤ 1099511627776) (hl4 : l < 4) :
    Calls Try.prog 91 #[vC, .int .i64 (l : Int)] w fun e w' => e = .returned (.int .i64 (cntW (ltr l) (wordG xs) : Nat)) ∧ w = w' := by
  have HC := Lib.hid hC
  obtain ⟨AC, cC, rfl, _⟩ := hC
  go_enter Try.func91, Try.ntmps91
  rw [cntsL_len]
  by_cases h0 : xs.length = 0
  · have hx : xs = [] := List.eq_nil_of_length_eq_zero h0
    subst hx
    clear h0
    go_wp2_with fail
    go_ret
    exact ⟨rfl, rfl⟩
  · obtain ⟨bc, oc, f1, f2, hcC⟩ := tab_cell HC.out (by rw [cntsL_len]; omega)
    obtain ⟨b', o', c', g1, g2, g3⟩ := hcC (xs.length - 1) l 4 (cntW (ltr l) (W1 xs (xs.length - 1))) (by rw [cntsL_len]; omega) (by rw [cntsL_get _ (by omega), cntR_len]) hl4 (by rw [cntsL_get _ (by omega), cntR_get _ _ hl4])
    rw [← wordG_pos (by omega)] at g3
    subst f1
    obtain ⟨m, hm⟩ : ∃ m : Nat, xs.length - 1 = m := ⟨_, rfl⟩
    rw [hm] at g1
    have hw : IntKind.i64.wrap ((xs.length : Int) - 1) = (m : Int) := by rw [IntWalk.i64_in _ (by omega)]; omega
    have h0b : ((xs.length : Int) == 0) = false := by rw [beq_eq_false_iff_ne]; omega
    have hmx : (m : Int) < (xs.length : Int) := by omega
    have i4 : (l : Int) < 4 := by omega
    clear hcC hm h0
    go_wp2_with fail
    go_ret
    exact ⟨rfl, rfl⟩
set_option maxRecDepth 100000 in
set_option maxHeartbeats 8000000 in
theorem l05Select_any (bg l k0 : Nat) (vR vL vC : Value) (xs : List GRule) (ls : List Int) (w : World) (hR : Sl RuleE w w.heap.size vR xs) (hL : Sl IntE w w.heap.size vL ls) (hC : Sl (SliceE IntE) w w.heap.size vC (cntsL xs xs.length))
    (hl : lens xs = some ls) (hn : xs.length ≤ 1099511627776) (hp : w.cell? ⟨bg, 0, none⟩ = some vR) (hbg : bg < w.heap.size) (hl4 : l < 4) (hk0 : k0 < cntW (ltr l) (wordG xs)) :
    Calls Try.prog 48 #[.pointer (some ⟨bg, 0, none⟩), vL, vC, .int .i64 (l : Int), .int .i64 (k0 : Int)] w fun e w' =>
      e = .returned (.int .i64 (selW (ltr l) k0 (wordG xs) : Nat)) ∧ Below w.heap.size w w' := by
  have HR := Lib.hid hR
  have HL := Lib.hid hL
  have HC := Lib.hid hC
  have Hl := Lib.hid hl
  have Hp := Lib.hid hp
  have Hll := Lib.hid (lens_length hl)
  obtain ⟨AR, cR, rfl, _⟩ := hR
  obtain ⟨AL, cL, rfl, _⟩ := hL
  obtain ⟨AC, cC, rfl, _⟩ := hC
  have h0 : 0 < xs.length := by
    refine Nat.pos_of_ne_zero fun h => ?_
    have hx : xs = [] := List.eq_nil_of_length_eq_zero h
    subst hx
    exact absurd hk0 (by simp [wordG, cntW])
  rw [wordG_pos h0] at hk0
  rw [wordG_pos h0]
  obtain ⟨r0, hr0⟩ : ∃ r0, xs.length - 1 = r0 := ⟨_, rfl⟩
  rw [hr0] at hk0
  rw [hr0]
  have hr0x : r0 < xs.length := by omega
  obtain ⟨RES, hRES⟩ : ∃ RES, selW (ltr l) k0 (W1 xs r0) = RES := ⟨_, rfl⟩
  rw [hRES]
  have Hst := Lib.hid (show 0 + selW (ltr l) k0 (W1 xs r0) = RES by omega)
  have hw0 : IntKind.i64.wrap ((xs.length : Int) - 1) = (r0 : Int) := by rw [IntWalk.i64_in _ (by omega)]; omega
  have hlz := lens_pos' hl hr0x
  clear hl hRES hr0
  go_enter Try.func48, Try.ntmps48
  go_wp2_with fail
  go_loopw [4, 11, 12] (fun vk va vr wx => ∃ (k at' r : Nat), vk = .int .i64 (k : Int) ∧ va = .int .i64 (at' : Int) ∧ vr = .int .i64 (r : Int) ∧ r < xs.length ∧ k < cntW (ltr l) (W1 xs r) ∧ Hid (at' + selW (ltr l) k (W1 xs r) = RES) ∧ (at' : Int) + ls.getD r 0 ≤ 1000000000000000 ∧ Below w.heap.size w wx) (fun _ _ vr _ => (intOf vr).toNat)
  case atStart => exact ⟨k0, 0, r0, rfl, rfl, rfl, hr0x, hk0, Hst, by omega, Below.refl _ _⟩
  case round =>
    obtain ⟨k, at', r, rfl, rfl, rfl, hrx, hkc, HI, hs9, hb⟩ := hrel
    have HB := Lib.hid hb
    have xg := (hb.cell (p := ⟨bg, 0, none⟩) hbg).trans Hp.out
    have HRw := Lib.hid (HR.out.below hb)
    have HLw := Lib.hid (HL.out.below hb)
    have HCw := Lib.hid (HC.out.below hb)
    have hwz := hb.size
    have hbg2 : bg < wr.heap.size := by omega
    have hri : (r : Int) < (xs.length : Int) := by omega
    have hlen := W1_len Hl.out r hrx
    obtain ⟨bR, oR, e6, e7, kk0, kk1, kk2⟩ := rule_cell HRw.out hrx
    subst e6
    rw [cntsL_len]
    clear hb
    cases hpr : (getR xs r).pair with
    | false =>
      -- @V a
      have hemp : (getR xs r).letter.toList.isEmpty = false := by rw [isEmpty_size]; simpa [GRule.pair] using hpr
      have h1 := selW_lt hkc
      have h2 := lens_letter Hl.out hrx hpr
      have hR9 : at' = RES := by have := HI.out; omega
      have HR9 := Lib.hid hR9
      generalize (getR xs r).letter = letr at *
      clear hpr h1 h2 hR9 hlen hkc kk1 kk2
      go_wp2_with fail
      go_ret
      exact ⟨ret_int (by rw [HR9.out]), HB.out⟩
    | true =>
      have hemp : (getR xs r).letter.toList.isEmpty = true := by rw [isEmpty_size]; exact hpr
      obtain ⟨q1, q2, q3, q4, q5⟩ := lens_pair Hl.out hrx hpr
      have hW := W1_pair Hl.out hrx hpr
      obtain ⟨a, ha⟩ := Int.eq_ofNat_of_zero_le (show 0 ≤ (getR xs r).left by omega)
      obtain ⟨q, hq⟩ := Int.eq_ofNat_of_zero_le (show 0 ≤ (getR xs r).right by omega)
      rw [ha] at kk1 q2 q5 hW
      rw [hq] at kk2 q4 q5 hW
      simp only [Int.toNat_natCast] at q2 q4 q5 hW
      have hax : a < xs.length := by omega
      have hqx : q < xs.length := by omega
      have hla := W1_len Hl.out a hax
      have hza := lens_pos' Hl.out hax
      have hzq := lens_pos' Hl.out hqx
      obtain ⟨bl, ol, e1, e2, hcL⟩ := row_cell HLw.out (by rw [Hll.out]; omega)
      have gL := hcL a _ (by rw [Hll.out]; exact hax) rfl
      subst e1
      obtain ⟨bc, oc, f1, f2, hcC⟩ := tab_cell HCw.out (by rw [cntsL_len]; omega)
      subst f1
      obtain ⟨b4, o4, c4, g1, g2, g3⟩ := hcC a l 4 (cntW (ltr l) (W1 xs a)) (by rw [cntsL_len]; exact hax) (by rw [cntsL_get _ hax, cntR_len]) hl4 (by rw [cntsL_get _ hax, cntR_get _ _ hl4])
      have hcl := cntW_le (ltr l) (W1 xs a)
      have hE := HI.out
      rw [hW] at hE hkc
      rw [cntW_app] at hkc
      have hsl := selW_app (ltr l) (W1 xs q) (W1 xs a) k
      have hP1 : k < cntW (ltr l) (W1 xs a) → at' + selW (ltr l) k (W1 xs a) = RES := fun h => by rw [hsl.1 h] at hE; exact hE
      have hP2 : cntW (ltr l) (W1 xs a) ≤ k → at' + (W1 xs a).length + selW (ltr l) (k - cntW (ltr l) (W1 xs a)) (W1 xs q) = RES ∧ k - cntW (ltr l) (W1 xs a) < cntW (ltr l) (W1 xs q) := fun h => by rw [hsl.2 h] at hE; omega
      have HP1 := Lib.hid hP1
      have HP2 := Lib.hid hP2
      obtain ⟨za, hzae⟩ : ∃ z : Nat, (W1 xs a).length = z := ⟨_, rfl⟩
      rw [hzae] at HP2 hla hcl
      rw [← hla] at gL hza q5
      have Hla := Lib.hid hla
      have Q5 := Lib.hid q5
      obtain ⟨letr, hletr⟩ : ∃ x, (getR xs r).letter = x := ⟨_, rfl⟩
      rw [hletr] at kk0 hemp
      have i1 : (a : Int) < (xs.length : Int) := by omega
      have i3 : (a : Int) < (ls.length : Int) := by rw [Hll.out]; exact i1
      have i4 : (l : Int) < 4 := by omega
      have hkc9 : k < 2000000000000000 := by
        have h1 := cntW_le (ltr l) (W1 xs q)
        have h2 := W1_len Hl.out q hqx
        omega
      have hnn : (at' : Int) + za ≤ 1000000000000000 := by omega
      clear hcC hcL hzae hletr ha hq hpr hW hE hsl hP1 hP2 q5 hkc hlen hla
      go_upto_region 5 with fail
      have kB := (Below.refl wr.heap.size wr).alloc (Nat.le_refl _) (Obj.cells #[.string letr, .int .i64 (a : Int), .int .i64 (q : Int)] 111)
      have kN := Blk.new wr #[.string letr, .int .i64 (a : Int), .int .i64 (q : Int)] 111
      generalize wr.alloc (Obj.cells #[.string letr, .int .i64 (a : Int), .int .i64 (q : Int)] 111) = w2 at *
      have d1 := Blk.cell (i := 1) (v := .int .i64 (a : Int)) kN rfl
      have d2 := Blk.cell (i := 2) (v := .int .i64 (q : Int)) kN rfl
      have ln := Blk.lt kN
      have KB := Lib.hid kB
      have h1 := (kB.cell (p := ⟨bc, oc + a, none⟩) (by show bc < _; have : bc < w.heap.size := f2; omega)).trans g1
      have h2 := (kB.cell (p := ⟨b4, o4 + l, none⟩) (by show b4 < _; have : b4 < w.heap.size := g2; omega)).trans g3
      have h3 := (kB.cell (p := ⟨bl, ol + a, none⟩) (by show bl < _; have : bl < w.heap.size := e2; omega)).trans gL
      clear g1 g3 gL kk0 kk1 kk2 kB kN xg
      obtain ⟨y, hy⟩ : ∃ y, cntW (ltr l) (W1 xs a) = y := ⟨_, rfl⟩
      rw [hy] at HP1 HP2 h2 hcl
      have Hy := Lib.hid hy
      clear hy
      by_cases hc : k < y
      · -- @V b
        have hcI : (k : Int) < (y : Int) := by omega
        go_wp2_with fail
        go_roundw
        case rel => exact ⟨k, at', a, rfl, rfl, rfl, hax, by rw [Hy.out]; exact hc, HP1.out hc, by rw [← Hla.out]; omega, (by repeat (first | exact Below.tr HB.out KB.out | (refine Below.alloc ?_ (by first | omega | (simp; done) | (simp; omega)) _) | refine below_drewN ?_ _ | refine Below.drew ?_))⟩
        case measure => simp [intOf]; omega
      · -- @V c
        have hcI : ¬ (k : Int) < (y : Int) := by omega
        have hw1 : IntKind.i64.wrap ((k : Int) - (y : Int)) = ((k - y : Nat) : Int) := by rw [IntWalk.i64_in _ (by omega)]; omega
        have hw2 : IntKind.i64.wrap ((at' : Int) + (za : Int)) = ((at' + za : Nat) : Int) := by rw [IntWalk.i64_in _ (by omega)]; omega
        obtain ⟨m, hm⟩ : ∃ m : Nat, k - y = m := ⟨_, rfl⟩
        rw [hm] at hw1 HP2
        have hPP := HP2.out (by omega)
        have HPP := Lib.hid hPP
        clear hm hPP HP2
        go_wp2_with fail
        go_roundw
        case rel => exact ⟨m, at' + za, q, rfl, rfl, rfl, hqx, HPP.out.2, HPP.out.1, by have := Q5.out; omega, (by repeat (first | exact Below.tr HB.out KB.out | (refine Below.alloc ?_ (by first | omega | (simp; done) | (simp; omega)) _) | refine below_drewN ?_ _ | refine Below.drew ?_))⟩
        case measure => simp [intOf]; omega
def ArrE : Enc (List Int) where
  size := 4
  pos := by decide
  cells := fun _ _ x cs => x.length = 4 ∧ cs = arC x
  len := by rintro _ _ _ _ ⟨h, rfl⟩; unfold arC; rw [List.length_map]; exact h
  keep := fun h _ => h
  more := fun h _ => h
  one := by rintro _ _ _ _ ⟨_, rfl⟩ u hu; unfold arC at hu; rw [List.mem_map] at hu; obtain ⟨x, _, rfl⟩ := hu; rfl
theorem OwnA.slS {w : World} {base : Nat} {v : Value} {l : List (List Int)} {S : Nat → Prop} (h : OwnA w base v l) (hS : ∀ g, v.ownBlock = some g → S g) : SlS ArrE w S v l := by
  obtain ⟨A, cap, rfl, h1, h2⟩ := own_nil h.2
  refine ⟨A, cap, rfl, h1, h2, Row.of_own (E := ArrE) h.2 rfl hS fun k x hx => ⟨arC x, ⟨h.1 x (List.mem_of_getElem? hx), rfl⟩, fun j u hu => ?_⟩⟩
  have hx4 := h.1 x (List.mem_of_getElem? hx)
  have hj : j < 4 := by
    have := (List.getElem?_eq_some_iff.1 hu).1
    unfold arC at this; rw [List.length_map] at this; omega
  have h3 := arC_at h.1 hx hj
  rw [show k * ArrE.size + j = k * 4 + j from rfl, h3]
  unfold arC at hu
  rw [List.getElem?_map, List.getElem?_eq_getElem (by omega)] at hu
  rw [List.getD_eq_getElem?_getD, List.getElem?_eq_getElem (by omega)]
  exact hu
theorem arr_cell {w : World} {S : Nat → Prop} {A : Option Addr} {l : List (List Int)} {n c : Nat} (h : SlS ArrE w S (.slice A n c) l) (hl : 0 < l.length) :
    ∃ b o, A = some ⟨b, o, none⟩ ∧ S b ∧ ∀ (k j : Nat) (x : List Int), l[k]? = some x → j < 4 → w.cell? ⟨b, o + k * 4 + j, none⟩ = some (.int .i64 (x.getD j 0)) := by
  obtain ⟨A2, c2, hv, _, _, hr⟩ := h
  obtain ⟨b, o, e, hb, hc⟩ := hr hl
  have ea : A = A2 := by injection hv
  subst ea
  refine ⟨b, o, e, hb, fun k j x hk hj => ?_⟩
  obtain ⟨cs, ⟨h4, rfl⟩, h2⟩ := hc k x hk
  have := h2 j (.int .i64 (x.getD j 0)) (by unfold arC; rw [List.getElem?_map, List.getD_eq_getElem?_getD, List.getElem?_eq_getElem (by omega)]; rfl)
  rw [Nat.add_assoc]; exact this
def topc (xs : List GRule) (i : Nat) : Int := (cntW (ltr i) (wordG xs) : Nat)
theorem many_len (xs : List GRule) : 0 < (manyL xs).length := by
  unfold manyL; split
  · decide
  · rw [cntsL_len]; omega
theorem many_top (xs : List GRule) : (manyL xs)[(manyL xs).length - 1]? = some [topc xs 0, topc xs 1, topc xs 2, topc xs 3] := by
  unfold manyL
  by_cases h : xs.length = 0
  · rw [if_pos h]
    have hx : xs = [] := List.eq_nil_of_length_eq_zero h
    subst hx; rfl
  · rw [if_neg h, cntsL_len, cntsL_at xs (by omega)]
    unfold topc
    rw [wordG_pos (by omega)]; rfl
theorem many_at {xs : List GRule} {r : Nat} (h : r < xs.length) : (manyL xs)[r]? = some (cntR xs r) := by
  unfold manyL; rw [if_neg (by omega)]; exact cntsL_at xs h
theorem many_len2 {xs : List GRule} (h : 0 < xs.length) : (manyL xs).length = xs.length := by
  unfold manyL; rw [if_neg (by omega), cntsL_len]
theorem many_le (xs : List GRule) : (manyL xs).length ≤ xs.length + 1 := by
  unfold manyL; split
  · simp
  · rw [cntsL_len]; omega
def CenV (w : World) (B : Nat) (v : Value) (xs : List GRule) (ls : List Int) : Prop := ∃ vR vL vM, v = .agg #[vR, vL, vM] ∧ Sl RuleE w B vR xs ∧ Sl IntE w B vL ls ∧ Sl ArrE w B vM (manyL xs)
theorem CenV.up {w w' : World} {v : Value} {xs : List GRule} {ls : List Int} (h : CenV w w.heap.size v xs ls) (hb : Below w.heap.size w w') : CenV w' w'.heap.size v xs ls := by
  obtain ⟨vR, vL, vM, rfl, h1, h2, h3⟩ := h
  exact ⟨vR, vL, vM, rfl, h1.up hb, h2.up hb, h3.up hb⟩
theorem setK3 {wx : World} {K : Nat} {S : Nat → Prop} (h : ¬ S K) (a b c : Value) : Keep S wx (((wx.setCell ⟨K, 0, none⟩ a).setCell ⟨K, 1, none⟩ b).setCell ⟨K, 2, none⟩ c) := by
  intro j hj
  have hne : j ≠ K := fun e => h (e ▸ hj)
  simp [World.setCell, Array.getElem?_modify, Ne.symm hne]
def CenPost (xs : List GRule) (w : World) (e : Ending) (w' : World) : Prop :=
  Below w.heap.size w w' ∧ ((gramOk xs = true ∧ ∃ v ls, lens xs = some ls ∧ e = .returned (.tuple #[v, .bool true]) ∧ CenV w' w'.heap.size v xs ls) ∨ (gramOk xs = false ∧ e = .returned (.tuple #[.agg #[.slice none 0 0, .slice none 0 0, .slice none 0 0], .bool false])))
set_option maxRecDepth 100000 in
set_option maxHeartbeats 4000000 in
theorem newCensus_any (vR : Value) (xs : List GRule) (w : World) (hR : Sl RuleE w w.heap.size vR xs) (hn : xs.length ≤ 1048576) : Calls Try.prog 64 #[.agg #[vR]] w (CenPost xs w) := by
  have HR := Lib.hid hR
  obtain ⟨AR, cR, rfl, _⟩ := hR
  go_enter Try.func64, Try.ntmps64
  go_upto_region 1 with fail
  have ka := ((Below.refl w.heap.size w).alloc (Nat.le_refl _) (Obj.cells #[.slice AR xs.length cR] 30)).alloc (by simp) (Obj.cells #[.slice none 0 0, .slice none 0 0, .slice none 0 0] 99)
  have kg := (Blk.new w #[.slice AR xs.length cR] 30).alloc (Obj.cells #[.slice none 0 0, .slice none 0 0, .slice none 0 0] 99)
  have kr := Blk.new (w.alloc (Obj.cells #[.slice AR xs.length cR] 30)) #[.slice none 0 0, .slice none 0 0, .slice none 0 0] 99
  rw [show (w.alloc (Obj.cells #[.slice AR xs.length cR] 30)).heap.size = w.heap.size + 1 by simp] at kr
  generalize ((w.alloc (Obj.cells #[.slice AR xs.length cR] 30)).alloc (Obj.cells #[.slice none 0 0, .slice none 0 0, .slice none 0 0] 99)) = w1 at *
  have B1 := Lib.hid ka
  have G1 := Lib.hid kg
  have R1 := Lib.hid kr
  have HR1 := Lib.hid (HR.out.up ka)
  have g0 := Blk.cell (i := 0) (v := .slice AR xs.length cR) kg rfl
  have gl := Blk.lt kg
  clear ka kg kr
  go_wp2_with fail
  refine (lengths_any _ xs _ HR1.out (by omega)).mono ?_
  rintro e w2 ⟨hb2, hpost⟩
  have B2 := Lib.hid (Below.tr B1.out hb2)
  have G2 := Lib.hid (G1.out.up hb2)
  have R2 := Lib.hid (R1.out.up hb2)
  have HR2 := Lib.hid (HR1.out.up hb2)
  have g0 := Blk.cell (i := 0) (v := .slice AR xs.length cR) G2.out rfl
  have gl := Blk.lt G2.out
  have r0 := Blk.cell (i := 0) (v := .slice none 0 0) R2.out rfl
  have r1 := Blk.cell (i := 1) (v := .slice none 0 0) R2.out rfl
  have r2 := Blk.cell (i := 2) (v := .slice none 0 0) R2.out rfl
  have rf := Blk.frozen R2.out
  have rl := Blk.lt R2.out
  have hbad : ∀ wx, wx = ((w2.setCell ⟨w.heap.size + 1, 0, none⟩ (.slice none 0 0)).setCell ⟨w.heap.size + 1, 1, none⟩ (.slice none 0 0)).setCell ⟨w.heap.size + 1, 2, none⟩ (.slice none 0 0) → Below w.heap.size w wx := fun wx e => by
    subst e
    exact (((B2.out.setCell (show w.heap.size ≤ w.heap.size + 1 by omega) _).setCell (show w.heap.size ≤ w.heap.size + 1 by omega) _).setCell (show w.heap.size ≤ w.heap.size + 1 by omega) _)
  have Hbad := Lib.hid hbad
  clear hb2 hbad
  have bad : gramOk xs = false → Hid (gramOk xs = false) := fun h => h
  rcases hpost with ⟨ls, vL, hl, rfl, hown⟩ | ⟨hl, rfl⟩
  · by_cases h4 : xs.length ≤ 400
    · have g4 : decide (xs.length ≤ 400) = true := by simpa using h4
      have Hl := Lib.hid hl
      have Hgr : Hid (gramOk xs = true) := by simp [Hid, gramOk, hl, h4]
      have z12 : w.heap.size + 1 < w1.heap.size := Blk.lt R1.out
      have HL := Lib.hid (OwnInts.slS hown (S := fun b => b ≠ w.heap.size + 1 ∧ b < w2.heap.size) fun g hg => by have := World.ownsRow.lt hown g hg; omega)
      obtain ⟨AL, cL, rfl, _⟩ := own_nil hown
      clear hl hown r0 r1 r2
      go_wp2_with fail
      refine (folded_any _ xs ls _ HR2.out Hl.out h4).mono ?_
      rintro e w3 ⟨vM, rfl, hM, hb3⟩
      have B3 := Lib.hid (Below.tr B2.out hb3)
      have G3 := Lib.hid (G2.out.up hb3)
      have R3 := Lib.hid (R2.out.up hb3)
      have HR3 := Lib.hid (HR2.out.up hb3)
      have HL3 := Lib.hid ((HL.out.keep (Keep.mono (Keep.of_below hb3) fun b h => h.2)).more (S' := fun b => b ≠ w.heap.size + 1 ∧ b < w3.heap.size) fun b h => ⟨h.1, Nat.lt_of_lt_of_le h.2 hb3.size⟩)
      have HM3 := Lib.hid (hM.slS (S := fun b => b ≠ w.heap.size + 1 ∧ b < w3.heap.size) fun g hg => by have := World.ownsRow.lt hM.2 g hg; omega)
      have HRS := Lib.hid ((HR.out.below B3.out).more (S' := fun b => b ≠ w.heap.size + 1 ∧ b < w3.heap.size) fun b h => by have h1 : b < w.heap.size := h; have h2 := B3.out.size; exact ⟨by omega, by omega⟩)
      obtain ⟨AM, cM, rfl⟩ := hM.nil4
      have g0 := Blk.cell (i := 0) (v := .slice AR xs.length cR) G3.out rfl
      have gl := Blk.lt G3.out
      have r0 := Blk.cell (i := 0) (v := .slice none 0 0) R3.out rfl
      have r1 := Blk.cell (i := 1) (v := .slice none 0 0) R3.out rfl
      have r2 := Blk.cell (i := 2) (v := .slice none 0 0) R3.out rfl
      have rf := Blk.frozen R3.out
      have rl := Blk.lt R3.out
      clear hM hb3
      go_wp2_with fail
      refine bodyPost_ret (v := .tuple #[.agg #[.slice AR xs.length cR, .slice AL ls.length cL, .slice AM (manyL xs).length cM], .bool true]) (by simp [results, Try.results64, go_sem, r0, r1, r2]) rfl ?_
      refine ⟨((B3.out.setCell (show w.heap.size ≤ w.heap.size + 1 by omega) _).setCell (show w.heap.size ≤ w.heap.size + 1 by omega) _).setCell (show w.heap.size ≤ w.heap.size + 1 by omega) _, Or.inl ⟨Hgr.out, _, ls, Hl.out, rfl, _, _, _, rfl, ?_, ?_, ?_⟩⟩
      · exact (HRS.out.keep (setK3 (fun h => h.1 rfl) _ _ _)).more fun b h => by simpa using h.2
      · exact (HL3.out.keep (setK3 (fun h => h.1 rfl) _ _ _)).more fun b h => by simpa using h.2
      · exact (HM3.out.keep (setK3 (fun h => h.1 rfl) _ _ _)).more fun b h => by simpa using h.2
    · have g4 : decide (xs.length ≤ 400) = false := by simpa using h4
      have Hgr : Hid (gramOk xs = false) := by simp [Hid, gramOk, h4]
      clear hl hown h4
      go_wp2_with fail
      refine bodyPost_ret (v := .tuple #[.agg #[.slice none 0 0, .slice none 0 0, .slice none 0 0], .bool false]) (by simp [results, Try.results64, go_sem, r0, r1, r2]) rfl ⟨Hbad.out _ rfl, Or.inr ⟨Hgr.out, rfl⟩⟩
  · have Hgr : Hid (gramOk xs = false) := by simp [Hid, gramOk, hl]
    clear hl
    go_wp2_with fail
    refine bodyPost_ret (v := .tuple #[.agg #[.slice none 0 0, .slice none 0 0, .slice none 0 0], .bool false]) (by simp [results, Try.results64, go_sem, r0, r1, r2]) rfl ⟨Hbad.out _ rfl, Or.inr ⟨Hgr.out, rfl⟩⟩
set_option maxRecDepth 100000 in
set_option maxHeartbeats 2000000 in
theorem top_any (vM : Value) (xs : List GRule) (w : World) (hM : Sl ArrE w w.heap.size vM (manyL xs)) (hn : xs.length ≤ 1048576) :
    Calls Try.prog 106 #[vM] w fun e w' => e = .returned (.agg #[.int .i64 (topc xs 0), .int .i64 (topc xs 1), .int .i64 (topc xs 2), .int .i64 (topc xs 3)]) ∧ Below w.heap.size w w' := by
  have HM := Lib.hid hM
  have hl1 := many_len xs
  have hl2 := many_le xs
  have ht := many_top xs
  obtain ⟨AM, cM, rfl, _⟩ := hM
  obtain ⟨b, o, rfl, hb, hc⟩ := arr_cell HM.out hl1
  obtain ⟨m, hm⟩ : ∃ m, (manyL xs).length - 1 = m := ⟨_, rfl⟩
  rw [hm] at ht
  have c0 := hc m 0 _ ht (by omega)
  have c1 := hc m 1 _ ht (by omega)
  have c2 := hc m 2 _ ht (by omega)
  have c3 := hc m 3 _ ht (by omega)
  obtain ⟨L, hL⟩ : ∃ L, (manyL xs).length = L := ⟨_, rfl⟩
  rw [hL] at hm hl1 hl2 ⊢
  have hw : IntKind.i64.wrap ((L : Int) - 1) = (m : Int) := by rw [IntWalk.i64_in _ (by omega)]; omega
  have hmL : (m : Int) < (L : Int) := by omega
  have e0 : w.cell? ⟨b, o + m * 4, none⟩ = some (.int .i64 (topc xs 0)) := c0
  have e1 : w.cell? ⟨b, o + m * 4 + 1, none⟩ = some (.int .i64 (topc xs 1)) := c1
  have e2 : w.cell? ⟨b, o + m * 4 + 2, none⟩ = some (.int .i64 (topc xs 2)) := c2
  have e3 : w.cell? ⟨b, o + m * 4 + 3, none⟩ = some (.int .i64 (topc xs 3)) := c3
  have hbl : b < w.heap.size := hb
  have hne : b ≠ w.heap.size := by omega
  clear c0 c1 c2 c3 hc hm hL ht
  go_enter Try.func106, Try.ntmps106
  go_wp2_with fail
  refine bodyPost_ret (v := .agg #[.int .i64 (topc xs 0), .int .i64 (topc xs 1), .int .i64 (topc xs 2), .int .i64 (topc xs 3)]) (by simp [results, Try.results106, go_sem]) rfl ⟨rfl, (by repeat (first | exact Below.refl _ _ | (refine Below.alloc ?_ (by first | omega | (simp; done) | (simp; omega)) _) | (refine Below.setCell ?_ (by first | exact Nat.le_refl _ | (show _ ≤ _; omega) | (simp; done) | (simp; omega)) _) | refine below_drewN ?_ _ | refine Below.drew ?_))⟩
def Emb (W : List UInt8) : List UInt8 → Nat → List Nat → Prop
  | [], _, [] => True
  | c :: p, i, b :: B => i ≤ b ∧ W[b]? = some c ∧ Emb W p (b + 1) B
  | _, _, _ => False
theorem Emb.len {W : List UInt8} : ∀ {p : List UInt8} {i : Nat} {B : List Nat}, Emb W p i B → B.length = p.length := by
  intro p
  induction p with
  | nil => intro i B h; match B, h with | [], _ => rfl
  | cons c p ih => intro i B h; match B, h with | b :: B, h => exact congrArg (· + 1) (ih h.2.2)
def EmbI (W p : List UInt8) (i : Nat) (B : List Nat) : Prop :=
  B.length = p.length ∧ (∀ t, t < p.length → i ≤ B.getD t 0 ∧ W[B.getD t 0]? = p[t]?) ∧ ∀ t, t + 1 < p.length → B.getD t 0 < B.getD (t + 1) 0
theorem emb_iff {W : List UInt8} : ∀ {p : List UInt8} {i : Nat} {B : List Nat}, Emb W p i B ↔ EmbI W p i B := by
  intro p
  induction p with
  | nil =>
    intro i B
    constructor
    · intro h; match B, h with | [], _ => exact ⟨rfl, fun t ht => absurd ht (by simp), fun t ht => absurd ht (by simp)⟩
    · rintro ⟨h, _⟩; match B, h with | [], _ => exact True.intro
  | cons c p ih =>
    intro i B
    constructor
    · intro h
      match B, h with
      | b :: B, ⟨h1, h2, h3⟩ =>
        obtain ⟨k1, k2, k3⟩ := ih.1 h3
        refine ⟨congrArg (· + 1) k1, fun t ht => ?_, fun t ht => ?_⟩
        · match t with
          | 0 => exact ⟨h1, h2⟩
          | t + 1 =>
            have := k2 t (by simpa using ht)
            exact ⟨by rw [List.getD_cons_succ]; omega, by rw [List.getD_cons_succ, List.getElem?_cons_succ]; exact this.2⟩
        · match t with
          | 0 =>
            have := (k2 0 (by simpa using ht)).1
            rw [List.getD_cons_zero, List.getD_cons_succ]; omega
          | t + 1 =>
            rw [List.getD_cons_succ, List.getD_cons_succ]
            exact k3 t (by simpa using ht)
    · rintro ⟨k1, k2, k3⟩
      match B, k1 with
      | b :: B, k1 =>
        have h0 := k2 0 (by simp)
        rw [List.getD_cons_zero] at h0
        refine ⟨h0.1, h0.2, ih.2 ⟨by simpa using k1, fun t ht => ?_, fun t ht => ?_⟩⟩
        · have h1 := k2 (t + 1) (by simpa using ht)
          rw [List.getD_cons_succ, List.getElem?_cons_succ] at h1
          refine ⟨?_, h1.2⟩
          have inc : ∀ s, s < p.length → b < B.getD s 0 := by
            intro s
            induction s with
            | zero => intro hs; have := k3 0 (by simpa using hs); rw [List.getD_cons_zero, List.getD_cons_succ] at this; exact this
            | succ s is =>
              intro hs
              have a1 := is (by omega)
              have a2 := k3 (s + 1) (by simpa using hs)
              rw [List.getD_cons_succ, List.getD_cons_succ] at a2
              omega
          exact inc t ht
        · have h1 := k3 (t + 1) (by simpa using ht)
          rw [List.getD_cons_succ, List.getD_cons_succ] at h1
          exact h1
theorem cnt_take_le (c : UInt8) (W : List UInt8) {i j : Nat} (h : i ≤ j) : cntW c (W.take i) ≤ cntW c (W.take j) := by
  have e : W.take j = W.take i ++ (W.drop i).take (j - i) := by rw [← List.take_add, show i + (j - i) = j by omega]
  rw [e, cntW_app]; omega
theorem cnt_take_succ (c : UInt8) {W : List UInt8} {b : Nat} (h : W[b]? = some c) : cntW c (W.take (b + 1)) = cntW c (W.take b) + 1 := by
  rw [List.take_add_one, h, cntW_app]; simp [cntW]
theorem cnt_take_all (c : UInt8) (W : List UInt8) (i : Nat) : cntW c (W.take i) ≤ cntW c W := by
  have e := cntW_app c (W.take i) (W.drop i)
  rw [List.take_append_drop] at e; omega
theorem sel_next {c : UInt8} {W : List UInt8} {i : Nat} (h : cntW c (W.take i) < cntW c W) :
    i ≤ selW c (cntW c (W.take i)) W ∧ W[selW c (cntW c (W.take i)) W]? = some c ∧ ∀ b, i ≤ b → W[b]? = some c → selW c (cntW c (W.take i)) W ≤ b := by
  obtain ⟨A, B, h1, h2, h3⟩ := selW_part c W _ h
  rw [h3]
  have tA : W.take A.length = A := by rw [h1]; simp
  have hc : W[A.length]? = some c := by rw [h1]; simp
  refine ⟨?_, hc, fun b hb hW => ?_⟩
  · rcases Nat.lt_or_ge A.length i with g | g
    · have e1 := cnt_take_le c W (show A.length + 1 ≤ i from g)
      rw [cnt_take_succ c hc, tA] at e1; omega
    · exact g
  · rcases Nat.lt_or_ge b A.length with g | g
    · have e1 := cnt_take_le c W hb
      have e2 := cnt_take_le c W (show b + 1 ≤ A.length from g)
      rw [cnt_take_succ c hW, tA] at e2; omega
    · exact g
theorem embF_emb (W : List UInt8) : ∀ (p : List UInt8) (i : Nat), Emb W (p.take (embF W p i).length) i (embF W p i) := by
  intro p
  induction p with
  | nil => intro i; exact True.intro
  | cons c p ih =>
    intro i
    rw [embF]
    by_cases h : cntW c (W.take i) < cntW c W
    · rw [if_pos h]
      obtain ⟨g1, g2, _⟩ := sel_next h
      exact ⟨g1, g2, ih _⟩
    · rw [if_neg h]; exact True.intro
theorem embF_min (W : List UInt8) : ∀ (p : List UInt8) (i j : Nat) (B : List Nat), j ≤ i → Emb W p i B → (embF W p j).length = p.length ∧ ∀ t, t < p.length → (embF W p j).getD t 0 ≤ B.getD t 0 := by
  intro p
  induction p with
  | nil => intro i j B _ _; exact ⟨rfl, fun t ht => absurd ht (by simp)⟩
  | cons c p ih =>
    intro i j B hj h
    match B, h with
    | b :: B, ⟨h1, h2, h3⟩ =>
      have hlt : cntW c (W.take j) < cntW c W := by
        have e1 := cnt_take_le c W (show j ≤ b by omega)
        have e2 := cnt_take_succ c h2
        have e3 := cnt_take_all c W (b + 1)
        omega
      obtain ⟨_, _, g3⟩ := sel_next hlt
      have hle := g3 b (by omega) h2
      rw [embF, if_pos hlt]
      obtain ⟨k1, k2⟩ := ih (b + 1) (selW c (cntW c (W.take j)) W + 1) B (by omega) h3
      refine ⟨congrArg (· + 1) k1, fun t ht => ?_⟩
      match t with
      | 0 => exact hle
      | t + 1 => rw [List.getD_cons_succ, List.getD_cons_succ]; exact k2 t (by simpa using ht)
theorem embF_take (W : List UInt8) : ∀ (p : List UInt8) (m i : Nat), embF W (p.take m) i = (embF W p i).take m := by
  intro p
  induction p with
  | nil => intro m i; simp [embF]
  | cons c p ih =>
    intro m i
    match m with
    | 0 => simp [embF]
    | m + 1 =>
      rw [List.take_succ_cons, embF, embF]
      split
      · rw [ih, List.take_succ_cons]
      · rfl
theorem embI_rev {W p : List UInt8} {B : List Nat} (h : EmbI W p 0 B) : EmbI W.reverse p.reverse 0 ((B.map (fun a => W.length - 1 - a)).reverse) := by
  obtain ⟨h1, h2, h3⟩ := h
  have hlt : ∀ t, t < p.length → B.getD t 0 < W.length := fun t ht => by
    have := (h2 t ht).2
    rw [List.getElem?_eq_getElem ht] at this
    exact (List.getElem?_eq_some_iff.1 this).1
  have hg : ∀ t, t < p.length → ((B.map (fun a => W.length - 1 - a)).reverse).getD t 0 = W.length - 1 - B.getD (p.length - 1 - t) 0 := fun t ht => by
    rw [List.getD_eq_getElem?_getD, List.getElem?_reverse (by simp; omega), List.length_map, h1, List.getElem?_map, List.getD_eq_getElem?_getD, List.getElem?_eq_getElem (by omega)]
    rfl
  refine ⟨by simp [h1], fun t ht => ?_, fun t ht => ?_⟩
  · rw [List.length_reverse] at ht
    rw [hg t ht]
    have a1 := (h2 (p.length - 1 - t) (by omega)).2
    have a2 := hlt (p.length - 1 - t) (by omega)
    refine ⟨Nat.zero_le _, ?_⟩
    rw [List.getElem?_reverse (by omega), List.getElem?_reverse ht, show W.length - 1 - (W.length - 1 - B.getD (p.length - 1 - t) 0) = B.getD (p.length - 1 - t) 0 by omega]
    exact a1
  · rw [List.length_reverse] at ht
    rw [hg t (by omega), hg (t + 1) ht]
    have a1 := h3 (p.length - 1 - (t + 1)) (by omega)
    rw [show p.length - 1 - (t + 1) + 1 = p.length - 1 - t by omega] at a1
    have a2 := hlt (p.length - 1 - t) (by omega)
    omega
def lastE (W p : List UInt8) : List Nat := ((embF W.reverse p.reverse 0).map (fun a => W.length - 1 - a)).reverse
theorem embs_all (W p : List UInt8) :
    ((embF W p 0).length = p.length ↔ (embF W.reverse p.reverse 0).length = p.length) ∧
    ((embF W p 0).length = p.length → EmbI W p 0 (embF W p 0) ∧ EmbI W p 0 (lastE W p) ∧ ∀ t, t < p.length → (embF W p 0).getD t 0 ≤ (lastE W p).getD t 0) := by
  have full : ∀ (W p : List UInt8), (embF W p 0).length = p.length → EmbI W p 0 (embF W p 0) := fun W p h => by
    have := embF_emb W p 0
    rw [h, List.take_length] at this
    exact emb_iff.1 this
  have turn : ∀ (W p : List UInt8), (embF W p 0).length = p.length → (embF W.reverse p.reverse 0).length = p.length := fun W p h => by
    have := (embF_min W.reverse p.reverse 0 0 _ (Nat.le_refl _) (emb_iff.2 (embI_rev (full W p h)))).1
    rw [List.length_reverse] at this; exact this
  refine ⟨⟨turn W p, fun h => ?_⟩, fun h => ?_⟩
  · have := turn W.reverse p.reverse (by rw [List.length_reverse]; exact h)
    rw [List.reverse_reverse, List.reverse_reverse, List.length_reverse] at this; exact this
  · have h2 := turn W p h
    have e := embI_rev (full W.reverse p.reverse (by rw [List.length_reverse]; exact h2))
    rw [List.reverse_reverse, List.reverse_reverse, List.length_reverse] at e
    exact ⟨full W p h, e, (embF_min W p 0 0 _ (Nat.le_refl _) (emb_iff.2 e)).2⟩
end Go.Proofs.Ytfkijaamfmpboaa
