import Derived.Test.YtejgbfgocaggfaaM3
import Derived.Test.YtejgbfgocaggfaaM2
namespace Go.Proofs.Ytejgbfgocaggfaa
open Go.RowKit
def lastI (l : List Int) : Int := l.getD (l.length - 1) 0
theorem last_any (v : Value) (l : List Int) (w : World) (h : Sl IntE w w.heap.size v l) :
    Calls Try.prog 102 #[v] w fun e w' => e = .returned (.int .i64 (lastI l)) ∧ w = w' := by
  obtain ⟨A, c, rfl, hc, hm, hrow⟩ := h
  unfold maxLen at hm
  by_cases h0 : l.length = 0
  · have hl : l = [] := List.eq_nil_of_length_eq_zero h0
    subst hl
    go_enter Try.func102, Try.ntmps102
    go_wp2_with fail
    go_ret
    exact ⟨rfl, rfl⟩
  · obtain ⟨b, o, rfl, hbl, hcell⟩ := hrow.int (k := 0) (by omega)
    have hc0 := hcell (l.length - 1) (by omega)
    have g0 : ((l.length : Int) == 0) = false := by rw [beq_eq_false_iff_ne]; omega
    have hk : ((l.length : Int) - 1).toNat = l.length - 1 := by omega
    have hl : 0 ≤ (l.length : Int) - 1 := by omega
    obtain ⟨x, hx⟩ : ∃ x, l.getD (l.length - 1) 0 = x := ⟨_, rfl⟩
    have Hx := Lib.hid hx
    rw [hx] at hc0
    clear hcell hx
    go_enter Try.func102, Try.ntmps102
    go_wp2_with fail
    go_ret
    exact ⟨ret_int (by rw [lastI, Hx.out]), rfl⟩
theorem rideLength_any (v : Value) (a : GAuto) (xs : List GRule) (ls : List Int) (w : World) (h : RideV w w.heap.size v a xs ls) :
    Calls Try.prog 70 #[v] w fun e w' => e = .returned (.int .i64 (lastI ls)) ∧ Below w.heap.size w w' := by
  obtain ⟨vF, vN, vR, vL, vM, rfl, h1, h2, h3, h4, h5⟩ := h
  have H4 := Lib.hid h4
  obtain ⟨_, _, rfl, _⟩ := h1
  obtain ⟨_, _, rfl, _⟩ := h2
  obtain ⟨_, _, rfl, _⟩ := h3
  obtain ⟨_, _, rfl, _⟩ := h4
  obtain ⟨_, _, rfl, _⟩ := h5
  go_enter Try.func70, Try.ntmps70
  go_wp2_with fail
  refine (last_any _ ls _ ((H4.out.below ((Below.refl _ _).alloc (Nat.le_refl _) _)).le (by first | omega | (simp; done) | (simp; omega)))).mono ?_
  rintro e w' ⟨rfl, rfl⟩
  go_wp2_with fail
  go_ret
  exact ⟨rfl, (by repeat (first | exact Below.refl _ _ | (refine Below.alloc ?_ (by first | omega | (simp; done) | (simp; omega)) _) | refine below_drewN ?_ _ | refine Below.drew ?_))⟩
theorem Wk.set {C : Nat → Prop} {w : World} {b o : Nat} {v : Value} (h : ¬ C b) : Wk C w (w.setCell ⟨b, o, none⟩ v).drew :=
  ⟨rfl, rfl, rfl, by show w.heap.size ≤ (w.setCell ⟨b, o, none⟩ v).heap.size; simp, fun k hk => heap_setCell_other w ⟨b, o, none⟩ k v (fun e => h (by have e' : k = b := e; exact e' ▸ hk))⟩
def stepM (maps : List (List Int)) (s r : Nat) : Nat := ((maps.getD r []).getD s 0).toNat
structure RJ (w0 : World) (bs n : Nat) (C : Nat → Prop) (s : Nat) (w : World) : Prop where
  wk : Wk (fun b => b < w0.heap.size ∧ b ≠ bs) w0 w
  cell : w.cell? ⟨bs, 0, none⟩ = some (.int .i64 s)
  fr : w.frozen? ⟨bs, 0, none⟩ = false
  nc : ¬ C bs
  lt : s < n
theorem RJ.ext {w0 : World} {bs n : Nat} (hbs : bs < w0.heap.size) : ∀ C s w w', RJ w0 bs n C s w → Below w.heap.size w w' → (∀ b, C b → b < w.heap.size) → RJ w0 bs n (ext C w.heap.size w'.heap.size) s w' := by
  intro C s w w' h hb hC
  have hsz := h.wk.size
  refine ⟨h.wk.trans (Wk.of_below hb fun k hk => by have := hk.1; omega), (hb.cell (p := ⟨bs, 0, none⟩) (by show bs < _; omega)).trans h.cell, (hb.frozen (p := ⟨bs, 0, none⟩) (by show bs < _; omega)).trans h.fr, ?_, h.lt⟩
  intro h'
  rcases h' with h' | h'
  · exact h.nc h'
  · omega
set_option maxRecDepth 100000 in
set_option maxHeartbeats 1000000 in
theorem afterCl_any (w0 : World) (br bs : Nat) (vM : Value) (maps : List (List Int)) (n : Nat) (hbr : br < w0.heap.size) (hne : br ≠ bs) (hbs : bs < w0.heap.size) (hm : w0.cell? ⟨br, 6, none⟩ = some vM) (hM : SlS (SliceE IntE) w0 (fun b => b < w0.heap.size ∧ b ≠ bs) vM maps) (hok : RowsOk n maps) :
    ∀ C s (r : Nat) (w : World), RJ w0 bs n C s w → r < maps.length → (∀ b, C b → b < w.heap.size) → Calls Try.prog 122 (#[.int .i64 r] ++ #[.pointer (some ⟨br, 0, none⟩), .pointer (some ⟨bs, 0, none⟩)]) w (TakePost (RJ w0 bs n) C (stepM maps s r) w) := by
  intro C s r w hJ hr hC
  have HJ := Lib.hid hJ
  have HC := Lib.hid hC
  obtain ⟨A, c, rfl, _, hmx, hrow⟩ := (hM.keep hJ.wk.keep)
  obtain ⟨b, o, rfl, hbb, hcells⟩ := cells2 hrow (by omega)
  have r1 := hok r hr
  have hlt := hJ.lt
  obtain ⟨b', o', c', d1, d2, d3⟩ := hcells r s hr (by rw [r1.1]; exact hlt)
  rw [r1.1] at d1
  obtain ⟨m, hm1⟩ : ∃ m : Nat, (maps.getD r []).getD s 0 = m := ⟨((maps.getD r []).getD s 0).toNat, by have := (r1.2 s hlt).1; omega⟩
  have hmn : m < n := by have := (r1.2 s hlt).2; omega
  rw [hm1] at d3
  have hst : stepM maps s r = m := by rw [stepM, hm1]; rfl
  have Hst := Lib.hid hst
  have x6 := hJ.wk.cell (k := br) (o := 6) ⟨hbr, hne⟩ hm
  have xs := hJ.cell
  have xf := hJ.fr
  have hsz := hJ.wk.size
  have y1 : bs < w.heap.size := by omega
  have i1 : (r : Int) < (maps.length : Int) := by omega
  have i2 : (s : Int) < (n : Int) := by omega
  unfold maxLen at hmx
  clear hcells r1 hm1 hst hrow hM hm hJ hok hC
  show Calls Try.prog 122 #[.int .i64 r, .pointer (some ⟨br, 0, none⟩), .pointer (some ⟨bs, 0, none⟩)] w _
  go_enter Try.func122, Try.ntmps122
  go_wp2_with fail
  go_still_tail 8, (by kernel_rfl)
  change wpList _ _ _ _ _ w.drew
  go_wp2_with fail
  go_end0
  refine ⟨rfl, C, fun _ h => h, ?_, ⟨?_, ?_, ?_, HJ.out.nc, by rw [Hst.out]; exact hmn⟩, ?_⟩
  · intro b h
    have := HC.out b h
    simpa [World.setCell] using this
  · exact HJ.out.wk.trans (Wk.set fun h => h.2 rfl)
  · rw [Hst.out]; simp [go_sem, xs]
  · simp [go_sem, xf]
  · exact Wk.set HJ.out.nc
set_option maxRecDepth 100000 in
set_option maxHeartbeats 1000000 in
theorem after_any (v : Value) (a : GAuto) (xs : List GRule) (ls : List Int) (s : Nat) (i j : Int) (w : World) (h : RideV w w.heap.size v a xs ls) (ha : autoOk a = true) (hl : lens xs = some ls) (hn : xs.length ≤ 1099511627776) (hs : s < a.next.length) :
    Calls Try.prog 84 #[v, .int .i64 s, .int .i64 i, .int .i64 j] w fun e w' => e = .returned (.int .i64 (((piecesL xs ls i j).foldl (stepM (mapsOf a.next xs)) s : Nat) : Int)) ∧ Below w.heap.size w w' := by
  obtain ⟨vF, vN, vR, vL, vM, rfl, h1, h2, h3, h4, h5⟩ := h
  have H3 := Lib.hid h3
  have H4 := Lib.hid h4
  have H5 := Lib.hid h5
  have Ha := Lib.hid ha
  have Hl := Lib.hid hl
  clear ha hl
  obtain ⟨AF, cF, rfl, _⟩ := h1
  obtain ⟨AN, cN, rfl, _⟩ := h2
  obtain ⟨AR, cR, rfl, _⟩ := h3
  obtain ⟨AL, cL, rfl, _⟩ := h4
  obtain ⟨AM, cM, rfl, _⟩ := h5
  go_enter Try.func84, Try.ntmps84
  go_wp2_with fail
  have hB : ∀ o o', Below w.heap.size w ((w.alloc o).alloc o') := fun o o' => ((Below.refl _ _).alloc (Nat.le_refl _) _).alloc (by simp) _
  have hx6 : ((w.alloc (Obj.cells #[.int .i64 a.states, .int .i64 a.start, .slice AF a.finals.length cF, .slice AN a.next.length cN, .slice AR xs.length cR, .slice AL ls.length cL, .slice AM (mapsOf a.next xs).length cM] 94)).alloc (Obj.cells #[.int .i64 (s : Int)] 2)).cell? ⟨w.heap.size, 6, none⟩ = some (.slice AM (mapsOf a.next xs).length cM) := by simp [go_sem]
  have hxs : ((w.alloc (Obj.cells #[.int .i64 a.states, .int .i64 a.start, .slice AF a.finals.length cF, .slice AN a.next.length cN, .slice AR xs.length cR, .slice AL ls.length cL, .slice AM (mapsOf a.next xs).length cM] 94)).alloc (Obj.cells #[.int .i64 (s : Int)] 2)).cell? ⟨w.heap.size + 1, 0, none⟩ = some (.int .i64 (s : Int)) := by simp [go_sem]
  have hxf : ((w.alloc (Obj.cells #[.int .i64 a.states, .int .i64 a.start, .slice AF a.finals.length cF, .slice AN a.next.length cN, .slice AR xs.length cR, .slice AL ls.length cL, .slice AM (mapsOf a.next xs).length cM] 94)).alloc (Obj.cells #[.int .i64 (s : Int)] 2)).frozen? ⟨w.heap.size + 1, 0, none⟩ = false := by simp [go_sem]
  have hzz : ((w.alloc (Obj.cells #[.int .i64 a.states, .int .i64 a.start, .slice AF a.finals.length cF, .slice AN a.next.length cN, .slice AR xs.length cR, .slice AL ls.length cL, .slice AM (mapsOf a.next xs).length cM] 94)).alloc (Obj.cells #[.int .i64 (s : Int)] 2)).heap.size = w.heap.size + 2 := by simp
  have hb0 := hB (Obj.cells #[.int .i64 a.states, .int .i64 a.start, .slice AF a.finals.length cF, .slice AN a.next.length cN, .slice AR xs.length cR, .slice AL ls.length cL, .slice AM (mapsOf a.next xs).length cM] 94) (Obj.cells #[.int .i64 (s : Int)] 2)
  generalize (w.alloc (Obj.cells #[.int .i64 a.states, .int .i64 a.start, .slice AF a.finals.length cF, .slice AN a.next.length cN, .slice AR xs.length cR, .slice AL ls.length cL, .slice AM (mapsOf a.next xs).length cM] 94)).alloc (Obj.cells #[.int .i64 (s : Int)] 2) = w0 at *
  have HZ := Lib.hid hzz
  have HB0 := Lib.hid hb0
  clear hB hzz hb0
  have hok := mapsOf_ok Ha.out Hl.out xs.length (Nat.le_refl _)
  rw [List.take_length] at hok
  refine (pieces_any (RJ w0 (w.heap.size + 1) a.next.length) (stepM (mapsOf a.next xs)) (fun _ _ => True) 122 #[.pointer (some ⟨w.heap.size, 0, none⟩), .pointer (some ⟨w.heap.size + 1, 0, none⟩)] xs ls i j Hl.out hn (enters_of Try.func122 (by kernel_rfl) rfl) (fun C s w w' hJ hb _ hC => RJ.ext (by have := HZ.out; omega) C s w w' hJ hb hC) ?_ _ _ s (fun b => b < w.heap.size) w0 ?_ (Runs.all fun _ _ => trivial) ?_ ?_ ?_).mono ?_
  · intro C s r w' hJ _ hr hC
    exact afterCl_any w0 w.heap.size (w.heap.size + 1) _ (mapsOf a.next xs) a.next.length (by have := HZ.out; omega) (by omega) (by have := HZ.out; omega) hx6
      ((H5.out.keep (Keep.of_below HB0.out)).more fun b hb => ⟨by have := HZ.out; omega, by omega⟩) hok C s r w' hJ (by rw [mapsOf_len]; exact hr) hC
  · exact ⟨Wk.refl _ _, hxs, hxf, by omega, hs⟩
  · intro b hb
    have := HZ.out
    omega
  · exact (H4.out.keep (Keep.of_below HB0.out))
  · exact (H3.out.keep (Keep.of_below HB0.out))
  · rintro e w2 ⟨rfl, C2, g1, g2, g3, g4⟩
    have hc := g3.cell
    have Hw := Lib.hid (HB0.out.trans (g3.wk.below (B := w.heap.size) fun k hk => ⟨by have := HZ.out; omega, by omega⟩))
    clear g1 g2 g3 g4 hx6 hxs hxf hok
    obtain ⟨r, hr⟩ : ∃ r, (piecesL xs ls i j).foldl (stepM (mapsOf a.next xs)) s = r := ⟨_, rfl⟩
    rw [hr] at hc
    have Hr := Lib.hid hr
    clear hr
    go_wp2_with fail
    go_ret
    exact ⟨ret_int (by rw [Hr.out]), Hw.out⟩
def GRes (out : List GRule) (code : Int) (w : World) (e : Ending) (w' : World) : Prop :=
  Below w.heap.size w w' ∧ ∃ v', OwnRules w' w.heap.size v' out ∧ e = .returned (.tuple #[.agg #[v'], .int .i64 code])
theorem step_append_rules {W : World} {ops : Array Oper} {o : Oper} {a : Act} {K : Act → World → Prop} {Q : Exit → Act → World → Prop} {E : Prop} (hgd : o.guard = none) (s x : Operand)
    (ho : o.op = .call { callee := .builtin .append, args := #[s, x], argTypes := #[29, 29] }) {ys : List GRule} {base : Nat} {v sv : Value} {l : List GRule} {S : Nat → Prop}
    (hs : a.eval s = v) (hx : a.eval x = sv) (hown : OwnRules W base v l) (hsl : SlS RuleE W S sv ys) (hlen : l.length + ys.length ≤ 1099511627776) (hbase : base ≤ W.heap.size)
    (h : ∀ v' w', OwnRules w' base v' (l ++ ys) → W.grownBy w' v.ownBlock → Below base W w' → K (a.put o.dst v') w') :
    if Region.wanted o (yielded ops a.tmps) = true then Oper.wp Try.prog o a W K Q else E := by
  have hw : Region.wanted o (yielded ops a.tmps) = true := by simp [Region.wanted, hgd]
  rw [if_pos hw]
  obtain ⟨i0, hi0, hz0, hz1, hz2⟩ := info_parts Try.infoR
  obtain ⟨A, c, rfl, hc, hm, hrow⟩ := hsl
  have H : ∃ v' w', (Builtin.append_ #[29, 29] o.type #[v, .slice A ys.length c]).run Try.prog W = .ok v' w' ∧ OwnRules w' base v' (l ++ ys) ∧ W.grownBy w' v.ownBlock := by
    rcases A with _ | ad
    · have h0 : ys = [] := by
        rcases Nat.eq_zero_or_pos ys.length with h0 | h0
        · exact List.eq_nil_of_length_eq_zero h0
        · obtain ⟨b, o, h, _⟩ := hrow h0; cases h
      subst h0
      exact ⟨v, W, run_append_of_nil W base _ _ 138 i0 3 Try.underlying29 hi0 v _ _ hown c, by simpa using hown, World.grownBy.refl W _⟩
    · obtain ⟨v', w', hrun, h2, h3, _⟩ := run_append_own_at (P := Try.prog) W base 29 o.type 138 i0 _ 3 32 Try.underlying29 hi0 hz0 hz1 hz2 rfl (by decide) v _ _ hown ad ys.length c (ys.flatMap GRule.cells)
        (cells_len ys) (rules_cells hrow) (rules_one ys) (by simp only [maxLen]; omega) (by omega) hbase
      exact ⟨v', w', hrun, by unfold OwnRules; simpa using h2, h3⟩
  obtain ⟨v', w', hrun, h2, h3⟩ := H
  unfold Oper.wp execOp
  simp only [ho, resolve, invoke, builtin, Sem.run_bind, Sem.run_pure, Result.andThen_ok, List.map_toArray, List.map_cons, List.map_nil, hs, hx, hrun]
  exact h v' w' h2 h3 ((Below.refl base W).grown h3 hbase (fun k hk => (World.ownsRow.lt hown k hk).1))
def raiseR (n : Nat) (r : GRule) : GRule := if r.pair then { letter := r.letter, left := r.left + n, right := r.right + n } else r
def SmallP (rs : List GRule) : Prop := ∀ r ∈ rs, r.pair = true → -1099511627776 ≤ r.left ∧ r.left ≤ 1099511627776 ∧ -1099511627776 ≤ r.right ∧ r.right ≤ 1099511627776
def pairR (a b : Int) : GRule := { letter := ⟨#[]⟩, left := a, right := b }
def joinG (xs ys : List GRule) : List GRule :=
  if xs.length = 0 then ys else if ys.length = 0 then xs else xs ++ ys.map (raiseR xs.length) ++ [pairR ((xs.length : Int) - 1) ((xs.length : Int) + ys.length - 1)]
def GOwn (out : List GRule) (w : World) (e : Ending) (w' : World) : Prop :=
  Below w.heap.size w w' ∧ ∃ v', OwnRules w' w.heap.size v' out ∧ e = .returned (.agg #[v'])
def limOut (xs : List GRule) : List GRule := if gramOk xs then xs else []
def limCode (xs : List GRule) : Int := if gramOk xs then 0 else 3
def joinOut (xs ys : List GRule) : List GRule := if gramOk xs && gramOk ys then limOut (joinG xs ys) else []
def joinCode (xs ys : List GRule) : Int := if gramOk xs && gramOk ys then limCode (joinG xs ys) else 1
theorem lens_okRule {xs : List GRule} {ls : List Int} (h : lens xs = some ls) : ∀ (k : Nat) r, xs[k]? = some r → okRule k r = true := by
  intro k r hr
  rcases hk : lens (xs.take k) with _ | out
  · have h2 : lens xs = (xs.drop k).foldl lensStep (lens (xs.take k)) := by unfold lens; rw [← List.foldl_append, List.take_append_drop]
    rw [h2, hk, lens_none] at h; cases h
  · by_cases hok : okRule k r = true
    · exact hok
    · have hlen := lens_length hk
      rw [List.length_take, Nat.min_eq_left (Nat.le_of_lt (List.getElem?_eq_some_iff.1 hr).1)] at hlen
      have hb := lens_bad hk hr (lensStep_none (by rw [hlen]; simpa using hok))
      rw [hb] at h; cases h
theorem gram_lens {xs : List GRule} (h : gramOk xs = true) : xs.length ≤ 400 ∧ ∃ ls, lens xs = some ls := by
  simp only [gramOk, Bool.and_eq_true, decide_eq_true_eq] at h
  exact ⟨h.1, Option.isSome_iff_exists.1 h.2⟩
theorem gram_smallP {xs : List GRule} (h : gramOk xs = true) : SmallP xs := by
  obtain ⟨hl, ls, hls⟩ := gram_lens h
  intro r hr hp
  obtain ⟨k, hk, he⟩ := List.getElem_of_mem hr
  have hok := lens_okRule hls k r (by rw [List.getElem?_eq_getElem hk, he])
  simp [okRule, hp] at hok
  omega
def LimPost (base : Nat) (xs : List GRule) (w : World) (e : Ending) (w' : World) : Prop :=
  Below w.heap.size w w' ∧ ∃ v', OwnRules w' base v' (limOut xs) ∧ e = .returned (.tuple #[.agg #[v'], .int .i64 (limCode xs)])
def endS (next : List (List Int)) (xs : List GRule) (s : Nat) : Nat := if xs.length = 0 then s else stepM (mapsOf next xs) s (xs.length - 1)
theorem pieces_all {xs : List GRule} {ls : List Int} (hl : lens xs = some ls) : piecesL xs ls 0 (lastI ls) = if xs.length = 0 then [] else [xs.length - 1] := by
  have hll := lens_length hl
  unfold piecesL
  by_cases h0 : xs.length = 0
  · rw [if_neg (by omega), if_pos h0]
  · have hp := lens_pos' hl (r := xs.length - 1) (by omega)
    have e : lastI ls = ls.getD (xs.length - 1) 0 := by rw [lastI, hll]
    rw [if_pos ⟨by omega, by rw [e]; omega⟩, if_neg h0]
    obtain ⟨n, hn⟩ : ∃ n, xs.length = n + 1 := ⟨xs.length - 1, by omega⟩
    rw [hn, coverR]
    rw [hn] at e hp
    rw [if_neg (by rw [e]; omega), if_pos (by rw [e]; omega)]
theorem fold_all {next : List (List Int)} {xs : List GRule} {ls : List Int} (hl : lens xs = some ls) (s : Nat) : (piecesL xs ls 0 (lastI ls)).foldl (stepM (mapsOf next xs)) s = endS next xs s := by
  rw [pieces_all hl, endS]
  split <;> rfl
def Box7 (w : World) (b : Nat) (c0 c1 c2 c3 c4 c5 c6 : Value) : Prop := w.cell? ⟨b, 0, none⟩ = some c0 ∧ w.cell? ⟨b, 1, none⟩ = some c1 ∧ w.cell? ⟨b, 2, none⟩ = some c2 ∧ w.cell? ⟨b, 3, none⟩ = some c3 ∧ w.cell? ⟨b, 4, none⟩ = some c4 ∧ w.cell? ⟨b, 5, none⟩ = some c5 ∧ w.cell? ⟨b, 6, none⟩ = some c6
theorem Box7.up {w w' : World} {b N : Nat} {c0 c1 c2 c3 c4 c5 c6 : Value} (h : Box7 w b c0 c1 c2 c3 c4 c5 c6) (hb : Below N w w') (hlt : b < N) : Box7 w' b c0 c1 c2 c3 c4 c5 c6 := by
  obtain ⟨h0, h1, h2, h3, h4, h5, h6⟩ := h
  have k : ∀ {o : Nat} {v : Value}, w.cell? ⟨b, o, none⟩ = some v → w'.cell? ⟨b, o, none⟩ = some v := fun {o v} hc => (hb.cell (p := ⟨b, o, none⟩) hlt).trans hc
  exact ⟨k h0, k h1, k h2, k h3, k h4, k h5, k h6⟩
theorem Box7.new {w w' : World} {c0 c1 c2 c3 c4 c5 c6 : Value} {t : TypeId} (hb : Below (w.alloc (.cells #[c0, c1, c2, c3, c4, c5, c6] t)).heap.size (w.alloc (.cells #[c0, c1, c2, c3, c4, c5, c6] t)) w') : Box7 w' w.heap.size c0 c1 c2 c3 c4 c5 c6 :=
  Box7.up (w := w.alloc (.cells #[c0, c1, c2, c3, c4, c5, c6] t)) ⟨by simp [go_sem], by simp [go_sem], by simp [go_sem], by simp [go_sem], by simp [go_sem], by simp [go_sem], by simp [go_sem]⟩ hb (by simp)
theorem keep7D {N : Nat} {W : World} {p : Nat} {c0 c1 c2 c3 c4 c5 c6 : Value} (h : Box7 W p c0 c1 c2 c3 c4 c5 c6) :
    Below N W W.drew ∧ W.drew.cell? ⟨p, 0, none⟩ = some c0 ∧ W.drew.cell? ⟨p, 1, none⟩ = some c1 ∧ W.drew.cell? ⟨p, 2, none⟩ = some c2 ∧ W.drew.cell? ⟨p, 3, none⟩ = some c3 ∧ W.drew.cell? ⟨p, 4, none⟩ = some c4 ∧ W.drew.cell? ⟨p, 5, none⟩ = some c5 ∧ W.drew.cell? ⟨p, 6, none⟩ = some c6 :=
  ⟨(Below.refl _ _).drew, h.1, h.2.1, h.2.2.1, h.2.2.2.1, h.2.2.2.2.1, h.2.2.2.2.2.1, h.2.2.2.2.2.2⟩
theorem keep7 {N : Nat} {wr W W2 : World} {p : Nat} {c0 c1 c2 c3 c4 c5 c6 : Value}
    (h : Below N wr W ∧ W.cell? ⟨p, 0, none⟩ = some c0 ∧ W.cell? ⟨p, 1, none⟩ = some c1 ∧ W.cell? ⟨p, 2, none⟩ = some c2 ∧ W.cell? ⟨p, 3, none⟩ = some c3 ∧ W.cell? ⟨p, 4, none⟩ = some c4 ∧ W.cell? ⟨p, 5, none⟩ = some c5 ∧ W.cell? ⟨p, 6, none⟩ = some c6)
    (h2 : Below W.heap.size W W2) (hN : N ≤ wr.heap.size) (hp : p < N) :
    Below N wr W2 ∧ W2.cell? ⟨p, 0, none⟩ = some c0 ∧ W2.cell? ⟨p, 1, none⟩ = some c1 ∧ W2.cell? ⟨p, 2, none⟩ = some c2 ∧ W2.cell? ⟨p, 3, none⟩ = some c3 ∧ W2.cell? ⟨p, 4, none⟩ = some c4 ∧ W2.cell? ⟨p, 5, none⟩ = some c5 ∧ W2.cell? ⟨p, 6, none⟩ = some c6 := by
  obtain ⟨h1, hb⟩ := h
  have hs := h1.size
  have k := Box7.up hb h2 (by omega)
  exact ⟨h1.trans (h2.mono (by omega)), k⟩
def rgV (a : GAuto) (s : Int) (xs : List GRule) : Int := if autoOk a && gramOk xs && inR s 0 (a.states - 1) then endS a.next xs s.toNat else 0
def rgC (a : GAuto) (s : Int) (xs : List GRule) : Int := if autoOk a && gramOk xs then if inR s 0 (a.states - 1) then 0 else 2 else 1
set_option maxRecDepth 100000 in
set_option maxHeartbeats 2000000 in
theorem implRunGrammar_any (v vR : Value) (a : GAuto) (s : Int) (xs : List GRule) (w : World) (h : AutoV w w.heap.size v a) (hR : Sl RuleE w w.heap.size vR xs) (hn : xs.length ≤ 1099511627776) :
    Calls Try.prog 26 #[v, .int .i64 s, .agg #[vR]] w fun e w' => e = .returned (.tuple #[.int .i64 (rgV a s xs), .int .i64 (rgC a s xs)]) ∧ Below w.heap.size w w' := by
  have hB := fun o o' => ((Below.refl w.heap.size w).alloc (Nat.le_refl _) o).alloc (by simp) o'
  have HB := Lib.hid hB
  have HA := Lib.hid h
  have HR := Lib.hid hR
  clear hB
  obtain ⟨vF, vN, rfl, hF, hN⟩ := h
  obtain ⟨AF, cF, rfl, _⟩ := hF
  obtain ⟨AN, cN, rfl, _⟩ := hN
  obtain ⟨AR, cR, rfl, _⟩ := hR
  go_enter Try.func26, Try.ntmps26
  go_wp2_with fail
  refine (newRide_any _ _ a xs _ ((HA.out.below (HB.out _ _)).le (by first | omega | (simp; done) | (simp; omega))) ((HR.out.below (HB.out _ _)).le (by first | omega | (simp; done) | (simp; omega))) hn).mono ?_
  rintro e w1 ⟨hb1, hpost⟩
  have z1 : w.heap.size + 1 < w1.heap.size := Nat.lt_of_lt_of_le (by simp) hb1.size
  have A1 := Lib.hid (Box4.up (w := (w.alloc (Obj.cells #[.int .i64 a.states, .int .i64 a.start, .slice AF a.finals.length cF, .slice AN a.next.length cN] 45)).alloc (Obj.cells #[.slice AR xs.length cR] 31)) (b := w.heap.size) (c0 := .int .i64 a.states) (c1 := .int .i64 a.start) (c2 := .slice AF a.finals.length cF) (c3 := .slice AN a.next.length cN) ⟨by simp [go_sem], by simp [go_sem], by simp [go_sem], by simp [go_sem]⟩ hb1 (by simp; omega))
  have B1 := Lib.hid ((HB.out _ _).trans (hb1.mono (by simp; omega)))
  have HA1 := Lib.hid ((HA.out.below B1.out).le (B' := w1.heap.size) (by omega))
  clear hb1
  rcases hpost with ⟨ls, vr, hl, hg, ha, rfl, hr⟩ | ⟨hno, rfl⟩
  · have Hl := Lib.hid hl
    have Hg := Lib.hid hg
    have Ha := Lib.hid ha
    have Hr := Lib.hid hr
    obtain ⟨uF, uN, uR, uL, uM, rfl, k1, k2, k3, k4, k5⟩ := hr
    obtain ⟨B0, e0, rfl, _⟩ := k1
    obtain ⟨B1', e1, rfl, _⟩ := k2
    obtain ⟨B2', e2, rfl, _⟩ := k3
    obtain ⟨B3, e3, rfl, _⟩ := k4
    obtain ⟨B4, e4, rfl, _⟩ := k5
    obtain ⟨a0, a1, a2, a3⟩ := A1.out
    have z0 : w.heap.size < w1.heap.size := by omega
    clear hl hg ha
    go_wp2_with fail
    refine (isState_any _ a _ _ ((HA1.out.below ((Below.refl _ _).alloc (Nat.le_refl _) _)).le (by first | omega | (simp; done) | (simp; omega))) Ha.out).mono ?_
    rintro e w2 ⟨rfl, hb2⟩
    have R2 := Lib.hid (Box7.new hb2)
    have z2 : w1.heap.size < w2.heap.size := Nat.lt_of_lt_of_le (by simp) hb2.size
    have b12 := ((Below.refl w1.heap.size w1).alloc (Nat.le_refl _) _).trans (hb2.mono (by simp))
    have Hr2 := Lib.hid (Hr.out.up b12)
    have B2 := Lib.hid (B1.out.trans (b12.mono (by omega)))
    clear hb2 b12 a0 a1 a2 a3
    by_cases c3 : inR s 0 (a.states - 1) = true
    · have C3 := Lib.hid c3
      have g3 : (!inR s 0 (a.states - 1)) = false := by simp [c3]
      have hs0 : 0 ≤ s ∧ s ≤ a.states - 1 := by simpa [inR] using c3
      have hs1 : s.toNat < a.next.length := by have := (autoOk_get Ha.out).2.2.1; omega
      obtain ⟨t, rfl⟩ := Int.eq_ofNat_of_zero_le hs0.1
      rw [Int.toNat_natCast] at hs1
      clear c3 hs0
      obtain ⟨r0, r1, r2, r3, r4, r5, r6⟩ := R2.out
      have KB := R2.out
      have q1 : w2.heap.size ≤ w2.heap.size := Nat.le_refl _
      go_wp2_with fail
      go_region_held3 (fun w' => Below w2.heap.size w2 w' ∧ w'.cell? ⟨w1.heap.size, 0, none⟩ = some (.int .i64 a.states) ∧ w'.cell? ⟨w1.heap.size, 1, none⟩ = some (.int .i64 a.start) ∧ w'.cell? ⟨w1.heap.size, 2, none⟩ = some (.slice B0 a.finals.length e0) ∧ w'.cell? ⟨w1.heap.size, 3, none⟩ = some (.slice B1' a.next.length e1) ∧ w'.cell? ⟨w1.heap.size, 4, none⟩ = some (.slice B2' xs.length e2) ∧ w'.cell? ⟨w1.heap.size, 5, none⟩ = some (.slice B3 ls.length e3) ∧ w'.cell? ⟨w1.heap.size, 6, none⟩ = some (.slice B4 (mapsOf a.next xs).length e4))
        (first | (with_reducible exact keep7D KB) | (with_reducible exact keep7 (keep7D KB) hb3 q1 z2) | (with_reducible exact keep7 (keep7 (keep7D KB) hb3 q1 z2) hb4 q1 z2))
        (first
          | (go_at_call 70; refine (rideLength_any _ a xs ls _ (Hr2.out.up (Below.drew (Below.refl _ _)))).mono ?_; rintro e w3 ⟨rfl, hb3⟩)
          | (go_at_call 84; refine (after_any _ a xs ls t _ _ _ ((Hr2.out.up (Below.drew (Below.refl _ _))).up hb3) Ha.out Hl.out hn hs1).mono ?_; rintro e w4 ⟨rfl, hb4⟩))
      have B4 := Lib.hid (B2.out.trans (((Below.drew (Below.refl w2.heap.size w2)).trans (hb3.trans (hb4.mono hb3.size))).mono B2.out.size))
      clear hb3 hb4 KB r0 r1 r2 r3 r4 r5 r6
      go_wp2_with fail
      go_ret2
      exact ⟨by rw [fold_all Hl.out]; simp [rgV, rgC, Ha.out, Hg.out, C3.out], B4.out⟩
    · have c3' : inR s 0 (a.states - 1) = false := by simpa using c3
      have C3 := Lib.hid c3'
      have g3 : (!inR s 0 (a.states - 1)) = true := by simp [c3]
      clear c3 c3'
      go_wp2_with fail
      go_ret2
      exact ⟨by simp [rgV, rgC, Ha.out, Hg.out, C3.out], B2.out⟩
  · have Hno := Lib.hid hno
    clear hno
    go_wp2_with fail
    go_ret2
    exact ⟨by simp only [rgV, rgC, Hno.out]; simp, (by repeat (first | exact B1.out | (refine Below.alloc ?_ (by first | omega | (simp; done) | (simp; omega)) _) | refine below_drewN ?_ _ | refine Below.drew ?_))⟩
def wordR (xs : List GRule) : Nat → Nat → List UInt8
  | 0, _ => []
  | f + 1, r => if (getR xs r).pair then wordR xs f (getR xs r).left.toNat ++ wordR xs f (getR xs r).right.toNat else (getR xs r).letter.data.toList
def W1 (xs : List GRule) (r : Nat) : List UInt8 := wordR xs (r + 1) r
def wordG (xs : List GRule) : List UInt8 := if xs = [] then [] else W1 xs (xs.length - 1)
def cutL {α : Type} (l : List α) (i j : Int) : List α := (l.take j.toNat).drop i.toNat
theorem wordR_fuel {xs : List GRule} {ls : List Int} (h : lens xs = some ls) : ∀ (f r : Nat), r < f → r < xs.length → wordR xs f r = W1 xs r := by
  intro f
  induction f using Nat.strongRecOn with
  | _ f ih =>
    intro r hr hx
    obtain ⟨g, rfl⟩ : ∃ g, f = g + 1 := ⟨f - 1, by omega⟩
    unfold W1
    rw [wordR, wordR]
    cases hp : (getR xs r).pair with
    | false => rfl
    | true =>
      obtain ⟨q1, q2, q3, q4, q5⟩ := lens_pair h hx hp
      rw [if_pos rfl, if_pos rfl, ih g (by omega) _ (by omega) (by omega), ih g (by omega) _ (by omega) (by omega)]
      by_cases e : r = g
      · subst e
        rw [ih r (by omega) _ (by omega) (by omega), ih r (by omega) _ (by omega) (by omega)]
      · rw [ih r (by omega) _ q2 (by omega), ih r (by omega) _ q4 (by omega)]
theorem W1_pair {xs : List GRule} {ls : List Int} (h : lens xs = some ls) {r : Nat} (hx : r < xs.length) (hp : (getR xs r).pair = true) : W1 xs r = W1 xs (getR xs r).left.toNat ++ W1 xs (getR xs r).right.toNat := by
  obtain ⟨q1, q2, q3, q4, q5⟩ := lens_pair h hx hp
  rw [W1, wordR, if_pos hp, wordR_fuel h r _ q2 (by omega), wordR_fuel h r _ q4 (by omega)]
theorem W1_let {xs : List GRule} {r : Nat} (hp : (getR xs r).pair = false) : W1 xs r = (getR xs r).letter.data.toList := by
  rw [W1, wordR, if_neg (by simp [hp])]
theorem lens_isLet {xs : List GRule} {ls : List Int} (h : lens xs = some ls) {r : Nat} (hx : r < xs.length) (hp : (getR xs r).pair = false) : isLet (getR xs r).letter = true := by
  have h1 := (lens_steps h r _ (getR_at hx)).1
  unfold okRule at h1
  rw [if_neg (by simp [hp])] at h1
  simp at h1; exact h1.1.1
theorem isLet_size {s : ByteArray} (h : isLet s = true) : s.size = 1 := by unfold isLet at h; simp at h; exact h.1.1
theorem W1_len {xs : List GRule} {ls : List Int} (h : lens xs = some ls) : ∀ (r : Nat), r < xs.length → ((W1 xs r).length : Int) = ls.getD r 0 := by
  intro r
  induction r using Nat.strongRecOn with
  | _ r ih =>
    intro hx
    cases hp : (getR xs r).pair with
    | false =>
      rw [W1_let hp, lens_letter h hx hp]
      have := isLet_size (lens_isLet h hx hp)
      show (((getR xs r).letter.data.toList.length : Nat) : Int) = 1
      rw [Array.length_toList]
      exact congrArg _ this
    | true =>
      obtain ⟨q1, q2, q3, q4, q5⟩ := lens_pair h hx hp
      rw [W1_pair h hx hp, List.length_append, q5, ← ih _ q2 (by omega), ← ih _ q4 (by omega)]
      omega
theorem cutL_append {α : Type} (a b : List α) (i j : Int) : cutL (a ++ b) i j = cutL a i j ++ cutL b (i - a.length) (j - a.length) := by
  unfold cutL
  rw [List.take_append, List.drop_append]
  have e1 : (j - (a.length : Int)).toNat = j.toNat - a.length := by omega
  have e2 : (i - (a.length : Int)).toNat = i.toNat - a.length := by omega
  rw [e1, e2, List.length_take]
  congr 1
  by_cases hj : j.toNat ≤ a.length
  · have : List.take (j.toNat - a.length) b = [] := by rw [show j.toNat - a.length = 0 by omega]; rfl
    rw [this]; simp
  · rw [show min j.toNat a.length = a.length by omega]
theorem cutL_nil {α : Type} {l : List α} {i j : Int} (h : (l.length : Int) ≤ i ∨ j ≤ 0 ∨ j ≤ i) : cutL l i j = [] := by
  unfold cutL
  apply List.drop_eq_nil_of_le
  rw [List.length_take]; omega
theorem cutL_all {α : Type} {l : List α} {i j : Int} (hi : i ≤ 0) (hj : (l.length : Int) ≤ j) : cutL l i j = l := by
  unfold cutL
  rw [show i.toNat = 0 by omega, List.drop_zero, List.take_of_length_le (by omega)]
theorem cutL_len {α : Type} {l : List α} {i j : Int} (hi : 0 ≤ i) (hij : i ≤ j) (hj : j ≤ l.length) : ((cutL l i j).length : Int) = j - i := by
  unfold cutL
  rw [List.length_drop, List.length_take]; omega
theorem cover_word {xs : List GRule} {ls : List Int} (h : lens xs = some ls) {i j : Int} : ∀ (f r : Nat) (p : Int), r < f → r < xs.length →
    (coverR xs ls i j f r p).flatMap (W1 xs) = cutL (W1 xs r) (i - p) (j - p) := by
  intro f
  induction f with
  | zero => intro r p hr; omega
  | succ f ih =>
    intro r p hr hx
    have hw := W1_len h r hx
    have h1 := lens_pos' h hx
    rw [coverR]
    split
    · rename_i c; rw [cutL_nil (by omega)]; rfl
    split
    · rename_i c; rw [cutL_all (by omega) (by omega)]; simp
    rename_i c1 c2
    cases hp : (getR xs r).pair with
    | false => have := lens_letter h hx hp; omega
    | true =>
      obtain ⟨q1, q2, q3, q4, q5⟩ := lens_pair h hx hp
      rw [List.flatMap_append, ih _ _ (by omega) (by omega), ih _ _ (by omega) (by omega), W1_pair h hx hp, cutL_append, W1_len h _ (by omega)]
      congr 2 <;> omega
theorem wordG_pos {xs : List GRule} (h : 0 < xs.length) : wordG xs = W1 xs (xs.length - 1) := by
  rw [wordG, if_neg (by intro e; subst e; simp at h)]
theorem lastI_at {xs : List GRule} {ls : List Int} (h : lens xs = some ls) (_h0 : 0 < xs.length) : lastI ls = ls.getD (xs.length - 1) 0 := by
  rw [lastI, lens_length h]
theorem wordG_len {xs : List GRule} {ls : List Int} (h : lens xs = some ls) : ((wordG xs).length : Int) = lastI ls := by
  by_cases h0 : 0 < xs.length
  · rw [wordG_pos h0, W1_len h _ (by omega), lastI_at h h0]
  · have hx : xs = [] := List.eq_nil_of_length_eq_zero (by omega)
    subst hx
    have : ls = [] := List.eq_nil_of_length_eq_zero (by rw [lens_length h]; rfl)
    subst this; rfl
theorem pieces_word {xs : List GRule} {ls : List Int} (h : lens xs = some ls) {i j : Int} : (piecesL xs ls i j).flatMap (W1 xs) = cutL (wordG xs) i j := by
  unfold piecesL
  split
  · rename_i c
    rw [cover_word h _ _ _ (by omega) (by omega), wordG_pos c.1, Int.sub_zero, Int.sub_zero]
  · rename_i c
    by_cases h0 : 0 < xs.length
    · rw [cutL_nil (by omega)]; rfl
    · have hx : xs = [] := List.eq_nil_of_length_eq_zero (by omega)
      subst hx
      simp [wordG, cutL]
def visV (next : List (List Int)) (x : Nat) : Nat → List UInt8 → Nat
  | _, [] => 0
  | s, c :: w => (if stepW next s (c.toNat - 97) = x then 1 else 0) + visV next x (stepW next s (c.toNat - 97)) w
theorem readW_app (next : List (List Int)) (s : Nat) (u v : List UInt8) : readW next s (u ++ v) = readW next (readW next s u) v := by simp [readW, List.foldl_append]
theorem visV_app (next : List (List Int)) (x : Nat) : ∀ (u v : List UInt8) (s : Nat), visV next x s (u ++ v) = visV next x s u + visV next x (readW next s u) v := by
  intro u
  induction u with
  | nil => intro v s; simp [visV, readW]
  | cons c u ih =>
    intro v s
    rw [List.cons_append, visV, visV, ih v]
    have : readW next s (c :: u) = readW next (stepW next s (c.toNat - 97)) u := rfl
    rw [this]; omega
def dotR (F : Nat → Nat) : Nat → List Nat → Nat
  | _, [] => 0
  | k, n :: l => n * F k + dotR F (k + 1) l
def addR (l : List Nat) (s n : Nat) : List Nat := l.set s (l.getD s 0 + n)
theorem addR_len (l : List Nat) (s n : Nat) : (addR l s n).length = l.length := by simp [addR]
theorem dotR_add (F : Nat → Nat) : ∀ (l : List Nat) (k s n : Nat), s < l.length → dotR F k (addR l s n) = dotR F k l + n * F (k + s) := by
  intro l
  induction l with
  | nil => intro k s n h; exact absurd h (by simp)
  | cons m l ih =>
    intro k s n h
    match s with
    | 0 => simp only [addR, List.set_cons_zero, List.getD_cons_zero, dotR, Nat.add_mul, Nat.add_zero]; omega
    | s + 1 =>
      have e : addR (m :: l) (s + 1) n = m :: addR l s n := by simp [addR]
      rw [e, dotR, dotR, ih (k + 1) s n (by simpa using h), show k + 1 + s = k + (s + 1) by omega]; omega
theorem dotR_drop (F : Nat → Nat) : ∀ (l : List Nat) (k s : Nat), s < l.length → dotR F (k + s) (l.drop s) = l.getD s 0 * F (k + s) + dotR F (k + s + 1) (l.drop (s + 1)) := by
  intro l
  induction l with
  | nil => intro k s h; exact absurd h (by simp)
  | cons m l ih =>
    intro k s h
    match s with
    | 0 => simp [dotR]
    | s + 1 =>
      have := ih (k + 1) s (by simpa using h)
      simp only [List.drop_succ_cons, List.getD_cons_succ]
      rw [show k + (s + 1) = k + 1 + s by omega]; exact this
theorem dotR_zero (F : Nat → Nat) : ∀ (n k : Nat), dotR F k (List.replicate n 0) = 0 := by
  intro n
  induction n with
  | zero => intro k; rfl
  | succ n ih => intro k; rw [List.replicate_succ, dotR, ih]; omega
theorem dotR_le (F : Nat → Nat) : ∀ (l : List Nat) (k s : Nat), s < l.length → l.getD s 0 * F (k + s) ≤ dotR F k l := by
  intro l
  induction l with
  | nil => intro k s h; exact absurd h (by simp)
  | cons m l ih =>
    intro k s h
    match s with
    | 0 => simp [dotR]
    | s + 1 =>
      have := ih (k + 1) s (by simpa using h)
      rw [show k + (s + 1) = k + 1 + s by omega, List.getD_cons_succ, dotR]; omega
def dotM (F : Nat → Nat → Nat) (M : List (List Nat)) : Nat → Nat
  | 0 => 0
  | k + 1 => dotM F M k + dotR (F k) 0 (M.getD k [])
def addM (M : List (List Nat)) (r s n : Nat) : List (List Nat) := M.set r (addR (M.getD r []) s n)
theorem addM_len (M : List (List Nat)) (r s n : Nat) : (addM M r s n).length = M.length := by simp [addM]
theorem addM_get (M : List (List Nat)) (r s n k : Nat) (hr : r < M.length) : (addM M r s n).getD k [] = if k = r then addR (M.getD r []) s n else M.getD k [] := by
  unfold addM
  by_cases e : k = r
  · subst e; rw [if_pos rfl, List.getD_eq_getElem?_getD, List.getElem?_set_self hr]; rfl
  · rw [if_neg e, List.getD_eq_getElem?_getD, List.getElem?_set_ne (by omega), List.getD_eq_getElem?_getD]
def RowsN (n : Nat) (M : List (List Nat)) : Prop := ∀ t, t < M.length → (M.getD t []).length = n
theorem RowsN.add {n : Nat} {M : List (List Nat)} (h : RowsN n M) (r s m : Nat) (hr : r < M.length) : RowsN n (addM M r s m) := by
  intro t ht
  rw [addM_len] at ht
  rw [addM_get M r s m t hr]
  split
  · rw [addR_len]; exact h r hr
  · exact h t ht
theorem dotM_add (F : Nat → Nat → Nat) (M : List (List Nat)) (r s n : Nat) (hr : r < M.length) (hs : s < (M.getD r []).length) : ∀ k, dotM F (addM M r s n) k = dotM F M k + if r < k then n * F r s else 0 := by
  intro k
  induction k with
  | zero => simp [dotM]
  | succ k ih =>
    rw [dotM, dotM, ih, addM_get M r s n k hr]
    by_cases e : k = r
    · subst e
      rw [if_pos rfl, dotR_add _ _ _ _ _ hs, if_neg (by omega), if_pos (by omega), Nat.zero_add]; omega
    · rw [if_neg e]
      by_cases h2 : r < k
      · rw [if_pos h2, if_pos (by omega)]; omega
      · rw [if_neg h2, if_neg (by omega)]; omega
theorem dotM_le (F : Nat → Nat → Nat) (M : List (List Nat)) {r s : Nat} (hs : s < (M.getD r []).length) : ∀ k, r < k → (M.getD r []).getD s 0 * F r s ≤ dotM F M k := by
  intro k
  induction k with
  | zero => intro h; exact absurd h (by omega)
  | succ k ih =>
    intro h
    rw [dotM]
    by_cases e : r = k
    · subst e
      have := dotR_le (F r) (M.getD r []) 0 s hs
      rw [Nat.zero_add] at this; omega
    · have := ih (by omega); omega
def visStep (xs : List GRule) (maps : List (List Int)) (i : Nat) (st : List (List Nat) × List Nat) (s : Nat) : List (List Nat) × List Nat :=
  if (getR xs i).pair then
    (addM (addM st.1 (getR xs i).left.toNat s ((st.1.getD i []).getD s 0)) (getR xs i).right.toNat (stepM maps s (getR xs i).left.toNat) ((st.1.getD i []).getD s 0), st.2)
  else (st.1, addR st.2 (stepM maps s i) ((st.1.getD i []).getD s 0))
def visRow (xs : List GRule) (maps : List (List Int)) (i : Nat) (st : List (List Nat) × List Nat) : Nat → List (List Nat) × List Nat
  | 0 => st
  | s + 1 => visStep xs maps i (visRow xs maps i st s) s
def visAll (xs : List GRule) (maps : List (List Int)) (S : Nat) : Nat → List (List Nat) × List Nat → List (List Nat) × List Nat
  | 0, st => st
  | k + 1, st => visAll xs maps S k (visRow xs maps k st S)
def pot (F : Nat → Nat → Nat) (G : Nat → Nat) (st : List (List Nat) × List Nat) (k : Nat) : Nat := dotM F st.1 k + dotR G 0 st.2
structure Wts (xs : List GRule) (maps : List (List Int)) (S : Nat) (F : Nat → Nat → Nat) (G : Nat → Nat) : Prop where
  two : ∀ r s, r < xs.length → s < S → (getR xs r).pair = true → F r s = F (getR xs r).left.toNat s + F (getR xs r).right.toNat (stepM maps s (getR xs r).left.toNat)
  one : ∀ r s, r < xs.length → s < S → (getR xs r).pair = false → F r s = G (stepM maps s r)
structure VisS (xs : List GRule) (S : Nat) (st : List (List Nat) × List Nat) : Prop where
  len : st.1.length = xs.length
  rows : RowsN S st.1
  out : st.2.length = S
theorem VisS.step {xs : List GRule} {ls : List Int} {maps : List (List Int)} {S : Nat} {st : List (List Nat) × List Nat} (hl : lens xs = some ls) (h : VisS xs S st) {i s : Nat} (hi : i < xs.length) : VisS xs S (visStep xs maps i st s) := by
  unfold visStep
  cases hp : (getR xs i).pair with
  | true =>
    obtain ⟨q1, q2, q3, q4, _⟩ := lens_pair hl hi hp
    rw [if_pos rfl]
    exact ⟨by simp only [addM_len]; exact h.len, (h.rows.add _ _ _ (by rw [h.len]; omega)).add _ _ _ (by rw [addM_len, h.len]; omega), h.out⟩
  | false => rw [if_neg (by simp)]; exact ⟨h.len, h.rows, by rw [addR_len]; exact h.out⟩
theorem VisS.row {xs : List GRule} {ls : List Int} {maps : List (List Int)} {S : Nat} {st : List (List Nat) × List Nat} (hl : lens xs = some ls) (h : VisS xs S st) {i : Nat} (hi : i < xs.length) : ∀ s, VisS xs S (visRow xs maps i st s) := by
  intro s
  induction s with
  | zero => exact h
  | succ s ih => exact ih.step hl hi
theorem visRow_get {xs : List GRule} {ls : List Int} {maps : List (List Int)} {S : Nat} {st : List (List Nat) × List Nat} (hl : lens xs = some ls) (h : VisS xs S st) {i : Nat} (hi : i < xs.length) : ∀ s, (visRow xs maps i st s).1.getD i [] = st.1.getD i [] := by
  intro s
  induction s with
  | zero => rfl
  | succ s ih =>
    have hv := h.row (maps := maps) hl hi s
    rw [visRow]
    unfold visStep
    cases hp : (getR xs i).pair with
    | true =>
      obtain ⟨q1, q2, q3, q4, _⟩ := lens_pair hl hi hp
      rw [if_pos rfl]
      show (addM _ _ _ _).getD i [] = _
      rw [addM_get _ _ _ _ _ (by rw [addM_len, hv.len]; omega), if_neg (by omega), addM_get _ _ _ _ _ (by rw [hv.len]; omega), if_neg (by omega), ih]
    | false => rw [if_neg (by simp)]; exact ih
theorem visRow_pot {xs : List GRule} {ls : List Int} {maps : List (List Int)} {S : Nat} {st : List (List Nat) × List Nat} {F : Nat → Nat → Nat} {G : Nat → Nat} (hl : lens xs = some ls) (h : VisS xs S st) (hW : Wts xs maps S F G) (hok : RowsOk S maps) (hm : maps.length = xs.length)
    {i : Nat} (hi : i < xs.length) : ∀ s, s ≤ S → pot F G (visRow xs maps i st s) i + dotR (F i) s ((st.1.getD i []).drop s) = pot F G st (i + 1) := by
  have hrow : (st.1.getD i []).length = S := h.rows i (by rw [h.len]; exact hi)
  intro s
  induction s with
  | zero => intro _; simp only [visRow, pot, dotM, List.drop_zero]; omega
  | succ s ih =>
    intro hs
    have e1 := ih (by omega)
    have e2 := dotR_drop (F i) (st.1.getD i []) 0 s (by omega)
    rw [Nat.zero_add] at e2
    have hv := h.row (maps := maps) hl hi s
    have hg := visRow_get (maps := maps) hl h hi s
    have hst : ∀ r, r < xs.length → stepM maps s r < S := fun r hr => by
      have := (hok r (by omega)).2 s (by omega)
      unfold stepM; omega
    rw [← e1, e2, visRow]
    generalize visRow xs maps i st s = sv at hv hg ⊢
    unfold visStep
    cases hp : (getR xs i).pair with
    | true =>
      obtain ⟨q1, q2, q3, q4, _⟩ := lens_pair hl hi hp
      rw [if_pos rfl, hW.two i s hi (by omega) hp]
      unfold pot
      simp only []
      rw [dotM_add _ _ _ _ _ (by rw [addM_len, hv.len]; omega) (by rw [(hv.rows.add _ _ _ (by rw [hv.len]; omega)) _ (by rw [addM_len, hv.len]; omega)]; exact hst _ (by omega)), if_pos (by omega),
        dotM_add _ _ _ _ _ (by rw [hv.len]; omega) (by rw [hv.rows _ (by rw [hv.len]; omega)]; omega), if_pos (by omega), hg, Nat.mul_add]
      omega
    | false =>
      rw [if_neg (by simp), hW.one i s hi (by omega) hp]
      unfold pot
      simp only []
      rw [dotR_add _ _ _ _ _ (by rw [hv.out]; exact hst i hi), hg, Nat.zero_add]
      omega
theorem visAll_pot {xs : List GRule} {ls : List Int} {maps : List (List Int)} {S : Nat} {F : Nat → Nat → Nat} {G : Nat → Nat} (hl : lens xs = some ls) (hW : Wts xs maps S F G) (hok : RowsOk S maps) (hm : maps.length = xs.length) :
    ∀ (k : Nat) (st : List (List Nat) × List Nat), k ≤ xs.length → VisS xs S st → dotR G 0 (visAll xs maps S k st).2 = pot F G st k ∧ VisS xs S (visAll xs maps S k st) := by
  intro k
  induction k with
  | zero => intro st _ h; exact ⟨by simp [visAll, pot, dotM], h⟩
  | succ k ih =>
    intro st hk h
    have hr := h.row (maps := maps) hl (i := k) (by omega) S
    have e := visRow_pot hl h hW hok hm (i := k) (by omega) S (Nat.le_refl _)
    have hrow : (st.1.getD k []).length = S := h.rows k (by rw [h.len]; omega)
    rw [List.drop_of_length_le (by omega), dotR, Nat.add_zero] at e
    obtain ⟨g1, g2⟩ := ih _ (by omega) hr
    exact ⟨by rw [visAll, g1, e], by rw [visAll]; exact g2⟩
theorem mapsOf_take {next : List (List Int)} {xs : List GRule} {r : Nat} : ∀ k, r < k → k ≤ xs.length → (mapsOf next (xs.take k)).getD r [] = mapRow next (mapsOf next (xs.take r)) (getR xs r) := by
  intro k
  induction k with
  | zero => intro h; exact absurd h (by omega)
  | succ k ih =>
    intro h hk
    have hlen : (mapsOf next (xs.take k)).length = k := by rw [mapsOf_len, List.length_take]; omega
    rw [mapsOf_snoc (getR_at (xs := xs) (r := k) (by omega))]
    by_cases e : r = k
    · subst e
      rw [List.getD_eq_getElem?_getD, List.getElem?_append_right (by omega), hlen, Nat.sub_self]; rfl
    · rw [List.getD_eq_getElem?_getD, List.getElem?_append_left (by omega), ← List.getD_eq_getElem?_getD, ih (by omega) (by omega)]
theorem stepM_word {a : GAuto} (ha : autoOk a = true) {xs : List GRule} {ls : List Int} (hl : lens xs = some ls) : ∀ (r s : Nat), r < xs.length → s < a.next.length → stepM (mapsOf a.next xs) s r = readW a.next s (W1 xs r) := by
  intro r
  induction r using Nat.strongRecOn with
  | _ r ih =>
    intro s hr hs
    have e := mapsOf_take (next := a.next) (xs := xs) (r := r) xs.length hr (Nat.le_refl _)
    rw [List.take_length] at e
    have e0 : stepM (mapsOf a.next xs) s r = (mapCell a.next (mapsOf a.next (xs.take r)) (getR xs r) s).toNat := by
      unfold stepM; rw [e, mapRow_get _ _ _ hs]
    rw [e0]
    unfold mapCell
    cases hp : (getR xs r).pair with
    | true =>
      obtain ⟨q1, q2, q3, q4, _⟩ := lens_pair hl hr hp
      have f : ∀ t, t < r → (mapsOf a.next (xs.take r)).getD t [] = (mapsOf a.next xs).getD t [] := fun t ht => by
        rw [mapsOf_take r ht (by omega)]
        have := mapsOf_take (next := a.next) (xs := xs) (r := t) xs.length (by omega) (Nat.le_refl _)
        rw [List.take_length] at this; rw [this]
      rw [if_pos rfl, f _ (by omega), f _ (by omega), W1_pair hl hr hp, readW_app]
      have h1 := ih (getR xs r).left.toNat (by omega) s (by omega) hs
      have hok := mapsOf_ok ha hl xs.length (Nat.le_refl _)
      rw [List.take_length] at hok
      have hb := (hok (getR xs r).left.toNat (by rw [mapsOf_len]; omega)).2 s hs
      have h2 := ih (getR xs r).right.toNat (by omega) (((mapsOf a.next xs).getD (getR xs r).left.toNat []).getD s 0).toNat (by omega) (by omega)
      unfold stepM at h1 h2
      rw [h2, h1]
    | false =>
      rw [if_neg (by simp), W1_let hp]
      have hsz := isLet_size (lens_isLet hl hr hp)
      have hL : (getR xs r).letter.data.toList.length = 1 := by rw [Array.length_toList]; exact hsz
      have hx : (getR xs r).letter.data.getD 0 0 = (getR xs r).letter.data.toList.getD 0 0 := by
        rw [Array.getD_eq_getD_getElem?, List.getD_eq_getElem?_getD, Array.getElem?_toList]
      rw [hx]
      generalize (getR xs r).letter.data.toList = L at hL ⊢
      match L, hL with
      | [c], _ => rfl
theorem fold_word {a : GAuto} (ha : autoOk a = true) {xs : List GRule} {ls : List Int} (hl : lens xs = some ls) : ∀ (L : List Nat) (s : Nat), (∀ r ∈ L, r < xs.length) → s < a.next.length → L.foldl (stepM (mapsOf a.next xs)) s = readW a.next s (L.flatMap (W1 xs)) := by
  have hok := mapsOf_ok ha hl xs.length (Nat.le_refl _)
  rw [List.take_length] at hok
  intro L
  induction L with
  | nil => intro s _ _; rfl
  | cons r L ih =>
    intro s h hs
    have hr := h r (by simp)
    have hst : stepM (mapsOf a.next xs) s r < a.next.length := by
      have := (hok r (by rw [mapsOf_len]; exact hr)).2 s hs
      unfold stepM; omega
    rw [List.foldl_cons, ih _ (fun x hx => h x (by simp [hx])) hst, List.flatMap_cons, readW_app, stepM_word ha hl r s hr hs]
def visPut (maps : List (List Int)) : List Nat → List (List Nat) → Nat → List (List Nat)
  | [], M, _ => M
  | r :: L, M, s => visPut maps L (addM M r s 1) (stepM maps s r)
theorem visPut_pot {xs : List GRule} {maps : List (List Int)} {S : Nat} (F : Nat → Nat → Nat) (hok : RowsOk S maps) (hm : maps.length = xs.length) :
    ∀ (L : List Nat) (M : List (List Nat)) (s : Nat), (∀ r ∈ L, r < xs.length) → M.length = xs.length → RowsN S M → s < S →
      RowsN S (visPut maps L M s) ∧ (visPut maps L M s).length = xs.length ∧
      ∃ t, dotM F (visPut maps L M s) xs.length = dotM F M xs.length + t ∧ ∀ (f : Nat → List Nat → Nat), (∀ s, f s [] = 0) → (∀ s r L, r < xs.length → s < S → f s (r :: L) = F r s + f (stepM maps s r) L) → t = f s L := by
  intro L
  induction L with
  | nil => intro M s _ hM hR _; exact ⟨hR, hM, 0, rfl, fun f h0 _ => (h0 s).symm⟩
  | cons r L ih =>
    intro M s h hM hR hs
    have hr := h r (by simp)
    have hst : stepM maps s r < S := by
      have := (hok r (by omega)).2 s hs
      unfold stepM; omega
    obtain ⟨g1, g2, t, g3, g4⟩ := ih (addM M r s 1) (stepM maps s r) (fun x hx => h x (by simp [hx])) (by rw [addM_len]; exact hM) (hR.add _ _ _ (by omega)) hst
    refine ⟨g1, g2, F r s + t, ?_, fun f h0 h1 => by rw [h1 s r L hr hs, g4 f h0 h1]⟩
    rw [visPut, g3, dotM_add F M r s 1 (by omega) (by rw [hR r (by omega)]; exact hs), if_pos hr]; omega
theorem dotM_zero (F : Nat → Nat → Nat) (m S : Nat) : ∀ k, k ≤ m → dotM F (List.replicate m (List.replicate S 0)) k = 0 := by
  intro k
  induction k with
  | zero => intro _; rfl
  | succ k ih =>
    intro h
    have e : (List.replicate m (List.replicate S 0)).getD k [] = List.replicate S 0 := by
      rw [List.getD_eq_getElem?_getD, List.getElem?_replicate_of_lt (by omega)]; rfl
    rw [dotM, ih (by omega), e, dotR_zero]
theorem dotR_ind (x : Nat) : ∀ (l : List Nat) (k : Nat), dotR (fun y => if y = x then 1 else 0) k l = if k ≤ x then l.getD (x - k) 0 else 0 := by
  intro l
  induction l with
  | nil => intro k; simp [dotR]
  | cons m l ih =>
    intro k
    rw [dotR, ih]
    by_cases e : k = x
    · subst e; simp; omega
    · rw [if_neg e]
      by_cases h : k ≤ x
      · rw [if_pos h, if_pos (by omega), show x - k = (x - (k + 1)) + 1 by omega, List.getD_cons_succ]; omega
      · rw [if_neg h, if_neg (by omega)]; omega
theorem wts_vis {a : GAuto} (ha : autoOk a = true) {xs : List GRule} {ls : List Int} (hl : lens xs = some ls) (x : Nat) :
    Wts xs (mapsOf a.next xs) a.next.length (fun r s => visV a.next x s (W1 xs r)) (fun y => if y = x then 1 else 0) := by
  refine ⟨fun r s hr hs hp => ?_, fun r s hr hs hp => ?_⟩
  · obtain ⟨q1, q2, q3, q4, _⟩ := lens_pair hl hr hp
    show visV a.next x s (W1 xs r) = _
    rw [W1_pair hl hr hp, visV_app, stepM_word ha hl _ s (by omega) hs]
  · show visV a.next x s (W1 xs r) = _
    rw [stepM_word ha hl r s hr hs, W1_let hp]
    have hsz := isLet_size (lens_isLet hl hr hp)
    have hL : (getR xs r).letter.data.toList.length = 1 := by rw [Array.length_toList]; exact hsz
    generalize (getR xs r).letter.data.toList = L at hL ⊢
    match L, hL with
    | [c], _ =>
      by_cases g : stepW a.next s (c.toNat - 97) = x
      · simp [visV, readW, g]
      · simp [visV, readW, g]
theorem wts_len {a : GAuto} {xs : List GRule} {ls : List Int} (hl : lens xs = some ls) :
    Wts xs (mapsOf a.next xs) a.next.length (fun r _ => (W1 xs r).length) (fun _ => 1) := by
  refine ⟨fun r s hr hs hp => ?_, fun r s hr hs hp => ?_⟩
  · show (W1 xs r).length = _
    rw [W1_pair hl hr hp, List.length_append]
  · show (W1 xs r).length = _
    rw [W1_let hp, Array.length_toList]; exact isLet_size (lens_isLet hl hr hp)
def visOut (a : GAuto) (xs : List GRule) (ls : List Int) (j : Int) : List Nat :=
  (visAll xs (mapsOf a.next xs) a.next.length xs.length (visPut (mapsOf a.next xs) (piecesL xs ls 0 j) (List.replicate xs.length (List.replicate a.next.length 0)) a.start.toNat, List.replicate a.next.length 0)).2
theorem visOut_word {a : GAuto} (ha : autoOk a = true) (h0 : a.start.toNat < a.next.length) {xs : List GRule} {ls : List Int} (hl : lens xs = some ls) {j : Int} (hp : ∀ r ∈ piecesL xs ls 0 j, r < xs.length) :
    (visOut a xs ls j).length = a.next.length ∧ ∀ x, (visOut a xs ls j).getD x 0 = visV a.next x a.start.toNat (cutL (wordG xs) 0 j) := by
  have hok := mapsOf_ok ha hl xs.length (Nat.le_refl _)
  rw [List.take_length] at hok
  have hm := mapsOf_len a.next xs
  have hR : RowsN a.next.length (List.replicate xs.length (List.replicate a.next.length 0)) := fun t ht => by
    rw [List.length_replicate] at ht
    rw [List.getD_eq_getElem?_getD, List.getElem?_replicate_of_lt ht]; simp
  have key : ∀ x, VisS xs a.next.length (visAll xs (mapsOf a.next xs) a.next.length xs.length (visPut (mapsOf a.next xs) (piecesL xs ls 0 j) (List.replicate xs.length (List.replicate a.next.length 0)) a.start.toNat, List.replicate a.next.length 0)) ∧
      (visOut a xs ls j).getD x 0 = visV a.next x a.start.toNat (cutL (wordG xs) 0 j) := by
    intro x
    obtain ⟨g1, g2, t, g3, g4⟩ := visPut_pot (xs := xs) (fun r s => visV a.next x s (W1 xs r)) hok hm (piecesL xs ls 0 j) (List.replicate xs.length (List.replicate a.next.length 0)) a.start.toNat hp (by simp) hR h0
    obtain ⟨k1, k2⟩ := visAll_pot hl (wts_vis ha hl x) hok hm xs.length (visPut (mapsOf a.next xs) (piecesL xs ls 0 j) (List.replicate xs.length (List.replicate a.next.length 0)) a.start.toNat, List.replicate a.next.length 0) (Nat.le_refl _) ⟨g2, g1, by simp⟩
    refine ⟨k2, ?_⟩
    rw [dotR_ind, if_pos (Nat.zero_le _), Nat.sub_zero] at k1
    unfold visOut
    rw [k1]
    unfold pot
    simp only []
    rw [g3, dotM_zero _ _ _ _ (Nat.le_refl _), dotR_zero, g4 (fun s L => visV a.next x s (L.flatMap (W1 xs))) (fun s => rfl) (fun s r L hr hs => by
      show visV a.next x s ((r :: L).flatMap (W1 xs)) = _
      rw [List.flatMap_cons, visV_app, stepM_word ha hl r s hr hs]), pieces_word hl]
    omega
  exact ⟨(key 0).1.out, fun x => (key x).2⟩
theorem vis_bound {a : GAuto} {xs : List GRule} {ls : List Int} (hl : lens xs = some ls) {st : List (List Nat) × List Nat} (hS : VisS xs a.next.length st) {k s r : Nat} (hk : k ≤ xs.length) (hr : r < k) (hs : s < a.next.length) :
    (st.1.getD r []).getD s 0 ≤ pot (fun r _ => (W1 xs r).length) (fun _ => 1) st k := by
  have h1 := dotM_le (fun r _ => (W1 xs r).length) st.1 (r := r) (s := s) (by rw [hS.rows r (by rw [hS.len]; omega)]; exact hs) k hr
  have h2 : 1 ≤ (W1 xs r).length := by
    have e1 := W1_len hl r (by omega)
    have e2 := (lens_pos' hl (r := r) (by omega)).1
    omega
  have h3 : (st.1.getD r []).getD s 0 * 1 ≤ (st.1.getD r []).getD s 0 * (W1 xs r).length := Nat.mul_le_mul (Nat.le_refl _) h2
  unfold pot; omega
theorem vis_sum (next : List (List Int)) (n : Nat) : ∀ (w : List UInt8) (s : Nat), (∀ c ∈ w, ∀ s, s < n → stepW next s (c.toNat - 97) < n) → s < n → ((List.range n).map (fun x => visV next x s w)).sum = w.length := by
  intro w
  induction w with
  | nil =>
    intro s _ _
    suffices H : ∀ m, ((List.range m).map (fun x => visV next x s [])).sum = 0 from H n
    intro m
    induction m with
    | zero => rfl
    | succ m im => rw [List.range_succ, List.map_append, List.sum_append, im]; rfl
  | cons c w ih =>
    intro s h hs
    have hst := h c (by simp) s hs
    have e := ih _ (fun c' hc => h c' (by simp [hc])) hst
    have e2 : ∀ m, ((List.range m).map (fun x => visV next x s (c :: w))).sum = (if stepW next s (c.toNat - 97) < m then 1 else 0) + ((List.range m).map (fun x => visV next x (stepW next s (c.toNat - 97)) w)).sum := by
      intro m
      induction m with
      | zero => simp
      | succ m im =>
        rw [List.range_succ, List.map_append, List.sum_append, im, List.map_append, List.sum_append]
        simp only [List.map_cons, List.map_nil, List.sum_cons, List.sum_nil, visV]
        by_cases g : stepW next s (c.toNat - 97) = m
        · rw [if_pos g, if_neg (by omega), if_pos (by omega)]; omega
        · rw [if_neg g]
          by_cases g2 : stepW next s (c.toNat - 97) < m
          · rw [if_pos g2, if_pos (by omega)]; omega
          · rw [if_neg g2, if_neg (by omega)]; omega
    rw [e2, if_pos hst, e, List.length_cons]; omega
def nowA (next : List (List Int)) (s : Nat) (w : List UInt8) (n : Nat) : Nat := readW next s (w.take n)
def behind (a m : Int) : Int := if m < 0 then -1 else a + m
theorem readW_lt {a : GAuto} (ha : autoOk a = true) : ∀ (w : List UInt8) (s : Nat), (∀ c ∈ w, 97 ≤ c.toNat ∧ c.toNat ≤ 100) → s < a.next.length → readW a.next s w < a.next.length := by
  intro w
  induction w with
  | nil => intro s _ h; exact h
  | cons c w ih =>
    intro s h hs
    have h1 := h c (by simp)
    exact ih _ (fun x hx => h x (by simp [hx])) (stepW_lt ha hs (by omega))
theorem runs_parts {a : GAuto} (ha : autoOk a = true) {w u v : List UInt8} {i s : Nat} (hw : ∀ c ∈ w, 97 ≤ c.toNat ∧ c.toNat ≤ 100) (hs : s < a.next.length) (hu : u = w.take i) (hv : v = w.drop i) :
    readW a.next s u = nowA a.next s w i ∧ readW a.next (readW a.next s u) v = readW a.next s w ∧ readW a.next s u < a.next.length ∧
    (∀ x, visV a.next x s u + visV a.next x (readW a.next s u) v = visV a.next x s w) ∧ ((List.range a.next.length).map (fun x => visV a.next x s w)).sum = w.length := by
  have e : u ++ v = w := by rw [hu, hv, List.take_append_drop]
  have hin : ∀ c ∈ u, 97 ≤ c.toNat ∧ c.toNat ≤ 100 := fun c hc => hw c (by rw [← e]; exact List.mem_append_left _ hc)
  refine ⟨by rw [hu]; rfl, by rw [← readW_app, e], readW_lt ha u s hin hs, fun x => by rw [← visV_app, e], ?_⟩
  refine vis_sum a.next a.next.length w s (fun c hc t ht => ?_) hs
  have := hw c hc
  exact stepW_lt ha ht (by omega)
end Go.Proofs.Ytejgbfgocaggfaa
