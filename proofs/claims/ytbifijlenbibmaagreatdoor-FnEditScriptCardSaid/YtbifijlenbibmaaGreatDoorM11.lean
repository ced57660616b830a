import Derived.Test.YtbifijlenbibmaaGreatDoorM9
import Derived.Test.YtbifijlenbibmaaGreatDoorM10
import Derived.Test.YtbifijlenbibmaaGreatDoorM6
import Derived.Test.YtbifijlenbibmaaGreatDoorM2
import Derived.Test.YtbifijlenbibmaaGreatDoorM8
import Derived.Lib.CountLaws
import Derived.Lib.SplitLaws
import Derived.Test.YtbifijlenbibmaaGreatDoorM3
import Derived.Test.YtbifijlenbibmaaGreatDoorM5
import Derived.Test.YtbifijlenbibmaaGreatDoorM7
namespace Go.Proofs.YtbifijlenbibmaaGreatDoor
open Go.RowKit
def rdZero : GEdit := ⟨0, 0, 0, 0, [], ⟨#[]⟩⟩
def rdStep (e : GEdit) (c : UInt8) (x : ByteArray) : Option GEdit :=
  if c = 73 then (if rdOk x.data.toList then some ⟨e.kind, numV x.data.toList, e.j, e.k, e.part, e.map⟩ else none)
  else if c = 74 then (if rdOk x.data.toList then some ⟨e.kind, e.i, numV x.data.toList, e.k, e.part, e.map⟩ else none)
  else if c = 75 then (if rdOk x.data.toList then some ⟨e.kind, e.i, e.j, numV x.data.toList, e.part, e.map⟩ else none)
  else if c = 80 then (if wordOk x && decide (x.size ≤ 400) then some ⟨e.kind, e.i, e.j, e.k, plainG x, e.map⟩ else none)
  else some ⟨e.kind, e.i, e.j, e.k, e.part, x⟩
def rdRun : List UInt8 → List ByteArray → GEdit → Option GEdit
  | [], _, e => some e
  | _ :: _, [], _ => none
  | c :: us, x :: xs, e => match rdStep e c x with
    | some e' => rdRun us xs e'
    | none => none
def kf (x : ByteArray) : Nat → Int
  | 0 => 0
  | m + 1 => if 1 ≤ m ∧ (⟨(wordE (m : Int)).toArray⟩ : ByteArray) = x then (m : Int) else kf x m
def rdK (κ : Int) (L : List ByteArray) : Option GEdit :=
  if κ = 0 then none
  else if L.length ≠ (usesS κ).size + 1 then none
  else match rdRun (usesS κ).data.toList L.tail ⟨κ, 0, 0, 0, [], ⟨#[]⟩⟩ with
    | none => none
    | some e => if editOk e then some e else none
def rdSpec (t : ByteArray) : Option GEdit := rdK (kf ((splB 32 t).headD ⟨#[]⟩) 8) (splB 32 t)
theorem rdSpec_of {t X : ByteArray} {R : List ByteArray} {κ : Int} (h : splB 32 t = X :: R) (hk : kf X 8 = κ) : rdSpec t = rdK κ (X :: R) := by
  unfold rdSpec; rw [h]; show rdK (kf X 8) (X :: R) = _; rw [hk]
def rdOut (t : ByteArray) : GEdit := (rdSpec t).getD rdZero
def rdCode (t : ByteArray) : Int := if (rdSpec t).isSome then 0 else 5
theorem rd_none {t : ByteArray} (h : rdSpec t = none) : rdOut t = rdZero ∧ rdCode t = 5 := by simp [rdOut, rdCode, h]
theorem rd_some {t : ByteArray} {e : GEdit} (h : rdSpec t = some e) : rdOut t = e ∧ rdCode t = 0 := by simp [rdOut, rdCode, h]
theorem kf_in (x : ByteArray) : ∀ m, m ≤ 8 → kf x m = 0 ∨ inR (kf x m) 1 7 = true := by
  intro m
  induction m with
  | zero => intro _; exact .inl rfl
  | succ m ih =>
    intro hm
    rw [kf]
    split
    · rename_i h; right; simp [inR]; omega
    · exact ih (by omega)
def RERes (e : GEdit) (code : Int) (w : World) (r : Ending) (w' : World) : Prop :=
  Below w.heap.size w w' ∧ ∃ v, OwnRules w' w.heap.size v e.part ∧ r = .returned (.tuple #[.agg #[.int .i64 e.kind, .int .i64 e.i, .int .i64 e.j, .int .i64 e.k, v, .string e.map], .int .i64 code])
structure RdSt (wE wx : World) (e : GEdit) (v : Value) : Prop where
  bel : Below wE.heap.size wE wx
  box : Blk wx wE.heap.size #[.int .i64 e.kind, .int .i64 e.i, .int .i64 e.j, .int .i64 e.k, v, .string e.map] 46
  own : OwnRules wx (wE.heap.size + 1) v e.part
theorem RdSt.up {wE wx w' : World} {e : GEdit} {v : Value} (h : RdSt wE wx e v) (hb : Below wx.heap.size wx w') : RdSt wE w' e v :=
  ⟨Below.tr h.bel hb, h.box.up hb, OwnRules.below h.own hb⟩
theorem RdSt.drewN {wE wx : World} {e : GEdit} {v : Value} (h : RdSt wE wx e v) (n : Nat) : RdSt wE (wx.drewN n) e v := ⟨below_drewN h.bel n, h.box, h.own⟩
section
variable {wE wx : World} {e : GEdit} {v : Value}
theorem RdSt.setK (h : RdSt wE wx e v) (x : Int) : RdSt wE (wx.setCell ⟨wE.heap.size, 0, none⟩ (.int .i64 x)) ⟨x, e.i, e.j, e.k, e.part, e.map⟩ v :=
  ⟨Below.setCell h.bel (Nat.le_refl _) _, Blk.set h.box 0 _, ownsRow_setCell_below h.own (a := ⟨wE.heap.size, 0, none⟩) (Nat.lt_succ_self _) _⟩
theorem RdSt.set1 (h : RdSt wE wx e v) (x : Int) : RdSt wE (wx.setCell ⟨wE.heap.size, 1, none⟩ (.int .i64 x)) ⟨e.kind, x, e.j, e.k, e.part, e.map⟩ v :=
  ⟨Below.setCell h.bel (Nat.le_refl _) _, Blk.set h.box 1 _, ownsRow_setCell_below h.own (a := ⟨wE.heap.size, 1, none⟩) (Nat.lt_succ_self _) _⟩
theorem RdSt.set2 (h : RdSt wE wx e v) (x : Int) : RdSt wE (wx.setCell ⟨wE.heap.size, 2, none⟩ (.int .i64 x)) ⟨e.kind, e.i, x, e.k, e.part, e.map⟩ v :=
  ⟨Below.setCell h.bel (Nat.le_refl _) _, Blk.set h.box 2 _, ownsRow_setCell_below h.own (a := ⟨wE.heap.size, 2, none⟩) (Nat.lt_succ_self _) _⟩
theorem RdSt.set3 (h : RdSt wE wx e v) (x : Int) : RdSt wE (wx.setCell ⟨wE.heap.size, 3, none⟩ (.int .i64 x)) ⟨e.kind, e.i, e.j, x, e.part, e.map⟩ v :=
  ⟨Below.setCell h.bel (Nat.le_refl _) _, Blk.set h.box 3 _, ownsRow_setCell_below h.own (a := ⟨wE.heap.size, 3, none⟩) (Nat.lt_succ_self _) _⟩
theorem RdSt.set4 {N : Nat} {u : Value} {xs : List GRule} (h : RdSt wE wx e v) (own : OwnRules wx N u xs) (hN : wE.heap.size < N) : RdSt wE (wx.setCell ⟨wE.heap.size, 4, none⟩ u) ⟨e.kind, e.i, e.j, e.k, xs, e.map⟩ u :=
  ⟨Below.setCell h.bel (Nat.le_refl _) _, Blk.set h.box 4 _, ownsRow_more (ownsRow_setCell_below own (a := ⟨wE.heap.size, 4, none⟩) hN _) (by omega)⟩
theorem RdSt.set5 (h : RdSt wE wx e v) (x : ByteArray) : RdSt wE (wx.setCell ⟨wE.heap.size, 5, none⟩ (.string x)) ⟨e.kind, e.i, e.j, e.k, e.part, x⟩ v :=
  ⟨Below.setCell h.bel (Nat.le_refl _) _, Blk.set h.box 5 _, ownsRow_setCell_below h.own (a := ⟨wE.heap.size, 5, none⟩) (Nat.lt_succ_self _) _⟩
theorem RdSt.at (h : RdSt wE wx e v) : EditAt wx wx.heap.size wE.heap.size e v :=
  ⟨⟨Blk.cell (i := 0) h.box rfl, Blk.cell (i := 1) h.box rfl, Blk.cell (i := 2) h.box rfl, Blk.cell (i := 3) h.box rfl, Blk.cell (i := 4) h.box rfl, Blk.cell (i := 5) h.box rfl⟩, Blk.lt h.box, OwnRules.sl h.own⟩
end
theorem fin6 {w wx : World} {a0 a1 a2 a3 a4 a5 : Value} (h : Blk wx w.heap.size #[a0, a1, a2, a3, a4, a5] 46) (hb : Below w.heap.size w wx) (v0 v1 v2 v3 v4 v5 : Value) :
    let W := (((((wx.setCell ⟨w.heap.size, 0, none⟩ v0).setCell ⟨w.heap.size, 1, none⟩ v1).setCell ⟨w.heap.size, 2, none⟩ v2).setCell ⟨w.heap.size, 3, none⟩ v3).setCell ⟨w.heap.size, 4, none⟩ v4).setCell ⟨w.heap.size, 5, none⟩ v5
    (Below w.heap.size w W ∧ ∀ k, k ≠ w.heap.size → W.heap[k]? = wx.heap[k]?) ∧ W.cell? ⟨w.heap.size, 0, none⟩ = some v0 ∧ W.cell? ⟨w.heap.size, 1, none⟩ = some v1 ∧ W.cell? ⟨w.heap.size, 2, none⟩ = some v2 ∧ W.cell? ⟨w.heap.size, 3, none⟩ = some v3 ∧ W.cell? ⟨w.heap.size, 4, none⟩ = some v4 ∧ W.cell? ⟨w.heap.size, 5, none⟩ = some v5 := by
  intro W
  have hk : Blk W w.heap.size #[v0, v1, v2, v3, v4, v5] 46 := (((((h.set 0 v0).set 1 v1).set 2 v2).set 3 v3).set 4 v4).set 5 v5
  exact ⟨⟨(((((hb.setCell (p := ⟨w.heap.size, 0, none⟩) (Nat.le_refl _) v0).setCell (p := ⟨w.heap.size, 1, none⟩) (Nat.le_refl _) v1).setCell (p := ⟨w.heap.size, 2, none⟩) (Nat.le_refl _) v2).setCell (p := ⟨w.heap.size, 3, none⟩) (Nat.le_refl _) v3).setCell (p := ⟨w.heap.size, 4, none⟩) (Nat.le_refl _) v4).setCell (p := ⟨w.heap.size, 5, none⟩) (Nat.le_refl _) v5,
    fun k hk => (Below.heap_setCell _ ⟨w.heap.size, 5, none⟩ v5 k hk).trans ((Below.heap_setCell _ ⟨w.heap.size, 4, none⟩ v4 k hk).trans ((Below.heap_setCell _ ⟨w.heap.size, 3, none⟩ v3 k hk).trans ((Below.heap_setCell _ ⟨w.heap.size, 2, none⟩ v2 k hk).trans ((Below.heap_setCell _ ⟨w.heap.size, 1, none⟩ v1 k hk).trans (Below.heap_setCell _ ⟨w.heap.size, 0, none⟩ v0 k hk)))))⟩,
    Blk.cell (i := 0) hk rfl, Blk.cell (i := 1) hk rfl, Blk.cell (i := 2) hk rfl, Blk.cell (i := 3) hk rfl, Blk.cell (i := 4) hk rfl, Blk.cell (i := 5) hk rfl⟩
theorem weq (u : List UInt8) (X : ByteArray) : (u == X.toList) = true ↔ (⟨u.toArray⟩ : ByteArray) = X := by
  rw [beq_iff_eq, ByteArray.toList_eq]
  constructor
  · intro h; apply ByteArray.ext; rw [h]
  · intro h; rw [← h]
theorem rdRun_step {us : List UInt8} {xs : List ByteArray} {m : Nat} {c : UInt8} {x : ByteArray} {e : GEdit} (hc : us[m]? = some c) (hx : xs[m]? = some x) :
    rdRun (us.drop m) (xs.drop m) e = (match rdStep e c x with | some e' => rdRun (us.drop (m + 1)) (xs.drop (m + 1)) e' | none => none) := by
  obtain ⟨h1, rfl⟩ := List.getElem?_eq_some_iff.1 hc
  obtain ⟨h2, rfl⟩ := List.getElem?_eq_some_iff.1 hx
  rw [List.drop_eq_getElem_cons h1, List.drop_eq_getElem_cons h2, rdRun]
theorem spl_len (b : UInt8) : ∀ (t cur : List UInt8), ∀ u ∈ spl b cur t, u.length ≤ cur.length + t.length := by
  intro t
  induction t with
  | nil => intro cur u hu; simp [spl] at hu; subst hu; simp
  | cons c t ih =>
    intro cur u hu
    rw [spl] at hu
    split at hu
    · rcases List.mem_cons.1 hu with rfl | hu
      · rw [List.length_cons]; omega
      · have := ih [] u hu; rw [List.length_nil] at this; rw [List.length_cons]; omega
    · have := ih _ u hu; rw [List.length_append, List.length_singleton] at this; rw [List.length_cons]; omega
theorem splB_size {b : UInt8} {s : ByteArray} {x : ByteArray} (h : x ∈ splB b s) : x.size ≤ s.size := by
  unfold splB at h
  obtain ⟨u, hu, rfl⟩ := List.mem_map.1 h
  have := spl_len b _ _ u hu
  simp at this
  show u.toArray.size ≤ s.data.size
  simpa using this
def SmallE (e : GEdit) : Prop := SmallL e.part ∧ e.part.length ≤ 404 ∧ e.map.size ≤ 1048576
theorem plain_smallL {x : ByteArray} (h : wordOk x = true) : SmallL (plainG x) := fun r hr => Nat.le_trans (okAll_small (okAll_plainG h) r hr) (by decide)
theorem OwnW.at {w : World} {base g cap : Nat} {l : List ByteArray} (h : OwnW w base (.slice (some ⟨g, 0, none⟩) l.length cap) l) {k : Nat} {x : ByteArray} (hk : l[k]? = some x) : w.cell? ⟨g, k, none⟩ = some (.string x) := by
  have hlt : k < l.length := (List.getElem?_eq_some_iff.1 hk).1
  have := World.ownsRow.cellAt h k (by omega)
  rw [this, List.getElem?_map, hk]; rfl
theorem varB {P : Program} {w w' : World} {nm : String} {cs : Array Value} (h : w.var? P nm = some cs) (hb : Below w.heap.size w w') : w'.var? P nm = some cs := by
  unfold World.var? at h ⊢
  obtain ⟨g, hg, h2⟩ := Option.bind_eq_some_iff.1 h
  rw [hg]
  simp only [Option.bind_some]
  have hlt : g < w.heap.size := by
    rcases Nat.lt_or_ge g w.heap.size with h' | h'
    · exact h'
    · rw [Array.getElem?_eq_none h'] at h2; cases h2
  rw [hb.block g hlt]; exact h2
structure RdVars (w : World) : Prop where
  maxLen : ∃ m, w.cell? ⟨2, 0, none⟩ = some (.int .i64 m)
  errS : ∃ tp p, w.var? Tryz.prog "strconv.ErrSyntax" = some #[.iface tp p]
  errR : ∃ tp p, w.var? Tryz.prog "strconv.ErrRange" = some #[.iface tp p]
  tab : Lib.TabIs Tryz.prog w "internal/strconv.uint64pow10" .u64 Lib.pow10Tab
theorem RdVars.up {w w' : World} (h : RdVars w) (hb : Below w.heap.size w w') : RdVars w' := by
  obtain ⟨⟨m, h1⟩, ⟨tp, p, h2⟩, ⟨tq, q, h3⟩, h4⟩ := h
  exact ⟨⟨m, (hb.cell (World.block_lt_of_cell? _ _ h1)).trans h1⟩, ⟨tp, p, varB h2 hb⟩, ⟨tq, q, varB h3 hb⟩, tabB h4 hb⟩
theorem parseInt_any (s : ByteArray) (w : World) (hs : s.size ≤ 1048576) (hv : RdVars w) :
    Calls Tryz.prog 75 #[.string s, .int .i64 10, .int .i64 64] w fun e w' => Below w.heap.size w w' ∧ ∃ ev, e = .returned (.tuple #[.int .i64 (pI s.data.toList), ev]) := by
  obtain ⟨_, ⟨tp, p, h2⟩, ⟨tq, q, h3⟩, _⟩ := hv
  unfold pI
  cases h : Lib.parseIntB 64 s.data.toList with
  | ok v =>
    refine (Tryz.strconv_ParseInt_10_at64_ok s (by omega) v h w).mono ?_
    rintro e w' ⟨rfl, hw⟩
    refine ⟨?_, _, rfl⟩
    rcases hw with rfl | ⟨t, rfl⟩
    · exact Below.refl _ _
    · exact Lib.bytesWorld_below _ _ _
  | «syntax» =>
    refine (Tryz.strconv_ParseInt_10_at64_syntax_var s (by omega) h tp p w h2).mono ?_
    rintro e w' ⟨N, rfl, _, _, hb⟩
    exact ⟨hb, _, rfl⟩
  | range =>
    refine (Tryz.strconv_ParseInt_10_at64_range_var s (by omega) h tq q w h3).mono ?_
    rintro e w' ⟨N, rfl, _, _, hb⟩
    exact ⟨hb, _, rfl⟩
theorem splitK_spl (b : UInt8) : ∀ (k : Nat) (l : List UInt8), Lib.count l [b] = k → Lib.splitK [b] 0 k l = spl b [] l := by
  intro k
  induction k with
  | zero =>
    intro l h
    rw [Lib.count_one, List.count_eq_zero] at h
    rw [spl_none (b := b) l [] (fun c hc e => h (by rw [← e]; exact hc))]
    rfl
  | succ k ih =>
    intro l h
    rcases Int.lt_or_le (Lib.indexByte l b) 0 with hn | hn
    · exfalso
      have hm : Lib.index l [b] = -1 := by rw [Lib.index_one]; have := Lib.indexByte_ge l b; omega
      rw [Lib.count_miss hm] at h; cases h
    · obtain ⟨i, hi⟩ := Int.eq_ofNat_of_zero_le hn
      have hix : Lib.index l [b] = (i : Int) := by rw [Lib.index_one]; exact hi
      obtain ⟨h1, h2⟩ := Lib.indexByte_some (show Lib.indexByte l b = (i : Int) from hi)
      have hc := Lib.count_hit (by simp) hix
      rw [h] at hc
      have hd : Lib.count (l.drop (i + 1)) [b] = k := by simp at hc; omega
      have hlt : i < l.length := (List.getElem?_eq_some_iff.1 h1).1
      have hl : l = l.take i ++ b :: l.drop (i + 1) := by
        have h3 := List.take_append_drop i l
        rw [List.drop_eq_getElem_cons hlt, (List.getElem?_eq_some_iff.1 h1).2] at h3
        exact h3.symm
      rw [Lib.splitK, if_neg (by rw [hix]; simp), hix]
      simp only [Int.toNat_natCast, Nat.add_zero, List.length_singleton]
      rw [ih _ hd]
      conv => rhs; rw [hl]
      rw [spl_piece (l.take i) [] (l.drop (i + 1)) (fun c hc e => by
        obtain ⟨j, hj⟩ := List.mem_iff_getElem?.1 hc
        have hji : j < i := by have := (List.getElem?_eq_some_iff.1 hj).1; rw [List.length_take] at this; omega
        rw [List.getElem?_take_of_lt hji] at hj
        exact h2 j hji (e ▸ hj))]
      rfl
theorem splitB_eq (b : UInt8) (s : ByteArray) : Lib.splitB ⟨#[b]⟩ 0 (Lib.countB s ⟨#[b]⟩) s = splB b s := by
  refine (splB_of ?_).symm
  rw [Lib.splitB_data]
  exact (splitK_spl b _ _ rfl).symm
theorem split_any (s : ByteArray) (w : World) (hs : s.size ≤ 1048576) (hv : RdVars w) :
    Calls Tryz.prog 73 #[.string s, .string ⟨#[32]⟩] w fun e w' => Below w.heap.size w w' ∧ ∃ v, OwnW w' w.heap.size v (splB 32 s) ∧ e = .returned v := by
  obtain ⟨⟨m, h1⟩, _, _, _⟩ := hv
  refine (Tryz.strings_Split s ⟨#[32]⟩ m w (by omega) h1 (by decide)).mono ?_
  rintro e w' ⟨rfl, rfl⟩
  have hl : Lib.countB s ⟨#[32]⟩ + 1 = (splB 32 s).length := by
    rw [← splitB_eq]; exact (Lib.splitB_all ⟨#[32]⟩ (by decide) 0 _ s rfl).symm
  rw [splitB_eq, hl]
  refine ⟨(Below.refl _ _).alloc (Nat.le_refl _) _, _, ?_, rfl⟩
  have hle : (splB 32 s).length ≤ 1048577 := by rw [← hl]; have := Lib.countB_le ⟨#[32]⟩ (by decide) s.size s (Nat.le_refl _); omega
  have := World.ownsRow_lit w ((splB 32 s).map Value.string).toArray (splB 32 s).length (Nat.le_refl _) (by simp only [maxLen]; omega) (e := 9) (size := 1) (by simp)
  simpa [OwnW] using this
theorem push_word4 {W : World} {ops : Array Oper} {rest : List Oper} {o : Oper} {a : Act} {Q : Exit → Act → World → Prop} (hgd : o.guard = none) (s x : Operand)
    (ho : o.op = .call { callee := .builtin .append, args := #[s, x], argTypes := #[77, 77] }) {base : Nat} {v : Value} {l : List ByteArray}
    (hs : a.eval s = v) {N : Nat} (hx : a.eval x = .slice (some ⟨N, 0, none⟩) 4 4) (hN : N = W.heap.size) (hown : OwnW W base v l) (hlen : l.length ≤ 1099511627776) (hbase : base ≤ W.heap.size)
    (h : ∀ v' w', OwnW w' base v' (l ++ [⟨#[]⟩, ⟨#[]⟩, ⟨#[]⟩, ⟨#[]⟩]) → Below base W w' → wpList Tryz.prog ops Q rest (a.put o.dst v') w') :
    wpList Tryz.prog ops Q (o :: rest) a (W.alloc (.cells #[.string ⟨#[]⟩, .string ⟨#[]⟩, .string ⟨#[]⟩, .string ⟨#[]⟩] 9)) := by
  subst hN
  refine wpList_plain hgd fun _ hK => ?_
  obtain ⟨i0, hi0, hz0, hz1, hz2⟩ := info_parts Tryz.infoW
  obtain ⟨v', w', hrun, h2, h3, _, h5⟩ := run_append_own_at (P := Tryz.prog) (W.alloc (.cells #[.string ⟨#[]⟩, .string ⟨#[]⟩, .string ⟨#[]⟩, .string ⟨#[]⟩] 9)) base 77 o.type 9 i0 (.string ⟨#[]⟩) 1 16 Tryz.underlying77 hi0 hz0 hz1 hz2 rfl (by decide) v _ _ (World.ownsRow.alloc hown _) ⟨W.heap.size, 0, none⟩ 4 4 [.string ⟨#[]⟩, .string ⟨#[]⟩, .string ⟨#[]⟩, .string ⟨#[]⟩] rfl
    (fun j u hu => by
      have : (W.alloc (.cells #[.string ⟨#[]⟩, .string ⟨#[]⟩, .string ⟨#[]⟩, .string ⟨#[]⟩] 9)).cell? ⟨W.heap.size, j, none⟩ = (#[.string ⟨#[]⟩, .string ⟨#[]⟩, .string ⟨#[]⟩, .string ⟨#[]⟩] : Array Value)[j]? := cell_of_row _ _ _ _ 9 (0, 0) (heap_alloc_new W _)
      have ha : (⟨W.heap.size, 0, none⟩ : Addr).add j = ⟨W.heap.size, j, none⟩ := by unfold Addr.add; split <;> simp_all
      rw [ha, this]; simpa using hu) (by simp [Value.oneCell']) (by simp only [maxLen]; omega) (by omega) (by simp; omega)
  unfold Oper.wp execOp
  simp only [ho, resolve, invoke, builtin, Sem.run_bind, Sem.run_pure, Result.andThen_ok, List.map_toArray, List.map_cons, List.map_nil, hs, hx, hrun]
  refine hK _ _ (h v' w' (by unfold OwnW; simpa using h2) (((Below.refl base W).alloc hbase _).trans (below_of_grown h3 (by simp; omega) fun y hy => (World.ownsRow.lt hown y hy).1)))
set_option maxRecDepth 100000 in
theorem number_any (P g c k : Nat) (L : List ByteArray) (x : ByteArray) (w : World) (hP : Blk w P #[.slice (some ⟨g, 0, none⟩) L.length c] 77) (hc : w.cell? ⟨g, k, none⟩ = some (.string x)) (hk : k < L.length) (hx : x.size ≤ 1048576) (hv : RdVars w) :
    Calls Tryz.prog 74 #[.int .i64 k, .pointer (some ⟨P, 0, none⟩)] w fun e w' => Below w.heap.size w w' ∧ e = .returned (.int .i64 (pI x.data.toList)) := by
  have cP := Blk.cell (i := 0) (v := .slice (some ⟨g, 0, none⟩) L.length c) hP rfl
  have lP := Blk.lt hP
  have hkI : (k : Int) < (L.length : Int) := by omega
  have HV := Lib.hid hv
  clear hP hv
  go_enter Tryz.func74, Tryz.ntmps74
  go_wp2_with fail
  refine (parseInt_any x _ hx HV.out).mono ?_
  rintro e w1 ⟨hb1, ev, rfl⟩
  have HB := Lib.hid hb1
  go_wp2_with fail
  go_ret
  exact ⟨HB.out, rfl⟩
def pgOk (x : ByteArray) : Bool := wordOk x && gramOk (plainG x)
def pgCode (x : ByteArray) : Int := if wordOk x then limCode (plainG x) else 1
def pgOut (x : ByteArray) : List GRule := if wordOk x then limOut (plainG x) else []
theorem pg_yes {x : ByteArray} (h : pgOk x = true) : pgCode x = 0 ∧ pgOut x = plainG x := by
  simp only [pgOk, Bool.and_eq_true] at h
  simp [pgCode, pgOut, h.1, limCode, limOut, h.2]
theorem pg_no {x : ByteArray} (h : pgOk x = false) : pgCode x = 1 ∨ pgCode x = 3 := by
  cases hw : wordOk x with
  | false => left; simp [pgCode, hw]
  | true =>
    right
    simp only [pgOk, hw, Bool.true_and] at h
    simp [pgCode, hw, limCode, h]
set_option maxRecDepth 100000 in
set_option maxHeartbeats 1000000 in
theorem implPlainG_any (x : ByteArray) (w : World) (hx : x.size ≤ 1048576) :
    Calls Tryz.prog 77 #[.string x] w (GRes (pgOut x) (pgCode x) w) := by
  have hxm : x.size ≤ maxLen := by unfold maxLen; omega
  have HXM := Lib.hid hxm
  clear hxm
  cases hw : wordOk x with
  | false =>
    have HW := Lib.hid hw
    have HQ := Lib.hid (show pgOut x = [] ∧ pgCode x = 1 by simp [pgOut, pgCode, hw])
    clear hw
    go_enter Tryz.func77, Tryz.ntmps77
    go_wp2_with fail
    refine (ValidWord_any x _ HXM.out).mono ?_
    rintro e w1 ⟨rfl, rfl⟩
    rw [HW.out]
    go_wp2_with fail
    refine bodyPost_ret (v := .tuple #[.agg #[.slice none 0 0], .int .i64 1]) (by simp [results, Tryz.results77, go_sem]) rfl ⟨(by repeat (first | exact Below.refl _ _ | (refine Below.alloc ?_ (by first | omega | (simp; done) | (simp; omega)) _) | (refine Below.setCell ?_ (by first | exact Nat.le_refl _ | (show _ ≤ _; omega) | (simp; done) | (simp; omega)) _) | refine below_drewN ?_ _ | refine Below.drew ?_)), .slice none 0 0, by rw [HQ.out.1]; exact World.ownsRow_nil _ _ _ _, by rw [HQ.out.2]⟩
  | true =>
    have HW := Lib.hid hw
    have HQ := Lib.hid (show pgOut x = limOut (plainG x) ∧ pgCode x = limCode (plainG x) by simp [pgOut, pgCode, hw])
    clear hw
    go_enter Tryz.func77, Tryz.ntmps77
    go_wp2_with fail
    refine (ValidWord_any x _ HXM.out).mono ?_
    rintro e w1 ⟨rfl, rfl⟩
    rw [HW.out]
    go_wp2_with fail
    refine (plain_any x _ HW.out).mono ?_
    rintro e w1 ⟨hb1, v1, own1, rfl⟩
    have KR : Blk w1 w.heap.size #[.slice none 0 0] 30 := by have := (Below.unalloc hb1).2; simpa [Blk] using this
    replace hb1 := (Below.unalloc hb1).1
    have hpl := plainG_len x
    obtain ⟨A1, c1, rfl, _⟩ := own_nil own1
    have HO1 := Lib.hid own1
    have HKR := Lib.hid KR
    have HB1 := Lib.hid hb1
    clear own1 KR hb1
    go_wp2_with fail
    refine (orLimit_any _ _ (plainG x) _ HO1.out (by omega)).mono ?_
    rintro e w2 ⟨hb2, v2, own2, rfl⟩
    obtain ⟨A2, c2, rfl, _⟩ := own_nil own2
    have HO2 := Lib.hid own2
    have KR2 := HKR.out.up hb2
    have HB2 := Lib.hid (Below.tr HB1.out hb2)
    have r0 := Blk.cell (i := 0) (v := .slice none 0 0) KR2 rfl
    have q0 := Blk.frozen KR2 0
    have lR := Blk.lt KR2
    clear own2 hb2 KR2
    go_wp2_with fail
    refine bodyPost_ret (v := .tuple #[.agg #[.slice A2 (limOut (plainG x)).length c2], .int .i64 (limCode (plainG x))]) (by simp [results, Tryz.results77, go_sem, r0]) rfl ⟨Below.setCell HB2.out (Nat.le_refl _) _, _, ?_, by rw [HQ.out.2]⟩
    rw [HQ.out.1]
    exact ownsRow_more (ownsRow_setCell_below HO2.out (a := ⟨w.heap.size, 0, none⟩) (by simp) _) (by simp)
theorem lens_app (xs ys : List GRule) : lens (xs ++ ys) = ys.foldl lensStep (lens xs) := by simp [lens, List.foldl_append]
theorem lens_pre {xs ys : List GRule} {l : List Int} (h : lens (xs ++ ys) = some l) : ∃ l1 t, lens xs = some l1 ∧ l = l1 ++ t := by
  rw [lens_app] at h
  cases hx : lens xs with
  | none => rw [hx, lens_none] at h; cases h
  | some l1 =>
    rw [hx] at h
    suffices H : ∀ (ys : List GRule) (a o : List Int), ys.foldl lensStep (some a) = some o → ∃ t, o = a ++ t by
      obtain ⟨t, ht⟩ := H ys l1 l h
      exact ⟨l1, t, rfl, ht⟩
    intro ys
    induction ys with
    | nil => intro a o h; simp at h; exact ⟨[], by simp [h]⟩
    | cons y ys ih =>
      intro a o h
      rw [List.foldl_cons] at h
      cases hs : lensStep (some a) y with
      | none => rw [hs, lens_none] at h; cases h
      | some b =>
        rw [hs] at h
        obtain ⟨t, rfl⟩ := ih b o h
        simp only [lensStep, Option.bind_some] at hs
        split at hs
        · cases hs; exact ⟨_, by rw [List.append_assoc]⟩
        · cases hs
theorem getR_app {xs ys : List GRule} {r : Nat} (h : r < xs.length) : getR (xs ++ ys) r = getR xs r := by
  unfold getR; rw [List.getD_eq_getElem?_getD, List.getElem?_append_left h, List.getD_eq_getElem?_getD]
theorem wordR_app {xs ys : List GRule} {ls : List Int} (h : lens xs = some ls) : ∀ (f r : Nat), r < xs.length → wordR (xs ++ ys) f r = wordR xs f r := by
  intro f
  induction f with
  | zero => intro r _; rfl
  | succ f ih =>
    intro r hr
    rw [wordR, wordR, getR_app hr]
    cases hp : (getR xs r).pair with
    | false => rfl
    | true =>
      obtain ⟨q1, q2, q3, q4, q5⟩ := lens_pair h hr hp
      rw [if_pos rfl, if_pos rfl, ih _ (by omega), ih _ (by omega)]
theorem W1_appL {xs ys : List GRule} {ls : List Int} (h : lens xs = some ls) {r : Nat} (hr : r < xs.length) : W1 (xs ++ ys) r = W1 xs r := wordR_app h _ _ hr
theorem getR_new (xs : List GRule) (x : GRule) : getR (xs ++ [x]) xs.length = x := by
  unfold getR; rw [List.getD_eq_getElem?_getD, List.getElem?_append_right (Nat.le_refl _), Nat.sub_self]; rfl
theorem W1_snoc {xs : List GRule} {l : List Int} {a b : Nat} (h : lens (xs ++ [pairR a b]) = some l) (ha : a < xs.length) (hb : b < xs.length) : W1 (xs ++ [pairR a b]) xs.length = W1 xs a ++ W1 xs b := by
  obtain ⟨l1, t, h1, _⟩ := lens_pre h
  have hp : (getR (xs ++ [pairR a b]) xs.length).pair = true := by rw [getR_new]; exact pairR_pair _ _
  rw [W1_pair h (by simp) hp, getR_new]
  show W1 (xs ++ [pairR a b]) (Int.toNat (a : Int)) ++ W1 (xs ++ [pairR a b]) (Int.toNat (b : Int)) = _
  rw [Int.toNat_natCast, Int.toNat_natCast, W1_appL h1 ha, W1_appL h1 hb]
theorem getD_at {x : ByteArray} {i : Nat} (h : i < x.size) : x.data.getD i 0 = x[i] := by
  rw [Array.getD_eq_getD_getElem?, Array.getElem?_eq_getElem h]; rfl
theorem W1_letsG {x : ByteArray} {c : UInt8} {r : Nat} (hr : r < (letsG x 4).length) (h : (letsG x 4)[r] = letR c) : W1 (letsG x 4) r = [c] := by
  have hg : getR (letsG x 4) r = letR c := by unfold getR; rw [List.getD_eq_getElem?_getD, List.getElem?_eq_getElem hr, h]; rfl
  rw [W1_let (by rw [hg]; rfl), hg]
  rfl
theorem W1_idx {x : ByteArray} (hw : wordOk x = true) {i : Nat} (h : i < x.size) : W1 (letsG x 4) (idxG x x[i]) = [x[i]] := by
  have hl := idxG_lt hw h
  refine W1_letsG hl ?_
  unfold idxG at hl ⊢
  exact List.getElem_idxOf hl
theorem plainG_word {x : ByteArray} (hw : wordOk x = true) (hg : gramOk (plainG x) = true) : wordG (plainG x) = x.data.toList := by
  obtain ⟨_, ls, hl⟩ := gram_lens hg
  have hsz : x.data.toList.length = x.size := by rw [Array.length_toList]; rfl
  by_cases h0 : x.size = 0
  · have he : x.data.toList = [] := List.eq_nil_of_length_eq_zero (by omega)
    have hc : ∀ c, hasC x c = false := fun c => by unfold hasC; rw [he]; rfl
    have h1 : letsG x 4 = [] := by unfold letsG; simp [hc]
    rw [plainG, h0, plainK_zero, h1, he]; rfl
  · have hpre : ∀ m, m ≤ x.size - 1 → ∃ l, lens (plainK x m) = some l := by
      intro m hm
      have hpp : plainG x = plainK x m ++ ((List.range (x.size - 1)).drop m).map (pairAt x) := by
        unfold plainG plainK
        rw [List.append_assoc, ← List.map_append]
        congr 2
        have := List.take_append_drop m (List.range (x.size - 1))
        rw [List.take_range, Nat.min_eq_left hm] at this
        exact this.symm
      rw [hpp] at hl
      obtain ⟨l1, t, h1, _⟩ := lens_pre hl
      exact ⟨l1, h1⟩
    have main : ∀ m, m ≤ x.size - 1 → W1 (plainK x m) (if m = 0 then idxG x (x.data.getD 0 0) else (letsG x 4).length + m - 1) = x.data.toList.take (m + 1) := by
      intro m
      induction m with
      | zero =>
        intro _
        rw [if_pos rfl, plainK_zero, getD_at (by omega), W1_idx hw (by omega)]
        have h1 : (0 : Nat) < x.data.toList.length := by omega
        have h2 : x.data.toList[0] = x[0] := by simp; rfl
        rw [List.take_add_one, List.getElem?_eq_getElem h1, h2]
        simp
      | succ m ih =>
        intro hm
        have ih1 := ih (by omega)
        obtain ⟨l, hlm⟩ := hpre m (by omega)
        obtain ⟨l2, hlm2⟩ := hpre (m + 1) hm
        have hpl := plainK_len x m
        have hi0 := idxG_lt hw (i := 0) (by omega)
        have hi1 := idxG_lt hw (i := m + 1) (by omega)
        rw [plainK_succ] at hlm2 ⊢
        have hpa : pairAt x m = pairR (((if m = 0 then idxG x (x.data.getD 0 0) else (letsG x 4).length + m - 1 : Nat)) : Int) ((idxG x x[m + 1] : Nat) : Int) := by
          unfold pairAt
          rw [getD_at (show m + 1 < x.size by omega)]
          congr 1
          split
          · rfl
          · rfl
        rw [hpa] at hlm2 ⊢
        obtain ⟨ρ, hρ⟩ : ∃ ρ, (if m = 0 then idxG x (x.data.getD 0 0) else (letsG x 4).length + m - 1) = ρ := ⟨_, rfl⟩
        have hρl : ρ < (plainK x m).length := by
          rw [← hρ, hpl]
          split
          · rw [getD_at (show 0 < x.size by omega)]; omega
          · omega
        rw [hρ] at hlm2 ih1 ⊢
        rw [if_neg (show ¬ m + 1 = 0 by omega), show (letsG x 4).length + (m + 1) - 1 = (plainK x m).length by omega]
        rw [W1_snoc hlm2 hρl (by omega), ih1]
        have hlz : ∃ l0, lens (letsG x 4) = some l0 := by have := hpre 0 (by omega); rw [plainK_zero] at this; exact this
        obtain ⟨l0, hl0⟩ := hlz
        have hidx : W1 (plainK x m) (idxG x x[m + 1]) = [x[m + 1]] := by
          unfold plainK
          rw [W1_appL hl0 hi1, W1_idx hw (by omega)]
        rw [hidx]
        have h1 : m + 1 < x.data.toList.length := by omega
        have h2 : x.data.toList[m + 1] = x[m + 1] := by simp; rfl
        rw [List.take_add_one (i := m + 1), List.getElem?_eq_getElem h1, h2]
        rfl
    have hfin := main (x.size - 1) (Nat.le_refl _)
    have hpl := plainK_len x (x.size - 1)
    have hi0 := idxG_lt hw (i := 0) (by omega)
    have hlen : 0 < (plainG x).length := by unfold plainG; omega
    rw [wordG_pos hlen]
    have htk : x.data.toList.take (x.size - 1 + 1) = x.data.toList := List.take_of_length_le (by omega)
    rw [htk] at hfin
    by_cases h1 : x.size = 1
    · have hone : x.data.toList = [x[0]] := by
        have h2 : x.data.toList[0]'(by omega) = x[0] := by simp; rfl
        obtain ⟨y, hy⟩ := List.length_eq_one_iff.1 (show x.data.toList.length = 1 by omega)
        rw [← h2]; simp [hy]
      have hP : plainG x = letsG x 4 := by unfold plainG; rw [h1]; exact plainK_zero x
      rw [hP, hone]
      have hr : (letsG x 4).length - 1 < (letsG x 4).length := by omega
      refine W1_letsG hr ?_
      obtain ⟨k, hk, hkk⟩ := letsG_ok x _ (List.getElem_mem hr)
      have hmem := List.getElem_mem hr
      unfold letsG at hmem
      obtain ⟨j, hj, hjj⟩ := List.mem_map.1 hmem
      have hc := (List.mem_filter.1 hj).2
      unfold hasC at hc
      rw [hone, List.contains_iff_mem] at hc
      simp at hc
      unfold letsG
      rw [← hjj, hc]
    · rw [if_neg (by omega)] at hfin
      have : (plainG x).length - 1 = (letsG x 4).length + (x.size - 1) - 1 := by unfold plainG; omega
      rw [this]
      exact hfin
theorem plainG_ge {x : ByteArray} (hw : wordOk x = true) : x.size ≤ (plainG x).length := by
  unfold plainG
  rw [plainK_len]
  rcases Nat.eq_zero_or_pos x.size with h | h
  · omega
  · have := idxG_lt hw h; omega
theorem kf_word (X : ByteArray) : ∀ m, kf X m ≠ 0 → ∃ k : Nat, kf X m = (k : Int) ∧ 1 ≤ k ∧ k < m ∧ (⟨(wordE (k : Int)).toArray⟩ : ByteArray) = X := by
  intro m
  induction m with
  | zero => intro h; exact absurd rfl h
  | succ m ih =>
    intro h
    rw [kf] at h ⊢
    split at h
    · rename_i hh
      rw [if_pos hh]
      exact ⟨m, rfl, hh.1, by omega, hh.2⟩
    · rename_i hh
      rw [if_neg hh]
      obtain ⟨k, h1, h2, h3, h4⟩ := ih h
      exact ⟨k, h1, h2, by omega, h4⟩
theorem kf_eq {X : ByteArray} {m : Nat} (h1 : 1 ≤ m) (h8 : m < 8) (h : (⟨(wordE (m : Int)).toArray⟩ : ByteArray) = X) : kf X 8 = (m : Int) := by
  subst h
  have : m = 1 ∨ m = 2 ∨ m = 3 ∨ m = 4 ∨ m = 5 ∨ m = 6 ∨ m = 7 := by omega
  rcases this with rfl | rfl | rfl | rfl | rfl | rfl | rfl <;> decide
def eB : ByteArray := ⟨#[]⟩
def rdMk (κ : Int) (L : List ByteArray) : GEdit :=
  ⟨κ, pI (L.getD 1 eB).data.toList, if usesJ κ then pI (L.getD 2 eB).data.toList else 0, if usesK κ then pI (L.getD 3 eB).data.toList else 0, if κ == 1 then plainG (L.getD 2 eB) else [], if κ == 7 then L.getD 3 eB else eB⟩
def rdTry (κ : Int) (L : List ByteArray) (t : ByteArray) : Option GEdit :=
  if (κ == 1) && !pgOk (L.getD 2 eB) then none
  else if editOk (rdMk κ L) && (etV (rdMk κ L) == t.data.toList) then some (rdMk κ L) else none
def rdImp (t : ByteArray) : Option GEdit :=
  if kf ((splB 32 t).headD eB) 8 = 0 then none else rdTry (kf ((splB 32 t).headD eB) 8) (splB 32 t) t
theorem dec_no32 (n : Int) : ∀ c ∈ dec n, c ≠ 32 := by
  intro c hc e
  have h := (decD_num n.toNat).2.1
  have := List.all_eq_true.1 h c hc
  subst e
  simp [isDgt] at this
theorem wordE_no32 {k : Int} (h : inR k 1 7 = true) : ∀ c ∈ wordE k, c ≠ 32 := by
  rcases kind7 h with rfl | rfl | rfl | rfl | rfl | rfl | rfl <;> decide
theorem letters_no32 {l : List UInt8} (h : l.all letOk = true) : ∀ c ∈ l, c ≠ 32 := by
  intro c hc e
  have := List.all_eq_true.1 h c hc
  subst e
  simp [letOk] at this
theorem wordOk_all {x : ByteArray} (h : wordOk x = true) : x.data.toList.all letOk = true := by
  unfold wordOk at h
  simp only [Bool.and_eq_true] at h
  exact h.2
def flds (e : GEdit) : List (List UInt8) := [wordE e.kind, dec e.i] ++ (if usesJ e.kind then [dec e.j] else []) ++ (if usesK e.kind then [dec e.k] else []) ++ (if e.kind == 1 then [wordG e.part] else []) ++ (if e.kind == 7 then [e.map.data.toList] else [])
theorem etL_flds {e : GEdit} (h : inR e.kind 1 7 = true) : etL e = glue 32 (flds e) := by
  unfold etL flds
  rcases combos h with ⟨h1, h2, h3, h4⟩ | ⟨h1, h2, h3, h4⟩ | ⟨h1, h2, h3, h4⟩ | ⟨h1, h2, h3, h4⟩ <;> simp [h1, h2, h3, h4, glue]
theorem flds_no32 {e : GEdit} (h : editOk e = true) : ∀ u ∈ flds e, ∀ c ∈ u, c ≠ 32 := by
  obtain ⟨hk, _, _, _, hg, _⟩ := editOk_nums h
  have hw : (wordG e.part).all letOk = true := by
    obtain ⟨_, ls, hl⟩ := gram_lens hg
    by_cases h0 : 0 < e.part.length
    · rw [wordG_pos h0]; exact W1_ok hl _ (by omega)
    · have : e.part = [] := List.eq_nil_of_length_eq_zero (by omega)
      rw [this]; rfl
  have hm : e.kind == 7 → e.map.data.toList.all letOk = true := by
    intro h7
    unfold editOk at h
    simp only [Bool.and_eq_true] at h
    have := h.2
    rw [if_pos h7, Bool.and_eq_true] at this
    exact wordOk_all this.2
  intro u hu
  unfold flds at hu
  simp only [List.mem_append, List.mem_cons, List.not_mem_nil, or_false] at hu
  rcases hu with ((((rfl | rfl) | hu) | hu) | hu) | hu
  · exact wordE_no32 hk
  · exact dec_no32 _
  · split at hu
    · simp at hu; subst hu; exact dec_no32 _
    · simp at hu
  · split at hu
    · simp at hu; subst hu; exact dec_no32 _
    · simp at hu
  · split at hu
    · simp at hu; subst hu; exact letters_no32 hw
    · simp at hu
  · split at hu
    · rename_i h7
      simp at hu; subst hu; exact letters_no32 (hm h7)
    · simp at hu
theorem shapes {κ : Int} (h : inR κ 1 7 = true) :
    (usesJ κ = false ∧ usesK κ = false ∧ (κ == 1) = true ∧ (κ == 7) = false ∧ (usesS κ).data.toList = [73, 80]) ∨ (usesJ κ = true ∧ usesK κ = false ∧ (κ == 1) = false ∧ (κ == 7) = false ∧ (usesS κ).data.toList = [73, 74]) ∨
    (usesJ κ = true ∧ usesK κ = true ∧ (κ == 1) = false ∧ (κ == 7) = false ∧ (usesS κ).data.toList = [73, 74, 75]) ∨ (usesJ κ = true ∧ usesK κ = false ∧ (κ == 1) = false ∧ (κ == 7) = true ∧ (usesS κ).data.toList = [73, 74, 77]) := by
  rcases kind7 h with rfl | rfl | rfl | rfl | rfl | rfl | rfl <;> decide
theorem len3 {α : Type} {l : List α} (h : l.length = 3) : ∃ a b c, l = [a, b, c] := by
  match l, h with
  | [a, b, c], _ => exact ⟨a, b, c, rfl⟩
theorem len4 {α : Type} {l : List α} (h : l.length = 4) : ∃ a b c d, l = [a, b, c, d] := by
  match l, h with
  | [a, b, c, d], _ => exact ⟨a, b, c, d, rfl⟩
section
variable {κ : Int} {x1 x2 x3 : ByteArray} {e : GEdit}
theorem run_IP : rdRun [73, 80] [x1, x2] ⟨κ, 0, 0, 0, [], ⟨#[]⟩⟩ = some e ↔ (rdOk x1.data.toList = true ∧ wordOk x2 = true ∧ x2.size ≤ 400) ∧ e = ⟨κ, numV x1.data.toList, 0, 0, plainG x2, ⟨#[]⟩⟩ := by
  cases h1 : rdOk x1.data.toList <;> cases h2 : wordOk x2 <;> by_cases h3 : x2.size ≤ 400 <;> simp [rdRun, rdStep, h1, h2, h3, eq_comm]
theorem run_IJ : rdRun [73, 74] [x1, x2] ⟨κ, 0, 0, 0, [], ⟨#[]⟩⟩ = some e ↔ (rdOk x1.data.toList = true ∧ rdOk x2.data.toList = true) ∧ e = ⟨κ, numV x1.data.toList, numV x2.data.toList, 0, [], ⟨#[]⟩⟩ := by
  cases h1 : rdOk x1.data.toList <;> cases h2 : rdOk x2.data.toList <;> simp [rdRun, rdStep, h1, h2, eq_comm]
theorem run_IJK : rdRun [73, 74, 75] [x1, x2, x3] ⟨κ, 0, 0, 0, [], ⟨#[]⟩⟩ = some e ↔ (rdOk x1.data.toList = true ∧ rdOk x2.data.toList = true ∧ rdOk x3.data.toList = true) ∧ e = ⟨κ, numV x1.data.toList, numV x2.data.toList, numV x3.data.toList, [], ⟨#[]⟩⟩ := by
  cases h1 : rdOk x1.data.toList <;> cases h2 : rdOk x2.data.toList <;> cases h3 : rdOk x3.data.toList <;> simp [rdRun, rdStep, h1, h2, h3, eq_comm]
theorem run_IJM : rdRun [73, 74, 77] [x1, x2, x3] ⟨κ, 0, 0, 0, [], ⟨#[]⟩⟩ = some e ↔ (rdOk x1.data.toList = true ∧ rdOk x2.data.toList = true) ∧ e = ⟨κ, numV x1.data.toList, numV x2.data.toList, 0, [], x3⟩ := by
  cases h1 : rdOk x1.data.toList <;> cases h2 : rdOk x2.data.toList <;> simp [rdRun, rdStep, h1, h2, eq_comm]
end
theorem splB_lists (b : UInt8) (t : ByteArray) : (splB b t).map (·.data.toList) = spl b [] t.data.toList := by
  unfold splB
  rw [List.map_map]
  conv => rhs; rw [← List.map_id (spl b [] t.data.toList)]
  apply List.map_congr_left
  intro u _
  rfl
theorem et_of_flds {e : GEdit} {t : ByteArray} (h : editOk e = true) (hf : flds e = (splB 32 t).map (·.data.toList)) (hw : (wordG e.part).length ≤ 2000) : etV e = t.data.toList := by
  unfold etV
  rw [if_pos h]
  have : (e.kind == 1 && decide (2000 < (wordG e.part).length)) = false := by simp; intro _; exact hw
  rw [this, etL_flds (editOk_nums h).1, hf, splB_lists, glue_spl]
  simp
theorem flds_of_et {e : GEdit} {t : ByteArray} (h : editOk e = true) (ht : etV e = t.data.toList) (h0 : t.data.toList ≠ []) : (splB 32 t).map (·.data.toList) = flds e := by
  unfold etV at ht
  rw [if_pos h] at ht
  split at ht
  · exact absurd ht.symm h0
  · rw [splB_lists, ← ht, etL_flds (editOk_nums h).1, spl_glue _ (by simp [flds]) (flds_no32 h)]
theorem bytes_eq {x : ByteArray} {u : List UInt8} (h : (⟨u.toArray⟩ : ByteArray) = x) : u = x.data.toList := by rw [← h]
theorem rdSpec_imp {t : ByteArray} {e : GEdit} (h : rdSpec t = some e) : rdImp t = some e := by
  unfold rdSpec at h
  unfold rdImp
  generalize hκ : kf ((splB 32 t).headD ⟨#[]⟩) 8 = κ at h
  have hκ' : kf ((splB 32 t).headD eB) 8 = κ := hκ
  rw [hκ']
  unfold rdK at h
  split at h
  · cases h
  · rename_i hk0
    rw [if_neg hk0]
    split at h
    · cases h
    · rename_i hlen
      have hlen : (splB 32 t).length = (usesS κ).size + 1 := by simpa using hlen
      obtain ⟨k, hk1, hk2, hk3, hk4⟩ := kf_word ((splB 32 t).headD eB) 8 (by rw [hκ']; exact hk0)
      rw [hκ'] at hk1
      have hin : inR κ 1 7 = true := by rw [hk1]; simp [inR]; omega
      rw [← hk1] at hk4
      split at h
      · cases h
      · rename_i e' hrun
        split at h
        · rename_i hok
          cases h
          have huse : (usesS κ).size = (usesS κ).data.toList.length := by rw [Array.length_toList]; rfl
          rcases shapes hin with ⟨s1, s2, s3, s4, s5⟩ | ⟨s1, s2, s3, s4, s5⟩ | ⟨s1, s2, s3, s4, s5⟩ | ⟨s1, s2, s3, s4, s5⟩
          · rw [huse, s5] at hlen
            obtain ⟨X, x1, x2, hL⟩ := len3 hlen
            rw [hL] at hk4 hrun ⊢
            rw [s5] at hrun
            obtain ⟨⟨r1, r2, r3⟩, rfl⟩ := run_IP.1 hrun
            have hg : gramOk (plainG x2) = true := (editOk_nums hok).2.2.2.2.1
            have hmk : rdMk κ [X, x1, x2] = ⟨κ, numV x1.data.toList, 0, 0, plainG x2, ⟨#[]⟩⟩ := by
              unfold rdMk
              rw [s1, s2, s3, s4]
              simp [(pI_num r1).1, eB]
            have hpg : pgOk x2 = true := by simp [pgOk, r2, hg]
            have hwg := plainG_word r2 hg
            have het := et_of_flds (t := t) hok (by rw [hL]; simp [flds, s1, s2, s3, s4, hwg, (rdOk_dec r1).1, bytes_eq hk4]) (by rw [hwg, Array.length_toList]; show x2.size ≤ 2000; omega)
            unfold rdTry
            rw [hmk, hok, het, s3]
            simp [hpg]
          · rw [huse, s5] at hlen
            obtain ⟨X, x1, x2, hL⟩ := len3 hlen
            rw [hL] at hk4 hrun ⊢
            rw [s5] at hrun
            obtain ⟨⟨r1, r2⟩, rfl⟩ := run_IJ.1 hrun
            have hmk : rdMk κ [X, x1, x2] = ⟨κ, numV x1.data.toList, numV x2.data.toList, 0, [], ⟨#[]⟩⟩ := by
              unfold rdMk
              rw [s1, s2, s3, s4]
              simp [(pI_num r1).1, (pI_num r2).1, eB]
            have het := et_of_flds (t := t) hok (by rw [hL]; simp [flds, s1, s2, s3, s4, (rdOk_dec r1).1, (rdOk_dec r2).1, bytes_eq hk4]) (by simp [wordG])
            unfold rdTry
            rw [hmk, hok, het, s3]
            simp
          · rw [huse, s5] at hlen
            obtain ⟨X, x1, x2, x3, hL⟩ := len4 hlen
            rw [hL] at hk4 hrun ⊢
            rw [s5] at hrun
            obtain ⟨⟨r1, r2, r3⟩, rfl⟩ := run_IJK.1 hrun
            have hmk : rdMk κ [X, x1, x2, x3] = ⟨κ, numV x1.data.toList, numV x2.data.toList, numV x3.data.toList, [], ⟨#[]⟩⟩ := by
              unfold rdMk
              rw [s1, s2, s3, s4]
              simp [(pI_num r1).1, (pI_num r2).1, (pI_num r3).1, eB]
            have het := et_of_flds (t := t) hok (by rw [hL]; simp [flds, s1, s2, s3, s4, (rdOk_dec r1).1, (rdOk_dec r2).1, (rdOk_dec r3).1, bytes_eq hk4]) (by simp [wordG])
            unfold rdTry
            rw [hmk, hok, het, s3]
            simp
          · rw [huse, s5] at hlen
            obtain ⟨X, x1, x2, x3, hL⟩ := len4 hlen
            rw [hL] at hk4 hrun ⊢
            rw [s5] at hrun
            obtain ⟨⟨r1, r2⟩, rfl⟩ := run_IJM.1 hrun
            have hmk : rdMk κ [X, x1, x2, x3] = ⟨κ, numV x1.data.toList, numV x2.data.toList, 0, [], x3⟩ := by
              unfold rdMk
              rw [s1, s2, s3, s4]
              simp [(pI_num r1).1, (pI_num r2).1]
            have het := et_of_flds (t := t) hok (by rw [hL]; simp [flds, s1, s2, s3, s4, (rdOk_dec r1).1, (rdOk_dec r2).1, bytes_eq hk4]) (by simp [wordG])
            unfold rdTry
            rw [hmk, hok, het, s3]
            simp
        · cases h
theorem rd_num {x : ByteArray} {n : Int} (hn : n = pI x.data.toList) (h0 : 0 ≤ n ∧ n ≤ 1000000000000000) (hx : x.data.toList = dec n) : rdOk x.data.toList = true ∧ numV x.data.toList = pI x.data.toList := by
  obtain ⟨a1, a2⟩ := dec_rdOk h0.1 h0.2
  rw [hx, ← hx]
  rw [← hx] at a1 a2
  exact ⟨a1, by rw [a2, hn]⟩
theorem rdImp_spec {t : ByteArray} {e : GEdit} (h : rdImp t = some e) : rdSpec t = some e := by
  unfold rdImp at h
  unfold rdSpec
  generalize hκ : kf ((splB 32 t).headD ⟨#[]⟩) 8 = κ
  have hκ' : kf ((splB 32 t).headD eB) 8 = κ := hκ
  rw [hκ'] at h
  unfold rdK
  split at h
  · cases h
  · rename_i hk0
    rw [if_neg hk0]
    obtain ⟨k, hk1, hk2, hk3, hk4⟩ := kf_word ((splB 32 t).headD eB) 8 (by rw [hκ']; exact hk0)
    rw [hκ'] at hk1
    have hin : inR κ 1 7 = true := by rw [hk1]; simp [inR]; omega
    rw [← hk1] at hk4
    have huse : (usesS κ).size = (usesS κ).data.toList.length := by rw [Array.length_toList]; rfl
    unfold rdTry at h
    split at h
    · cases h
    · rename_i hpg
      split at h
      · rename_i hboth
        cases h
        rw [Bool.and_eq_true] at hboth
        obtain ⟨hok, het⟩ := hboth
        have het : etV (rdMk κ (splB 32 t)) = t.data.toList := by simpa using het
        have ht0 : t.data.toList ≠ [] := by
          intro h0
          have hX : (splB 32 t).headD eB = eB := by unfold splB; rw [h0]; rfl
          rw [hX] at hk4
          have := bytes_eq hk4
          rcases kind7 hin with rfl | rfl | rfl | rfl | rfl | rfl | rfl <;> simp [wordE, eB] at this
        have hfl := flds_of_et hok het ht0
        obtain ⟨_, ni, nj, nq, ng, _⟩ := editOk_nums hok
        rcases shapes hin with ⟨s1, s2, s3, s4, s5⟩ | ⟨s1, s2, s3, s4, s5⟩ | ⟨s1, s2, s3, s4, s5⟩ | ⟨s1, s2, s3, s4, s5⟩
        · have hlen : (splB 32 t).length = 3 := by
            have := congrArg List.length hfl
            simpa [flds, rdMk, s1, s2, s3, s4] using this
          obtain ⟨X, x1, x2, hL⟩ := len3 hlen
          rw [hL] at hfl hok ni ng hpg ⊢
          have hmk : rdMk κ [X, x1, x2] = ⟨κ, pI x1.data.toList, 0, 0, plainG x2, ⟨#[]⟩⟩ := by
            unfold rdMk
            rw [s1, s2, s3, s4]
            simp [eB]
          rw [hmk] at hfl hok ni ng ⊢
          rw [s3] at hpg
          have hpg : pgOk x2 = true := by simpa using hpg
          simp only [pgOk, Bool.and_eq_true] at hpg
          simp [flds, s1, s2, s3, s4] at hfl
          obtain ⟨r1, r1'⟩ := rd_num rfl ni hfl.2.1
          have hsz := plainG_ge hpg.1
          have h400 := (gram_lens hpg.2).1
          rw [if_neg (by rw [huse, s5]; simp), s5]
          show (match rdRun [73, 80] [x1, x2] _ with | none => none | some e => if editOk e = true then some e else none) = _
          rw [run_IP.2 ⟨⟨r1, hpg.1, by omega⟩, rfl⟩]
          simp only [r1', hok, if_true]
        · have hlen : (splB 32 t).length = 3 := by
            have := congrArg List.length hfl
            simpa [flds, rdMk, s1, s2, s3, s4] using this
          obtain ⟨X, x1, x2, hL⟩ := len3 hlen
          rw [hL] at hfl hok ni nj ⊢
          have hmk : rdMk κ [X, x1, x2] = ⟨κ, pI x1.data.toList, pI x2.data.toList, 0, [], ⟨#[]⟩⟩ := by
            unfold rdMk
            rw [s1, s2, s3, s4]
            simp [eB]
          rw [hmk] at hfl hok ni nj ⊢
          simp [flds, s1, s2, s3, s4] at hfl
          obtain ⟨r1, r1'⟩ := rd_num rfl ni hfl.2.1
          obtain ⟨r2, r2'⟩ := rd_num rfl nj hfl.2.2
          rw [if_neg (by rw [huse, s5]; simp), s5]
          show (match rdRun [73, 74] [x1, x2] _ with | none => none | some e => if editOk e = true then some e else none) = _
          rw [run_IJ.2 ⟨⟨r1, r2⟩, rfl⟩]
          simp only [r1', r2', hok, if_true]
        · have hlen : (splB 32 t).length = 4 := by
            have := congrArg List.length hfl
            simpa [flds, rdMk, s1, s2, s3, s4] using this
          obtain ⟨X, x1, x2, x3, hL⟩ := len4 hlen
          rw [hL] at hfl hok ni nj nq ⊢
          have hmk : rdMk κ [X, x1, x2, x3] = ⟨κ, pI x1.data.toList, pI x2.data.toList, pI x3.data.toList, [], ⟨#[]⟩⟩ := by
            unfold rdMk
            rw [s1, s2, s3, s4]
            simp [eB]
          rw [hmk] at hfl hok ni nj nq ⊢
          simp [flds, s1, s2, s3, s4] at hfl
          obtain ⟨r1, r1'⟩ := rd_num rfl ni hfl.2.1
          obtain ⟨r2, r2'⟩ := rd_num rfl nj hfl.2.2.1
          obtain ⟨r3, r3'⟩ := rd_num rfl nq hfl.2.2.2
          rw [if_neg (by rw [huse, s5]; simp), s5]
          show (match rdRun [73, 74, 75] [x1, x2, x3] _ with | none => none | some e => if editOk e = true then some e else none) = _
          rw [run_IJK.2 ⟨⟨r1, r2, r3⟩, rfl⟩]
          simp only [r1', r2', r3', hok, if_true]
        · have hlen : (splB 32 t).length = 4 := by
            have := congrArg List.length hfl
            simpa [flds, rdMk, s1, s2, s3, s4] using this
          obtain ⟨X, x1, x2, x3, hL⟩ := len4 hlen
          rw [hL] at hfl hok ni nj ⊢
          have hmk : rdMk κ [X, x1, x2, x3] = ⟨κ, pI x1.data.toList, pI x2.data.toList, 0, [], x3⟩ := by
            unfold rdMk
            rw [s1, s2, s3, s4]
            simp
          rw [hmk] at hfl hok ni nj ⊢
          simp [flds, s1, s2, s3, s4] at hfl
          obtain ⟨r1, r1'⟩ := rd_num rfl ni hfl.2.1
          obtain ⟨r2, r2'⟩ := rd_num rfl nj hfl.2.2
          rw [if_neg (by rw [huse, s5]; simp), s5]
          show (match rdRun [73, 74, 77] [x1, x2, x3] _ with | none => none | some e => if editOk e = true then some e else none) = _
          rw [run_IJM.2 ⟨⟨r1, r2⟩, rfl⟩]
          simp only [r1', r2', hok, if_true]
      · cases h
theorem rd_eq (t : ByteArray) : rdImp t = rdSpec t := by
  cases h : rdSpec t with
  | some e => exact rdSpec_imp h
  | none =>
    cases h2 : rdImp t with
    | none => rfl
    | some e => rw [rdImp_spec h2] at h; cases h
def chgOK (e : GEdit) : Prop := e.kind = 5 ∨ (e.kind = 6 ∧ 0 ≤ e.k ∧ e.k ≤ 1000000000000000) ∨ (e.kind = 7 ∧ wordOk e.map = true ∧ e.map.size = 4)
set_option maxRecDepth 100000 in
set_option maxHeartbeats 1000000 in
theorem changed_any (E b K : Nat) (e : GEdit) (vR : Value) (xs : List GRule) (ls : List Int) (s : Option (List GRule)) (w : World) (hK : Blk w K #[.pointer (some ⟨b, 0, none⟩)] 197) (hA : Asm w b xs ls s) (hE : Blk w E (editCells e vR) 46)
    (hk : chgOK e) (hl : lens xs = some ls) (hn : xs.length ≤ 1048576) (htab : Lib.TabIs Tryz.prog w "math/bits.deBruijn64tab" .u8 deB64) :
    Calls Tryz.prog 151 #[.func (.func 155) #[] #[.pointer (some ⟨E, 0, none⟩)], .pointer (some ⟨K, 0, none⟩), .pointer (some ⟨E, 0, none⟩)] w
      fun e' w' => NoRes e' ∧ But b w w' ∧ Asm w' b xs ls (addO s ((limO (partG xs ls e.i e.j)).bind (chgO e))) := by
  have HA := Lib.hid hA
  have HL := Lib.hid hl
  have HT := Lib.hid htab
  have HK := Lib.hid hk
  have hlt := hA.lt
  have x1 := hE.cell (i := 1) (v := .int .i64 e.i) rfl
  have x2 := hE.cell (i := 2) (v := .int .i64 e.j) rfl
  have xK := hK.cell (i := 0) (v := .pointer (some ⟨b, 0, none⟩)) rfl
  have hE0 := Lib.hid hE
  have hK0 := Lib.hid hK
  clear hA hl htab hk hE hK
  go_enter Tryz.func151, Tryz.ntmps151
  go_wp2_with fail
  refine (asmPart_any b xs ls s e.i e.j _ HA.out HL.out hn).mono ?_
  rintro e1 w1 ⟨hb1, v1, own1, rfl⟩
  have hE1 := Lib.hid (hE0.out.up hb1)
  have hK1 := Lib.hid (hK0.out.up hb1)
  have HA1 := Lib.hid (HA.out.up hb1)
  have HT1 := Lib.hid (tabB HT.out hb1)
  have HO1 := Lib.hid own1
  have HB1 := Lib.hid hb1
  have lim1 := limOut_len (partG xs ls e.i e.j)
  obtain ⟨A1, k1, rfl, _⟩ := own_nil own1
  have z1 := hb1.size
  clear HA hE0 hK0 HT own1 hb1 x1 x2 xK
  cases hg : gramOk (partG xs ls e.i e.j) with
  | true =>
    have q1 : limOut (partG xs ls e.i e.j) = partG xs ls e.i e.j := by unfold limOut; rw [hg]; rfl
    have q2 : limCode (partG xs ls e.i e.j) = 0 := by unfold limCode; rw [hg]; rfl
    have q3 : limO (partG xs ls e.i e.j) = some (partG xs ls e.i e.j) := by unfold limO; rw [hg]; rfl
    have Q3 := Lib.hid q3
    have HG := Lib.hid hg
    rw [q1] at HO1 lim1
    rw [q1, q2]
    clear q1 q2 q3 hg
    generalize hpq : partG xs ls e.i e.j = p at *
    have HPQ := Lib.hid hpq
    clear hpq
    have lK := hK1.out.lt
    have hHO := HO1.out
    go_wp2_with fail
    refine (chg_any E e vR _ p _ (hE1.out.alloc _) (sl_up hHO.sl (Nat.le_refl _) (by repeat (first | exact Below.refl _ _ | (refine Below.alloc ?_ (by first | omega | (simp; done) | (simp; omega)) _) | (refine Below.setCell ?_ (by first | exact Nat.le_refl _ | (show _ ≤ _; omega) | (simp; done) | (simp; omega)) _) | refine below_drewN ?_ _ | refine Below.drew ?_))) HG.out HK.out (tabB HT1.out (by repeat (first | exact Below.refl _ _ | (refine Below.alloc ?_ (by first | omega | (simp; done) | (simp; omega)) _) | (refine Below.setCell ?_ (by first | exact Nat.le_refl _ | (show _ ≤ _; omega) | (simp; done) | (simp; omega)) _) | refine below_drewN ?_ _ | refine Below.drew ?_)))).mono ?_
    rintro e2 w2 ⟨hb2, v2, out, c2, own2, hc2, rfl⟩
    obtain ⟨hb3, K4⟩ := Below.unalloc hb2
    have z3 := hb3.size
    have hK2 := Lib.hid (hK1.out.up hb3)
    have HS3 := Lib.hid (fun (v : Value) => Below.setCell hb3 (show w1.heap.size ≤ (⟨w1.heap.size, 0, none⟩ : Addr).block from Nat.le_refl _) v)
    have HO2 := Lib.hid own2
    have HC2 := Lib.hid hc2
    have xK := hK2.out.cell (i := 0) (v := .pointer (some ⟨b, 0, none⟩)) rfl
    have c4 := Blk.cell (i := 0) (v := .slice A1 p.length k1) K4 rfl
    have f4 := Blk.frozen K4 0
    have l4 := Blk.lt K4
    have lK2 := hK2.out.lt
    obtain ⟨A2, k2, rfl, _⟩ := own_nil own2
    have hne : K ≠ w1.heap.size := by omega
    clear hHO hb2 hb3 own2 hc2 hK1 hE1
    go_wp2_with fail
    refine (asmAdd_any b xs ls s (chgO e p) (.slice A2 out.length k2) out c2 _ (HA1.out.up (HS3.out _)) ?_ HC2.out).mono ?_
    · exact own_slS (ownsRow_setCell_below HO2.out (a := ⟨w1.heap.size, 0, none⟩) (by simp) _) (by simp; omega)
    rintro e3 w3 ⟨rfl, hb4, ha4⟩
    go_wp2
    go_end0
    rw [HPQ.out, Q3.out]
    exact ⟨rfl, (But.of (Below.tr HB1.out (HS3.out _))).trans hb4, ha4⟩
  | false =>
    have q1 : limOut (partG xs ls e.i e.j) = [] := by unfold limOut; rw [hg]; rfl
    have q2 : limCode (partG xs ls e.i e.j) = 3 := by unfold limCode; rw [hg]; rfl
    have q3 : limO (partG xs ls e.i e.j) = none := by unfold limO; rw [hg]; rfl
    have Q3 := Lib.hid q3
    rw [q1] at HO1
    rw [q1, q2]
    clear q1 q2 q3 hg lim1
    have xK := hK1.out.cell (i := 0) (v := .pointer (some ⟨b, 0, none⟩)) rfl
    have lK := hK1.out.lt
    go_wp2_with fail
    refine (asmAdd_any b xs ls s none (.slice A1 0 k1) [] 3 _ (HA1.out.up (by repeat (first | exact Below.refl _ _ | (refine Below.alloc ?_ (by first | omega | (simp; done) | (simp; omega)) _) | (refine Below.setCell ?_ (by first | exact Nat.le_refl _ | (show _ ≤ _; omega) | (simp; done) | (simp; omega)) _) | refine below_drewN ?_ _ | refine Below.drew ?_))) ?_ (.inr ⟨rfl, rfl⟩)).mono ?_
    · exact own_slS (World.ownsRow.alloc HO1.out _) hlt
    rintro e3 w3 ⟨rfl, hb4, ha4⟩
    go_wp2
    go_end0
    rw [Q3.out]
    exact ⟨rfl, (But.of (HB1.out.alloc z1 _)).trans hb4, ha4⟩
end Go.Proofs.YtbifijlenbibmaaGreatDoor
