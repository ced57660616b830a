import Derived.Test.YtejgbfgocaggfaaGreatDoorM14
import Derived.Lib.CountLaws
import Derived.Lib.SplitLaws
set_option maxRecDepth 100000
set_option maxHeartbeats 8000000
namespace Go.Proofs.YtejgbfgocaggfaaGreatDoor
open Go.RowKit
def zoF : zam := ⟨0, 0, 0, 0, [], ⟨#[]⟩⟩
def zjs (e : zam) (c : UInt8) (x : ByteArray) : Option zam :=
 if c = 73 then (if zfP x.data.toList then some ⟨e.kind, zff x.data.toList, e.j, e.k, e.part, e.map⟩ else none)
 else if c = 74 then (if zfP x.data.toList then some ⟨e.kind, e.i, zff x.data.toList, e.k, e.part, e.map⟩ else none)
 else if c = 75 then (if zfP x.data.toList then some ⟨e.kind, e.i, e.j, zff x.data.toList, e.part, e.map⟩ else none)
 else if c = 80 then (if zaB x && decide (x.size <= 400) then some ⟨e.kind, e.i, e.j, e.k, zaM x, e.map⟩ else none)
 else some ⟨e.kind, e.i, e.j, e.k, e.part, x⟩
def zfE : List UInt8 -> List ByteArray -> zam -> Option zam
 | [], _, e => some e
 | _ :: _, [], _ => none
 | c :: us, x :: xs, e => match zjs e c x with
   | some e' => zfE us xs e'
   | none => none
def kf (x : ByteArray) : Nat -> Int
 | 0 => 0
 | m + 1 => if 1 <= m /\ (⟨(zcO (m : Int)).toArray⟩ : ByteArray) = x then (m : Int) else kf x m
def rdK (κ : Int) (L : List ByteArray) : Option zam :=
 if κ = 0 then none
 else if L.length ≠ (zcN κ).size + 1 then none
 else match zfE (zcN κ).data.toList L.tail ⟨κ, 0, 0, 0, [], ⟨#[]⟩⟩ with
  | none => none
  | some e => if zat e then some e else none
def zcY (t : ByteArray) : Option zam := rdK (kf ((zcl 32 t).headD ⟨#[]⟩) 8) (zcl 32 t)
theorem zfF {t X : ByteArray} {R : List ByteArray} {κ : Int} (h : zcl 32 t = X :: R) (hk : kf X 8 = κ) : zcY t = rdK κ (X :: R) := by
 unfold zcY; rw [h]; show rdK (kf X 8) (X :: R) = _; rw [hk]
def zmS (t : ByteArray) : zam := (zcY t).getD zoF
def zjt (t : ByteArray) : Int := if (zcY t).isSome then 0 else 5
theorem zfZ {t : ByteArray} (h : zcY t = none) : zmS t = zoF /\ zjt t = 5 := by simp [zmS, zjt, h]
theorem ziD {t : ByteArray} {e : zam} (h : zcY t = some e) : zmS t = e /\ zjt t = 0 := by simp [zmS, zjt, h]
def zp4 (e : zam) (code : Int) (w : World) (r : Ending) (w' : World) : Prop :=
 Below w.heap.size w w' /\ ∃ v, zac w' w.heap.size v e.part /\ r = .returned (.tuple #[.agg #[.int .i64 e.kind, .int .i64 e.i, .int .i64 e.j, .int .i64 e.k, v, .string e.map], .int .i64 code])
structure zju (wE wx : World) (e : zam) (v : Value) : Prop where
 bel : Below wE.heap.size wE wx
 box : Blk wx wE.heap.size #[.int .i64 e.kind, .int .i64 e.i, .int .i64 e.j, .int .i64 e.k, v, .string e.map] 37
 own : zac wx (wE.heap.size + 1) v e.part
theorem zju.up {wE wx w' : World} {e : zam} {v : Value} (h : zju wE wx e v) (hb : Below wx.heap.size wx w') : zju wE w' e v :=
 ⟨Below.tr h.bel hb, h.box.up hb, zac.below h.own hb⟩
section
variable {wE wx : World} {e : zam} {v : Value}
theorem zju.set2 (h : zju wE wx e v) (x : Int) : zju wE (wx.setCell ⟨wE.heap.size, 2, none⟩ (.int .i64 x)) ⟨e.kind, e.i, x, e.k, e.part, e.map⟩ v :=
 ⟨Below.setCell h.bel yL _, Blk.set h.box 2 _, ownsRow_setCell_below h.own (a := ⟨wE.heap.size, 2, none⟩) (Nat.lt_succ_self _) _⟩
theorem zju.set3 (h : zju wE wx e v) (x : Int) : zju wE (wx.setCell ⟨wE.heap.size, 3, none⟩ (.int .i64 x)) ⟨e.kind, e.i, e.j, x, e.part, e.map⟩ v :=
 ⟨Below.setCell h.bel yL _, Blk.set h.box 3 _, ownsRow_setCell_below h.own (a := ⟨wE.heap.size, 3, none⟩) (Nat.lt_succ_self _) _⟩
theorem zju.set4 {N : Nat} {u : Value} {xs : List zaa} (h : zju wE wx e v) (own : zac wx N u xs) (hN : wE.heap.size < N) : zju wE (wx.setCell ⟨wE.heap.size, 4, none⟩ u) ⟨e.kind, e.i, e.j, e.k, xs, e.map⟩ u :=
 ⟨Below.setCell h.bel yL _, Blk.set h.box 4 _, zad (ownsRow_setCell_below own (a := ⟨wE.heap.size, 4, none⟩) hN _) yO⟩
theorem zju.set5 (h : zju wE wx e v) (x : ByteArray) : zju wE (wx.setCell ⟨wE.heap.size, 5, none⟩ (.string x)) ⟨e.kind, e.i, e.j, e.k, e.part, x⟩ v :=
 ⟨Below.setCell h.bel yL _, Blk.set h.box 5 _, ownsRow_setCell_below h.own (a := ⟨wE.heap.size, 5, none⟩) (Nat.lt_succ_self _) _⟩
end
theorem zp5 {w wx : World} {a0 a1 a2 a3 a4 a5 : Value} (h : Blk wx w.heap.size #[a0, a1, a2, a3, a4, a5] 37) (hb : Below w.heap.size w wx) (v0 v1 v2 v3 v4 v5 : Value) :
  let W := (((((wx.setCell ⟨w.heap.size, 0, none⟩ v0).setCell ⟨w.heap.size, 1, none⟩ v1).setCell ⟨w.heap.size, 2, none⟩ v2).setCell ⟨w.heap.size, 3, none⟩ v3).setCell ⟨w.heap.size, 4, none⟩ v4).setCell ⟨w.heap.size, 5, none⟩ v5
  (Below w.heap.size w W /\ ∀ k, k ≠ w.heap.size -> W.heap[k]? = wx.heap[k]?) /\ W.cell? ⟨w.heap.size, 0, none⟩ = some v0 /\ W.cell? ⟨w.heap.size, 1, none⟩ = some v1 /\ W.cell? ⟨w.heap.size, 2, none⟩ = some v2 /\ W.cell? ⟨w.heap.size, 3, none⟩ = some v3 /\ W.cell? ⟨w.heap.size, 4, none⟩ = some v4 /\ W.cell? ⟨w.heap.size, 5, none⟩ = some v5 := by
 intro W; have hk : Blk W w.heap.size #[v0, v1, v2, v3, v4, v5] 37 := (((((h.set 0 v0).set 1 v1).set 2 v2).set 3 v3).set 4 v4).set 5 v5
 exact ⟨⟨(((((hb.setCell (p := ⟨w.heap.size, 0, none⟩) yL v0).setCell (p := ⟨w.heap.size, 1, none⟩) yL v1).setCell (p := ⟨w.heap.size, 2, none⟩) yL v2).setCell (p := ⟨w.heap.size, 3, none⟩) yL v3).setCell (p := ⟨w.heap.size, 4, none⟩) yL v4).setCell (p := ⟨w.heap.size, 5, none⟩) yL v5,
  fun k hk => (Below.heap_setCell _ ⟨w.heap.size, 5, none⟩ v5 k hk).trans ((Below.heap_setCell _ ⟨w.heap.size, 4, none⟩ v4 k hk).trans ((Below.heap_setCell _ ⟨w.heap.size, 3, none⟩ v3 k hk).trans ((Below.heap_setCell _ ⟨w.heap.size, 2, none⟩ v2 k hk).trans ((Below.heap_setCell _ ⟨w.heap.size, 1, none⟩ v1 k hk).trans (Below.heap_setCell _ ⟨w.heap.size, 0, none⟩ v0 k hk)))))⟩,
  Blk.cell (i := 0) hk rfl, Blk.cell (i := 1) hk rfl, Blk.cell (i := 2) hk rfl, Blk.cell (i := 3) hk rfl, Blk.cell (i := 4) hk rfl, Blk.cell (i := 5) hk rfl⟩
theorem weq (u : List UInt8) (X : ByteArray) : (u == X.toList) = true ↔ (⟨u.toArray⟩ : ByteArray) = X := by
 rw [beq_iff_eq, ByteArray.toList_eq]; constructor
 · intro h; apply ByteArray.ext; rw [h]
 · intro h; rw [<- h]
theorem zo8 (b : UInt8) : ∀ (t cur : List UInt8), ∀ u ∈ spl b cur t, u.length <= cur.length + t.length := by
 intro t
 induction t with
 | nil => intro cur u hu; simp [spl] at hu; subst hu; simp
 | cons c t ih =>
   intro cur u hu; rw [spl] at hu; split at hu
   · rcases List.mem_cons.1 hu with rfl | hu
     · rw [List.length_cons]; omega
     · have := ih [] u hu; rw [List.length_nil] at this; rw [List.length_cons]; omega
   · have := ih _ u hu; rw [List.length_append, List.length_singleton] at this; rw [List.length_cons]; omega
theorem zmT {b : UInt8} {s : ByteArray} {x : ByteArray} (h : x ∈ zcl b s) : x.size <= s.size := by
 unfold zcl at h; obtain ⟨u, hu, rfl⟩ := List.mem_map.1 h; have := zo8 b _ _ u hu; simp at this
 show u.toArray.size <= s.data.size
 simpa using this
theorem zg0.at {w : World} {base g cap : Nat} {l : List ByteArray} (h : zg0 w base (.slice (some ⟨g, 0, none⟩) l.length cap) l) {k : Nat} {x : ByteArray} (hk : l[k]? = some x) : w.cell? ⟨g, k, none⟩ = some (.string x) := by
 have hlt : k < l.length := (List.getElem?_eq_some_iff.1 hk).1
 have := World.ownsRow.cellAt h k yO; rw [this, List.getElem?_map, hk]; rfl
theorem zqh {P : Program} {w w' : World} {nm : String} {cs : Array Value} (h : w.var? P nm = some cs) (hb : Below w.heap.size w w') : w'.var? P nm = some cs := by
 unfold World.var? at h |-
 obtain ⟨g, hg, h2⟩ := Option.bind_eq_some_iff.1 h; rw [hg]; simp only [Option.bind_some]
 have hlt : g < w.heap.size := by
  rcases Nat.lt_or_ge g w.heap.size with h' | h'
  · exact h'
  · rw [Array.getElem?_eq_none h'] at h2; cases h2
 rw [hb.block g hlt]; exact h2
structure zfG (w : World) : Prop where
 maxLen : ∃ m, w.cell? ⟨2, 0, none⟩ = some (.int .i64 m)
 errS : ∃ tp p, w.var? Tryz.prog "strconv.ErrSyntax" = some #[.iface tp p]
 errR : ∃ tp p, w.var? Tryz.prog "strconv.ErrRange" = some #[.iface tp p]
 tab : Lib.TabIs Tryz.prog w "internal/strconv.uint64pow10" .u64 Lib.pow10Tab
theorem zfG.up {w w' : World} (h : zfG w) (hb : Below w.heap.size w w') : zfG w' := by
 obtain ⟨⟨m, h1⟩, ⟨tp, p, h2⟩, ⟨tq, q, h3⟩, h4⟩ := h; exact ⟨⟨m, (hb.cell (World.block_lt_of_cell? _ _ h1)).trans h1⟩, ⟨tp, p, zqh h2 hb⟩, ⟨tq, q, zqh h3 hb⟩, zi0 h4 hb⟩
theorem zjv (s : ByteArray) (w : World) (hs : s.size <= 1048576) (hv : zfG w) :
  Calls Tryz.prog 41 #[.string s, .int .i64 10, .int .i64 64] w fun e w' => Below w.heap.size w w' /\ ∃ ev, e = .returned (.tuple #[.int .i64 (pI s.data.toList), ev]) := by
 obtain ⟨_, ⟨tp, p, h2⟩, ⟨tq, q, h3⟩, _⟩ := hv; unfold pI; cases h : Lib.parseIntB 64 s.data.toList with
 | ok v =>
   refine (Tryz.strconv_ParseInt_10_at64_ok s yO v h w).mono ?_
   rintro e w' ⟨rfl, hw⟩; refine ⟨?_, _, rfl⟩
   rcases hw with rfl | ⟨t, rfl⟩
   · exact Below.refl _ _
   · exact Lib.bytesWorld_below _ _ _
 | «syntax» =>
   refine (Tryz.strconv_ParseInt_10_at64_syntax_var s yO h tp p w h2).mono ?_
   rintro e w' ⟨N, rfl, _, _, hb⟩; exact ⟨hb, _, rfl⟩
 | range =>
   refine (Tryz.strconv_ParseInt_10_at64_range_var s yO h tq q w h3).mono ?_
   rintro e w' ⟨N, rfl, _, _, hb⟩; exact ⟨hb, _, rfl⟩
theorem zlD (b : UInt8) : ∀ (k : Nat) (l : List UInt8), Lib.count l [b] = k -> Lib.splitK [b] 0 k l = spl b [] l := by
 intro k
 induction k with
 | zero =>
   intro l h; rw [Lib.count_one, List.count_eq_zero] at h; rw [zkW (b := b) l [] (fun c hc e => h (by rw [<- e]; exact hc))]; rfl
 | succ k ih =>
   intro l h; rcases Int.lt_or_le (Lib.indexByte l b) 0 with hn | hn
   · exfalso
     have hm : Lib.index l [b] = -1 := by rw [Lib.index_one]; have := Lib.indexByte_ge l b; omega
     rw [Lib.count_miss hm] at h; cases h
   · obtain ⟨i, hi⟩ := Int.eq_ofNat_of_zero_le hn
     have hix : Lib.index l [b] = (i : Int) := by rw [Lib.index_one]; exact hi
     obtain ⟨h1, h2⟩ := Lib.indexByte_some (show Lib.indexByte l b = (i : Int) from hi); have hc := Lib.count_hit yS hix; rw [h] at hc; have hd : Lib.count (l.drop (i + 1)) [b] = k := by simp at hc; omega
     have hlt : i < l.length := (List.getElem?_eq_some_iff.1 h1).1
     have hl : l = l.take i ++ b :: l.drop (i + 1) := by
      have h3 := List.take_append_drop i l; rw [List.drop_eq_getElem_cons hlt, (List.getElem?_eq_some_iff.1 h1).2] at h3
      exact h3.symm
     rw [Lib.splitK, if_neg (by rw [hix]; simp), hix]; simp only [Int.toNat_natCast, Nat.add_zero, List.length_singleton]
     rw [ih _ hd]
     conv => rhs; rw [hl]
     rw [zjm (l.take i) [] (l.drop (i + 1)) (fun c hc e => by
      obtain ⟨j, hj⟩ := List.mem_iff_getElem?.1 hc; have hji : j < i := by have := (List.getElem?_eq_some_iff.1 hj).1; rw [List.length_take] at this; omega
      rw [List.getElem?_take_of_lt hji] at hj
      exact h2 j hji (e ▸ hj))]
     rfl
theorem zg7 (b : UInt8) (s : ByteArray) : Lib.splitB ⟨#[b]⟩ 0 (Lib.countB s ⟨#[b]⟩) s = zcl b s := by
 refine (zo6 ?_).symm
 rw [Lib.splitB_data]; exact (zlD b _ _ rfl).symm
theorem zmU (s : ByteArray) (w : World) (hs : s.size <= 1048576) (hv : zfG w) :
  Calls Tryz.prog 39 #[.string s, .string ⟨#[32]⟩] w fun e w' => Below w.heap.size w w' /\ ∃ v, zg0 w' w.heap.size v (zcl 32 s) /\ e = .returned v := by
 obtain ⟨⟨m, h1⟩, _, _, _⟩ := hv; refine (Tryz.strings_Split s ⟨#[32]⟩ m w yO h1 (by decide)).mono ?_
 rintro e w' ⟨rfl, rfl⟩
 have hl : Lib.countB s ⟨#[32]⟩ + 1 = (zcl 32 s).length := by
  rw [<- zg7]; exact (Lib.splitB_all ⟨#[32]⟩ (by decide) 0 _ s rfl).symm
 rw [zg7, hl]; refine ⟨(Below.refl _ _).alloc yL _, _, ?_, rfl⟩
 have hle : (zcl 32 s).length <= 1048577 := by rw [<- hl]; have := Lib.countB_le ⟨#[32]⟩ (by decide) s.size s yL; omega
 have := World.ownsRow_lit w ((zcl 32 s).map Value.string).toArray (zcl 32 s).length yL (by simp only [maxLen]; omega) (e := 9) (size := 1) yS; simpa [zg0] using this
theorem zlE {W : World} {ops : Array Oper} {rest : List Oper} {o : Oper} {a : Act} {Q : Exit -> Act -> World -> Prop} (hgd : o.guard = none) (s x : Operand)
  (ho : o.op = .call { callee := .builtin .append, args := #[s, x], argTypes := #[62, 62] }) {base : Nat} {v : Value} {l : List ByteArray}
  (hs : a.eval s = v) {N : Nat} (hx : a.eval x = .slice (some ⟨N, 0, none⟩) 4 4) (hN : N = W.heap.size) (hown : zg0 W base v l) (hlen : l.length <= 1099511627776) (hbase : base <= W.heap.size)
  (h : ∀ v' w', zg0 w' base v' (l ++ [⟨#[]⟩, ⟨#[]⟩, ⟨#[]⟩, ⟨#[]⟩]) -> Below base W w' -> wpList Tryz.prog ops Q rest (a.put o.dst v') w') :
  wpList Tryz.prog ops Q (o :: rest) a (W.alloc (.cells #[.string ⟨#[]⟩, .string ⟨#[]⟩, .string ⟨#[]⟩, .string ⟨#[]⟩] 9)) := by
 subst hN; refine wpList_plain hgd fun _ hK => ?_
 obtain ⟨i0, hi0, hz0, hz1, hz2⟩ := info_parts Tryz.infoW
 obtain ⟨v', w', hrun, h2, h3, _, h5⟩ := run_append_own_at (P := Tryz.prog) (W.alloc (.cells #[.string ⟨#[]⟩, .string ⟨#[]⟩, .string ⟨#[]⟩, .string ⟨#[]⟩] 9)) base 62 o.type 9 i0 (.string ⟨#[]⟩) 1 16 Tryz.underlying62 hi0 hz0 hz1 hz2 rfl (by decide) v _ _ (World.ownsRow.alloc hown _) ⟨W.heap.size, 0, none⟩ 4 4 [.string ⟨#[]⟩, .string ⟨#[]⟩, .string ⟨#[]⟩, .string ⟨#[]⟩] rfl
  (fun j u hu => by
    have : (W.alloc (.cells #[.string ⟨#[]⟩, .string ⟨#[]⟩, .string ⟨#[]⟩, .string ⟨#[]⟩] 9)).cell? ⟨W.heap.size, j, none⟩ = (#[.string ⟨#[]⟩, .string ⟨#[]⟩, .string ⟨#[]⟩, .string ⟨#[]⟩] : Array Value)[j]? := cell_of_row _ _ _ _ 9 (0, 0) (heap_alloc_new W _); have ha : (⟨W.heap.size, 0, none⟩ : Addr).add j = ⟨W.heap.size, j, none⟩ := by unfold Addr.add; split <;> simp_all
    rw [ha, this]; simpa using hu) (by simp [Value.oneCell']) (by simp only [maxLen]; omega) yO (by simp; omega)
 unfold Oper.wp execOp; simp only [ho, resolve, invoke, builtin, Sem.run_bind, Sem.run_pure, Result.andThen_ok, List.map_toArray, List.map_cons, List.map_nil, hs, hx, hrun]
 refine hK _ _ (h v' w' (by unfold zg0; simpa using h2) (((Below.refl base W).alloc hbase _).trans (zhu h3 (by simp; omega) fun y hy => (World.ownsRow.lt hown y hy).1)))
theorem zf0 (P g c k : Nat) (L : List ByteArray) (x : ByteArray) (w : World) (hP : Blk w P #[.slice (some ⟨g, 0, none⟩) L.length c] 62) (hc : w.cell? ⟨g, k, none⟩ = some (.string x)) (hk : k < L.length) (hx : x.size <= 1048576) (hv : zfG w) :
  Calls Tryz.prog 40 #[.int .i64 k, .pointer (some ⟨P, 0, none⟩)] w fun e w' => Below w.heap.size w w' /\ e = .returned (.int .i64 (pI x.data.toList)) := by
 have cP := Blk.cell (i := 0) (v := .slice (some ⟨g, 0, none⟩) L.length c) hP rfl; have lP := Blk.lt hP; have hkI : (k : Int) < (L.length : Int) := by omega
 have HV := yq hv; clear hP hv; go_enter Tryz.func40, Tryz.ntmps40
 go_wp2_with fail
 refine (zjv x _ hx HV.o).mono ?_
 rintro e w1 ⟨hb1, ev, rfl⟩; have HB := yq hb1; go_wp2_with fail
 go_ret
 exact ⟨HB.o, rfl⟩
def zlF (x : ByteArray) : Bool := zaB x && zag (zaM x)
def zee (x : ByteArray) : Int := if zaB x then zas (zaM x) else 1
def ziE (x : ByteArray) : List zaa := if zaB x then zav (zaM x) else []
theorem zpI {x : ByteArray} (h : zlF x = true) : zee x = 0 /\ ziE x = zaM x := by
 simp only [zlF, Bool.and_eq_true] at h
 simp [zee, ziE, h.1, zas, zav, h.2]
theorem zp6 {x : ByteArray} (h : zlF x = false) : zee x = 1 \/ zee x = 3 := by
 cases hw : zaB x with
 | false => left; simp [zee, hw]
 | true =>
   right
   simp only [zlF, hw, Bool.true_and] at h
   simp [zee, hw, zas, h]
theorem zhD (x : ByteArray) (w : World) (hx : x.size <= 1048576) :
  Calls Tryz.prog 43 #[.string x] w (zl8 (ziE x) (zee x) w) := by
 have hxm : x.size <= maxLen := by unfold maxLen; omega
 have HXM := yq hxm; clear hxm; cases hw : zaB x with
 | false =>
   have HW := yq hw; have HQ := yq (show ziE x = [] /\ zee x = 1 by simp [ziE, zee, hw]); clear hw; go_enter Tryz.func43, Tryz.ntmps43
   go_wp2_with fail
   refine (zc2 x _ HXM.o).mono ?_
   rintro e w1 ⟨rfl, rfl⟩; rw [HW.o]; go_wp2_with fail
   refine bodyPost_ret (v := .tuple #[.agg #[.slice none 0 0], .int .i64 1]) (by simp [results, Tryz.results43, go_sem]) rfl ⟨yb, .slice none 0 0, by rw [HQ.o.1]; exact World.ownsRow_nil _ _ _ _, by rw [HQ.o.2]⟩
 | true =>
   have HW := yq hw; have HQ := yq (show ziE x = zav (zaM x) /\ zee x = zas (zaM x) by simp [ziE, zee, hw]); clear hw; go_enter Tryz.func43, Tryz.ntmps43
   go_wp2_with fail
   refine (zc2 x _ HXM.o).mono ?_
   rintro e w1 ⟨rfl, rfl⟩; rw [HW.o]; go_wp2_with fail
   refine (zjg x _ HW.o).mono ?_
   rintro e w1 ⟨hb1, v1, own1, rfl⟩; have KR : Blk w1 w.heap.size #[.slice none 0 0] 26 := by have := (Below.unalloc hb1).2; simpa [Blk] using this
   replace hb1 := (Below.unalloc hb1).1
   have hpl := zdM x; obtain ⟨A1, c1, rfl, _⟩ := zae own1; have HO1 := yq own1; have HKR := yq KR; have HB1 := yq hb1; clear own1 KR hb1; go_wp2_with fail
   refine (zcJ _ _ (zaM x) _ HO1.o yO).mono ?_
   rintro e w2 ⟨hb2, v2, own2, rfl⟩; obtain ⟨A2, c2, rfl, _⟩ := zae own2; have HO2 := yq own2; have KR2 := HKR.o.up hb2; have HB2 := yq (Below.tr HB1.o hb2); have r0 := Blk.cell (i := 0) (v := .slice none 0 0) KR2 rfl; have q0 := Blk.frozen KR2 0; have lR := Blk.lt KR2; clear own2 hb2 KR2; go_wp2_with fail
   refine bodyPost_ret (v := .tuple #[.agg #[.slice A2 (zav (zaM x)).length c2], .int .i64 (zas (zaM x))]) (by simp [results, Tryz.results43, go_sem, r0]) rfl ⟨Below.setCell HB2.o yL _, _, ?_, by rw [HQ.o.2]⟩
   rw [HQ.o.1]; exact zad (ownsRow_setCell_below HO2.o (a := ⟨w.heap.size, 0, none⟩) yS _) yS
theorem ziF (xs ys : List zaa) : zaW (xs ++ ys) = ys.foldl zaR (zaW xs) := by simp [zaW, List.foldl_append]
theorem zeX {xs ys : List zaa} {l : List Int} (h : zaW (xs ++ ys) = some l) : ∃ l1 t, zaW xs = some l1 /\ l = l1 ++ t := by
 rw [ziF] at h; cases hx : zaW xs with
 | none => rw [hx, zcT] at h; cases h
 | some l1 =>
   rw [hx] at h
   suffices H : ∀ (ys : List zaa) (a o : List Int), ys.foldl zaR (some a) = some o -> ∃ t, o = a ++ t by
    obtain ⟨t, ht⟩ := H ys l1 l h; exact ⟨l1, t, rfl, ht⟩
   intro ys
   induction ys with
   | nil => intro a o h; simp at h; exact ⟨[], by simp [h]⟩
   | cons y ys ih =>
     intro a o h; rw [List.foldl_cons] at h; cases hs : zaR (some a) y with
     | none => rw [hs, zcT] at h; cases h
     | some b =>
       rw [hs] at h; obtain ⟨t, rfl⟩ := ih b o h; simp only [zaR, Option.bind_some] at hs
       split at hs
       · cases hs; exact ⟨_, by rw [List.append_assoc]⟩
       · cases hs
theorem zob {xs ys : List zaa} {r : Nat} (h : r < xs.length) : zaA (xs ++ ys) r = zaA xs r := by
 unfold zaA; rw [yg, List.getElem?_append_left h, yg]
theorem zmV {xs ys : List zaa} {ls : List Int} (h : zaW xs = some ls) : ∀ (f r : Nat), r < xs.length -> zcD (xs ++ ys) f r = zcD xs f r := by
 intro f
 induction f with
 | zero => intro r _; rfl
 | succ f ih =>
   intro r hr; rw [zcD, zcD, zob hr]; cases hp : (zaA xs r).pair with
   | false => rfl
   | true =>
     obtain ⟨q1, q2, q3, q4, q5⟩ := zbi h hr hp; rw [if_pos rfl, if_pos rfl, ih _ yO, ih _ yO]
theorem zeA {xs ys : List zaa} {ls : List Int} (h : zaW xs = some ls) {r : Nat} (hr : r < xs.length) : W1 (xs ++ ys) r = W1 xs r := zmV h _ _ hr
theorem zk0 (xs : List zaa) (x : zaa) : zaA (xs ++ [x]) xs.length = x := by
 unfold zaA; rw [yg, List.getElem?_append_right yL, Nat.sub_self]; rfl
theorem zf1 {xs : List zaa} {l : List Int} {a b : Nat} (h : zaW (xs ++ [zaP a b]) = some l) (ha : a < xs.length) (hb : b < xs.length) : W1 (xs ++ [zaP a b]) xs.length = W1 xs a ++ W1 xs b := by
 obtain ⟨l1, t, h1, _⟩ := zeX h; have hp : (zaA (xs ++ [zaP a b]) xs.length).pair = true := by rw [zk0]; exact zfT _ _
 rw [zes h yS hp, zk0]; show W1 (xs ++ [zaP a b]) (Int.toNat (a : Int)) ++ W1 (xs ++ [zaP a b]) (Int.toNat (b : Int)) = _
 rw [Int.toNat_natCast, Int.toNat_natCast, zeA h1 ha, zeA h1 hb]
theorem zjw {xs : List zaa} {ls : List Int} {a b : Nat} (h : zaW xs = some ls) (ha : a < xs.length) (hb : b < xs.length) (hm : ls.getD a 0 + ls.getD b 0 <= ze2) : zaW (xs ++ [zaP a b]) = some (ls ++ [ls.getD a 0 + ls.getD b 0]) := by
 rw [ziF, h]; have hl := zaG h
 have hr : zaU ls (zaP a b) = ls.getD a 0 + ls.getD b 0 := by
  unfold zaU; rw [if_pos (zfT _ _)]; show ls.getD (Int.toNat (a : Int)) 0 + ls.getD (Int.toNat (b : Int)) 0 = _
  rw [Int.toNat_natCast, Int.toNat_natCast]
 simp only [List.foldl_cons, List.foldl_nil, zaR, Option.bind_some]
 rw [hr, if_pos ⟨zco ⟨by omega, by omega⟩ ⟨by omega, by omega⟩, hm⟩]
theorem zf2 {xs : List zaa} {x : zaa} : zau (xs ++ [x]) = W1 (xs ++ [x]) xs.length := by
 rw [za6 yS]; simp
theorem zmW {xs : List zaa} {ls : List Int} (h : zaW xs = some ls) : ∀ (cs : List Nat) (L : List zaa) (l0 : List Int) (t : Nat) (w : List UInt8), zaW L = some l0 -> (∃ y, L = xs ++ y) -> t < L.length -> W1 L t = w -> (∀ c ∈ cs, c < xs.length) ->
  ((w ++ cs.flatMap (W1 xs)).length : Int) <= ze2 -> ∃ (l1 : List Int) (T : Nat), zaW (cs.foldl zbv (L, (t : Int))).1 = some l1 /\ (cs.foldl zbv (L, (t : Int))).2 = (T : Int) /\ T < (cs.foldl zbv (L, (t : Int))).1.length /\ W1 (cs.foldl zbv (L, (t : Int))).1 T = w ++ cs.flatMap (W1 xs) /\ (cs ≠ [] -> T = (cs.foldl zbv (L, (t : Int))).1.length - 1) := by
 intro cs
 induction cs with
 | nil => intro L l0 t w h1 _ ht hw _ _; exact ⟨l0, t, h1, rfl, ht, by simpa using hw, fun h => absurd rfl h⟩
 | cons c cs ih =>
   intro L l0 t w h1 hy ht hw hc hm; obtain ⟨y, rfl⟩ := hy; have hcl : c < xs.length := hc c yS; have hcL : c < (xs ++ y).length := by simp; omega
   have hwc : W1 (xs ++ y) c = W1 xs c := zeA h hcl; have e1 := zeb h1 t ht; have e2 := zeb h1 c hcL; rw [hw] at e1; rw [hwc] at e2; rw [List.flatMap_cons, <- List.append_assoc] at hm
   have hsum : l0.getD t 0 + l0.getD c 0 <= ze2 := by
    rw [List.length_append, List.length_append] at hm; omega
   have h2 := zjw h1 ht hcL hsum; have hw2 := zf1 h2 ht hcL; rw [hw, hwc] at hw2; obtain ⟨l1, T, k1, k2, k3, k4, k5⟩ := ih ((xs ++ y) ++ [zaP t c]) _ (xs ++ y).length (w ++ W1 xs c) h2 ⟨y ++ [zaP t c], by rw [List.append_assoc]⟩ yS hw2 (fun d hd => hc d (by simp [hd])) hm; have e : (c :: cs).foldl zbv (xs ++ y, (t : Int)) = cs.foldl zbv ((xs ++ y) ++ [zaP t c], (((xs ++ y).length : Nat) : Int)) := rfl; rw [e]; refine ⟨l1, T, k1, k2, k3, by rw [k4, List.flatMap_cons, List.append_assoc], fun _ => ?_⟩
   by_cases hcs : cs = []
   · subst hcs
     have : T = (xs ++ y).length := by
      have h3 : (((xs ++ y).length : Nat) : Int) = (T : Int) := k2; omega
     rw [this]; simp
   · exact k5 hcs
theorem zmX {xs : List zaa} {ls : List Int} (h : zaW xs = some ls) (cs : List Nat) (hc : ∀ c ∈ cs, c < xs.length) (hm : ((cs.flatMap (W1 xs)).length : Int) <= ze2) : ∃ l1, zaW (zjb xs cs) = some l1 /\ zau (zjb xs cs) = cs.flatMap (W1 xs) := by
 match cs with
 | [] => exact ⟨[], rfl, rfl⟩
 | [c] =>
   have hcl : c < xs.length := hc c yS; have hx : xs.take (c + 1) ++ xs.drop (c + 1) = xs := List.take_append_drop _ _; obtain ⟨l1, t, h1, _⟩ := zeX (xs := xs.take (c + 1)) (ys := xs.drop (c + 1)) (by rw [hx]; exact h); refine ⟨l1, h1, ?_⟩
   show zau (xs.take (c + 1)) = _
   have hl : (xs.take (c + 1)).length = c + 1 := by rw [List.length_take]; omega
   rw [za6 yO, hl, List.flatMap_cons, List.flatMap_nil, List.append_nil]; have := zeA (ys := xs.drop (c + 1)) h1 (r := c) yO; rw [hx] at this; rw [this]; rfl
 | c :: d :: cs =>
   obtain ⟨l1, T, k1, k2, k3, k4, k5⟩ := zmW h (d :: cs) xs ls c (W1 xs c) h ⟨[], by simp⟩ (hc c yS) rfl (fun x hx => hc x (by simp at hx; simp; exact .inr hx)) (by simpa using hm); refine ⟨l1, k1, ?_⟩
   have hT := k5 yS; show zau ((d :: cs).foldl zbv (xs, (c : Int))).1 = _
   rw [za6 yO, <- hT, k4]; simp
theorem zeY {xs : List zaa} {ls : List Int} (h : zaW xs = some ls) {i j : Int} (hi : 0 <= i) (hij : i <= j) (hj : j <= zao ls) : ∃ l1, zaW (zap xs ls i j) = some l1 /\ zau (zap xs ls i j) = zb4 (zau xs) i j := by
 have hw := zgR h (i := i) (j := j); have hlen := zbf h; have hb := za4 xs; rw [zaD h] at hb
 have hm : (((za3 xs ls i j).flatMap (W1 xs)).length : Int) <= ze2 := by
  rw [hw, zeS hi hij yO]; unfold ze2; omega
 obtain ⟨l1, h1, h2⟩ := zmX h _ (zdK h i j) hm; obtain ⟨l2, h3, h4, _⟩ := zfz h1; exact ⟨l2, h3, by unfold zap; rw [h4, h2, hw]⟩
theorem zcg {xs : List zaa} {ls : List Int} (h : zaW xs = some ls) {i j : Int} (hi : 0 <= i) (hij : i <= j) (hj : j <= zao ls) : zaF (zap xs ls i j) = j - i := by
 obtain ⟨l1, h1, h2⟩ := zeY h hi hij hj; have hlen := zbf h; rw [zaD h1, <- zbf h1, h2, zeS hi hij yO]
def ziG (w : List UInt8) (n : Nat) : List UInt8 := (List.replicate n w).flatten
theorem ziH (w : List UInt8) (m n : Nat) : ziG w (m + n) = ziG w m ++ ziG w n := by
 unfold ziG; rw [<- List.replicate_append_replicate, List.flatten_append]
theorem zk1 (w : List UInt8) : ziG w 1 = w := by simp [ziG]
theorem ziI (w : List UInt8) (n : Nat) : (ziG w n).length = n * w.length := by simp [ziG]
def zpr (m : Nat) (d : UInt8) : Nat := 2 * m + (if d = 49 then 1 else 0)
theorem zkl (root : Int) (L : List zaa) (ds : List UInt8) : ∃ t, ds.foldl (zaX root) L = L ++ t := by
 induction ds generalizing L with
 | nil => exact ⟨[], by simp⟩
 | cons d ds ih =>
   obtain ⟨t, ht⟩ := ih (zaX root L d); rw [List.foldl_cons, ht]; unfold zaX; exact ⟨_, by simp only [List.append_assoc]; rfl⟩
theorem zjx {w : List UInt8} {root : Nat} : ∀ (ds : List UInt8) (L : List zaa) (l : List Int) (m : Nat), zaW (ds.foldl (zaX (root : Int)) L) = some l -> 0 < L.length -> root < L.length -> W1 L root = w -> zau L = ziG w m ->
  zau (ds.foldl (zaX (root : Int)) L) = ziG w (ds.foldl zpr m) := by
 intro ds
 induction ds with
 | nil => intro L l m _ _ _ _ h; exact h
 | cons d ds ih =>
   intro L l m hl h0 hr hw hm; rw [List.foldl_cons] at hl |-
   rw [List.foldl_cons]; obtain ⟨t, ht⟩ := zkl root (zaX root L d) ds; obtain ⟨l1, _, h1, _⟩ := zeX (by rw [<- ht]; exact hl); have e0 : ((L.length : Int) - 1) = ((L.length - 1 : Nat) : Int) := by omega
   have hS : zaX root L d = (L ++ [zaP ((L.length - 1 : Nat) : Int) ((L.length - 1 : Nat) : Int)]) ++ (if d = 49 then [zaP (L.length : Int) root] else []) := by
    unfold zaX; rw [e0]
   rw [hS] at h1; obtain ⟨l2, _, h2, _⟩ := zeX h1; obtain ⟨l3, _, h3, _⟩ := zeX h2; have w2 := zf1 h2 yO yO; have hlast : W1 L (L.length - 1) = ziG w m := by rw [<- hm, za6 h0]
   rw [hlast] at w2; refine ih _ l _ hl ?_ ?_ ?_ ?_
   · rw [hS]; simp only [List.length_append]; omega
   · rw [hS]; simp only [List.length_append]; omega
   · rw [hS, List.append_assoc, zeA h3 hr, hw]
   · rw [hS]
     by_cases hd : d = 49
     · rw [if_pos hd] at h1 |-
       have hl2 : (L ++ [zaP ((L.length - 1 : Nat) : Int) ((L.length - 1 : Nat) : Int)]).length = L.length + 1 := by simp
       have w3 := zf1 (a := L.length) (b := root) h1 yO yO; rw [zf2, w3, w2, zeA h3 hr, hw]; unfold zpr; rw [if_pos hd, Nat.two_mul, ziH, ziH, zk1]
     · rw [if_neg hd, List.append_nil, zf2, w2]
       unfold zpr; rw [if_neg hd, Nat.two_mul, Nat.add_zero, ziH]
theorem zoc (n : Nat) : (ze1 n).foldl zpr 0 = n := by
 induction n using Nat.strongRecOn with
 | ind n ih =>
   by_cases c : n < 2
   · rw [zd2 c]
     rcases (by omega : n = 0 \/ n = 1) with rfl | rfl <;> rfl
   · rw [zd3 c, List.foldl_append, ih (n / 2) yO]
     simp only [List.foldl_cons, List.foldl_nil, zpr]
     rcases (by omega : n % 2 = 0 \/ n % 2 = 1) with h | h
     · rw [h]; simp; omega
     · rw [h]; simp; omega
theorem zmY (n : Nat) (h : 0 < n) : ∃ t, ze1 n = 49 :: t := by
 induction n using Nat.strongRecOn with
 | ind n ih =>
   by_cases c : n < 2
   · rw [zd2 c, show n = 1 by omega]; exact ⟨[], rfl⟩
   · obtain ⟨t, ht⟩ := ih (n / 2) yO yO
     rw [zd3 c, ht]; exact ⟨_, rfl⟩
theorem zjy {xs : List zaa} {ls l : List Int} (h : zaW xs = some ls) {n : Nat} (hp : zaW (zdT xs n) = some l) : zau (zdT xs n) = ziG (zau xs) n := by
 unfold zdT at hp |-
 split
 · rename_i hc
   rcases hc with rfl | hc
   · rfl
   · have : xs = [] := yn hc
     subst this; simp [ziG, zau]
 · rename_i hc
   rw [if_neg hc] at hp; have h0 : 0 < xs.length := by omega
   obtain ⟨t, ht⟩ := zmY n yO; have hv := zoc n; rw [ht] at hp hv |-
   rw [List.tail_cons] at hp |-
   have e0 : ((xs.length : Int) - 1) = ((xs.length - 1 : Nat) : Int) := by omega
   rw [e0] at hp |-
   have := zjx (w := zau xs) t xs l 1 hp h0 yO (by rw [za6 h0]) (zk1 _).symm; rw [this]; rw [List.foldl_cons] at hv; have e1 : zpr 0 49 = 1 := rfl; rw [e1] at hv; rw [hv]
theorem zjz {xs : List zaa} {n : Nat} (h : zag xs = true) (hp : zag (zdT xs n) = true) : zaF (zdT xs n) = n * zaF xs := by
 obtain ⟨_, ls, h1⟩ := zai h; obtain ⟨_, l, h2⟩ := zai hp; rw [zaD h2, zaD h1, <- zbf h2, <- zbf h1, zjy h1 h2, ziI]; simp
theorem zkm {x : ByteArray} {i : Nat} (h : i < x.size) : x.data.getD i 0 = x[i] := by
 rw [Array.getD_eq_getD_getElem?, Array.getElem?_eq_getElem h]; rfl
theorem zk2 {x : ByteArray} {c : UInt8} {r : Nat} (hr : r < (zbb x 4).length) (h : (zbb x 4)[r] = zdn c) : W1 (zbb x 4) r = [c] := by
 have hg : zaA (zbb x 4) r = zdn c := by unfold zaA; rw [yg, ye hr, h]; rfl
 rw [zda (by rw [hg]; rfl), hg]; rfl
theorem zoG {x : ByteArray} (hw : zaB x = true) {i : Nat} (h : i < x.size) : W1 (zbb x 4) (zhw x x[i]) = [x[i]] := by
 have hl := zdc hw h; refine zk2 hl ?_
 unfold zhw at hl |-
 exact List.getElem_idxOf hl
theorem zkn {x : ByteArray} (hw : zaB x = true) (hg : zag (zaM x) = true) : zau (zaM x) = x.data.toList := by
 obtain ⟨_, ls, hl⟩ := zai hg; have hsz : x.data.toList.length = x.size := by rw [Array.length_toList]; rfl
 by_cases h0 : x.size = 0
 · have he : x.data.toList = [] := yn yO
   have hc : ∀ c, zhW x c = false := fun c => by unfold zhW; rw [he]; rfl
   have h1 : zbb x 4 = [] := by unfold zbb; simp [hc]
   rw [zaM, h0, zcp, h1, he]; rfl
 · have hpre : ∀ m, m <= x.size - 1 -> ∃ l, zaW (zbJ x m) = some l := by
    intro m hm
    have hpp : zaM x = zbJ x m ++ ((List.range (x.size - 1)).drop m).map (zev x) := by
     unfold zaM zbJ; rw [List.append_assoc, <- List.map_append]; congr 2
     have := List.take_append_drop m (List.range (x.size - 1)); rw [List.take_range, Nat.min_eq_left hm] at this; exact this.symm
    rw [hpp] at hl; obtain ⟨l1, t, h1, _⟩ := zeX hl; exact ⟨l1, h1⟩
   have main : ∀ m, m <= x.size - 1 -> W1 (zbJ x m) (if m = 0 then zhw x (x.data.getD 0 0) else (zbb x 4).length + m - 1) = x.data.toList.take (m + 1) := by
    intro m
    induction m with
    | zero =>
      intro _; rw [if_pos rfl, zcp, zkm yO, zoG hw yO]; have h1 : (0 : Nat) < x.data.toList.length := by omega
      have h2 : x.data.toList[0] = x[0] := by simp; rfl
      rw [List.take_add_one, ye h1, h2]; simp
    | succ m ih =>
      intro hm; have ih1 := ih yO; obtain ⟨l, hlm⟩ := hpre m yO; obtain ⟨l2, hlm2⟩ := hpre (m + 1) hm; have hpl := zcM x m; have hi0 := zdc hw (i := 0) yO; have hi1 := zdc hw (i := m + 1) yO; rw [zd0] at hlm2 |-
      have hpa : zev x m = zaP (((if m = 0 then zhw x (x.data.getD 0 0) else (zbb x 4).length + m - 1 : Nat)) : Int) ((zhw x x[m + 1] : Nat) : Int) := by
       unfold zev; rw [zkm (show m + 1 < x.size by omega)]; congr 1
       split
       · rfl
       · rfl
      rw [hpa] at hlm2 |-
      obtain ⟨ρ, hρ⟩ : ∃ ρ, (if m = 0 then zhw x (x.data.getD 0 0) else (zbb x 4).length + m - 1) = ρ := ⟨_, rfl⟩
      have hρl : ρ < (zbJ x m).length := by
       rw [<- hρ, hpl]; split
       · rw [zkm (show 0 < x.size by omega)]; omega
       · omega
      rw [hρ] at hlm2 ih1 |-
      rw [if_neg (show ¬ m + 1 = 0 by omega), show (zbb x 4).length + (m + 1) - 1 = (zbJ x m).length by omega]; rw [zf1 hlm2 hρl yO, ih1]; have hlz : ∃ l0, zaW (zbb x 4) = some l0 := by have := hpre 0 yO; rw [zcp] at this; exact this
      obtain ⟨l0, hl0⟩ := hlz
      have hidx : W1 (zbJ x m) (zhw x x[m + 1]) = [x[m + 1]] := by
       unfold zbJ; rw [zeA hl0 hi1, zoG hw yO]
      rw [hidx]; have h1 : m + 1 < x.data.toList.length := by omega
      have h2 : x.data.toList[m + 1] = x[m + 1] := by simp; rfl
      rw [List.take_add_one (i := m + 1), ye h1, h2]; rfl
   have hfin := main (x.size - 1) yL; have hpl := zcM x (x.size - 1); have hi0 := zdc hw (i := 0) yO; have hlen : 0 < (zaM x).length := by unfold zaM; omega
   rw [za6 hlen]; have htk : x.data.toList.take (x.size - 1 + 1) = x.data.toList := List.take_of_length_le yO; rw [htk] at hfin; by_cases h1 : x.size = 1
   · have hone : x.data.toList = [x[0]] := by
      have h2 : x.data.toList[0]'(by omega) = x[0] := by simp; rfl
      obtain ⟨y, hy⟩ := List.length_eq_one_iff.1 (show x.data.toList.length = 1 by omega); rw [<- h2]; simp [hy]
     have hP : zaM x = zbb x 4 := by unfold zaM; rw [h1]; exact zcp x
     rw [hP, hone]; have hr : (zbb x 4).length - 1 < (zbb x 4).length := by omega
     refine zk2 hr ?_
     obtain ⟨k, hk, hkk⟩ := zkQ x _ (List.getElem_mem hr); have hmem := List.getElem_mem hr; unfold zbb at hmem; obtain ⟨j, hj, hjj⟩ := List.mem_map.1 hmem; have hc := (List.mem_filter.1 hj).2; unfold zhW at hc; rw [hone, List.contains_iff_mem] at hc; simp at hc
     unfold zbb; rw [<- hjj, hc]
   · rw [if_neg yO] at hfin
     have : (zaM x).length - 1 = (zbb x 4).length + (x.size - 1) - 1 := by unfold zaM; omega
     rw [this]; exact hfin
theorem zjA {x : ByteArray} (hw : zaB x = true) : x.size <= (zaM x).length := by
 unfold zaM; rw [zcM]; rcases Nat.eq_zero_or_pos x.size with h | h
 · omega
 · have := zdc hw h; omega
theorem zko (X : ByteArray) : ∀ m, kf X m ≠ 0 -> ∃ k : Nat, kf X m = (k : Int) /\ 1 <= k /\ k < m /\ (⟨(zcO (k : Int)).toArray⟩ : ByteArray) = X := by
 intro m
 induction m with
 | zero => intro h; exact absurd rfl h
 | succ m ih =>
   intro h; rw [kf] at h |-
   split at h
   · rename_i hh
     rw [if_pos hh]; exact ⟨m, rfl, hh.1, by omega, hh.2⟩
   · rename_i hh
     rw [if_neg hh]; obtain ⟨k, h1, h2, h3, h4⟩ := ih h; exact ⟨k, h1, h2, by omega, h4⟩
theorem zo9 {X : ByteArray} {m : Nat} (h1 : 1 <= m) (h8 : m < 8) (h : (⟨(zcO (m : Int)).toArray⟩ : ByteArray) = X) : kf X 8 = (m : Int) := by
 subst h; have : m = 1 \/ m = 2 \/ m = 3 \/ m = 4 \/ m = 5 \/ m = 6 \/ m = 7 := by omega
 rcases this with rfl | rfl | rfl | rfl | rfl | rfl | rfl <;> decide
def eB : ByteArray := ⟨#[]⟩
def zgi (κ : Int) (L : List ByteArray) : zam :=
 ⟨κ, pI (L.getD 1 eB).data.toList, if zbq κ then pI (L.getD 2 eB).data.toList else 0, if zbu κ then pI (L.getD 3 eB).data.toList else 0, if κ == 1 then zaM (L.getD 2 eB) else [], if κ == 7 then L.getD 3 eB else eB⟩
def zfH (κ : Int) (L : List ByteArray) (t : ByteArray) : Option zam :=
 if (κ == 1) && !zlF (L.getD 2 eB) then none
 else if zat (zgi κ L) && (etV (zgi κ L) == t.data.toList) then some (zgi κ L) else none
def zhE (t : ByteArray) : Option zam :=
 if kf ((zcl 32 t).headD eB) 8 = 0 then none else zfH (kf ((zcl 32 t).headD eB) 8) (zcl 32 t) t
theorem ziJ (n : Int) : ∀ c ∈ dec n, c ≠ 32 := by
 intro c hc e; have h := (zkY n.toNat).2.1; have := List.all_eq_true.1 h c hc; subst e; simp [zfD] at this
theorem zlG {k : Int} (h : inR k 1 7 = true) : ∀ c ∈ zcO k, c ≠ 32 := by
 rcases zeo h with rfl | rfl | rfl | rfl | rfl | rfl | rfl <;> decide
theorem zgj {l : List UInt8} (h : l.all zci = true) : ∀ c ∈ l, c ≠ 32 := by
 intro c hc e; have := List.all_eq_true.1 h c hc; subst e; simp [zci] at this
theorem zlH {x : ByteArray} (h : zaB x = true) : x.data.toList.all zci = true := by
 unfold zaB at h; simp only [Bool.and_eq_true] at h
 exact h.2
def zgw (e : zam) : List (List UInt8) := [zcO e.kind, dec e.i] ++ (if zbq e.kind then [dec e.j] else []) ++ (if zbu e.kind then [dec e.k] else []) ++ (if e.kind == 1 then [zau e.part] else []) ++ (if e.kind == 7 then [e.map.data.toList] else [])
theorem ziK {e : zam} (h : inR e.kind 1 7 = true) : etL e = zn8 32 (zgw e) := by
 unfold etL zgw; rcases zmR h with ⟨h1, h2, h3, h4⟩ | ⟨h1, h2, h3, h4⟩ | ⟨h1, h2, h3, h4⟩ | ⟨h1, h2, h3, h4⟩ <;> simp [h1, h2, h3, h4, zn8]
theorem zjB {e : zam} (h : zat e = true) : ∀ u ∈ zgw e, ∀ c ∈ u, c ≠ 32 := by
 obtain ⟨hk, _, _, _, hg, _⟩ := zb8 h
 have hw : (zau e.part).all zci = true := by
  obtain ⟨_, ls, hl⟩ := zai hg; by_cases h0 : 0 < e.part.length
  · rw [za6 h0]; exact zpx hl _ yO
  · have : e.part = [] := yn yO
    rw [this]; rfl
 have hm : e.kind == 7 -> e.map.data.toList.all zci = true := by
  intro h7; unfold zat at h; simp only [Bool.and_eq_true] at h
  have := h.2; rw [if_pos h7, Bool.and_eq_true] at this; exact zlH this.2
 intro u hu; unfold zgw at hu; simp only [List.mem_append, List.mem_cons, List.not_mem_nil, or_false] at hu
 rcases hu with ((((rfl | rfl) | hu) | hu) | hu) | hu
 · exact zlG hk
 · exact ziJ _
 · split at hu
   · simp at hu; subst hu; exact ziJ _
   · simp at hu
 · split at hu
   · simp at hu; subst hu; exact ziJ _
   · simp at hu
 · split at hu
   · simp at hu; subst hu; exact zgj hw
   · simp at hu
 · split at hu
   · rename_i h7
     simp at hu; subst hu; exact zgj (hm h7)
   · simp at hu
theorem zmZ {κ : Int} (h : inR κ 1 7 = true) :
  (zbq κ = false /\ zbu κ = false /\ (κ == 1) = true /\ (κ == 7) = false /\ (zcN κ).data.toList = [73, 80]) \/ (zbq κ = true /\ zbu κ = false /\ (κ == 1) = false /\ (κ == 7) = false /\ (zcN κ).data.toList = [73, 74]) \/
  (zbq κ = true /\ zbu κ = true /\ (κ == 1) = false /\ (κ == 7) = false /\ (zcN κ).data.toList = [73, 74, 75]) \/ (zbq κ = true /\ zbu κ = false /\ (κ == 1) = false /\ (κ == 7) = true /\ (zcN κ).data.toList = [73, 74, 77]) := by
 rcases zeo h with rfl | rfl | rfl | rfl | rfl | rfl | rfl <;> decide
theorem zpY {α : Type} {l : List α} (h : l.length = 3) : ∃ a b c, l = [a, b, c] := by
 match l, h with
 | [a, b, c], _ => exact ⟨a, b, c, rfl⟩
theorem zpZ {α : Type} {l : List α} (h : l.length = 4) : ∃ a b c d, l = [a, b, c, d] := by
 match l, h with
 | [a, b, c, d], _ => exact ⟨a, b, c, d, rfl⟩
section
variable {κ : Int} {x1 x2 x3 : ByteArray} {e : zam}
theorem zm0 : zfE [73, 80] [x1, x2] ⟨κ, 0, 0, 0, [], ⟨#[]⟩⟩ = some e ↔ (zfP x1.data.toList = true /\ zaB x2 = true /\ x2.size <= 400) /\ e = ⟨κ, zff x1.data.toList, 0, 0, zaM x2, ⟨#[]⟩⟩ := by
 cases h1 : zfP x1.data.toList <;> cases h2 : zaB x2 <;> by_cases h3 : x2.size <= 400 <;> simp [zfE, zjs, h1, h2, h3, eq_comm]
theorem zm1 : zfE [73, 74] [x1, x2] ⟨κ, 0, 0, 0, [], ⟨#[]⟩⟩ = some e ↔ (zfP x1.data.toList = true /\ zfP x2.data.toList = true) /\ e = ⟨κ, zff x1.data.toList, zff x2.data.toList, 0, [], ⟨#[]⟩⟩ := by
 cases h1 : zfP x1.data.toList <;> cases h2 : zfP x2.data.toList <;> simp [zfE, zjs, h1, h2, eq_comm]
theorem zkp : zfE [73, 74, 75] [x1, x2, x3] ⟨κ, 0, 0, 0, [], ⟨#[]⟩⟩ = some e ↔ (zfP x1.data.toList = true /\ zfP x2.data.toList = true /\ zfP x3.data.toList = true) /\ e = ⟨κ, zff x1.data.toList, zff x2.data.toList, zff x3.data.toList, [], ⟨#[]⟩⟩ := by
 cases h1 : zfP x1.data.toList <;> cases h2 : zfP x2.data.toList <;> cases h3 : zfP x3.data.toList <;> simp [zfE, zjs, h1, h2, h3, eq_comm]
theorem zkq : zfE [73, 74, 77] [x1, x2, x3] ⟨κ, 0, 0, 0, [], ⟨#[]⟩⟩ = some e ↔ (zfP x1.data.toList = true /\ zfP x2.data.toList = true) /\ e = ⟨κ, zff x1.data.toList, zff x2.data.toList, 0, [], x3⟩ := by
 cases h1 : zfP x1.data.toList <;> cases h2 : zfP x2.data.toList <;> simp [zfE, zjs, h1, h2, eq_comm]
end
theorem zh2 (b : UInt8) (t : ByteArray) : (zcl b t).map (·.data.toList) = spl b [] t.data.toList := by
 unfold zcl; rw [List.map_map]
 conv => rhs; rw [<- List.map_id (spl b [] t.data.toList)]
 apply List.map_congr_left
 intro u _; rfl
theorem zeZ {e : zam} {t : ByteArray} (h : zat e = true) (hf : zgw e = (zcl 32 t).map (·.data.toList)) (hw : (zau e.part).length <= 2000) : etV e = t.data.toList := by
 unfold etV; rw [if_pos h]; have : (e.kind == 1 && decide (2000 < (zau e.part).length)) = false := by simp; intro _; exact hw
 rw [this, ziK (zb8 h).1, hf, zh2, zn9]; simp
theorem zlI {e : zam} {t : ByteArray} (h : zat e = true) (ht : etV e = t.data.toList) (h0 : t.data.toList ≠ []) : (zcl 32 t).map (·.data.toList) = zgw e := by
 unfold etV at ht; rw [if_pos h] at ht; split at ht
 · exact absurd ht.symm h0
 · rw [zh2, <- ht, ziK (zb8 h).1, zkX _ (by simp [zgw]) (zjB h)]
theorem zfI {x : ByteArray} {u : List UInt8} (h : (⟨u.toArray⟩ : ByteArray) = x) : u = x.data.toList := by rw [<- h]
theorem zh3 {t : ByteArray} {e : zam} (h : zcY t = some e) : zhE t = some e := by
 unfold zcY at h; unfold zhE; generalize hκ : kf ((zcl 32 t).headD ⟨#[]⟩) 8 = κ at h; have hκ' : kf ((zcl 32 t).headD eB) 8 = κ := hκ; rw [hκ']; unfold rdK at h; split at h
 · cases h
 · rename_i hk0
   rw [if_neg hk0]; split at h
   · cases h
   · rename_i hlen
     have hlen : (zcl 32 t).length = (zcN κ).size + 1 := by simpa using hlen
     obtain ⟨k, hk1, hk2, hk3, hk4⟩ := zko ((zcl 32 t).headD eB) 8 (by rw [hκ']; exact hk0); rw [hκ'] at hk1; have hin : inR κ 1 7 = true := by rw [hk1]; simp [inR]; omega
     rw [<- hk1] at hk4; split at h
     · cases h
     · rename_i e' hrun
       split at h
       · rename_i hok
         cases h
         have huse : (zcN κ).size = (zcN κ).data.toList.length := by rw [Array.length_toList]; rfl
         rcases zmZ hin with ⟨s1, s2, s3, s4, s5⟩ | ⟨s1, s2, s3, s4, s5⟩ | ⟨s1, s2, s3, s4, s5⟩ | ⟨s1, s2, s3, s4, s5⟩
         · rw [huse, s5] at hlen
           obtain ⟨X, x1, x2, hL⟩ := zpY hlen; rw [hL] at hk4 hrun |-
           rw [s5] at hrun; obtain ⟨⟨r1, r2, r3⟩, rfl⟩ := zm0.1 hrun; have hg : zag (zaM x2) = true := (zb8 hok).2.2.2.2.1
           have hmk : zgi κ [X, x1, x2] = ⟨κ, zff x1.data.toList, 0, 0, zaM x2, ⟨#[]⟩⟩ := by
            unfold zgi; rw [s1, s2, s3, s4]; simp [(zgh r1).1, eB]
           have hpg : zlF x2 = true := by simp [zlF, r2, hg]
           have hwg := zkn r2 hg; have het := zeZ (t := t) hok (by rw [hL]; simp [zgw, s1, s2, s3, s4, hwg, (zdr r1).1, zfI hk4]) (by rw [hwg, Array.length_toList]; show x2.size <= 2000; omega); unfold zfH; rw [hmk, hok, het, s3]; simp [hpg]
         · rw [huse, s5] at hlen
           obtain ⟨X, x1, x2, hL⟩ := zpY hlen; rw [hL] at hk4 hrun |-
           rw [s5] at hrun; obtain ⟨⟨r1, r2⟩, rfl⟩ := zm1.1 hrun
           have hmk : zgi κ [X, x1, x2] = ⟨κ, zff x1.data.toList, zff x2.data.toList, 0, [], ⟨#[]⟩⟩ := by
            unfold zgi; rw [s1, s2, s3, s4]; simp [(zgh r1).1, (zgh r2).1, eB]
           have het := zeZ (t := t) hok (by rw [hL]; simp [zgw, s1, s2, s3, s4, (zdr r1).1, (zdr r2).1, zfI hk4]) (by simp [zau]); unfold zfH; rw [hmk, hok, het, s3]; simp
         · rw [huse, s5] at hlen
           obtain ⟨X, x1, x2, x3, hL⟩ := zpZ hlen; rw [hL] at hk4 hrun |-
           rw [s5] at hrun; obtain ⟨⟨r1, r2, r3⟩, rfl⟩ := zkp.1 hrun
           have hmk : zgi κ [X, x1, x2, x3] = ⟨κ, zff x1.data.toList, zff x2.data.toList, zff x3.data.toList, [], ⟨#[]⟩⟩ := by
            unfold zgi; rw [s1, s2, s3, s4]; simp [(zgh r1).1, (zgh r2).1, (zgh r3).1, eB]
           have het := zeZ (t := t) hok (by rw [hL]; simp [zgw, s1, s2, s3, s4, (zdr r1).1, (zdr r2).1, (zdr r3).1, zfI hk4]) (by simp [zau]); unfold zfH; rw [hmk, hok, het, s3]; simp
         · rw [huse, s5] at hlen
           obtain ⟨X, x1, x2, x3, hL⟩ := zpZ hlen; rw [hL] at hk4 hrun |-
           rw [s5] at hrun; obtain ⟨⟨r1, r2⟩, rfl⟩ := zkq.1 hrun
           have hmk : zgi κ [X, x1, x2, x3] = ⟨κ, zff x1.data.toList, zff x2.data.toList, 0, [], x3⟩ := by
            unfold zgi; rw [s1, s2, s3, s4]; simp [(zgh r1).1, (zgh r2).1]
           have het := zeZ (t := t) hok (by rw [hL]; simp [zgw, s1, s2, s3, s4, (zdr r1).1, (zdr r2).1, zfI hk4]) (by simp [zau]); unfold zfH; rw [hmk, hok, het, s3]; simp
       · cases h
theorem zgk {x : ByteArray} {n : Int} (hn : n = pI x.data.toList) (h0 : 0 <= n /\ n <= 1000000000000000) (hx : x.data.toList = dec n) : zfP x.data.toList = true /\ zff x.data.toList = pI x.data.toList := by
 obtain ⟨a1, a2⟩ := zkZ h0.1 h0.2; rw [hx, <- hx]; rw [<- hx] at a1 a2; exact ⟨a1, by rw [a2, hn]⟩
theorem zlJ {t : ByteArray} {e : zam} (h : zhE t = some e) : zcY t = some e := by
 unfold zhE at h; unfold zcY; generalize hκ : kf ((zcl 32 t).headD ⟨#[]⟩) 8 = κ; have hκ' : kf ((zcl 32 t).headD eB) 8 = κ := hκ; rw [hκ'] at h; unfold rdK; split at h
 · cases h
 · rename_i hk0
   rw [if_neg hk0]; obtain ⟨k, hk1, hk2, hk3, hk4⟩ := zko ((zcl 32 t).headD eB) 8 (by rw [hκ']; exact hk0); rw [hκ'] at hk1; have hin : inR κ 1 7 = true := by rw [hk1]; simp [inR]; omega
   rw [<- hk1] at hk4; have huse : (zcN κ).size = (zcN κ).data.toList.length := by rw [Array.length_toList]; rfl
   unfold zfH at h; split at h
   · cases h
   · rename_i hpg
     split at h
     · rename_i hboth
       cases h
       rw [Bool.and_eq_true] at hboth; obtain ⟨hok, het⟩ := hboth; have het : etV (zgi κ (zcl 32 t)) = t.data.toList := by simpa using het
       have ht0 : t.data.toList ≠ [] := by
        intro h0; have hX : (zcl 32 t).headD eB = eB := by unfold zcl; rw [h0]; rfl
        rw [hX] at hk4; have := zfI hk4; rcases zeo hin with rfl | rfl | rfl | rfl | rfl | rfl | rfl <;> simp [zcO, eB] at this
       have hfl := zlI hok het ht0; obtain ⟨_, ni, nj, nq, ng, _⟩ := zb8 hok; rcases zmZ hin with ⟨s1, s2, s3, s4, s5⟩ | ⟨s1, s2, s3, s4, s5⟩ | ⟨s1, s2, s3, s4, s5⟩ | ⟨s1, s2, s3, s4, s5⟩
       · have hlen : (zcl 32 t).length = 3 := by
          have := congrArg List.length hfl; simpa [zgw, zgi, s1, s2, s3, s4] using this
         obtain ⟨X, x1, x2, hL⟩ := zpY hlen; rw [hL] at hfl hok ni ng hpg |-
         have hmk : zgi κ [X, x1, x2] = ⟨κ, pI x1.data.toList, 0, 0, zaM x2, ⟨#[]⟩⟩ := by
          unfold zgi; rw [s1, s2, s3, s4]; simp [eB]
         rw [hmk] at hfl hok ni ng |-
         rw [s3] at hpg; have hpg : zlF x2 = true := by simpa using hpg
         simp only [zlF, Bool.and_eq_true] at hpg
         simp [zgw, s1, s2, s3, s4] at hfl
         obtain ⟨r1, r1'⟩ := zgk rfl ni hfl.2.1; have hsz := zjA hpg.1; have h400 := (zai hpg.2).1; rw [if_neg (by rw [huse, s5]; simp), s5]; show (match zfE [73, 80] [x1, x2] _ with | none => none | some e => if zat e = true then some e else none) = _
         rw [zm0.2 ⟨⟨r1, hpg.1, by omega⟩, rfl⟩]; simp only [r1', hok, if_true]
       · have hlen : (zcl 32 t).length = 3 := by
          have := congrArg List.length hfl; simpa [zgw, zgi, s1, s2, s3, s4] using this
         obtain ⟨X, x1, x2, hL⟩ := zpY hlen; rw [hL] at hfl hok ni nj |-
         have hmk : zgi κ [X, x1, x2] = ⟨κ, pI x1.data.toList, pI x2.data.toList, 0, [], ⟨#[]⟩⟩ := by
          unfold zgi; rw [s1, s2, s3, s4]; simp [eB]
         rw [hmk] at hfl hok ni nj |-
         simp [zgw, s1, s2, s3, s4] at hfl
         obtain ⟨r1, r1'⟩ := zgk rfl ni hfl.2.1; obtain ⟨r2, r2'⟩ := zgk rfl nj hfl.2.2; rw [if_neg (by rw [huse, s5]; simp), s5]; show (match zfE [73, 74] [x1, x2] _ with | none => none | some e => if zat e = true then some e else none) = _
         rw [zm1.2 ⟨⟨r1, r2⟩, rfl⟩]; simp only [r1', r2', hok, if_true]
       · have hlen : (zcl 32 t).length = 4 := by
          have := congrArg List.length hfl; simpa [zgw, zgi, s1, s2, s3, s4] using this
         obtain ⟨X, x1, x2, x3, hL⟩ := zpZ hlen; rw [hL] at hfl hok ni nj nq |-
         have hmk : zgi κ [X, x1, x2, x3] = ⟨κ, pI x1.data.toList, pI x2.data.toList, pI x3.data.toList, [], ⟨#[]⟩⟩ := by
          unfold zgi; rw [s1, s2, s3, s4]; simp [eB]
         rw [hmk] at hfl hok ni nj nq |-
         simp [zgw, s1, s2, s3, s4] at hfl
         obtain ⟨r1, r1'⟩ := zgk rfl ni hfl.2.1; obtain ⟨r2, r2'⟩ := zgk rfl nj hfl.2.2.1; obtain ⟨r3, r3'⟩ := zgk rfl nq hfl.2.2.2; rw [if_neg (by rw [huse, s5]; simp), s5]; show (match zfE [73, 74, 75] [x1, x2, x3] _ with | none => none | some e => if zat e = true then some e else none) = _
         rw [zkp.2 ⟨⟨r1, r2, r3⟩, rfl⟩]; simp only [r1', r2', r3', hok, if_true]
       · have hlen : (zcl 32 t).length = 4 := by
          have := congrArg List.length hfl; simpa [zgw, zgi, s1, s2, s3, s4] using this
         obtain ⟨X, x1, x2, x3, hL⟩ := zpZ hlen; rw [hL] at hfl hok ni nj |-
         have hmk : zgi κ [X, x1, x2, x3] = ⟨κ, pI x1.data.toList, pI x2.data.toList, 0, [], x3⟩ := by
          unfold zgi; rw [s1, s2, s3, s4]; simp
         rw [hmk] at hfl hok ni nj |-
         simp [zgw, s1, s2, s3, s4] at hfl
         obtain ⟨r1, r1'⟩ := zgk rfl ni hfl.2.1; obtain ⟨r2, r2'⟩ := zgk rfl nj hfl.2.2; rw [if_neg (by rw [huse, s5]; simp), s5]; show (match zfE [73, 74, 77] [x1, x2, x3] _ with | none => none | some e => if zat e = true then some e else none) = _
         rw [zkq.2 ⟨⟨r1, r2⟩, rfl⟩]; simp only [r1', r2', hok, if_true]
     · cases h
theorem zpa (t : ByteArray) : zhE t = zcY t := by
 cases h : zcY t with
 | some e => exact zh3 h
 | none =>
   cases h2 : zhE t with
   | none => rfl
   | some e => rw [zlJ h2] at h; cases h
end Go.Proofs.YtejgbfgocaggfaaGreatDoor
