import Derived.Laws.Strings
import Derived.Test.YtbifijlenbibmaaDoorRows
import Derived.WalkKit
import Derived.ProofKit
import Derived.Deep.QuietTactic
import Derived.BigQuiet
import Derived.Deep.LoopGhost
import Derived.Deep.Light
import Derived.Deep.AppendLies
import Derived.Deep.Draws
import Derived.Maps.AppendAt
import Derived.Lib.Hide
import Derived.WalkSpells
import Derived.Shelf.Strconv.Itoa0
import Derived.Shelf.Strconv.Itoa1
import Derived.Shelf.LaysM
import Derived.Shelf.Strconv.Itoa2
import Derived.Shelf.Strconv.Itoa3
import Derived.Shelf.Strconv.Itoa4
import Derived.Test.YtbifijlenbibmaaDoorProg
import Derived.Lib.LaidTab
import Derived.Deep.DeepMust
import Derived.Deep.CutRange
import Derived.Deep.DeepCutAuto
import Derived.LoopTactic
import Derived.Deep.RegionHeld3
import Derived.Shelf.Abstract
import Derived.StillTailTactics
import Derived.Laws.EntriesVeiled
import Derived.Maps.Keyed
import Derived.DeepKeys4
import Derived.Deep.RegionLaw
import Derived.RangeFuncBox
import Derived.WalkArith
import Derived.Deep.OwnRows
import Derived.IntWalk
import Derived.Deep.RegionWith
import Derived.Shelf.Small.Strs
import Derived.Shelf.Utf8.RuneCount
import Derived.Shelf.Strings.Search1
import Derived.Shelf.Strings.Search2
import Derived.Shelf.Strings.Search3
import Derived.Shelf.Strings.Count
import Derived.Shelf.Strings.Shaped
import Derived.Shelf.Strings.Split
import Derived.Shelf.Strings.SplitShaped
import Derived.Shelf.Strings.RuneCount
import Derived.Shelf.Strings.Explode
import Derived.Lib.UnsafeStr
import Derived.Laws.IdiomStrings
import Derived.ArgAppend
import Derived.Deep.CutBlock
import Derived.WalkSmall
import Derived.Lib.OthersKept
import Derived.Lib.ParseIntB
import Derived.Lib.ItoaNum
namespace Go.Proofs.YtbifijlenbibmaaDoor
structure GRule where
  letter : ByteArray
  left : Int
  right : Int
  deriving DecidableEq
section
variable {k : Nat} {r : GRule}
end
open Go.RowKit
section
variable {w w' : World} {B B' size n : Nat} {A : Option Addr} {xs : List Value}
end
def GRule.cells (r : GRule) : List Value := [.string r.letter, .int .i64 r.left, .int .i64 r.right]
def OwnInts (w : World) (base : Nat) (v : Value) (l : List Int) : Prop := w.ownsRow base 2 1 v l.length (l.map (Value.int .i64))
theorem own_nil {w : World} {base e s : Nat} {v : Value} {n : Nat} {xs : List Value} (h : w.ownsRow base e s v n xs) : ∃ A cap, v = .slice A n cap ∧ n ≤ cap ∧ cap ≤ maxLen := by
  rcases h.2 with ⟨rfl, rfl⟩ | ⟨g, cap, cur, rfl, _, _, h1, h2, _⟩
  · exact ⟨none, 0, rfl, Nat.le_refl _, Nat.zero_le _⟩
  · exact ⟨_, cap, rfl, h1, h2⟩
theorem own_form {w : World} {base e s : Nat} {v : Value} {n : Nat} {xs : List Value} (h : w.ownsRow base e s v n xs) (hn : 0 < n) :
    ∃ g cap, v = .slice (some ⟨g, 0, none⟩) n cap ∧ base ≤ g ∧ g < w.heap.size ∧ (n ≤ cap ∧ cap ≤ maxLen) ∧ ∀ j u, xs[j]? = some u → w.cell? ⟨g, j, none⟩ = some u := by
  obtain ⟨g, cap, hv, hb, hlt⟩ := h.form hn
  subst hv
  have hf := h.2
  refine ⟨g, cap, rfl, hb, hlt, ?_, fun j u hu => ?_⟩
  · rcases hf with ⟨h1, _⟩ | ⟨g', cap', cur, h1, _, _, h2, h4, _⟩
    · cases h1
    · injection h1 with _ _ h3; subst h3; exact ⟨h2, h4⟩
  · have hj : j < xs.length := (List.getElem?_eq_some_iff.1 hu).1
    rw [h.1] at hj
    rw [h.cellAt j hj, hu]
theorem wpList_push {P : Program} {W : World} {ops : Array Oper} {rest : List Oper} {o : Oper} {a : Act} {Q : Exit → Act → World → Prop} (hgd : o.guard = none) (s x : Operand) (t : TypeId)
    (ho : o.op = .call { callee := .builtin .append, args := #[s, x], argTypes := #[t, t] }) {cs : Array Value} {e : TypeId}
    (i : TypeInfo) (z : Value) (size bytes : Nat) (ht : P.underlying t = some (.slice e)) (hi : P.info? e = some i) (hz : i.zero = some z)
    (hsize : i.size = size) (hby : i.bytes = bytes) (hzs : z.cells.size = size) (hsz : 0 < size)
    {base : Nat} {v : Value} {n : Nat} {xs : List Value} (hs : a.eval s = v) (hx : a.eval x = .slice (some ⟨W.heap.size, 0, none⟩) 1 1)
    (hcs : cs.size = size) (h1 : ∀ u ∈ cs.toList, u.oneCell' = true) (hown : W.ownsRow base e size v n xs)
    (hlen : (n + 1) * bytes ≤ 140737488355328) (hn : n + 1 ≤ 140737488355328) (hbase : base ≤ W.heap.size)
    (h : ∀ v' w', w'.ownsRow base e size v' (n + 1) (xs ++ cs.toList) → (W.alloc (.cells cs e)).grownBy w' v.ownBlock → Below base W w' → wpList P ops Q rest (a.put o.dst v') w') :
    wpList P ops Q (o :: rest) a (W.alloc (.cells cs e)) := by
  refine wpList_plain hgd fun _ hK => ?_
  obtain ⟨v', w', hrun, h2, h3, h5⟩ := run_append_own_at (P := P) (W.alloc (.cells cs e)) base t o.type e i z size bytes ht hi hz hsize hby hzs hsz v n xs (hown.alloc _) ⟨W.heap.size, 0, none⟩ 1 1 cs.toList (by simpa using hcs)
    (fun j u hu => by
      have : (W.alloc (.cells cs e)).cell? ⟨W.heap.size, j, none⟩ = cs[j]? := cell_of_row _ _ _ _ e (0, 0) (heap_alloc_new W _)
      have ha : (⟨W.heap.size, 0, none⟩ : Addr).add j = ⟨W.heap.size, j, none⟩ := by unfold Addr.add; split <;> simp_all
      rw [ha, this]; simpa using hu) h1 (by simp only [maxLen]; omega) hlen (by simp; omega)
  unfold Oper.wp execOp
  simp only [ho, resolve, invoke, builtin, Sem.run_bind, Sem.run_pure, Result.andThen_ok, List.map_toArray, List.map_cons, List.map_nil, hs, hx, hrun]
  refine hK _ _ (h v' w' h2 h3 ?_)
  exact ((Below.refl base W).alloc hbase _).grown h3 (by simp; omega) (fun k hk => (hown.lt k hk).1)
theorem Tryd.infoI : (Tryd.prog.info? 2).map (fun i => (i.zero, i.size, i.bytes)) = some (some (.int .i64 0), 1, 8) := by kernel_rfl
theorem OwnInts.alloc {w : World} {base : Nat} {v : Value} {l : List Int} (h : OwnInts w base v l) (o : Obj) : OwnInts (w.alloc o) base v l := World.ownsRow.alloc h o
theorem OwnInts.drew {w : World} {base : Nat} {v : Value} {l : List Int} (h : OwnInts w base v l) : OwnInts w.drew base v l := h
theorem OwnInts.drewN {w : World} {base : Nat} {v : Value} {l : List Int} (h : OwnInts w base v l) (n : Nat) : OwnInts (w.drewN n) base v l := h
theorem push_ints {W : World} {ops : Array Oper} {rest : List Oper} {o : Oper} {a : Act} {Q : Exit → Act → World → Prop} (hgd : o.guard = none) (s x : Operand)
    (ho : o.op = .call { callee := .builtin .append, args := #[s, x], argTypes := #[31, 31] }) {y : Int} {base : Nat} {v : Value} {l : List Int}
    (hs : a.eval s = v) {N : Nat} (hx : a.eval x = .slice (some ⟨N, 0, none⟩) 1 1) (hN : N = W.heap.size) (hown : OwnInts W base v l) (hlen : l.length ≤ 1099511627776) (hbase : base ≤ W.heap.size)
    (h : ∀ v' w', OwnInts w' base v' (l ++ [y]) → (W.alloc (.cells #[.int .i64 y] 2)).grownBy w' v.ownBlock → Below base W w' → wpList Tryd.prog ops Q rest (a.put o.dst v') w') :
    wpList Tryd.prog ops Q (o :: rest) a (W.alloc (.cells #[.int .i64 y] 2)) := by
  subst hN
  obtain ⟨i0, hi0, hz0, hz1, hz2⟩ := info_parts Tryd.infoI
  refine wpList_push hgd s x 31 ho i0 (.int .i64 0) 1 8 Tryd.underlying31 hi0 hz0 hz1 hz2 rfl (by decide) hs hx rfl (by simp [Value.oneCell']) hown (by omega) (by omega) hbase ?_
  intro v' w' h1 h2 h3
  refine h v' w' ?_ h2 h3
  unfold OwnInts
  simpa using h1
theorem below_drewN {B : Nat} {a w : World} (h : Below B a w) (n : Nat) : Below B a (w.drewN n) := ⟨h.os, h.tape, h.output, h.size, h.block⟩
theorem OwnInts.empty {w : World} {base N : Nat} (hN : N = w.heap.size) (hb : base ≤ w.heap.size) : OwnInts (w.alloc (Obj.cells #[] 2)) base (Value.slice (some ⟨N, 0, none⟩) 0 0) [] := by
  subst hN
  exact World.ownsRow_lit w #[] 0 hb (Nat.zero_le _) rfl
theorem ret_bool {a b : Bool} (h : a = b) : Ending.returned (.bool a) = .returned (.bool b) := by rw [h]
theorem ownsRow_below {w w' : World} {base e s : Nat} {v : Value} {n : Nat} {xs : List Value} (h : w.ownsRow base e s v n xs) (hb : Below w.heap.size w w') : w'.ownsRow base e s v n xs :=
  h.kept (row := none) ⟨hb.os, hb.tape, hb.output, hb.size, fun k hk _ => hb.block k hk⟩ (by cases h : v.ownBlock <;> simp)
end Go.Proofs.YtbifijlenbibmaaDoor
namespace Go.Proofs
open Go.Shelf Go.RowKit
def Tryd.laysM173_ren : Go.Shelf.Ren := ⟨fun | 173 => 34 | 246 => 44 | 283 => 51 | 284 => 52 | 285 => 53 | 286 => 54 | 129 => 58 | 317 => 57 | 318 => 59 | 319 => 60 | 320 => 61 | 337 => 62 | 338 => 63 | n => n, fun | 2 => 2 | 3 => 3 | 9 => 9 | 4 => 4 | 171 => 79 | 0 => 0 | 53 => 56 | 37 => 52 | 5 => 5 | 173 => 82 | 212 => 92 | 51 => 88 | 20 => 20 | 213 => 93 | 46 => 59 | 232 => 97 | 233 => 98 | n => n, fun | 17 => 5 | 18 => 6 | 19 => 7 | n => n⟩
theorem Tryd.laysM173 : Go.Proofs.LaysM.n173 Tryd.prog Tryd.laysM173_ren := {
  mixed := by kernel_rfl
  f129 := Tryd.func58.trans (congrArg some (by kernel_rfl))
  f173 := Tryd.func34.trans (congrArg some (by kernel_rfl))
  f246 := Tryd.func44.trans (congrArg some (by kernel_rfl))
  f283 := Tryd.func51.trans (congrArg some (by kernel_rfl))
  f284 := Tryd.func52.trans (congrArg some (by kernel_rfl))
  f285 := Tryd.func53.trans (congrArg some (by kernel_rfl))
  f286 := Tryd.func54.trans (congrArg some (by kernel_rfl))
  f317 := Tryd.func57.trans (congrArg some (by kernel_rfl))
  f318 := Tryd.func59.trans (congrArg some (by kernel_rfl))
  f319 := Tryd.func60.trans (congrArg some (by kernel_rfl))
  f320 := Tryd.func61.trans (congrArg some (by kernel_rfl))
  f337 := Tryd.func62.trans (congrArg some (by kernel_rfl))
  f338 := Tryd.func63.trans (congrArg some (by kernel_rfl))
  t0 := Tryd.underlying0
  a0 := Tryd.isAgg0
  z0 := Tryd.sizeOf0
  v0 := Tryd.zeroValue0
  t2 := Tryd.underlying2
  a2 := Tryd.isAgg2
  z2 := Tryd.sizeOf2
  v2 := Tryd.zeroValue2
  t3 := Tryd.underlying3
  a3 := Tryd.isAgg3
  z3 := Tryd.sizeOf3
  v3 := Tryd.zeroValue3
  t4 := Tryd.underlying4
  a4 := Tryd.isAgg4
  z4 := Tryd.sizeOf4
  v4 := Tryd.zeroValue4
  t5 := Tryd.underlying5
  a5 := Tryd.isAgg5
  z5 := Tryd.sizeOf5
  v5 := Tryd.zeroValue5
  t9 := Tryd.underlying9
  a9 := Tryd.isAgg9
  z9 := Tryd.sizeOf9
  v9 := Tryd.zeroValue9
  t20 := Tryd.underlying20
  a20 := Tryd.isAgg20
  z20 := Tryd.sizeOf20
  v20 := Tryd.zeroValue20
  t37 := Tryd.underlying52
  a37 := Tryd.isAgg52
  z37 := Tryd.sizeOf52
  v37 := Tryd.zeroValue52
  t46 := Tryd.underlying59
  a46 := Tryd.isAgg59
  z46 := Tryd.sizeOf59
  v46 := Tryd.zeroValue59
  t51 := Tryd.underlying88
  a51 := Tryd.isAgg88
  z51 := Tryd.sizeOf88
  v51 := Tryd.zeroValue88
  t53 := Tryd.underlying56
  a53 := Tryd.isAgg56
  z53 := Tryd.sizeOf56
  v53 := Tryd.zeroValue56
  t171 := Tryd.underlying79
  a171 := Tryd.isAgg79
  z171 := Tryd.sizeOf79
  v171 := Tryd.zeroValue79
  t173 := Tryd.underlying82
  a173 := Tryd.isAgg82
  z173 := Tryd.sizeOf82
  v173 := Tryd.zeroValue82
  t212 := Tryd.underlying92
  a212 := Tryd.isAgg92
  z212 := Tryd.sizeOf92
  v212 := Tryd.zeroValue92
  t213 := Tryd.underlying93
  a213 := Tryd.isAgg93
  z213 := Tryd.sizeOf93
  t232 := Tryd.underlying97
  a232 := Tryd.isAgg97
  z232 := Tryd.sizeOf97
  v232 := Tryd.zeroValue97
  t233 := Tryd.underlying98
  a233 := Tryd.isAgg98
  z233 := Tryd.sizeOf98
  v233 := Tryd.zeroValue98
  g17 := by kernel_rfl
  g18 := by kernel_rfl
  g19 := by kernel_rfl
  i0 := by kernel_rfl
  i2 := by kernel_rfl
  i3 := by kernel_rfl
  i4 := by kernel_rfl
  i5 := by kernel_rfl
  i9 := by kernel_rfl
  i20 := by kernel_rfl
  i37 := by kernel_rfl
  i46 := by kernel_rfl
  i51 := by kernel_rfl
  i53 := by kernel_rfl
  i171 := by kernel_rfl
  i173 := by kernel_rfl
  i212 := by kernel_rfl
  i232 := by kernel_rfl
  i233 := by kernel_rfl
  m17 := by kernel_rfl
  m18 := by kernel_rfl
  m19 := by kernel_rfl }
open Go.RowKit Go.Sort Go.Lib in
theorem Tryd.strconv_FormatInt_10 (n : Int) (h0 : -9223372036854775808 ≤ n) (h1 : n ≤ 9223372036854775807) (w : World) (htab : Lib.TabIs Tryd.prog w "internal/strconv.uint64pow10" .u64 Lib.pow10Tab) :
    Calls Tryd.prog 34 #[.int .i64 n, .int .i64 10] w fun e w' => e = .returned (.string ⟨(Lib.itoa n).toArray⟩) ∧ ∃ k os, w' = grow (w.drewN k) os := Any.strconv_FormatInt_10 Tryd.laysM173 n h0 h1 w htab
end Go.Proofs
namespace Go.Proofs.YtbifijlenbibmaaDoor
open Go.RowKit
theorem tab_below {P : Program} {w w' : World} {nm : String} {k : IntKind} {zs : List Int} (h : Lib.TabIs P w nm k zs) (hb : Below w.heap.size w w') : Lib.TabIs P w' nm k zs := by
  unfold Lib.TabIs World.var? at h ⊢
  obtain ⟨g, hg, h2⟩ := Option.bind_eq_some_iff.1 h
  rw [hg]
  simp only [Option.bind_some]
  have hlt : g < w.heap.size := by
    rcases Nat.lt_or_ge g w.heap.size with h' | h'
    · exact h'
    · rw [Array.getElem?_eq_none h'] at h2; cases h2
  rw [hb.block g hlt]; exact h2
theorem below_grow {w : World} {k : Nat} {os : Array Obj} : Below w.heap.size w (Go.Sort.grow (w.drewN k) os) :=
  ⟨rfl, rfl, rfl, by simp [Go.Sort.grow, World.drewN], fun b hb => by simp [Go.Sort.grow, World.drewN, Array.getElem?_append_left, hb]⟩
def dec (n : Int) : List UInt8 := Lib.decDigits n.toNat
theorem decimal_big (n : Int) (w : World) (h : 0 ≤ n ∧ n ≤ 1000000000000000) (htab : Lib.TabIs Tryd.prog w "internal/strconv.uint64pow10" .u64 Lib.pow10Tab) :
    Calls Tryd.prog 24 #[.int .i64 n] w fun e w' => e = .returned (.string ⟨(dec n).toArray⟩) ∧ Below w.heap.size w w' := by
  have hd : Lib.itoa n = dec n := by rw [Lib.itoa, if_neg (by omega)]; rfl
  have Hd := Lib.hid hd
  have HT := Lib.hid htab
  clear hd htab
  go_enter Tryd.func24, Tryd.ntmps24
  go_wp2_with fail
  refine (Tryd.strconv_FormatInt_10 n (by omega) (by omega) _ HT.out).mono ?_
  rintro e w' ⟨rfl, k, os, rfl⟩
  rw [Hd.out]
  go_wp2_with fail
  go_ret
  exact ⟨rfl, below_grow⟩
theorem decimal_any (n : Int) (w : World) (h : 0 ≤ n ∧ n ≤ 999) (htab : Lib.TabIs Tryd.prog w "internal/strconv.uint64pow10" .u64 Lib.pow10Tab) :
    Calls Tryd.prog 24 #[.int .i64 n] w fun e w' => e = .returned (.string ⟨(dec n).toArray⟩) ∧ Below w.heap.size w w' := decimal_big n w (by omega) htab
theorem str_app (a b : List UInt8) : (⟨a.toArray⟩ : ByteArray) ++ ⟨b.toArray⟩ = ⟨(a ++ b).toArray⟩ := by
  apply ByteArray.ext
  simp [ByteArray.data_append]
theorem digits_le {m : Nat} (h : m < 1000) : Lib.nDigits m ≤ 3 := by
  rw [Lib.nDigits]; split
  · omega
  · rw [Lib.nDigits]; split
    · omega
    · rw [Lib.nDigits]; split
      · omega
      · omega
theorem nDigits_le : ∀ (k m : Nat), m < 10 ^ (k + 1) → Lib.nDigits m ≤ k + 1 := by
  intro k
  induction k with
  | zero => intro m h; rw [Lib.nDigits]; split
            · omega
            · rename_i h2; simp at h; omega
  | succ k ih =>
    intro m h
    rw [Lib.nDigits]
    split
    · omega
    · have := ih (m / 10) (by rw [Nat.pow_succ] at h; exact Nat.div_lt_of_lt_mul (by rw [Nat.mul_comm]; exact h))
      omega
theorem convOne (x : Nat) (hx : x < 256) (W : World) (b : Nat) (h : W.cell? ⟨b, 0, none⟩ = some (.int .u8 (x : Int))) :
    (convert 52 9 (.slice (some ⟨b, 0, none⟩) 1 1)).run Tryd.prog W = .ok (.string ⟨#[UInt8.ofNat x]⟩) W :=
  run_convert_bytes_back (P := Tryd.prog) W 52 9 5 ⟨b, 0, none⟩ 1 [UInt8.ofNat x] Tryd.underlying52 Tryd.underlying5 Tryd.underlying9 (fun j hj => by
    have : j = 0 := by simp at hj; omega
    subst this
    have e : ((UInt8.ofNat x).toNat : Int) = x := by rw [UInt8.toNat_ofNat']; omega
    simp only [List.getElem_cons_zero, e]
    simpa [Addr.add] using h)
set_option maxRecDepth 100000 in
set_option maxHeartbeats 1000000 in
theorem Decimal_any : ∀ (n : Nat), n < 10000000000000000 → ∀ (w : World), Calls Tryd.prog 18 #[.int .i64 n] w fun e w' => e = .returned (.string ⟨(Lib.decDigits n).toArray⟩) ∧ Below w.heap.size w w' := by
  intro n
  induction n using Nat.strongRecOn with
  | ind n ih =>
    intro hn w
    by_cases c : n < 10
    · have hd : Lib.decDigits n = [UInt8.ofNat (48 + n)] := Lib.decDigits_one c
      have Hd := Lib.hid hd
      have c' : ¬ (10 ≤ (n : Int)) := by omega
      have hcv := convOne (48 + n) (by omega)
      rw [show ((48 + n : Nat) : Int) = 48 + (n : Int) by omega] at hcv
      obtain ⟨q, hq⟩ : ∃ q, UInt8.ofNat (48 + n) = q := ⟨_, rfl⟩
      rw [hq] at hcv Hd
      clear ih hd hq
      go_enter Tryd.func18, Tryd.ntmps18
      go_wp2_with fail
      go_ret
      exact ⟨by rw [Hd.out]; rfl, (by repeat (first | exact Below.refl _ _ | (refine Below.alloc ?_ (by first | omega | (simp; done) | (simp; omega)) _) | refine below_drewN ?_ _ | refine Below.drew ?_))⟩
    · have ih' := ih (n / 10) (by omega) (by omega)
      rw [show ((n / 10 : Nat) : Int) = (n : Int) / 10 by omega] at ih'
      have c' : 10 ≤ (n : Int) := by omega
      have hd : Lib.decDigits n = Lib.decDigits (n / 10) ++ [UInt8.ofNat (48 + n % 10)] := by rw [Lib.decDigits, dif_neg c]
      have Hd := Lib.hid hd
      have hcv := convOne (48 + n % 10) (by omega)
      rw [show ((48 + n % 10 : Nat) : Int) = 48 + (n : Int) % 10 by omega] at hcv
      obtain ⟨q, hq⟩ : ∃ q, UInt8.ofNat (48 + n % 10) = q := ⟨_, rfl⟩
      rw [hq] at hcv Hd
      have hlen : (Lib.decDigits (n / 10)).length ≤ 16 := by rw [Lib.decDigits_length]; exact nDigits_le 15 (n / 10) (by omega)
      obtain ⟨D, hD⟩ : ∃ D, Lib.decDigits (n / 10) = D := ⟨_, rfl⟩
      rw [hD] at hlen Hd ih'
      have Ih := Lib.hid ih'
      have ihA : ∀ (W : World) (u : Value), Calls Tryd.prog 18 #[.int .i64 ((n : Int) / 10)] (W.alloc (Obj.cells #[u] 5)).drew fun e w' => e = .returned (.string ⟨D.toArray⟩) ∧ Below (W.alloc (Obj.cells #[u] 5)).drew.heap.size (W.alloc (Obj.cells #[u] 5)).drew w' ∧ w'.cell? ⟨W.heap.size, 0, none⟩ = some u :=
        fun W u => (Ih.out _).mono fun e w' ⟨h1, h2⟩ => ⟨h1, h2, (h2.cell (p := ⟨W.heap.size, 0, none⟩) (by simp)).trans (by simp [go_sem])⟩
      have IhA := Lib.hid ihA
      have hn3 : ¬ (9223372036854775807 < D.length + 1) := by omega
      have hdv : IntKind.i64.wrap ((n : Int) / 10) = (n : Int) / 10 := IntWalk.i64_in _ (by omega)
      have hmd : (n : Int).tmod 10 = (n : Int) % 10 := Int.tmod_eq_emod_of_nonneg (by omega)
      have had : IntKind.i64.wrap (48 + (n : Int) % 10) = 48 + (n : Int) % 10 := IntWalk.i64_in _ (by omega)
      have hu8 : IntKind.u8.wrap (48 + (n : Int) % 10) = 48 + (n : Int) % 10 := IntWalk.u8_in _ (by omega)
      clear ih ih' hd hq ihA hD hlen
      go_enter Tryd.func18, Tryd.ntmps18
      go_wp2_with fail
      go_region_law (go_simp; go_at_call 18; first | (with_reducible refine (IhA.out _ _).mono ?_; rintro e w2 ⟨rfl, hb2, hq⟩; have hq' : w2.cell? ⟨w.heap.size, 0, none⟩ = _ := hq) | (with_reducible refine (Ih.out _).mono ?_; rintro e w2 ⟨rfl, hb2⟩))
      all_goals
        go_wp2_with fail
        go_ret
        refine ⟨?_, ?_⟩
        · show Ending.returned (Value.string ((⟨D.toArray⟩ : ByteArray) ++ ⟨[q].toArray⟩)) = _
          rw [Hd.out, str_app]
        · first
          | (have hB := (Below.drew (Below.refl w.heap.size w)).trans hb2
             have hs := hB.size
             exact (by repeat (first | exact hB | (refine Below.alloc ?_ (by first | omega | (simp; done) | (simp; omega)) _) | refine below_drewN ?_ _ | refine Below.drew ?_)))
          | (have hA := Below.drew ((Below.refl w.heap.size w).alloc (Nat.le_refl _) (Obj.cells #[Value.int .u8 (48 + (n : Int) % 10)] 5))
             have hB := hA.trans (hb2.mono hA.size)
             have hs := hB.size
             exact (by repeat (first | exact hB | (refine Below.alloc ?_ (by first | omega | (simp; done) | (simp; omega)) _) | refine below_drewN ?_ _ | refine Below.drew ?_)))
def Keep (S : Nat → Prop) (w w' : World) : Prop := ∀ b, S b → w'.heap[b]? = w.heap[b]?
theorem Keep.cell {S : Nat → Prop} {w w' : World} (h : Keep S w w') {b o : Nat} (hb : S b) : w'.cell? ⟨b, o, none⟩ = w.cell? ⟨b, o, none⟩ := World.cell?_of_block (a := ⟨b, o, none⟩) (h b hb)
theorem Keep.mono {S S' : Nat → Prop} {w w' : World} (h : Keep S w w') (hs : ∀ b, S' b → S b) : Keep S' w w' := fun b hb => h b (hs b hb)
theorem Keep.trans {S : Nat → Prop} {w w' w'' : World} (h : Keep S w w') (h' : Keep S w' w'') : Keep S w w'' := fun b hb => (h' b hb).trans (h b hb)
theorem Keep.refl (S : Nat → Prop) (w : World) : Keep S w w := fun _ _ => rfl
structure Enc (α : Type) where
  size : Nat
  pos : 0 < size
  cells : World → (Nat → Prop) → α → List Value → Prop
  len : ∀ {w S x cs}, cells w S x cs → cs.length = size
  keep : ∀ {w w' S x cs}, cells w S x cs → Keep S w w' → cells w' S x cs
  more : ∀ {w S S' x cs}, cells w S x cs → (∀ b, S b → S' b) → cells w S' x cs
  one : ∀ {w S x cs}, cells w S x cs → ∀ u ∈ cs, u.oneCell' = true
section
variable {α : Type} (E : Enc α)
variable {E} {w w' : World} {S S' : Nat → Prop} {B B' : Nat} {A : Option Addr} {v : Value} {xs : List α}
end
section
variable {w w' : World} {S : Nat → Prop} {A : Option Addr} {v : Value}
end
theorem within_any (n a b : Int) (w : World) :
    Calls Tryd.prog 23 #[.int .i64 n, .int .i64 a, .int .i64 b] w fun e w' => e = .returned (.bool (decide (a ≤ n) && decide (n ≤ b))) ∧ w = w' := by
  by_cases h1 : a ≤ n
  · by_cases h2 : n ≤ b <;> go_enter Tryd.func23, Tryd.ntmps23 <;> go_wp2 <;> go_ret <;> exact ⟨by simp [h1,h2], rfl⟩
  · go_enter Tryd.func23, Tryd.ntmps23
    go_wp2
    go_ret
    exact ⟨by simp; omega, rfl⟩
theorem l00In_any (n a b : Int) (w : World) :
    Calls Tryd.prog 25 #[.int .i64 n, .int .i64 a, .int .i64 b] w fun e w' => e = .returned (.bool (decide (a ≤ n) && decide (n ≤ b))) ∧ w = w' := by
  by_cases h1 : a ≤ n
  · by_cases h2 : n ≤ b <;> go_enter Tryd.func25, Tryd.ntmps25 <;> go_wp2 <;> go_ret <;> exact ⟨by simp [h1,h2], rfl⟩
  · go_enter Tryd.func25, Tryd.ntmps25
    go_wp2
    go_ret
    exact ⟨by simp; omega, rfl⟩
def deedN (k : Int) : Int := if k = 1 then 2 else if k = 4 then 3 else if k = 5 then 2 else 1
def deedOk (k a b c : Int) : Bool :=
  decide (1 ≤ k) && decide (k ≤ 9) && (decide (0 ≤ a) && decide (a ≤ 999)) && (decide (0 ≤ b) && decide (b ≤ 999)) && (decide (0 ≤ c) && decide (c ≤ 999)) && (decide (1 < deedN k) || b == 0) && (decide (2 < deedN k) || c == 0)
set_option maxHeartbeats 4000000 in
theorem l08Fields_any (k : Int) (w : World) (h : 1 ≤ k ∧ k ≤ 9) :
    Calls Tryd.prog 10 #[.int .i64 k] w fun e w' => e = .returned (.int .i64 (deedN k)) ∧ ∃ cs t, w.alloc (.cells cs t) = w' := by
  have : k = 1 ∨ k = 2 ∨ k = 3 ∨ k = 4 ∨ k = 5 ∨ k = 6 ∨ k = 7 ∨ k = 8 ∨ k = 9 := by omega
  rcases this with rfl | rfl | rfl | rfl | rfl | rfl | rfl | rfl | rfl <;>
  · go_enter Tryd.func10, Tryd.ntmps10
    go_wp2
    go_ret
    exact ⟨rfl, _, _, rfl⟩
def DeedWord (k : Int) (w : World) (e : Ending) (w' : World) : Prop :=
  ∃ s, e = .returned (.tuple #[.string s, .int .i64 (if 1 ≤ k ∧ k ≤ 9 then deedN k else 0)]) ∧ s.toList.isEmpty = (!decide (1 ≤ k) || !decide (k ≤ 9)) ∧ w = w'
set_option maxHeartbeats 1000000 in
theorem deedWord_any (k : Int) (w : World) : Calls Tryd.prog 22 #[.int .i64 k] w (DeedWord k w) := by
  by_cases h : 1 ≤ k ∧ k ≤ 9
  · have : k = 1 ∨ k = 2 ∨ k = 3 ∨ k = 4 ∨ k = 5 ∨ k = 6 ∨ k = 7 ∨ k = 8 ∨ k = 9 := by omega
    rcases this with rfl | rfl | rfl | rfl | rfl | rfl | rfl | rfl | rfl <;>
    · clear h
      go_enter Tryd.func22, Tryd.ntmps22
      go_wp2
      go_ret2
      exact ⟨_, rfl, by rw [ByteArray.toList_eq]; rfl, rfl⟩
  · have h1 : (k == 1) = false := by simp; omega
    have h2 : (k == 2) = false := by simp; omega
    have h3 : (k == 3) = false := by simp; omega
    have h4 : (k == 4) = false := by simp; omega
    have h5 : (k == 5) = false := by simp; omega
    have h6 : (k == 6) = false := by simp; omega
    have h7 : (k == 7) = false := by simp; omega
    have h8 : (k == 8) = false := by simp; omega
    have h9 : (k == 9) = false := by simp; omega
    have H := Lib.hid h
    clear h
    go_enter Tryd.func22, Tryd.ntmps22
    go_wp2
    go_ret2
    have h := H.out
    refine ⟨_, by rw [if_neg h]; rfl, ?_, rfl⟩
    rw [ByteArray.toList_eq]
    by_cases ha : 1 ≤ k
    · have hb : ¬ k ≤ 9 := fun hb => h ⟨ha, hb⟩
      simp [ha, hb]
    · simp [ha]
set_option maxHeartbeats 1000000 in
theorem specValidDeed_any (k a b c : Int) (w : World) :
    Calls Tryd.prog 17 #[.agg #[.int .i64 k, .int .i64 a, .int .i64 b, .int .i64 c]] w fun e w' => e = .returned (.bool (deedOk k a b c)) ∧ Below w.heap.size w w' := by
  go_enter Tryd.func17, Tryd.ntmps17
  go_wp2_with (first
        | (go_at_call 25; refine (l00In_any _ _ _ _).mono ?_; rintro e w' ⟨rfl, rfl⟩)
        | (go_at_call 10; refine (l08Fields_any _ _ (by omega)).mono ?_; rintro e w' ⟨rfl, cs, t, rfl⟩))
  all_goals
    go_ret
    refine ⟨?_, (by repeat (first | exact (Below.refl _ _) | (refine Below.alloc ?_ (by first | omega | (simp; done) | (simp; omega)) _) | refine below_drewN ?_ _ | refine Below.drew ?_))⟩
    refine ret_bool ?_
    rw [Bool.eq_iff_iff]
    simp [deedOk] at *
    try omega
set_option maxHeartbeats 1000000 in
theorem implValidDeed_any (k a b c : Int) (w : World) :
    Calls Tryd.prog 14 #[.agg #[.int .i64 k, .int .i64 a, .int .i64 b, .int .i64 c]] w fun e w' => e = .returned (.bool (deedOk k a b c)) ∧ Below w.heap.size w w' := by
  by_cases h : 1 ≤ k ∧ k ≤ 9
  · have hd : (if 1 ≤ k ∧ k ≤ 9 then deedN k else 0) = deedN k := if_pos h
    have H := Lib.hid hd
    clear hd
    go_enter Tryd.func14, Tryd.ntmps14
    go_wp2_with (first
        | (go_at_call 23; refine (within_any _ _ _ _).mono ?_; rintro e w' ⟨rfl, rfl⟩)
        | (go_at_call 22; refine (deedWord_any _ _).mono ?_; rintro e w' ⟨s, rfl, hs, rfl⟩; rw [H.out]; simp only [h.1, h.2, decide_true, Bool.not_true, Bool.or_false] at hs))
    all_goals
      go_ret
      refine ⟨?_, (by repeat (first | exact (Below.refl _ _) | (refine Below.alloc ?_ (by first | omega | (simp; done) | (simp; omega)) _) | refine below_drewN ?_ _ | refine Below.drew ?_))⟩
      refine ret_bool ?_
      rw [Bool.eq_iff_iff]
      clear H
      simp [deedOk] at *
      try omega
  · have hd : (!decide (1 ≤ k) || !decide (k ≤ 9)) = true := by simp; omega
    have H := Lib.hid hd
    have H2 := Lib.hid h
    clear hd h
    go_enter Tryd.func14, Tryd.ntmps14
    go_wp2_with (first
        | (go_at_call 23; refine (within_any _ _ _ _).mono ?_; rintro e w' ⟨rfl, rfl⟩)
        | (go_at_call 22; refine (deedWord_any _ _).mono ?_; rintro e w' ⟨s, rfl, hs, rfl⟩; rw [H.out] at hs))
    all_goals
      go_ret
      refine ⟨?_, (by repeat (first | exact (Below.refl _ _) | (refine Below.alloc ?_ (by first | omega | (simp; done) | (simp; omega)) _) | refine below_drewN ?_ _ | refine Below.drew ?_))⟩
      refine ret_bool ?_
      have h := H2.out
      rw [Bool.eq_iff_iff]
      clear H H2
      simp [deedOk] at *
      try omega
def wordL (k : Int) : List UInt8 := if k = 1 then [112, 117, 116] else if k = 2 then [115, 97, 118, 101] else if k = 3 then [99, 114, 97, 115, 104] else if k = 4 then [111, 102, 102, 101, 114] else if k = 5 then [97, 115, 107] else if k = 6 then [100, 101, 108, 105, 118, 101, 114] else if k = 7 then [99, 111, 112, 121] else if k = 8 then [100, 114, 111, 112] else [115, 119, 101, 101, 112]
theorem kind9 {k : Int} (h : 1 ≤ k ∧ k ≤ 9) : k = 1 ∨ k = 2 ∨ k = 3 ∨ k = 4 ∨ k = 5 ∨ k = 6 ∨ k = 7 ∨ k = 8 ∨ k = 9 := by omega
theorem wordL_len {k : Int} (h : 1 ≤ k ∧ k ≤ 9) : (wordL k).length ≤ 7 := by
  rcases kind9 h with rfl | rfl | rfl | rfl | rfl | rfl | rfl | rfl | rfl <;> decide
theorem deedN_in {k : Int} (h : 1 ≤ k ∧ k ≤ 9) : deedN k = 1 ∨ deedN k = 2 ∨ deedN k = 3 := by
  rcases kind9 h with rfl | rfl | rfl | rfl | rfl | rfl | rfl | rfl | rfl <;> decide
theorem deedWordS_any (k : Int) (w : World) (h : 1 ≤ k ∧ k ≤ 9) :
    Calls Tryd.prog 22 #[.int .i64 k] w fun e w' => e = .returned (.tuple #[.string ⟨(wordL k).toArray⟩, .int .i64 (deedN k)]) ∧ w = w' := by
  rcases kind9 h with rfl | rfl | rfl | rfl | rfl | rfl | rfl | rfl | rfl <;>
  · clear h
    go_enter Tryd.func22, Tryd.ntmps22
    go_wp2
    go_ret2
    exact ⟨rfl, rfl⟩
def WordsPost (w : World) (e : Ending) (w' : World) : Prop :=
  ∃ B, e = .returned (.slice (some ⟨B, 0, none⟩) 10 10) ∧ Below w.heap.size w w' ∧ B < w'.heap.size ∧ ∀ k : Nat, 1 ≤ k → k ≤ 9 → w'.cell? ⟨B, k, none⟩ = some (.string ⟨(wordL k).toArray⟩)
theorem l08Words_any (w : World) : Calls Tryd.prog 8 #[] w (WordsPost w) := by
  go_enter Tryd.func8, Tryd.ntmps8
  go_wp2
  go_ret
  refine ⟨_, rfl, (by repeat (first | exact Below.refl _ _ | (refine Below.alloc ?_ (by first | omega | (simp; done) | (simp; omega)) _) | refine below_drewN ?_ _ | refine Below.drew ?_)), by simp, ?_⟩
  intro k h1 h2
  have : k = 1 ∨ k = 2 ∨ k = 3 ∨ k = 4 ∨ k = 5 ∨ k = 6 ∨ k = 7 ∨ k = 8 ∨ k = 9 := by omega
  rcases this with rfl | rfl | rfl | rfl | rfl | rfl | rfl | rfl | rfl <;> simp [go_sem, wordL]
def textL (k a b c : Int) : List UInt8 := wordL k ++ (32 :: dec a) ++ (if 1 < deedN k then 32 :: dec b else []) ++ (if 2 < deedN k then 32 :: dec c else [])
def textS (k a b c : Int) : ByteArray := if deedOk k a b c then ⟨(textL k a b c).toArray⟩ else ⟨#[]⟩
theorem deedOk_get {k a b c : Int} (h : deedOk k a b c = true) : (1 ≤ k ∧ k ≤ 9) ∧ (0 ≤ a ∧ a ≤ 999) ∧ (0 ≤ b ∧ b ≤ 999) ∧ (0 ≤ c ∧ c ≤ 999) := by
  simp [deedOk] at h; omega
theorem dec_len {a : Int} (h : 0 ≤ a ∧ a ≤ 999) : (dec a).length ≤ 3 := by
  unfold dec; rw [Lib.decDigits_length]; exact digits_le (by omega)
theorem Decimal_int (a : Int) (h : 0 ≤ a ∧ a ≤ 999) (w : World) : Calls Tryd.prog 18 #[.int .i64 a] w fun e w' => e = .returned (.string ⟨(dec a).toArray⟩) ∧ Below w.heap.size w w' := by
  obtain ⟨n, rfl⟩ := Int.eq_ofNat_of_zero_le h.1
  exact Decimal_any n (by omega) w
theorem l08Fields_b (k : Int) (w : World) (h : 1 ≤ k ∧ k ≤ 9) :
    Calls Tryd.prog 10 #[.int .i64 k] w fun e w' => e = .returned (.int .i64 (deedN k)) ∧ Below w.heap.size w w' :=
  (l08Fields_any k w h).mono fun e w' ⟨h1, cs, t, h2⟩ => ⟨h1, by subst h2; exact (Below.refl _ _).alloc (Nat.le_refl _) _⟩
theorem str32 : (⟨#[32]⟩ : ByteArray) = ⟨[32].toArray⟩ := rfl
theorem Box4.upD {w w' : World} {b N : Nat} {c0 c1 c2 c3 : Value} (h : w.cell? ⟨b, 0, none⟩ = some c0 ∧ w.cell? ⟨b, 1, none⟩ = some c1 ∧ w.cell? ⟨b, 2, none⟩ = some c2 ∧ w.cell? ⟨b, 3, none⟩ = some c3) (hb : Below N w w') (hlt : b < N) :
    w'.cell? ⟨b, 0, none⟩ = some c0 ∧ w'.cell? ⟨b, 1, none⟩ = some c1 ∧ w'.cell? ⟨b, 2, none⟩ = some c2 ∧ w'.cell? ⟨b, 3, none⟩ = some c3 := by
  have k : ∀ {o : Nat} {v : Value}, w.cell? ⟨b, o, none⟩ = some v → w'.cell? ⟨b, o, none⟩ = some v := fun {o v} hc => (hb.cell (p := ⟨b, o, none⟩) hlt).trans hc
  exact ⟨k h.1, k h.2.1, k h.2.2.1, k h.2.2.2⟩
set_option maxRecDepth 100000 in
set_option maxHeartbeats 2000000 in
theorem specDeedText_any (k a b c : Int) (w : World) :
    Calls Tryd.prog 11 #[.agg #[.int .i64 k, .int .i64 a, .int .i64 b, .int .i64 c]] w fun e w' => e = .returned (.string (textS k a b c)) ∧ Below w.heap.size w w' := by
  go_enter Tryd.func11, Tryd.ntmps11
  go_wp2_with fail
  refine (specValidDeed_any k a b c _).mono ?_
  rintro e w1 ⟨rfl, hb1⟩
  have z1 : w.heap.size < w1.heap.size := Nat.lt_of_lt_of_le (by simp) hb1.size
  have X1 := Lib.hid (Box4.upD (b := w.heap.size) (c0 := .int .i64 k) (c1 := .int .i64 a) (c2 := .int .i64 b) (c3 := .int .i64 c) ⟨by simp [go_sem], by simp [go_sem], by simp [go_sem], by simp [go_sem]⟩ hb1 (by simp))
  have B1 := Lib.hid (((Below.refl w.heap.size w).alloc (Nat.le_refl _) _).trans (hb1.mono (by simp)))
  clear hb1
  by_cases hok : deedOk k a b c = true
  · have g0 : (!deedOk k a b c) = false := by simp [hok]
    have HO := Lib.hid hok
    obtain ⟨hk, ha, hb, hc⟩ := deedOk_get hok
    have hW := wordL_len hk
    have hA := dec_len ha
    have hBl := dec_len hb
    have hC := dec_len hc
    have hD := deedN_in hk
    have Hk := Lib.hid hk
    have Ha := Lib.hid ha
    have Hb := Lib.hid hb
    have Hc := Lib.hid hc
    obtain ⟨κ, rfl⟩ := Int.eq_ofNat_of_zero_le (show 0 ≤ k by omega)
    have hκ : (κ : Int) < 10 := by omega
    have h1κ : 1 ≤ κ := by omega
    have h9κ : κ ≤ 9 := by omega
    have z1d : w.heap.size < w1.drew.heap.size := z1
    have x0 : w1.drew.cell? ⟨w.heap.size, 0, none⟩ = some (.int .i64 κ) ∧ w1.drew.cell? ⟨w.heap.size, 1, none⟩ = some (.int .i64 a) ∧ w1.drew.cell? ⟨w.heap.size, 2, none⟩ = some (.int .i64 b) ∧ w1.drew.cell? ⟨w.heap.size, 3, none⟩ = some (.int .i64 c) := X1.out
    obtain ⟨WL, hWL⟩ : ∃ WL, wordL κ = WL := ⟨_, rfl⟩
    have HWL := Lib.hid hWL
    rw [hWL] at hW
    have n1 : ¬ (9223372036854775807 < WL.length + 1) := by omega
    have n2 : ¬ (9223372036854775807 < WL.length + 1 + (dec a).length) := by omega
    obtain ⟨xx0, xx1, xx2, xx3⟩ := x0
    have X0 := And.intro xx0 (And.intro xx1 (And.intro xx2 xx3))
    clear hok hk ha hb hc hWL
    go_upto_region 3 with fail
    go_cut [3] (fun out wx => out = .string (((⟨WL.toArray⟩ : ByteArray) ++ ⟨#[32]⟩) ++ ⟨(dec a).toArray⟩) ∧ Below w1.heap.size w1 wx)
    case first =>
      go_region_law (first
        | (go_simp; go_at_call 8; refine (l08Words_any _).mono ?_; rintro e w2 ⟨B, rfl, hb2, hB, hw2⟩; have hcw := hw2 κ h1κ h9κ; rw [HWL.out] at hcw; clear hw2; (first | (have Y0 := Box4.upD U0 hb2 z3) | (have Y0 := Box4.upD X0 hb2 z1d)); obtain ⟨yy0, yy1, yy2, yy3⟩ := And.intro Y0.1 Y0.2; (first | (have z2 := Nat.lt_of_lt_of_le z3 hb2.size) | (have z2 := Nat.lt_of_lt_of_le z1d hb2.size)))
        | (go_simp; go_at_call 18; refine (Decimal_int a Ha.out _).mono ?_; rintro e w3 ⟨rfl, hb3⟩; (first | (have U0 := Box4.upD Y0 hb3 z2) | (have U0 := Box4.upD X0 hb3 z1d)); obtain ⟨uu0, uu1, uu2, uu3⟩ := And.intro U0.1 U0.2; (first | (have hcw' := (hb3.cell (p := ⟨B, κ, none⟩) hB).trans hcw) | skip); (first | (have z3 := Nat.lt_of_lt_of_le z2 hb3.size) | (have z3 := Nat.lt_of_lt_of_le z1d hb3.size))))
      all_goals
        go_wp2_with fail
        go_meet
        first
          | exact ⟨rfl, (Below.drew (Below.refl w1.heap.size w1)).trans (hb2.trans (hb3.mono hb2.size))⟩
          | exact ⟨rfl, (Below.drew (Below.refl w1.heap.size w1)).trans (hb3.trans (hb2.mono hb3.size))⟩
    case rest =>
      revert hcut
      generalize wc = w4
      intro hcut
      obtain ⟨rfl, hb4⟩ := hcut
      have z4 : w.heap.size < w4.heap.size := Nat.lt_of_lt_of_le z1 hb4.size
      have X4 := Lib.hid (Box4.upD X1.out hb4 z1)
      have B4 := Lib.hid (B1.out.trans (hb4.mono B1.out.size))
      obtain ⟨S1, hS1⟩ : ∃ S1, (((⟨WL.toArray⟩ : ByteArray) ++ ⟨#[32]⟩) ++ ⟨(dec a).toArray⟩) = S1 := ⟨_, rfl⟩
      have hs1 : S1.size ≤ 11 := by rw [← hS1, str32, str_app, str_app]; show (WL ++ [32] ++ dec a).toArray.size ≤ 11; rw [List.size_toArray]; simp only [List.length_append, List.length_cons, List.length_nil]; omega
      rw [hS1]
      have HS1 := Lib.hid hS1
      clear hS1 hb4 X0 xx0 xx1 xx2 xx3 n1 n2
      obtain ⟨x0, x1, x2, x3⟩ := And.intro X4.out.1 X4.out.2
      go_wp2_with fail
      refine (l08Fields_b _ _ Hk.out).mono ?_
      rintro e w5 ⟨rfl, hb5⟩
      have z5 : w.heap.size < w5.heap.size := Nat.lt_of_lt_of_le z4 hb5.size
      have X5 := Lib.hid (Box4.upD X4.out hb5 z4)
      have B5 := Lib.hid (B4.out.trans (hb5.mono B4.out.size))
      clear hb5 x0 x1 x2 x3
      obtain ⟨x0, x1, x2, x3⟩ := And.intro X5.out.1 X5.out.2
      obtain ⟨N, hN⟩ : ∃ N, deedN (κ : Int) = N := ⟨_, rfl⟩
      rw [hN] at hD
      rw [hN]
      have HN := Lib.hid hN
      clear hN
      by_cases c1 : N = 1
      · subst c1
        go_wp2_with fail
        refine (l08Fields_b _ _ Hk.out).mono ?_
        rintro e w6 ⟨rfl, hb6⟩
        rw [HN.out]
        have B6 := Lib.hid (B5.out.trans (hb6.mono B5.out.size))
        clear hb6
        go_wp2_with fail
        go_ret
        refine ⟨?_, B6.out⟩
        show Ending.returned (Value.string S1) = _
        rw [textS, if_pos HO.out, textL, HN.out, ← HS1.out, HWL.out]
        simp [str_app]
      · have d1 : 1 < N := by omega
        have n3 : ¬ (9223372036854775807 < 1 + (dec b).length) := by omega
        have n4 : ¬ (9223372036854775807 < S1.size + (1 + (dec b).length)) := by omega
        go_wp2_with fail
        refine (Decimal_int b Hb.out _).mono ?_
        rintro e w6 ⟨rfl, hb6⟩
        have z6 : w.heap.size < w6.heap.size := Nat.lt_of_lt_of_le z5 hb6.size
        have X6 := Lib.hid (Box4.upD X5.out hb6 z5)
        have B6 := Lib.hid (B5.out.trans (hb6.mono B5.out.size))
        clear hb6 x0 x1 x2 x3
        obtain ⟨x0, x1, x2, x3⟩ := And.intro X6.out.1 X6.out.2
        go_wp2_with fail
        refine (l08Fields_b _ _ Hk.out).mono ?_
        rintro e w7 ⟨rfl, hb7⟩
        rw [HN.out]
        have z7 : w.heap.size < w7.heap.size := Nat.lt_of_lt_of_le z6 hb7.size
        have X7 := Lib.hid (Box4.upD X6.out hb7 z6)
        have B7 := Lib.hid (B6.out.trans (hb7.mono B6.out.size))
        clear hb7 x0 x1 x2 x3
        obtain ⟨x0, x1, x2, x3⟩ := And.intro X7.out.1 X7.out.2
        by_cases c2 : N = 2
        · subst c2
          go_wp2_with fail
          go_ret
          refine ⟨?_, B7.out⟩
          show Ending.returned (Value.string (S1 ++ ((⟨#[32]⟩ : ByteArray) ++ ⟨(dec b).toArray⟩))) = _
          rw [textS, if_pos HO.out, textL, HN.out, ← HS1.out, HWL.out]
          simp [str_app]
        · have c3 : N = 3 := by omega
          subst c3
          have n5 : ¬ (9223372036854775807 < 1 + (dec c).length) := by omega
          have n6 : ¬ (9223372036854775807 < S1.size + (1 + (dec b).length) + (1 + (dec c).length)) := by omega
          go_wp2_with fail
          refine (Decimal_int c Hc.out _).mono ?_
          rintro e w8 ⟨rfl, hb8⟩
          have B8 := Lib.hid (B7.out.trans (hb8.mono B7.out.size))
          clear hb8
          go_wp2_with fail
          go_ret
          refine ⟨?_, B8.out⟩
          show Ending.returned (Value.string (S1 ++ ((⟨#[32]⟩ : ByteArray) ++ ⟨(dec b).toArray⟩) ++ ((⟨#[32]⟩ : ByteArray) ++ ⟨(dec c).toArray⟩))) = _
          rw [textS, if_pos HO.out, textL, HN.out, ← HS1.out, HWL.out]
          simp [str_app]
  · have hok' : deedOk k a b c = false := by simpa using hok
    have g0 : (!deedOk k a b c) = true := by simp [hok']
    have HO := Lib.hid hok'
    clear hok hok'
    go_wp2_with fail
    go_ret
    exact ⟨by simp [textS, HO.out], B1.out⟩
def prL (WL : List UInt8) (a b c : Int) (i : Nat) : List UInt8 := WL ++ (if 0 < i then 32 :: dec a else []) ++ (if 1 < i then 32 :: dec b else []) ++ (if 2 < i then 32 :: dec c else [])
def valAt (a b c : Int) (i : Nat) : Int := if i = 0 then a else if i = 1 then b else c
theorem prL_step {WL : List UInt8} {a b c : Int} {i : Nat} (h : i < 3) : prL WL a b c (i + 1) = prL WL a b c i ++ (32 :: dec (valAt a b c i)) := by
  have : i = 0 ∨ i = 1 ∨ i = 2 := by omega
  rcases this with rfl | rfl | rfl <;> simp [prL, valAt]
theorem prL_len {WL : List UInt8} {a b c : Int} (hW : WL.length ≤ 7) (ha : (dec a).length ≤ 3) (hb : (dec b).length ≤ 3) (hc : (dec c).length ≤ 3) (i : Nat) : (prL WL a b c i).length ≤ 19 := by
  unfold prL
  simp only [List.length_append]
  have h1 : (if 0 < i then 32 :: dec a else []).length ≤ 4 := by split <;> simp; omega
  have h2 : (if 1 < i then 32 :: dec b else []).length ≤ 4 := by split <;> simp; omega
  have h3 : (if 2 < i then 32 :: dec c else []).length ≤ 4 := by split <;> simp; omega
  omega
theorem prL_text {k a b c : Int} (h : deedN k = 1 ∨ deedN k = 2 ∨ deedN k = 3) : prL (wordL k) a b c (deedN k).toNat = textL k a b c := by
  unfold prL textL
  rcases h with h | h | h <;> rw [h] <;> simp
set_option maxRecDepth 100000 in
set_option maxHeartbeats 2000000 in
theorem implDeedText_any (k a b c : Int) (w : World) (htab : Lib.TabIs Tryd.prog w "internal/strconv.uint64pow10" .u64 Lib.pow10Tab) :
    Calls Tryd.prog 15 #[.agg #[.int .i64 k, .int .i64 a, .int .i64 b, .int .i64 c]] w fun e w' => e = .returned (.string (textS k a b c)) ∧ Below w.heap.size w w' := by
  have HT := Lib.hid htab
  clear htab
  go_enter Tryd.func15, Tryd.ntmps15
  go_wp2_with fail
  refine (implValidDeed_any k a b c _).mono ?_
  rintro e w1 ⟨rfl, hb1⟩
  have z1 : w.heap.size < w1.heap.size := Nat.lt_of_lt_of_le (by simp) hb1.size
  have X1 := Lib.hid (Box4.upD (b := w.heap.size) (c0 := .int .i64 k) (c1 := .int .i64 a) (c2 := .int .i64 b) (c3 := .int .i64 c) ⟨by simp [go_sem], by simp [go_sem], by simp [go_sem], by simp [go_sem]⟩ hb1 (by simp))
  have B1 := Lib.hid (((Below.refl w.heap.size w).alloc (Nat.le_refl _) _).trans (hb1.mono (by simp)))
  clear hb1
  by_cases hok : deedOk k a b c = true
  · have g0 : (!deedOk k a b c) = false := by simp [hok]
    have HO := Lib.hid hok
    obtain ⟨hk, ha, hb, hc⟩ := deedOk_get hok
    have hW := wordL_len hk
    have hlen := fun i => prL_len hW (dec_len ha) (dec_len hb) (dec_len hc) i
    have hD := deedN_in hk
    have Hk := Lib.hid hk
    have hval : ∀ i, 0 ≤ valAt a b c i ∧ valAt a b c i ≤ 999 := by
      intro i; unfold valAt; split
      · exact ha
      · split
        · exact hb
        · exact hc
    have Hval := Lib.hid hval
    have Hlen := Lib.hid hlen
    have htxt := prL_text (a := a) (b := b) (c := c) hD
    have Htxt := Lib.hid htxt
    obtain ⟨WL, hWL⟩ : ∃ WL, wordL k = WL := ⟨_, rfl⟩
    rw [hWL] at Hlen Htxt
    have HWL := Lib.hid hWL
    obtain ⟨M, hM⟩ : ∃ M : Nat, deedN k = M := ⟨(deedN k).toNat, by omega⟩
    rw [hM] at Htxt hD
    have HM := Lib.hid hM
    have hM3 : M ≤ 3 := by omega
    have hM3' : (M : Int) ≤ 3 := by omega
    obtain ⟨x0, x1, x2, x3⟩ := And.intro X1.out.1 X1.out.2
    clear hok hk ha hb hc hWL hlen hval htxt hM
    go_wp2_with fail
    refine (deedWordS_any k _ Hk.out).mono ?_
    rintro e w2 ⟨rfl, rfl⟩
    rw [HM.out, HWL.out]
    go_wp2_with fail
    have HA : ∀ i : Nat, i < 3 → (w1.alloc (Obj.cells #[.int .i64 a, .int .i64 b, .int .i64 c] 2)).cell? ⟨w1.heap.size, i, none⟩ = some (.int .i64 (valAt a b c i)) := by
      intro i hi
      have : i = 0 ∨ i = 1 ∨ i = 2 := by omega
      rcases this with rfl | rfl | rfl <;> simp [go_sem, valAt]
    have hBA := (Below.refl w1.heap.size w1).alloc (Nat.le_refl _) (Obj.cells #[.int .i64 a, .int .i64 b, .int .i64 c] 2)
    have hzA : w1.heap.size < (w1.alloc (Obj.cells #[.int .i64 a, .int .i64 b, .int .i64 c] 2)).heap.size := by simp
    revert HA hBA hzA
    generalize w1.alloc (Obj.cells #[.int .i64 a, .int .i64 b, .int .i64 c] 2) = w2
    intro HA hBA hzA
    have B2 := Lib.hid (B1.out.trans (hBA.mono B1.out.size))
    clear hBA x0 x1 x2 x3
    go_loopw [3, 26] (fun out i wr => ∃ κ : Nat, i = .int .i64 κ ∧ κ ≤ M ∧ out = .string ⟨(prL WL a b c κ).toArray⟩ ∧ Below w2.heap.size w2 wr) (fun _ i _ => M - (intOf i).toNat)
    case atStart => exact ⟨0, rfl, Nat.zero_le _, by simp [prL], Below.refl _ _⟩
    case round =>
      obtain ⟨κ, rfl, hκ, rfl, hb⟩ := hrel
      have HBr := Lib.hid (B2.out.trans (hb.mono B2.out.size))
      by_cases hlt : κ < M
      · have hc0 := (hb.cell (p := ⟨w1.heap.size, κ, none⟩) hzA).trans (HA κ (by omega))
        have hv := Hval.out κ
        have hl := Hlen.out κ
        have hst := prL_step (WL := WL) (a := a) (b := b) (c := c) (i := κ) (by omega)
        have Hst := Lib.hid hst
        obtain ⟨L, hL⟩ : ∃ L, prL WL a b c κ = L := ⟨_, rfl⟩
        rw [hL] at hl Hst
        rw [hL]
        obtain ⟨V, hV⟩ : ∃ V, valAt a b c κ = V := ⟨_, rfl⟩
        rw [hV] at hv hc0 Hst
        have hdl := dec_len hv
        have n1 : ¬ (9223372036854775807 < 1 + (dec V).length) := by omega
        have n2 : ¬ (9223372036854775807 < L.length + (1 + (dec V).length)) := by omega
        have Hv := Lib.hid hv
        have hki : (κ : Int) < (M : Int) := by omega
        clear hL hV hst hv hl hdl
        go_wp2_with fail
        refine (decimal_any V _ Hv.out (tab_below HT.out HBr.out)).mono ?_
        rintro e w4 ⟨rfl, hb4⟩
        go_wp2_with fail
        go_roundw
        case rel => exact ⟨κ + 1, by go_num, by omega, by rw [Hst.out]; simp [str_app], hb.trans (hb4.mono hb.size)⟩
        case measure => simp [intOf]; omega
      · have e1 : κ = M := by omega
        subst e1
        go_wp2_with fail
        go_ret
        refine ⟨?_, HBr.out⟩
        show Ending.returned (Value.string ⟨(prL WL a b c κ).toArray⟩) = _
        rw [textS, if_pos HO.out, ← Htxt.out]
        rfl
  · have hok' : deedOk k a b c = false := by simpa using hok
    have g0 : (!deedOk k a b c) = true := by simp [hok']
    have HO := Lib.hid hok'
    clear hok hok'
    go_wp2_with fail
    go_ret
    exact ⟨by simp [textS, HO.out], B1.out⟩
section
variable {C C' : Nat → Prop} {a b c : World}
end
section
variable {σ : Type}
end
section
variable {σ : Type}
end
theorem below_of_grown {w w' : World} {row : Option Nat} {N : Nat} (hg : w.grownBy w' row) (hN : N ≤ w.heap.size) (hr : ∀ g, row = some g → N ≤ g) : Below N w w' :=
  ⟨hg.os, hg.tape, hg.output, hg.size, fun k hk => hg.block k (by omega) (fun e => by have := hr k e.symm; omega)⟩
def Box4 (w : World) (b : Nat) (c0 c1 c2 c3 : Value) : Prop := w.cell? ⟨b, 0, none⟩ = some c0 ∧ w.cell? ⟨b, 1, none⟩ = some c1 ∧ w.cell? ⟨b, 2, none⟩ = some c2 ∧ w.cell? ⟨b, 3, none⟩ = some c3
theorem Box4.up {w w' : World} {b N : Nat} {c0 c1 c2 c3 : Value} (h : Box4 w b c0 c1 c2 c3) (hb : Below N w w') (hlt : b < N) : Box4 w' b c0 c1 c2 c3 :=
  ⟨(hb.cell (p := ⟨b, 0, none⟩) hlt).trans h.1, (hb.cell (p := ⟨b, 1, none⟩) hlt).trans h.2.1, (hb.cell (p := ⟨b, 2, none⟩) hlt).trans h.2.2.1, (hb.cell (p := ⟨b, 3, none⟩) hlt).trans h.2.2.2⟩
theorem Box4.new {w w' : World} {c0 c1 c2 c3 : Value} {t : TypeId} (hb : Below (w.alloc (.cells #[c0, c1, c2, c3] t)).heap.size (w.alloc (.cells #[c0, c1, c2, c3] t)) w') : Box4 w' w.heap.size c0 c1 c2 c3 :=
  Box4.up (w := w.alloc (.cells #[c0, c1, c2, c3] t)) ⟨by simp [go_sem], by simp [go_sem], by simp [go_sem], by simp [go_sem]⟩ hb (by simp)
structure But (b : Nat) (w w' : World) : Prop where
  os : w'.os = w.os
  tape : w'.tape = w.tape
  output : w'.output = w.output
  size : w.heap.size ≤ w'.heap.size
  block : ∀ k, k < w.heap.size → k ≠ b → w'.heap[k]? = w.heap[k]?
theorem But.refl (b : Nat) (w : World) : But b w w := ⟨rfl, rfl, rfl, Nat.le_refl _, fun _ _ _ => rfl⟩
theorem But.trans {b : Nat} {x y z : World} (h : But b x y) (k : But b y z) : But b x z :=
  ⟨k.os.trans h.os, k.tape.trans h.tape, k.output.trans h.output, Nat.le_trans h.size k.size, fun i hi hne => (k.block i (Nat.lt_of_lt_of_le hi h.size) hne).trans (h.block i hi hne)⟩
theorem But.of {b : Nat} {w w' : World} (h : Below w.heap.size w w') : But b w w' := ⟨h.os, h.tape, h.output, h.size, fun k hk _ => h.block k hk⟩
theorem But.below {b B : Nat} {w w' : World} (h : But b w w') (hB : B ≤ b) (hw : B ≤ w.heap.size) : Below B w w' := ⟨h.os, h.tape, h.output, h.size, fun k hk => h.block k (Nat.lt_of_lt_of_le hk hw) (by omega)⟩
theorem But.cell {b : Nat} {w w' : World} (h : But b w w') {p : Addr} (hp : p.block < w.heap.size) (hne : p.block ≠ b) : w'.cell? p = w.cell? p := by
  simp only [World.cell?, h.block _ hp hne]
theorem But.drew {b : Nat} {w w' : World} (h : But b w w') : But b w w'.drew := ⟨h.os, h.tape, h.output, h.size, h.block⟩
theorem But.drewN {b : Nat} {w w' : World} (h : But b w w') (n : Nat) : But b w (w'.drewN n) := ⟨h.os, h.tape, h.output, h.size, h.block⟩
theorem But.setCell {b o : Nat} {w w' : World} (h : But b w w') (v : Value) : But b w (w'.setCell ⟨b, o, none⟩ v) :=
  ⟨h.os, h.tape, h.output, by simpa [World.setCell] using h.size, fun k hk hne => by
    rw [← h.block k hk hne]
    simp only [World.setCell, Array.getElem?_modify]
    rw [if_neg (fun e => hne e.symm)]⟩
theorem But.alloc {b : Nat} {w w' : World} (h : But b w w') (o : Obj) : But b w (w'.alloc o) :=
  ⟨h.os, h.tape, h.output, Nat.le_trans h.size (by simp), fun k hk hne => (Below.heap_alloc w' o k (Nat.lt_of_lt_of_le hk h.size)).trans (h.block k hk hne)⟩
theorem But.tr {b : Nat} {w w1 w2 : World} (h : But b w w1) (hb : Below w1.heap.size w1 w2) : But b w w2 := h.trans (But.of hb)
def Blk (w : World) (b : Nat) (a : Array Value) (t : TypeId) : Prop := w.heap[b]? = some (.cells a t (0, 0))
section
variable {w w' : World} {b N : Nat} {a : Array Value} {t : TypeId}
theorem Blk.lt (h : Blk w b a t) : b < w.heap.size := (Array.getElem?_eq_some_iff.1 h).1
theorem Blk.up (h : Blk w b a t) (hb : Below w.heap.size w w') : Blk w' b a t := (hb.block b h.lt).trans h
theorem Blk.cell (h : Blk w b a t) {i : Nat} {v : Value} (hi : a[i]? = some v) : w.cell? ⟨b, i, none⟩ = some v := by
  rw [cell_of_row w b i a t (0, 0) h, hi]
theorem Blk.frozen (h : Blk w b a t) (i : Nat) : w.frozen? ⟨b, i, none⟩ = false := by
  simp [World.frozen?, show w.heap[b]? = _ from h]
theorem Blk.set (h : Blk w b a t) (i : Nat) (v : Value) : Blk (w.setCell ⟨b, i, none⟩ v) b (a.setIfInBounds i v) t := by
  obtain ⟨hlt, hk⟩ := Array.getElem?_eq_some_iff.1 h
  show (w.heap.modify b _)[b]? = _
  rw [Array.getElem?_eq_getElem (by rw [Array.size_modify]; exact hlt), Array.getElem_modify_self, hk]
  rfl
theorem Blk.alloc (h : Blk w b a t) (o : Obj) : Blk (w.alloc o) b a t := (Below.heap_alloc w o b h.lt).trans h
theorem Blk.drew (h : Blk w b a t) : Blk w.drew b a t := h
theorem Blk.new (w : World) (a : Array Value) (t : TypeId) : Blk (w.alloc (.cells a t)) w.heap.size a t := heap_alloc_new w _
theorem Blk.of_heap (h : w.heap[b]? = some (.cells a t (0, 0))) : Blk w b a t := h
end
theorem Blk.but {w w' : World} {b c : Nat} {a : Array Value} {t : TypeId} (h : Blk w c a t) (hb : But b w w') (hne : c ≠ b) : Blk w' c a t := (hb.block c h.lt hne).trans h
theorem Below.unalloc {w w' : World} {o : Obj} (hb : Below (w.alloc o).heap.size (w.alloc o) w') : Below w.heap.size w w' ∧ w'.heap[w.heap.size]? = some o :=
  ⟨((Below.refl w.heap.size w).alloc (Nat.le_refl _) o).trans (hb.mono (by simp)), (hb.block _ (by simp)).trans (heap_alloc_new w o)⟩
theorem Below.undrew {w w' : World} (hb : Below w.drew.heap.size w.drew w') : Below w.heap.size w w' := ((Below.refl w.heap.size w).drew).trans hb
theorem Below.up {w0 w w' : World} {N : Nat} (h : Below N w0 w) (hb : Below w.heap.size w w') (hN : N ≤ w0.heap.size) : Below N w0 w' := h.trans (hb.mono (Nat.le_trans hN h.size))
theorem Below.tr {w0 w w' : World} (h : Below w0.heap.size w0 w) (hb : Below w.heap.size w w') : Below w0.heap.size w0 w' := h.trans (hb.mono h.size)
section
variable {w w' : World} {b : Nat} {ks : List GRule} {r : GRule}
end
section
variable {w0 W : World} {base bm bx : Nat} {X : GRule} {ks K : List GRule} {v4 v6 : Value} {S : List Int}
end
section
variable {w w' : World} {b : Nat} {N : List Bool} {l : List Int}
end
end Go.Proofs.YtbifijlenbibmaaDoor
namespace Go.Proofs
open Go.Shelf Go.RowKit
def Tryd.lays146_ren : Go.Shelf.Ren := ⟨fun | 146 => 12 | 221 => 19 | 268 => 26 | 138 => 27 | 143 => 28 | 195 => 35 | 197 => 36 | 218 => 37 | 219 => 38 | 260 => 45 | 217 => 46 | 225 => 47 | 224 => 48 | 267 => 49 | 266 => 55 | 314 => 56 | n => n, fun | 9 => 9 | 31 => 28 | 3 => 3 | 4 => 4 | 0 => 0 | 105 => 65 | 21 => 21 | 5 => 5 | 46 => 59 | 119 => 84 | 139 => 87 | 138 => 86 | 146 => 89 | 51 => 88 | n => n, fun | 1 => 2 | 3 => 3 | 4 => 4 | n => n⟩
theorem Tryd.lays146 : Go.Proofs.Lays.n146 Tryd.prog Tryd.lays146_ren := {
  mixed := by kernel_rfl
  f138 := Tryd.func27.trans (congrArg some (by kernel_rfl))
  f143 := Tryd.func28.trans (congrArg some (by kernel_rfl))
  f146 := Tryd.func12.trans (congrArg some (by kernel_rfl))
  f195 := Tryd.func35.trans (congrArg some (by kernel_rfl))
  f197 := Tryd.func36.trans (congrArg some (by kernel_rfl))
  f217 := Tryd.func46.trans (congrArg some (by kernel_rfl))
  f218 := Tryd.func37.trans (congrArg some (by kernel_rfl))
  f219 := Tryd.func38.trans (congrArg some (by kernel_rfl))
  f221 := Tryd.func19.trans (congrArg some (by kernel_rfl))
  f224 := Tryd.func48.trans (congrArg some (by kernel_rfl))
  f225 := Tryd.func47.trans (congrArg some (by kernel_rfl))
  f260 := Tryd.func45.trans (congrArg some (by kernel_rfl))
  f266 := Tryd.func55.trans (congrArg some (by kernel_rfl))
  f267 := Tryd.func49.trans (congrArg some (by kernel_rfl))
  f268 := Tryd.func26.trans (congrArg some (by kernel_rfl))
  f314 := Tryd.func56.trans (congrArg some (by kernel_rfl))
  t0 := Tryd.underlying0
  a0 := Tryd.isAgg0
  z0 := Tryd.sizeOf0
  v0 := Tryd.zeroValue0
  t3 := Tryd.underlying3
  a3 := Tryd.isAgg3
  z3 := Tryd.sizeOf3
  v3 := Tryd.zeroValue3
  t4 := Tryd.underlying4
  a4 := Tryd.isAgg4
  z4 := Tryd.sizeOf4
  v4 := Tryd.zeroValue4
  t5 := Tryd.underlying5
  a5 := Tryd.isAgg5
  z5 := Tryd.sizeOf5
  v5 := Tryd.zeroValue5
  t9 := Tryd.underlying9
  a9 := Tryd.isAgg9
  z9 := Tryd.sizeOf9
  v9 := Tryd.zeroValue9
  t21 := Tryd.underlying21
  a21 := Tryd.isAgg21
  z21 := Tryd.sizeOf21
  v21 := Tryd.zeroValue21
  t31 := Tryd.underlying28
  a31 := Tryd.isAgg28
  z31 := Tryd.sizeOf28
  v31 := Tryd.zeroValue28
  t46 := Tryd.underlying59
  a46 := Tryd.isAgg59
  z46 := Tryd.sizeOf59
  v46 := Tryd.zeroValue59
  t51 := Tryd.underlying88
  a51 := Tryd.isAgg88
  z51 := Tryd.sizeOf88
  v51 := Tryd.zeroValue88
  t105 := Tryd.underlying65
  a105 := Tryd.isAgg65
  z105 := Tryd.sizeOf65
  v105 := Tryd.zeroValue65
  t119 := Tryd.underlying84
  a119 := Tryd.isAgg84
  z119 := Tryd.sizeOf84
  t138 := Tryd.underlying86
  a138 := Tryd.isAgg86
  z138 := Tryd.sizeOf86
  v138 := Tryd.zeroValue86
  t139 := Tryd.underlying87
  a139 := Tryd.isAgg87
  z139 := Tryd.sizeOf87
  v139 := Tryd.zeroValue87
  t146 := Tryd.underlying89
  a146 := Tryd.isAgg89
  z146 := Tryd.sizeOf89
  v146 := Tryd.zeroValue89
  g1 := by kernel_rfl
  g3 := by kernel_rfl
  g4 := by kernel_rfl }
open Go.RowKit Go.Lib in
theorem Tryd.strings_Split_chars (s sep : ByteArray) (w : World) (h0 : sep.size = 0) (hs : s.size < 4294967281) (hascii : ∀ (j : Nat) b, s.data.toList[j]? = some b → b.toNat < 128) :
    Calls Tryd.prog 12 #[.string s, .string sep] w fun e w' =>
      e = .returned (.slice (some ⟨(w.iter s s.size).heap.size, 0, none⟩) s.size s.size) ∧ w' = (w.iter s s.size).alloc (.cells ((Lib.charsB s).map Value.string).toArray 9) := Any.strings_Split_chars Tryd.lays146 (by kernel_rfl) s sep w h0 hs hascii
end Go.Proofs
namespace Go.Proofs.YtbifijlenbibmaaDoor
open Go.RowKit
structure GEdit where
  kind : Int
  i : Int
  j : Int
  k : Int
  part : List GRule
  map : ByteArray
end Go.Proofs.YtbifijlenbibmaaDoor
namespace Go.Proofs
theorem Tryd.infoW : (Tryd.prog.info? 9).map (fun i => (i.zero, i.size, i.bytes)) = some (some (.string ⟨#[]⟩), 1, 16) := by kernel_rfl
end Go.Proofs
namespace Go.Proofs.YtbifijlenbibmaaDoor
open Go.RowKit
def OwnW (w : World) (base : Nat) (v : Value) (l : List ByteArray) : Prop := w.ownsRow base 9 1 v l.length (l.map Value.string)
theorem OwnW.empty {w : World} {base N : Nat} (hN : N = w.heap.size) (hb : base ≤ w.heap.size) : OwnW (w.alloc (Obj.cells #[] 9)) base (Value.slice (some ⟨N, 0, none⟩) 0 0) [] := by
  subst hN
  exact World.ownsRow_lit w #[] 0 hb (Nat.zero_le _) rfl
theorem push_word {W : World} {ops : Array Oper} {rest : List Oper} {o : Oper} {a : Act} {Q : Exit → Act → World → Prop} (hgd : o.guard = none) (s x : Operand)
    (ho : o.op = .call { callee := .builtin .append, args := #[s, x], argTypes := #[28, 28] }) {y : ByteArray} {base : Nat} {v : Value} {l : List ByteArray}
    (hs : a.eval s = v) {N : Nat} (hx : a.eval x = .slice (some ⟨N, 0, none⟩) 1 1) (hN : N = W.heap.size) (hown : OwnW W base v l) (hlen : l.length ≤ 1099511627776) (hbase : base ≤ W.heap.size)
    (h : ∀ g' c' w', OwnW w' base (.slice (some ⟨g', 0, none⟩) (l.length + 1) c') (l ++ [y]) → Below base W w' → wpList Tryd.prog ops Q rest (a.put o.dst (.slice (some ⟨g', 0, none⟩) (l.length + 1) c')) w') :
    wpList Tryd.prog ops Q (o :: rest) a (W.alloc (.cells #[.string y] 9)) := by
  subst hN
  obtain ⟨i0, hi0, hz0, hz1, hz2⟩ := info_parts Tryd.infoW
  refine wpList_push hgd s x 28 ho i0 (.string ⟨#[]⟩) 1 16 Tryd.underlying28 hi0 hz0 hz1 hz2 rfl (by decide) hs hx rfl (by simp [Value.oneCell']) hown (by omega) (by omega) hbase ?_
  intro v' w' h1 h2 h3
  have h4 : OwnW w' base v' (l ++ [y]) := by unfold OwnW; simpa using h1
  obtain ⟨g', c', rfl, _⟩ := own_form (show w'.ownsRow base 9 1 v' (l ++ [y]).length ((l ++ [y]).map Value.string) from h4) (by simp)
  have e : (l ++ [y]).length = l.length + 1 := by simp
  rw [e] at h4 ⊢
  exact h g' c' w' h4 h3
def spl (b : UInt8) : List UInt8 → List UInt8 → List (List UInt8)
  | cur, [] => [cur]
  | cur, c :: t => if c = b then cur :: spl b [] t else spl b (cur ++ [c]) t
theorem spl_none {b : UInt8} : ∀ (t cur : List UInt8), (∀ c ∈ t, c ≠ b) → spl b cur t = [cur ++ t] := by
  intro t
  induction t with
  | nil => intro cur _; simp [spl]
  | cons c t ih =>
    intro cur h
    rw [spl, if_neg (h c (by simp)), ih _ (fun x hx => h x (by simp [hx]))]
    simp
theorem spl_piece {b : UInt8} : ∀ (u cur t : List UInt8), (∀ c ∈ u, c ≠ b) → spl b cur (u ++ b :: t) = (cur ++ u) :: spl b [] t := by
  intro u
  induction u with
  | nil => intro cur t _; simp [spl]
  | cons c u ih =>
    intro cur t h
    rw [List.cons_append, spl, if_neg (h c (by simp)), ih _ _ (fun x hx => h x (by simp [hx]))]
    simp
theorem spl_pos (b : UInt8) : ∀ (t cur : List UInt8), spl b cur t ≠ [] := by
  intro t
  induction t with
  | nil => intro cur; simp [spl]
  | cons c t ih =>
    intro cur
    rw [spl]
    split
    · simp
    · exact ih _
def glue (b : UInt8) : List (List UInt8) → List UInt8
  | [] => []
  | [u] => u
  | u :: v :: r => u ++ b :: glue b (v :: r)
theorem glue_cons {b : UInt8} {u : List UInt8} {r : List (List UInt8)} (h : r ≠ []) : glue b (u :: r) = u ++ b :: glue b r := by
  cases r with
  | nil => exact absurd rfl h
  | cons v r => rfl
theorem spl_glue {b : UInt8} : ∀ (ps : List (List UInt8)), ps ≠ [] → (∀ u ∈ ps, ∀ c ∈ u, c ≠ b) → spl b [] (glue b ps) = ps := by
  intro ps
  induction ps with
  | nil => intro h; exact absurd rfl h
  | cons u r ih =>
    intro _ h
    cases r with
    | nil => rw [glue, spl_none _ _ (h u (by simp))]; simp
    | cons v r =>
      rw [glue_cons (by simp), spl_piece _ _ _ (h u (by simp)), ih (by simp) (fun x hx => h x (by simp [hx]))]
      simp
def dgt (c : UInt8) : Nat := c.toNat - 48
def isDgt (c : UInt8) : Bool := decide (48 ≤ c.toNat) && decide (c.toNat ≤ 57)
def numN (u : List UInt8) : Nat := u.foldl (fun n c => n * 10 + dgt c) 0
def rdOk (u : List UInt8) : Bool := decide (1 ≤ u.length) && decide (u.length ≤ 18) && !(u.head? == some 48 && decide (1 < u.length)) && u.all isDgt
def numV (u : List UInt8) : Int := if rdOk u then (numN u : Int) else 0
theorem numN_snoc (u : List UInt8) (c : UInt8) : numN (u ++ [c]) = numN u * 10 + dgt c := by simp [numN]
theorem numN_lt : ∀ (k : Nat) (u : List UInt8), u.length = k → u.all isDgt = true → numN u < 10 ^ k := by
  intro k
  induction k with
  | zero => intro u h _; rw [List.length_eq_zero_iff] at h; subst h; simp [numN]
  | succ k ih =>
    intro u h ha
    have h1 : u ≠ [] := by intro e; rw [e] at h; simp at h
    obtain ⟨v, c, rfl⟩ : ∃ v c, u = v ++ [c] := ⟨u.dropLast, u.getLast h1, (List.dropLast_concat_getLast h1).symm⟩
    rw [List.all_append, Bool.and_eq_true] at ha
    have h2 := ih v (by simpa using h) ha.1
    have h3 : dgt c ≤ 9 := by have := ha.2; simp [isDgt] at this; unfold dgt; omega
    rw [numN_snoc, Nat.pow_succ]
    omega
theorem decD_ge {u : Nat} (h : ¬ u < 10) : Lib.decDigits u = Lib.decDigits (u / 10) ++ [UInt8.ofNat (48 + u % 10)] := by rw [Lib.decDigits, dif_neg h]
theorem decD_lt {u : Nat} (h : u < 10) : Lib.decDigits u = [UInt8.ofNat (48 + u)] := by rw [Lib.decDigits, dif_pos h]
theorem dgt_of {d : Nat} (h : d < 10) : dgt (UInt8.ofNat (48 + d)) = d ∧ isDgt (UInt8.ofNat (48 + d)) = true := by
  have : (UInt8.ofNat (48 + d)).toNat = 48 + d := by rw [UInt8.toNat_ofNat']; omega
  unfold dgt isDgt
  rw [this]
  simp; omega
theorem decD_num : ∀ u : Nat, numN (Lib.decDigits u) = u ∧ (Lib.decDigits u).all isDgt = true ∧ Lib.decDigits u ≠ [] ∧ (1 < (Lib.decDigits u).length → (Lib.decDigits u).head? ≠ some 48) ∧ (0 < u → (Lib.decDigits u).head? ≠ some 48) := by
  intro u
  induction u using Nat.strongRecOn with
  | _ u ih =>
    by_cases h : u < 10
    · rw [decD_lt h]
      obtain ⟨h1, h2⟩ := dgt_of h
      have h9 : (UInt8.ofNat (48 + u)).toNat = 48 + u := by rw [UInt8.toNat_ofNat']; omega
      revert h1 h2 h9
      generalize UInt8.ofNat (48 + u) = c
      intro h1 h2 h9
      refine ⟨by simp [numN, h1], by simp [h2], by simp, by simp, ?_⟩
      intro h0 he
      simp only [List.head?_cons, Option.some.injEq] at he
      rw [he] at h9
      have h10 : (48 : UInt8).toNat = 48 := rfl
      omega
    · obtain ⟨h1, h2, h3, h4, h5⟩ := ih (u / 10) (by omega)
      obtain ⟨d1, d2⟩ := dgt_of (show u % 10 < 10 by omega)
      have hh : (Lib.decDigits (u / 10) ++ [UInt8.ofNat (48 + u % 10)]).head? = (Lib.decDigits (u / 10)).head? := by
        cases hq : Lib.decDigits (u / 10) with
        | nil => exact absurd hq h3
        | cons x t => rfl
      rw [decD_ge h]
      revert d1 d2 hh
      generalize UInt8.ofNat (48 + u % 10) = c
      intro d1 d2 hh
      refine ⟨by rw [numN_snoc, h1, d1]; omega, by rw [List.all_append, h2]; simp [d2], by simp, fun _ => by rw [hh]; exact h5 (by omega), fun _ => by rw [hh]; exact h5 (by omega)⟩
theorem rdOk_iff (u : List UInt8) : rdOk u = true ↔ 1 ≤ u.length ∧ u.length ≤ 18 ∧ ¬ (u.head? = some 48 ∧ 1 < u.length) ∧ u.all isDgt = true := by
  unfold rdOk
  simp [and_assoc]
  intro _ _ _
  constructor
  · rintro (h | h) h2
    · exact absurd h2 h
    · exact h
  · intro h
    by_cases h2 : u.head? = some 48
    · exact Or.inr (h h2)
    · exact Or.inl h2
theorem dec_rdOk {n : Int} (h0 : 0 ≤ n) (h1 : n ≤ 1000000000000000) : rdOk (dec n) = true ∧ numV (dec n) = n := by
  obtain ⟨k, rfl⟩ := Int.eq_ofNat_of_zero_le h0
  obtain ⟨a1, a2, a3, a4, _⟩ := decD_num k
  have hok : rdOk (dec (k : Int)) = true := by
    rw [rdOk_iff]
    unfold dec
    rw [Int.toNat_natCast]
    refine ⟨List.length_pos_iff.2 a3, ?_, fun h => a4 h.2 h.1, a2⟩
    rw [Lib.decDigits_length]
    rcases Nat.lt_or_ge 18 (Lib.nDigits k) with h | h
    · exfalso
      have h2 : ∀ m, 1 ≤ m → ∀ k, m < Lib.nDigits k → 10 ^ m ≤ k := by
        intro m
        induction m with
        | zero => intro h; omega
        | succ m ih =>
          intro _ k hk
          by_cases hk9 : k < 10
          · rw [Lib.nDigits_small hk9] at hk; omega
          · rw [Lib.nDigits_big hk9] at hk
            rcases Nat.eq_zero_or_pos m with rfl | hm
            · simp; omega
            · have := ih hm (k / 10) (by omega)
              rw [Nat.pow_succ]; omega
      have := h2 18 (by decide) k h
      have h18 : (10 : Nat) ^ 18 = 1000000000000000000 := by decide
      omega
    · exact h
  refine ⟨hok, ?_⟩
  unfold numV
  rw [if_pos hok]
  unfold dec
  rw [Int.toNat_natCast, a1]
def pI (u : List UInt8) : Int :=
  match Lib.parseIntB 64 u with
  | .ok v => v
  | .«syntax» => 0
  | .range => Lib.intSat 64 u
theorem parseM_ok : ∀ (u : List UInt8) (acc : Nat), u.all isDgt = true → acc * 10 ^ u.length + numN u < 1000000000000000000 → Lib.parseUintM (2 ^ 64 - 1) acc u = .ok (acc * 10 ^ u.length + numN u) := by
  intro u
  induction u with
  | nil => intro acc _ _; simp [Lib.parseUintM, numN]
  | cons c t ih =>
    intro acc ha hb
    rw [List.all_cons, Bool.and_eq_true] at ha
    have hc := ha.1
    simp only [isDgt, Bool.and_eq_true, decide_eq_true_eq] at hc
    have hfold : ∀ (l : List UInt8) (a : Nat), l.foldl (fun n c => n * 10 + dgt c) a = a * 10 ^ l.length + numN l := by
      intro l
      induction l with
      | nil => intro a; simp [numN]
      | cons x l ihl =>
        intro a
        have e1 : numN (x :: l) = (0 * 10 + dgt x) * 10 ^ l.length + numN l := by
          show List.foldl _ _ _ = _
          rw [List.foldl_cons, ihl]
        rw [List.foldl_cons, ihl, e1, List.length_cons, Nat.pow_succ, Nat.add_mul, Nat.zero_mul, Nat.zero_add, Nat.mul_assoc, Nat.mul_comm 10, Nat.add_assoc]
    have e2 : numN (c :: t) = dgt c * 10 ^ t.length + numN t := by
      show List.foldl _ _ _ = _
      rw [List.foldl_cons, hfold]; simp
    have e3 : acc * 10 ^ (c :: t).length + numN (c :: t) = (acc * 10 + dgt c) * 10 ^ t.length + numN t := by
      rw [e2, List.length_cons, Nat.pow_succ, Nat.add_mul, Nat.mul_assoc, Nat.mul_comm 10, Nat.add_assoc]
    rw [e3] at hb ⊢
    have hp : 1 ≤ 10 ^ t.length := Nat.one_le_pow _ _ (by decide)
    have hle : acc * 10 + dgt c ≤ (acc * 10 + dgt c) * 10 ^ t.length := Nat.le_mul_of_pos_right _ hp
    have hd : c.toNat - 48 = dgt c := rfl
    rw [Lib.parseUintM, if_pos hc, if_neg (by omega), if_neg (by rw [hd]; omega), hd]
    exact ih _ ha.2 hb
theorem pI_num {u : List UInt8} (h : rdOk u = true) : pI u = numV u ∧ Lib.parseIntB 64 u = .ok (numV u) := by
  obtain ⟨h1, h2, h3, h4⟩ := (rdOk_iff u).1 h
  have hlt : numN u < 10 ^ u.length := numN_lt u.length u rfl h4
  have h18 : 10 ^ u.length ≤ 10 ^ 18 := Nat.pow_le_pow_right (by decide) h2
  have e18 : (10 : Nat) ^ 18 = 1000000000000000000 := by decide
  have hm := parseM_ok u 0 h4 (by omega)
  rw [Nat.zero_mul, Nat.zero_add] at hm
  cases u with
  | nil => simp at h1
  | cons c t =>
    have hc : 48 ≤ c.toNat ∧ c.toNat ≤ 57 := by
      rw [List.all_cons, Bool.and_eq_true] at h4
      have := h4.1
      simp only [isDgt, Bool.and_eq_true, decide_eq_true_eq] at this
      exact this
    have hp : Lib.parseIntB 64 (c :: t) = .ok (numV (c :: t)) := by
      unfold Lib.parseIntB
      have e43 : ¬ (c.toNat = 43 ∨ c.toNat = 45) := by omega
      have e45 : ¬ c.toNat = 45 := by omega
      simp only [e43, if_false]
      unfold Lib.parseUintB
      rw [if_neg (by simp), hm]
      simp only [e45, not_false_eq_true, true_and, false_and, if_false]
      have h63 : ¬ (2 ^ (64 - 1) ≤ numN (c :: t)) := by
        have : (2 : Nat) ^ (64 - 1) = 9223372036854775808 := by decide
        omega
      rw [if_neg h63]
      unfold numV
      rw [if_pos h]
    exact ⟨by unfold pI; rw [hp], hp⟩
def numsL (k a b c : Int) : List Int := a :: ((if 1 < deedN k then [b] else []) ++ (if 2 < deedN k then [c] else []))
def piecesD (k a b c : Int) : List (List UInt8) := wordL k :: (numsL k a b c).map dec
theorem textL_glue {k a b c : Int} (h : 1 ≤ k ∧ k ≤ 9) : textL k a b c = glue 32 (piecesD k a b c) := by
  unfold textL piecesD numsL
  rcases deedN_in h with h | h | h <;> simp [h, glue]
theorem dec_no32 {n : Int} (h0 : 0 ≤ n) (h1 : n ≤ 999) : ∀ c ∈ dec n, c ≠ 32 := by
  intro c hc
  have h := (rdOk_iff _).1 (dec_rdOk h0 (by omega)).1
  have := List.all_eq_true.1 h.2.2.2 c hc
  rintro rfl
  exact absurd this (by decide)
theorem wordL_no32 {k : Int} (h : 1 ≤ k ∧ k ≤ 9) : ∀ c ∈ wordL k, c ≠ 32 := by
  rcases kind9 h with rfl | rfl | rfl | rfl | rfl | rfl | rfl | rfl | rfl <;> decide
theorem wordL_inj {k k' : Int} (h : 1 ≤ k ∧ k ≤ 9) (h' : 1 ≤ k' ∧ k' ≤ 9) (e : wordL k = wordL k') : k = k' := by
  rcases kind9 h with rfl | rfl | rfl | rfl | rfl | rfl | rfl | rfl | rfl <;> rcases kind9 h' with rfl | rfl | rfl | rfl | rfl | rfl | rfl | rfl | rfl <;> first | rfl | (exact absurd e (by decide))
theorem dec_inj {n m : Int} (h0 : 0 ≤ n) (h1 : n ≤ 999) (h2 : 0 ≤ m) (h3 : m ≤ 999) (e : dec n = dec m) : n = m := by
  rw [← (dec_rdOk h0 (by omega)).2, ← (dec_rdOk h2 (by omega)).2, e]
def DeedIs (t : ByteArray) (k a b c : Int) : Prop := deedOk k a b c = true ∧ textS k a b c = t
theorem deedOk_all {k a b c : Int} (h : deedOk k a b c = true) : (1 ≤ k ∧ k ≤ 9) ∧ (0 ≤ a ∧ a ≤ 999) ∧ (0 ≤ b ∧ b ≤ 999) ∧ (0 ≤ c ∧ c ≤ 999) ∧ (1 < deedN k ∨ b = 0) ∧ (2 < deedN k ∨ c = 0) := by
  simp [deedOk] at h; omega
theorem DeedIs.text {t : ByteArray} {k a b c : Int} (h : DeedIs t k a b c) : t.data.toList = textL k a b c := by
  have := h.2
  rw [textS, if_pos h.1] at this
  rw [← this]
theorem DeedIs.cut {t : ByteArray} {k a b c : Int} (h : DeedIs t k a b c) : spl 32 [] t.data.toList = piecesD k a b c := by
  obtain ⟨hk, ha, hb, hc, _⟩ := deedOk_all h.1
  rw [h.text, textL_glue hk]
  refine spl_glue _ (by simp [piecesD]) ?_
  intro u hu
  rcases List.mem_cons.1 hu with rfl | hu
  · exact wordL_no32 hk
  · obtain ⟨n, hn, rfl⟩ := List.mem_map.1 hu
    have : n = a ∨ n = b ∨ n = c := by
      unfold numsL at hn
      rcases List.mem_cons.1 hn with h | h
      · exact Or.inl h
      · rcases List.mem_append.1 h with h | h
        · split at h
          · exact Or.inr (Or.inl (by simpa using h))
          · simp at h
        · split at h
          · exact Or.inr (Or.inr (by simpa using h))
          · simp at h
    rcases this with rfl | rfl | rfl
    · exact dec_no32 ha.1 ha.2
    · exact dec_no32 hb.1 hb.2
    · exact dec_no32 hc.1 hc.2
theorem DeedIs.uniq {t : ByteArray} {k a b c k' a' b' c' : Int} (h : DeedIs t k a b c) (h' : DeedIs t k' a' b' c') : k = k' ∧ a = a' ∧ b = b' ∧ c = c' := by
  have e := h.cut.symm.trans h'.cut
  obtain ⟨hk, ha, hb, hc, hb0, hc0⟩ := deedOk_all h.1
  obtain ⟨hk', ha', hb', hc', hb0', hc0'⟩ := deedOk_all h'.1
  unfold piecesD at e
  obtain ⟨e1, e2⟩ := List.cons.inj e
  have ek := wordL_inj hk hk' e1
  subst ek
  unfold numsL at e2
  rcases deedN_in hk with h1 | h1 | h1 <;> simp [h1] at e2 hb0 hc0 hb0' hc0'
  · exact ⟨rfl, dec_inj ha.1 ha.2 ha'.1 ha'.2 e2, by omega, by omega⟩
  · exact ⟨rfl, dec_inj ha.1 ha.2 ha'.1 ha'.2 e2.1, dec_inj hb.1 hb.2 hb'.1 hb'.2 e2.2, by omega⟩
  · exact ⟨rfl, dec_inj ha.1 ha.2 ha'.1 ha'.2 e2.1, dec_inj hb.1 hb.2 hb'.1 hb'.2 e2.2.1, dec_inj hc.1 hc.2 hc'.1 hc'.2 e2.2.2⟩
theorem DeedIs.numbers {t : ByteArray} {k a b c : Int} (h : DeedIs t k a b c) : (spl 32 [] t.data.toList).head? = some (wordL k) ∧ (spl 32 [] t.data.toList).tail = (numsL k a b c).map dec ∧ (numsL k a b c).length = (deedN k).toNat ∧ (∀ n ∈ numsL k a b c, 0 ≤ n ∧ n ≤ 999) ∧ (numsL k a b c).getD 0 0 = a ∧ (numsL k a b c).getD 1 0 = b ∧ (numsL k a b c).getD 2 0 = c := by
  obtain ⟨hk, ha, hb, hc, hb0, hc0⟩ := deedOk_all h.1
  rw [h.cut]
  refine ⟨rfl, rfl, ?_⟩
  unfold numsL
  rcases deedN_in hk with h1 | h1 | h1 <;> simp [h1] at hb0 hc0 ⊢
  · exact ⟨ha, hb0.symm, hc0.symm⟩
  · exact ⟨⟨ha, hb⟩, hc0.symm⟩
  · exact ⟨ha, hb, hc⟩
theorem DeedIs.small {t : ByteArray} {k a b c : Int} (h : DeedIs t k a b c) : t.size ≤ 20 := by
  obtain ⟨hk, ha, hb, hc, _⟩ := deedOk_all h.1
  have e : t.size = t.data.toList.length := by rw [Array.length_toList]; rfl
  rw [e, h.text]
  have h1 := wordL_len hk
  have h2 := dec_len ha
  have h3 := dec_len hb
  have h4 := dec_len hc
  unfold textL
  simp only [List.length_append, List.length_cons]
  have : (if 1 < deedN k then 32 :: dec b else []).length ≤ 4 := by split <;> simp; omega
  have : (if 2 < deedN k then 32 :: dec c else []).length ≤ 4 := by split <;> simp; omega
  omega
def DeedRead (t : ByteArray) (e : Ending) : Prop :=
  (∃ k a b c, DeedIs t k a b c ∧ e = .returned (.tuple #[.agg #[.int .i64 k, .int .i64 a, .int .i64 b, .int .i64 c], .int .i64 0])) ∨
  ((∀ k a b c, ¬ DeedIs t k a b c) ∧ e = .returned (.tuple #[.agg #[.int .i64 0, .int .i64 0, .int .i64 0, .int .i64 0], .int .i64 5]))
end Go.Proofs.YtbifijlenbibmaaDoor
