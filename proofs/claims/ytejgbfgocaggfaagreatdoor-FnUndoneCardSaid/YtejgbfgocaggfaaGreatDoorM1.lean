import Derived.Laws.Strings
import Derived.Test.YtejgbfgocaggfaaGreatDoorRows
import Derived.WalkKit
import Derived.ProofKit
import Derived.Deep.QuietTactic
import Derived.BigQuiet
import Derived.Deep.LoopGhost
import Derived.Deep.Light
import Derived.Deep.AppendLies
import Derived.Deep.Draws
import Derived.Maps.AppendAt
import Derived.Lib.Hide
import Derived.WalkSpells
import Derived.Deep.DeepMust
import Derived.LoopTactic
import Derived.Deep.RegionHeld3
set_option maxRecDepth 100000
set_option maxHeartbeats 8000000
namespace Go.Proofs.YtejgbfgocaggfaaGreatDoor
structure zaa where
 letter : ByteArray
 left : Int
 right : Int
 deriving DecidableEq
def ze2 : Int := 1000000000000000
def zaa.pair (r : zaa) : Bool := r.letter.size == 0
def zeh (s : ByteArray) : Bool := s.size == 1 && decide (97 ≤ ((s.data.getD 0 0).toNat : Int)) && decide (((s.data.getD 0 0).toNat : Int) ≤ 100)
def zaC (i : Nat) (r : zaa) : Bool :=
 if r.pair then decide (0 ≤ r.left) && decide (r.left ≤ (i : Int) - 1) && decide (0 ≤ r.right) && decide (r.right ≤ (i : Int) - 1) else zeh r.letter && r.left == 0 && r.right == 0
def zaU (out : List Int) (r : zaa) : Int := if r.pair then out.getD r.left.toNat 0 + out.getD r.right.toNat 0 else 1
def zaR (o : Option (List Int)) (r : zaa) : Option (List Int) :=
 o.bind fun out => if zaC out.length r = true ∧ zaU out r ≤ ze2 then some (out ++ [zaU out r]) else none
def zaW (rs : List zaa) : Option (List Int) := rs.foldl zaR (some [])
theorem zcw {α β : Type} (f : β → α → β) (s : β) (xs : List α) (k : Nat) (x : α) (h : xs[k]? = some x) :
  (xs.take (k + 1)).foldl f s = f ((xs.take k).foldl f s) x := by
 rw [List.take_add_one, h]; simp
theorem zcT (xs : List zaa) : xs.foldl zaR none = none := by
 induction xs with
 | nil => rfl
 | cons x xs ih => simpa [zaR] using ih
theorem zcQ {rs : List zaa} {k : Nat} {out : List Int} {r : zaa} (h : zaW (rs.take k) = some out) (hr : rs[k]? = some r) (hb : zaR (some out) r = none) : zaW rs = none := by
 have h1 : zaW (rs.take (k+1)) = none := by unfold zaW at *; rw [zcw _ _ _ _ _ hr, h, hb]
 have h2 : zaW rs = (rs.drop (k+1)).foldl zaR (zaW (rs.take (k+1))) := by
  unfold zaW; rw [← List.foldl_append, List.take_append_drop]
 rw [h2, h1, zcT]
theorem zei {rs : List zaa} {k : Nat} {out : List Int} {r : zaa} (h : zaW (rs.take k) = some out) (hr : rs[k]? = some r) (h1 : zaC out.length r = true) (h2 : zaU out r ≤ ze2) :
  zaW (rs.take (k+1)) = some (out ++ [zaU out r]) := by
 unfold zaW at *; rw [zcw _ _ _ _ _ hr, h]; simp [zaR, h1, h2]
theorem zaG {rs : List zaa} {out : List Int} (h : zaW rs = some out) : out.length = rs.length := by
 suffices H : ∀ (xs : List zaa) (a o : List Int), xs.foldl zaR (some a) = some o → o.length = a.length + xs.length by
  simpa using H rs [] out h
 intro xs
 induction xs with
 | nil => intro a o h; simp at h; subst h; simp
 | cons x xs ih =>
   intro a o h; simp only [List.foldl_cons, zaR, Option.bind_some] at h
   split at h
   · have := ih _ _ h; simp at this ⊢; omega
   · rw [zcT] at h; cases h
theorem zgx {rs : List zaa} {out : List Int} (h : zaW rs = some out) : ∀ v ∈ out, 1 ≤ v ∧ v ≤ ze2 := by
 suffices H : ∀ (xs : List zaa) (a o : List Int), (∀ v ∈ a, 1 ≤ v ∧ v ≤ ze2) → xs.foldl zaR (some a) = some o → ∀ v ∈ o, 1 ≤ v ∧ v ≤ ze2 by
  exact H rs [] out (by simp) h
 intro xs
 induction xs with
 | nil => intro a o ha h; simp at h; subst h; exact ha
 | cons x xs ih =>
   intro a o ha h; simp only [List.foldl_cons, zaR, Option.bind_some] at h
   split at h
   · rename_i hc
     refine ih _ _ ?_ h
     intro v hv; rw [List.mem_append] at hv; rcases hv with hv | hv
     · exact ha v hv
     · simp at hv; subst hv
       refine ⟨?_, hc.2⟩
       unfold zaU; split
       · rename_i hp
         have hok := hc.1; simp only [zaC, hp, if_true, Bool.and_eq_true, decide_eq_true_eq] at hok
         have g : ∀ j : Nat, j < a.length → 1 ≤ a.getD j 0 := by
          intro j hj; rw [List.getD_eq_getElem?_getD, List.getElem?_eq_getElem hj]
          exact (ha _ (List.getElem_mem hj)).1
         have g1 := g x.left.toNat (by omega); have g2 := g x.right.toNat (by omega); omega
       · omega
   · rw [zcT] at h; cases h
theorem zaq (s : ByteArray) : s.toList.isEmpty = (s.size == 0) := by
 have h : s.toList = s.data.toList := by
  exact ByteArray.toList_eq s
 rw [h]; show s.data.toList.isEmpty = (s.data.size == 0); cases s.data with | mk l => cases l <;> simp
theorem zbH {out : List Int} {r : zaa} (h : zaC out.length r = false) : zaR (some out) r = none := by simp [zaR, h]
theorem zf7 {out : List Int} {r : zaa} (h : ze2 < zaU out r) : zaR (some out) r = none := by
 have : ¬ zaU out r ≤ ze2 := by omega
 simp [zaR, this]
section
variable {k : Nat} {r : zaa}
theorem zoM (h1 : r.letter.toList.isEmpty = true) (h2 : 0 ≤ r.left ∧ r.left ≤ (k:Int) - 1) (h3 : (!decide (0 ≤ r.right)) = false ∧ (!decide (r.right ≤ (k:Int) - 1)) = false) : zaC k r = true ∧ r.pair = true := by
 rw [zaq] at h1; simp at h3
 have hp : r.pair = true := h1; simp [zaC, hp]; omega
theorem zoN (h1 : r.letter.toList.isEmpty = true) (h2 : ¬ (0 ≤ r.left ∧ r.left ≤ (k:Int) - 1)) : zaC k r = false := by
 rw [zaq] at h1; have hp : r.pair = true := h1; simp [zaC, hp]; omega
theorem zoO (h1 : r.letter.toList.isEmpty = true) (h3 : (!decide (0 ≤ r.right)) = true ∨ (!decide (r.right ≤ (k:Int) - 1)) = true) : zaC k r = false := by
 rw [zaq] at h1; have hp : r.pair = true := h1; simp at h3
 simp [zaC, hp]; omega
theorem zpu (s : ByteArray) (h : 0 < s.size) : s.data.getD 0 0 = s[0] := by
 have h' : 0 < s.data.size := h; show s.data.getD 0 0 = s.data[0]
 simp [Array.getD, h]
theorem zoP (h1 : r.letter.toList.isEmpty = false) (h2 : (r.letter.size : Int) = 1) (hs : 0 < r.letter.size) (h3 : (97 : Int) ≤ ((r.letter[0]'hs).toNat : Int) ∧ ((r.letter[0]'hs).toNat : Int) ≤ 100) (h4 : r.left = 0) (h5 : (r.right != 0) = false) :
  zaC k r = true ∧ r.pair = false := by
 rw [zaq] at h1; have hp : r.pair = false := h1; simp at h5
 have h2' : r.letter.size = 1 := by omega
 simp only [zaC, hp, zeh, zpu _ hs, h4, h5, h2']
 simp [h3.1, h3.2]
theorem zoQ (h1 : r.letter.toList.isEmpty = false) (h2 : ¬ (r.letter.size : Int) = 1) : zaC k r = false := by
 rw [zaq] at h1; have hp : r.pair = false := h1; have h2' : ¬ r.letter.size = 1 := by omega
 simp [zaC, hp, zeh, h2']
theorem zoR (h1 : r.letter.toList.isEmpty = false) (hs : 0 < r.letter.size) (h3 : ¬ ((97 : Int) ≤ ((r.letter[0]'hs).toNat : Int) ∧ ((r.letter[0]'hs).toNat : Int) ≤ 100)) : zaC k r = false := by
 rw [zaq] at h1; have hp : r.pair = false := h1; simp only [zaC, hp, zeh, zpu _ hs]
 by_cases ha : (97 : Int) ≤ ((r.letter[0]'hs).toNat : Int)
 · have hb : ¬ ((r.letter[0]'hs).toNat : Int) ≤ 100 := fun hb => h3 ⟨ha, hb⟩
   simp [hb]
 · simp [ha]
theorem zoS (h1 : r.letter.toList.isEmpty = false) (h4 : ¬ r.left = 0) : zaC k r = false := by
 rw [zaq] at h1; have hp : r.pair = false := h1; simp [zaC, hp, h4]
theorem zoT (h1 : r.letter.toList.isEmpty = false) (h5 : (r.right != 0) = true) : zaC k r = false := by
 rw [zaq] at h1; have hp : r.pair = false := h1; simp at h5
 simp [zaC, hp, h5]
end
def zci (c : UInt8) : Bool := decide (97 ≤ (c.toNat : Int)) && decide ((c.toNat : Int) ≤ 100)
def zaB (s : ByteArray) : Bool := decide ((s.size : Int) ≤ 2000) && s.data.toList.all zci
theorem zbd (s : ByteArray) (k : Nat) (h : k < s.size) : s.data.toList[k]? = some s[k] := by
 have h' : k < s.data.toList.length := by simpa using h
 rw [List.getElem?_eq_getElem h']; rfl
theorem zkI {s : ByteArray} {k : Nat} (h : k < s.size) (ha : (s.data.toList.take k).all zci = true) (hk : zci s[k] = true) : (s.data.toList.take (k+1)).all zci = true := by
 rw [List.take_add_one, zbd s k h, List.all_append, ha]; simpa using hk
theorem zjR {s : ByteArray} {k : Nat} (h : k < s.size) (hk : zci s[k] = false) : s.data.toList.all zci = false := by
 rw [List.all_eq_false]; exact ⟨s[k], List.mem_of_getElem? (zbd s k h), by simp [hk]⟩
theorem zmb {s : ByteArray} {k : Nat} (h : s.size ≤ k) (ha : (s.data.toList.take k).all zci = true) : s.data.toList.all zci = true := by
 rw [List.take_of_length_le (by simpa using h)] at ha; exact ha
theorem zfQ {s : ByteArray} (h : s.size = 1) : zaB s = zeh s := by
 obtain ⟨⟨l⟩⟩ := s
 match l, h with
 | [c], _ => simp [zaB, zeh, zci, ByteArray.size]
theorem zmc {c : UInt8} (h : (!decide ((97 : Int) ≤ (c.toNat : Int))) = true ∨ (!decide ((c.toNat : Int) ≤ 100)) = true) : zci c = false := by
 simp at h; simp [zci]; omega
theorem zle {c : UInt8} (h : (!decide ((97 : Int) ≤ (c.toNat : Int))) = false ∧ (!decide ((c.toNat : Int) ≤ 100)) = false) : zci c = true := by
 simp at h; simp [zci]; omega
theorem zkJ {i : Nat} {r : zaa} (h : (!r.letter.toList.isEmpty) = true) : zaC i r = (zeh r.letter && r.left == 0 && r.right == 0) := by
 rw [zaq] at h; have hp : r.pair = false := by simpa [zaa.pair] using h
 simp [zaC, hp]
theorem zoy {i : Nat} {r : zaa} (h : (!r.letter.toList.isEmpty) = false) : zaC i r = (decide (0 ≤ r.left) && decide (r.left ≤ (i : Int) - 1) && decide (0 ≤ r.right) && decide (r.right ≤ (i : Int) - 1)) := by
 rw [zaq] at h; have hp : r.pair = true := by simpa [zaa.pair] using h
 simp [zaC, hp]
theorem zmd {s : ByteArray} (h : ¬ (s.size : Int) = 1) : zeh s = false := by
 have : ¬ s.size = 1 := by omega
 simp [zeh, this]
open Go.RowKit
section
variable {w w' : World} {B B' size n : Nat} {A : Option Addr} {xs : List Value}
end
def zaa.cells (r : zaa) : List Value := [.string r.letter, .int .i64 r.left, .int .i64 r.right]
theorem zhN (rs : List zaa) (k : Nat) (r : zaa) (h : rs[k]? = some r) :
   (rs.flatMap zaa.cells)[k*3]? = some (.string r.letter) ∧ (rs.flatMap zaa.cells)[k*3+1]? = some (.int .i64 r.left) ∧ (rs.flatMap zaa.cells)[k*3+2]? = some (.int .i64 r.right) := by
 induction rs generalizing k with
 | nil => simp at h
 | cons x xs ih =>
   cases k with
   | zero => simp at h; subst h; simp [zaa.cells]
   | succ k =>
     have := ih k (by simpa using h); simp only [List.flatMap_cons]
     have e : (zaa.cells x).length = 3 := rfl; rw [List.getElem?_append_right (by omega), List.getElem?_append_right (by omega), List.getElem?_append_right (by omega), e]
     rw [show (k+1)*3-3 = k*3 by omega, show (k+1)*3+1-3 = k*3+1 by omega, show (k+1)*3+2-3 = k*3+2 by omega]; exact this
def zan (w : World) (base : Nat) (v : Value) (l : List Int) : Prop := w.ownsRow base 2 1 v l.length (l.map (Value.int .i64))
theorem zae {w : World} {base e s : Nat} {v : Value} {n : Nat} {xs : List Value} (h : w.ownsRow base e s v n xs) : ∃ A cap, v = .slice A n cap ∧ n ≤ cap ∧ cap ≤ maxLen := by
 rcases h.2 with ⟨rfl, rfl⟩ | ⟨g, cap, cur, rfl, _, _, h1, h2, _⟩
 · exact ⟨none, 0, rfl, Nat.le_refl _, Nat.zero_le _⟩
 · exact ⟨_, cap, rfl, h1, h2⟩
theorem zbI {w : World} {base e s : Nat} {v : Value} {n : Nat} {xs : List Value} (h : w.ownsRow base e s v n xs) (hn : 0 < n) :
  ∃ g cap, v = .slice (some ⟨g, 0, none⟩) n cap ∧ base ≤ g ∧ g < w.heap.size ∧ (n ≤ cap ∧ cap ≤ maxLen) ∧ ∀ j u, xs[j]? = some u → w.cell? ⟨g, j, none⟩ = some u := by
 obtain ⟨g, cap, hv, hb, hlt⟩ := h.form hn; subst hv; have hf := h.2; refine ⟨g, cap, rfl, hb, hlt, ?_, fun j u hu => ?_⟩
 · rcases hf with ⟨h1, _⟩ | ⟨g', cap', cur, h1, _, _, h2, h4, _⟩
   · cases h1
   · injection h1 with _ _ h3; subst h3; exact ⟨h2, h4⟩
 · have hj : j < xs.length := (List.getElem?_eq_some_iff.1 hu).1
   rw [h.1] at hj; rw [h.cellAt j hj, hu]
theorem zdU {P : Program} {W : World} {ops : Array Oper} {rest : List Oper} {o : Oper} {a : Act} {Q : Exit → Act → World → Prop} (hgd : o.guard = none) (s x : Operand) (t : TypeId)
  (ho : o.op = .call { callee := .builtin .append, args := #[s, x], argTypes := #[t, t] }) {cs : Array Value} {e : TypeId}
  (i : TypeInfo) (z : Value) (size bytes : Nat) (ht : P.underlying t = some (.slice e)) (hi : P.info? e = some i) (hz : i.zero = some z)
  (hsize : i.size = size) (hby : i.bytes = bytes) (hzs : z.cells.size = size) (hsz : 0 < size)
  {base : Nat} {v : Value} {n : Nat} {xs : List Value} (hs : a.eval s = v) (hx : a.eval x = .slice (some ⟨W.heap.size, 0, none⟩) 1 1)
  (hcs : cs.size = size) (h1 : ∀ u ∈ cs.toList, u.oneCell' = true) (hown : W.ownsRow base e size v n xs)
  (hlen : (n + 1) * bytes ≤ 140737488355328) (hn : n + 1 ≤ 140737488355328) (hbase : base ≤ W.heap.size)
  (h : ∀ v' w', w'.ownsRow base e size v' (n + 1) (xs ++ cs.toList) → (W.alloc (.cells cs e)).grownBy w' v.ownBlock → Below base W w' → wpList P ops Q rest (a.put o.dst v') w') :
  wpList P ops Q (o :: rest) a (W.alloc (.cells cs e)) := by
 refine wpList_plain hgd fun _ hK => ?_
 obtain ⟨v', w', hrun, h2, h3, h5⟩ := run_append_own_at (P := P) (W.alloc (.cells cs e)) base t o.type e i z size bytes ht hi hz hsize hby hzs hsz v n xs (hown.alloc _) ⟨W.heap.size, 0, none⟩ 1 1 cs.toList (by simpa using hcs)
  (fun j u hu => by
    have : (W.alloc (.cells cs e)).cell? ⟨W.heap.size, j, none⟩ = cs[j]? := cell_of_row _ _ _ _ e (0, 0) (heap_alloc_new W _); have ha : (⟨W.heap.size, 0, none⟩ : Addr).add j = ⟨W.heap.size, j, none⟩ := by unfold Addr.add; split <;> simp_all
    rw [ha, this]; simpa using hu) h1 (by simp only [maxLen]; omega) hlen (by simp; omega)
 unfold Oper.wp execOp; simp only [ho, resolve, invoke, builtin, Sem.run_bind, Sem.run_pure, Result.andThen_ok, List.map_toArray, List.map_cons, List.map_nil, hs, hx, hrun]
 refine hK _ _ (h v' w' h2 h3 ?_)
 exact ((Below.refl base W).alloc hbase _).grown h3 (by simp; omega) (fun k hk => (hown.lt k hk).1)
theorem Tryz.infoI : (Tryz.prog.info? 2).map (fun i => (i.zero, i.size, i.bytes)) = some (some (.int .i64 0), 1, 8) := by kernel_rfl
theorem Tryz.infoR : (Tryz.prog.info? 88).map (fun i => (i.zero, i.size, i.bytes)) = some (some (.agg #[.string ⟨#[]⟩, .int .i64 0, .int .i64 0]), 3, 32) := by kernel_rfl
def zac (w : World) (base : Nat) (v : Value) (l : List zaa) : Prop := w.ownsRow base 88 3 v l.length (l.flatMap zaa.cells)
theorem zan.alloc {w : World} {base : Nat} {v : Value} {l : List Int} (h : zan w base v l) (o : Obj) : zan (w.alloc o) base v l := World.ownsRow.alloc h o
theorem zac.alloc {w : World} {base : Nat} {v : Value} {l : List zaa} (h : zac w base v l) (o : Obj) : zac (w.alloc o) base v l := World.ownsRow.alloc h o
theorem zan.drew {w : World} {base : Nat} {v : Value} {l : List Int} (h : zan w base v l) : zan w.drew base v l := h
theorem zac.drew {w : World} {base : Nat} {v : Value} {l : List zaa} (h : zac w base v l) : zac w.drew base v l := h
theorem zan.drewN {w : World} {base : Nat} {v : Value} {l : List Int} (h : zan w base v l) (n : Nat) : zan (w.drewN n) base v l := h
theorem zac.drewN {w : World} {base : Nat} {v : Value} {l : List zaa} (h : zac w base v l) (n : Nat) : zac (w.drewN n) base v l := h
theorem zan.at_ {w : World} {base : Nat} {v : Value} {l : List Int} (h : zan w base v l) {j : Nat} (hj : j < l.length) :
  ∃ g cap, v = .slice (some ⟨g, 0, none⟩) l.length cap ∧ base ≤ g ∧ g < w.heap.size ∧ l.length ≤ cap ∧ ∀ i, i < l.length → w.cell? ⟨g, i, none⟩ = some (.int .i64 (l.getD i 0)) := by
 obtain ⟨g, cap, hv, hb, hlt, hc, hcell⟩ := zbI h (by omega); refine ⟨g, cap, hv, hb, hlt, hc.1, fun i hi => hcell i _ ?_⟩
 rw [List.getElem?_map, List.getD_eq_getElem?_getD, List.getElem?_eq_getElem hi]; rfl
theorem zdD {W : World} {ops : Array Oper} {rest : List Oper} {o : Oper} {a : Act} {Q : Exit → Act → World → Prop} (hgd : o.guard = none) (s x : Operand)
  (ho : o.op = .call { callee := .builtin .append, args := #[s, x], argTypes := #[94, 94] }) {y : Int} {base : Nat} {v : Value} {l : List Int}
  (hs : a.eval s = v) {N : Nat} (hx : a.eval x = .slice (some ⟨N, 0, none⟩) 1 1) (hN : N = W.heap.size) (hown : zan W base v l) (hlen : l.length ≤ 1099511627776) (hbase : base ≤ W.heap.size)
  (h : ∀ v' w', zan w' base v' (l ++ [y]) → (W.alloc (.cells #[.int .i64 y] 2)).grownBy w' v.ownBlock → Below base W w' → wpList Tryz.prog ops Q rest (a.put o.dst v') w') :
  wpList Tryz.prog ops Q (o :: rest) a (W.alloc (.cells #[.int .i64 y] 2)) := by
 subst hN; obtain ⟨i0, hi0, hz0, hz1, hz2⟩ := info_parts Tryz.infoI; refine zdU hgd s x 94 ho i0 (.int .i64 0) 1 8 Tryz.underlying94 hi0 hz0 hz1 hz2 rfl (by decide) hs hx rfl (by simp [Value.oneCell']) hown (by omega) (by omega) hbase ?_
 intro v' w' h1 h2 h3; refine h v' w' ?_ h2 h3
 unfold zan; simpa using h1
theorem zlf {W : World} {ops : Array Oper} {rest : List Oper} {o : Oper} {a : Act} {Q : Exit → Act → World → Prop} (hgd : o.guard = none) (s x : Operand)
  (ho : o.op = .call { callee := .builtin .append, args := #[s, x], argTypes := #[24, 24] }) {y : zaa} {base : Nat} {v : Value} {l : List zaa}
  (hs : a.eval s = v) {N : Nat} (hx : a.eval x = .slice (some ⟨N, 0, none⟩) 1 1) (hN : N = W.heap.size) (hown : zac W base v l) (hlen : l.length ≤ 1099511627776) (hbase : base ≤ W.heap.size)
  (h : ∀ v' w', zac w' base v' (l ++ [y]) → (W.alloc (.cells #[.string y.letter, .int .i64 y.left, .int .i64 y.right] 88)).grownBy w' v.ownBlock → Below base W w' → wpList Tryz.prog ops Q rest (a.put o.dst v') w') :
  wpList Tryz.prog ops Q (o :: rest) a (W.alloc (.cells #[.string y.letter, .int .i64 y.left, .int .i64 y.right] 88)) := by
 subst hN; obtain ⟨i0, hi0, hz0, hz1, hz2⟩ := info_parts Tryz.infoR; refine zdU hgd s x 24 ho i0 _ 3 32 Tryz.underlying24 hi0 hz0 hz1 hz2 rfl (by decide) hs hx rfl (by simp [Value.oneCell']) hown (by omega) (by omega) hbase ?_
 intro v' w' h1 h2 h3; refine h v' w' ?_ h2 h3
 unfold zac; simpa [zaa.cells] using h1
theorem zal {B : Nat} {a w : World} (h : Below B a w) (n : Nat) : Below B a (w.drewN n) := ⟨h.os, h.tape, h.output, h.size, h.block⟩
theorem zad {w : World} {base base' e s : Nat} {v : Value} {n : Nat} {xs : List Value} (h : w.ownsRow base e s v n xs) (hb : base' ≤ base) : w.ownsRow base' e s v n xs := by
 obtain ⟨h1, h2⟩ := h; refine ⟨h1, ?_⟩
 rcases h2 with h2 | ⟨g, cap, cur, h3, h4, r⟩
 · exact .inl h2
 · exact .inr ⟨g, cap, cur, h3, by omega, r⟩
theorem zan.empty {w : World} {base N : Nat} (hN : N = w.heap.size) (hb : base ≤ w.heap.size) : zan (w.alloc (Obj.cells #[] 2)) base (Value.slice (some ⟨N, 0, none⟩) 0 0) [] := by
 subst hN; exact World.ownsRow_lit w #[] 0 hb (Nat.zero_le _) rfl
theorem zac.empty {w : World} {base N : Nat} (hN : N = w.heap.size) (hb : base ≤ w.heap.size) : zac (w.alloc (Obj.cells #[] 88)) base (Value.slice (some ⟨N, 0, none⟩) 0 0) [] := by
 subst hN; exact World.ownsRow_lit w #[] 0 hb (Nat.zero_le _) rfl
theorem zaf {a b : Bool} (h : a = b) : Ending.returned (.bool a) = .returned (.bool b) := by rw [h]
theorem zdt {k : IntKind} {a b : Int} (h : a = b) : Ending.returned (.int k a) = .returned (.int k b) := by rw [h]
theorem zdu {W w1 : World} {N : Nat} (hb : Below N W w1) : (∀ b o, b < N → w1.cell? ⟨b, o, none⟩ = W.cell? ⟨b, o, none⟩) ∧ (∀ b o, b < N → w1.frozen? ⟨b, o, none⟩ = W.frozen? ⟨b, o, none⟩) :=
 ⟨fun b o h => hb.cell (p := ⟨b, o, none⟩) h, fun b o h => hb.frozen (p := ⟨b, o, none⟩) h⟩
theorem zaI {w w' : World} {base e s : Nat} {v : Value} {n : Nat} {xs : List Value} (h : w.ownsRow base e s v n xs) (hb : Below w.heap.size w w') : w'.ownsRow base e s v n xs :=
 h.kept (row := none) ⟨hb.os, hb.tape, hb.output, hb.size, fun k hk _ => hb.block k hk⟩ (by cases h : v.ownBlock <;> simp)
theorem zab {P : Program} {f : FuncId} {args : Array Value} {w : World} {n : Nat} {v : Value}
  (h : Calls P f args (w.drewN n) fun e w' => e = .returned v ∧ w.drewN n = w') : Calls P f args (w.drewN n) fun e w'' => e = .returned v ∧ ∃ m, w'' = w.drewN m :=
 h.mono fun _ _ ⟨he, hm⟩ => ⟨he, n, hm.symm⟩
def zgy (S : Nat → Prop) (w w' : World) : Prop := ∀ b, S b → w'.heap[b]? = w.heap[b]?
theorem zgy.cell {S : Nat → Prop} {w w' : World} (h : zgy S w w') {b o : Nat} (hb : S b) : w'.cell? ⟨b, o, none⟩ = w.cell? ⟨b, o, none⟩ := World.cell?_of_block (a := ⟨b, o, none⟩) (h b hb)
theorem zgy.of_below {B : Nat} {w w' : World} (h : Below B w w') : zgy (· < B) w w' := fun b hb => h.block b hb
theorem zgy.mono {S S' : Nat → Prop} {w w' : World} (h : zgy S w w') (hs : ∀ b, S' b → S b) : zgy S' w w' := fun b hb => h b (hs b hb)
theorem zgy.of_grown {w w' : World} {row : Option Nat} (h : w.grownBy w' row) : zgy (fun b => b < w.heap.size ∧ some b ≠ row) w w' := fun b hb => h.block b hb.1 hb.2
structure Enc (α : Type) where
 size : Nat
 pos : 0 < size
 cells : World → (Nat → Prop) → α → List Value → Prop
 len : ∀ {w S x cs}, cells w S x cs → cs.length = size
 keep : ∀ {w w' S x cs}, cells w S x cs → zgy S w w' → cells w' S x cs
 more : ∀ {w S S' x cs}, cells w S x cs → (∀ b, S b → S' b) → cells w S' x cs
 one : ∀ {w S x cs}, cells w S x cs → ∀ u ∈ cs, u.oneCell' = true
def zgt : Enc Int where
 size := 1
 pos := by decide
 cells := fun _ _ x cs => cs = [.int .i64 x]
 len := by rintro _ _ _ _ rfl; rfl
 keep := fun h _ => h
 more := fun h _ => h
 one := by rintro _ _ _ _ rfl; simp [Value.oneCell']
def zic : Enc ByteArray where
 size := 1
 pos := by decide
 cells := fun _ _ x cs => cs = [.string x]
 len := by rintro _ _ _ _ rfl; rfl
 keep := fun h _ => h
 more := fun h _ => h
 one := by rintro _ _ _ _ rfl; simp [Value.oneCell']
def zar : Enc zaa where
 size := 3
 pos := by decide
 cells := fun _ _ x cs => cs = x.cells
 len := by rintro _ _ _ _ rfl; rfl
 keep := fun h _ => h
 more := fun h _ => h
 one := by rintro _ _ _ _ rfl; simp [zaa.cells, Value.oneCell']
section
variable {α : Type} (E : Enc α)
def Row (w : World) (S : Nat → Prop) (A : Option Addr) (xs : List α) : Prop :=
 0 < xs.length → ∃ b o, A = some ⟨b, o, none⟩ ∧ S b ∧ ∀ k x, xs[k]? = some x → ∃ cs, E.cells w S x cs ∧ ∀ j u, cs[j]? = some u → w.cell? ⟨b, o + (k * E.size + j), none⟩ = some u
def SlS (w : World) (S : Nat → Prop) (v : Value) (xs : List α) : Prop := ∃ A c, v = .slice A xs.length c ∧ xs.length ≤ c ∧ c ≤ maxLen ∧ Row E w S A xs
abbrev Sl (w : World) (B : Nat) (v : Value) (xs : List α) : Prop := SlS E w (· < B) v xs
variable {E} {w w' : World} {S S' : Nat → Prop} {B B' : Nat} {A : Option Addr} {v : Value} {xs : List α}
theorem Row.keep (h : Row E w S A xs) (hb : zgy S w w') : Row E w' S A xs := fun hn => by
 obtain ⟨b, o, rfl, hlt, hc⟩ := h hn; refine ⟨b, o, rfl, hlt, fun k x hx => ?_⟩
 obtain ⟨cs, h1, h2⟩ := hc k x hx; exact ⟨cs, E.keep h1 hb, fun j u hu => (hb.cell hlt).trans (h2 j u hu)⟩
theorem Row.more (h : Row E w S A xs) (hB : ∀ b, S b → S' b) : Row E w S' A xs := fun hn => by
 obtain ⟨b, o, rfl, hlt, hc⟩ := h hn; refine ⟨b, o, rfl, hB _ hlt, fun k x hx => ?_⟩
 obtain ⟨cs, h1, h2⟩ := hc k x hx; exact ⟨cs, E.more h1 hB, h2⟩
theorem SlS.keep (h : SlS E w S v xs) (hb : zgy S w w') : SlS E w' S v xs := by
 obtain ⟨A, c, rfl, h1, h0, h2⟩ := h; exact ⟨A, c, rfl, h1, h0, h2.keep hb⟩
theorem SlS.more (h : SlS E w S v xs) (hB : ∀ b, S b → S' b) : SlS E w S' v xs := by
 obtain ⟨A, c, rfl, h1, h0, h2⟩ := h; exact ⟨A, c, rfl, h1, h0, h2.more hB⟩
theorem SlS.below (h : Sl E w B v xs) (hb : Below B w w') : Sl E w' B v xs := h.keep (zgy.of_below hb)
theorem SlS.le (h : Sl E w B v xs) (hB : B ≤ B') : Sl E w B' v xs := h.more fun _ hb => Nat.lt_of_lt_of_le hb hB
theorem SlS.up {w0 : World} (h : Sl E w0 w0.heap.size v xs) (hb : Below w0.heap.size w0 w) : Sl E w w.heap.size v xs := (h.below hb).le hb.size
theorem SlS.nil (w : World) (S : Nat → Prop) : SlS E w S (.slice none 0 0) [] := ⟨none, 0, rfl, Nat.le_refl _, Nat.zero_le _, fun h => absurd h (by simp)⟩
end
def zoz {α : Type} (E : Enc α) : Enc (List α) where
 size := 1
 pos := by decide
 cells := fun w S x cs => ∃ v, cs = [v] ∧ SlS E w S v x
 len := by rintro _ _ _ _ ⟨v, rfl, _⟩; rfl
 keep := by rintro _ _ _ _ _ ⟨v, rfl, h⟩ hb; exact ⟨v, rfl, h.keep hb⟩
 more := by rintro _ _ _ _ _ ⟨v, rfl, h⟩ hb; exact ⟨v, rfl, h.more hb⟩
 one := by rintro _ _ _ _ ⟨v, rfl, A, c, rfl, _⟩; simp [Value.oneCell']
section
variable {w w' : World} {S : Nat → Prop} {A : Option Addr} {v : Value}
theorem Row.int {l : List Int} (h : Row zgt w S A l) {k : Nat} (hk : k < l.length) :
  ∃ b o, A = some ⟨b, o, none⟩ ∧ S b ∧ ∀ i, i < l.length → w.cell? ⟨b, o + i, none⟩ = some (.int .i64 (l.getD i 0)) := by
 obtain ⟨b, o, rfl, hlt, hc⟩ := h (by omega); refine ⟨b, o, rfl, hlt, fun i hi => ?_⟩
 obtain ⟨cs, h1, h2⟩ := hc i l[i] (List.getElem?_eq_getElem hi)
 have := h2 0 (.int .i64 l[i]) (by rw [show cs = [.int .i64 l[i]] from h1]; rfl); rw [List.getD_eq_getElem?_getD, List.getElem?_eq_getElem hi]
 simpa [zgt] using this
theorem Row.str {l : List ByteArray} (h : Row zic w S A l) {k : Nat} (hk : k < l.length) :
  ∃ b o, A = some ⟨b, o, none⟩ ∧ S b ∧ ∀ i x, l[i]? = some x → w.cell? ⟨b, o + i, none⟩ = some (.string x) := by
 obtain ⟨b, o, rfl, hlt, hc⟩ := h (by omega); refine ⟨b, o, rfl, hlt, fun i x hi => ?_⟩
 obtain ⟨cs, h1, h2⟩ := hc i x hi; have := h2 0 (.string x) (by rw [show cs = [.string x] from h1]; rfl); simpa [zic] using this
theorem Row.rule {l : List zaa} (h : Row zar w S A l) {k : Nat} (hk : k < l.length) :
  ∃ b o, A = some ⟨b, o, none⟩ ∧ S b ∧ ∀ i r, l[i]? = some r → w.cell? ⟨b, o + i * 3, none⟩ = some (.string r.letter) ∧ w.cell? ⟨b, o + i * 3 + 1, none⟩ = some (.int .i64 r.left) ∧ w.cell? ⟨b, o + i * 3 + 2, none⟩ = some (.int .i64 r.right) := by
 obtain ⟨b, o, rfl, hlt, hc⟩ := h (by omega); refine ⟨b, o, rfl, hlt, fun i r hi => ?_⟩
 obtain ⟨cs, h1, h2⟩ := hc i r hi; have e : cs = r.cells := h1; subst e; exact ⟨by simpa [zar] using h2 0 _ rfl, by simpa [zar, Nat.add_assoc] using h2 1 _ rfl, by simpa [zar, Nat.add_assoc] using h2 2 _ rfl⟩
theorem Row.of_own {α : Type} {E : Enc α} {base e c : Nat} {xs : List α} {n : Nat} {A : Option Addr} {us : List Value} (h : w.ownsRow base e E.size (.slice A n c) n us) (hl : xs.length = n)
  (hS : ∀ g, (Value.slice A n c).ownBlock = some g → S g)
  (hx : ∀ k x, xs[k]? = some x → ∃ cs, E.cells w S x cs ∧ ∀ j u, cs[j]? = some u → us[k * E.size + j]? = some u) : Row E w S A xs := fun hn => by
 obtain ⟨g, cap, hv, hb, hlt, _, hcell⟩ := zbI h (by omega); injection hv with hA; subst hA; refine ⟨g, 0, rfl, hS g rfl, fun k x hk => ?_⟩
 obtain ⟨cs, h1, h2⟩ := hx k x hk; exact ⟨cs, h1, fun j u hu => by rw [Nat.zero_add]; exact hcell _ _ (h2 j u hu)⟩
theorem zan.slS {base : Nat} {l : List Int} (h : zan w base v l) (hS : ∀ g, v.ownBlock = some g → S g) : SlS zgt w S v l := by
 obtain ⟨A, cap, rfl, h1, h2⟩ := zae h; refine ⟨A, cap, rfl, h1, h2, Row.of_own (E := zgt) h rfl hS fun k x hx => ⟨[.int .i64 x], rfl, fun j u hu => ?_⟩⟩
 cases j with
 | zero => simp at hu; subst hu; simp [zgt, hx]
 | succ j => simp at hu
theorem zac.slS {base : Nat} {l : List zaa} (h : zac w base v l) (hS : ∀ g, v.ownBlock = some g → S g) : SlS zar w S v l := by
 obtain ⟨A, cap, rfl, h1, h2⟩ := zae h; refine ⟨A, cap, rfl, h1, h2, Row.of_own (E := zar) h rfl hS fun k r hx => ⟨r.cells, rfl, fun j u hu => ?_⟩⟩
 obtain ⟨c0, c1, c2⟩ := zhN l k r hx
 match j, hu with
 | 0, hu => simp [zaa.cells] at hu; subst hu; simpa [zar] using c0
 | 1, hu => simp [zaa.cells] at hu; subst hu; simpa [zar] using c1
 | 2, hu => simp [zaa.cells] at hu; subst hu; simpa [zar] using c2
 | j + 3, hu => simp [zaa.cells] at hu
theorem zan.sl {base : Nat} {l : List Int} (h : zan w base v l) : Sl zgt w w.heap.size v l := h.slS fun g hg => (h.lt g hg).2
theorem zac.sl {base : Nat} {l : List zaa} (h : zac w base v l) : Sl zar w w.heap.size v l := h.slS fun g hg => (h.lt g hg).2
end
def zqg {α : Type} (E : Enc α) (w : World) (S : Nat → Prop) (vs : List Value) (xs : List (List α)) : Prop := vs.length = xs.length ∧ ∀ (k : Nat) x, xs[k]? = some x → ∃ v, vs[k]? = some v ∧ SlS E w S v x
def zaY (rs : List zaa) : Prop := ∀ r ∈ rs, r.letter.size ≤ 9223372036854775807
theorem zqj (rs : List zaa) (k : Nat) (r : zaa) (h : k < rs.length) :
  (((rs.flatMap zaa.cells).set (k * 3) (.string r.letter)).set (k * 3 + 1) (.int .i64 r.left)).set (k * 3 + 2) (.int .i64 r.right) = (rs.set k r).flatMap zaa.cells := by
 induction rs generalizing k with
 | nil => simp at h
 | cons x xs ih =>
   cases k with
   | zero => simp [zaa.cells]
   | succ k =>
     have := ih k (by simpa using h); simp only [List.flatMap_cons, List.set_cons_succ]
     have e : (zaa.cells x).length = 3 := rfl; rw [List.set_append, if_neg (by omega), e, List.set_append, if_neg (by omega), e, List.set_append, if_neg (by omega), e]; rw [show (k+1)*3-3 = k*3 by omega, show (k+1)*3+1-3 = k*3+1 by omega, show (k+1)*3+2-3 = k*3+2 by omega, this]
theorem ze9 {a b c : World} {g : Nat} (h : a.grownBy b (some g)) (k : b.grownBy c (some g)) : a.grownBy c (some g) :=
 ⟨k.os.trans h.os, k.tape.trans h.tape, k.output.trans h.output, Nat.le_trans h.size k.size, fun i hi hne => (k.block i (Nat.lt_of_lt_of_le hi h.size) hne).trans (h.block i hi hne)⟩
def yh (p : Prop) : Prop := p
theorem yh.o {p : Prop} (h : yh p) : p := h
theorem yq {p : Prop} (h : p) : yh p := h
theorem yo {p : Prop} (h : p := by first | omega | (simp; done) | (simp; omega)) : p := h
theorem yL {n : Nat} : n ≤ n := Nat.le_refl n
theorem yg {α : Type} {l : List α} {i : Nat} {a : α} : l.getD i a = l[i]?.getD a := List.getD_eq_getElem?_getD
theorem ye {α : Type} {l : List α} {i : Nat} (h : i < l.length) : l[i]? = some l[i] := List.getElem?_eq_getElem h
theorem yn {α : Type} {l : List α} (h : l.length = 0) : l = [] := List.eq_nil_of_length_eq_zero h
theorem yS {p : Prop} (h : p := by simp) : p := h
theorem yk {p : Prop} (h : p := by kernel_rfl) : p := h
theorem yR {p : Prop} (h : p := by rfl) : p := h
theorem yO {p : Prop} (h : p := by omega) : p := h
theorem yb {N : Nat} {w w' : World} (h : Below N w w' := by repeat (first | assumption | exact Below.refl _ _ | (refine Below.alloc ?_ (by first | omega | (simp; done) | (simp; omega)) _) | (refine Below.setCell ?_ (by first | exact Nat.le_refl _ | (show _ ≤ _; omega) | (simp; done) | (simp; omega)) _) | refine zal ?_ _ | refine Below.drew ?_)) : Below N w w' := h
theorem zdE (n a b : Int) (w : World) :
  Calls Tryz.prog 27 #[.int .i64 n, .int .i64 a, .int .i64 b] w fun e w' => e = .returned (.bool (decide (a <= n) && decide (n <= b))) /\ w = w' := by
 by_cases h1 : a <= n
 · by_cases h2 : n <= b <;> go_enter Tryz.func27, Tryz.ntmps27 <;> go_wp2 <;> go_ret <;> exact ⟨by simp [h1,h2], rfl⟩
 · go_enter Tryz.func27, Tryz.ntmps27
   go_wp2
   go_ret
   exact ⟨by simp; omega, rfl⟩
theorem zdF (n a b : Int) (w : World) :
  Calls Tryz.prog 21 #[.int .i64 n, .int .i64 a, .int .i64 b] w fun e w' => e = .returned (.bool (decide (a <= n) && decide (n <= b))) /\ w = w' := by
 by_cases h1 : a <= n
 · by_cases h2 : n <= b <;> go_enter Tryz.func21, Tryz.ntmps21 <;> go_wp2 <;> go_ret <;> exact ⟨by simp [h1,h2], rfl⟩
 · go_enter Tryz.func21, Tryz.ntmps21
   go_wp2
   go_ret
   exact ⟨by simp; omega, rfl⟩
theorem zbF (l : ByteArray) (a b : Int) (w : World) :
  Calls Tryz.prog 93 #[.agg #[.string l, .int .i64 a, .int .i64 b]] w fun e w' => e = .returned (.bool (l.toList.isEmpty)) /\ w.alloc (.cells #[.string l, .int .i64 a, .int .i64 b] 88) = w' := by
 go_enter Tryz.func93, Tryz.ntmps93
 go_wp2
 go_ret
 exact ⟨by simp, rfl⟩
theorem zf8 (c : UInt8) (w : World) :
  Calls Tryz.prog 94 #[.int .u8 c.toNat] w fun e w' => e = .returned (.bool (decide (97 <= (c.toNat:Int)) && decide ((c.toNat:Int) <= 100))) /\ w = w' := by
 by_cases h1 : 97 <= (c.toNat : Int)
 · by_cases h2 : (c.toNat : Int) <= 100 <;> go_enter Tryz.func94, Tryz.ntmps94 <;> go_wp2 <;> go_ret <;> exact ⟨by simp [h1,h2], rfl⟩
 · go_enter Tryz.func94, Tryz.ntmps94
   go_wp2
   go_ret
   exact ⟨by simp; omega, rfl⟩
def znL (rs : List zaa) (w : World) (e : Ending) (w' : World) : Prop :=
 Below w.heap.size w w' /\ ((∃ ls v, zaW rs = some ls /\ e = .returned (.tuple #[v, .bool (decide (rs.length <= 400))]) /\ zan w' w.heap.size v ls) \/
  (zaW rs = none /\ e = .returned (.tuple #[.slice none 0 0, .bool false])))
theorem zcE (v : Value) (rs : List zaa) (w : World) (h : Sl zar w w.heap.size v rs) (hn : rs.length <= 1099511627776) :
  Calls Tryz.prog 59 #[.agg #[v]] w (znL rs w) := by
 obtain ⟨A, c, rfl, hc, hm, hrow⟩ := h; clear hm; go_enter Tryz.func59, Tryz.ntmps59
 go_wp2_with fail
 go_loopw [4, 12] (fun out i wr => ∃ (k : Nat) (vals : List Int), k <= rs.length /\ i = .int .i64 k /\ zaW (rs.take k) = some vals /\ Below (w.heap.size+1) (w.alloc (Obj.cells #[Value.slice A rs.length c] 26)) wr /\ zan wr (w.heap.size+1) out vals) (fun _ i _ => rs.length - (intOf i).toNat)
 case atStart => exact ⟨0, [], Nat.zero_le _, rfl, by simp [zaW], (Below.refl _ _).alloc yS _, zan.empty yS yS⟩
 case round =>
  obtain ⟨k, vals, hk, rfl, hlen, hb, hown⟩ := hrel; have hB : Below w.heap.size w wr := ((Below.refl _ _).alloc yL _).trans (hb.mono yO); by_cases hlt : k < rs.length
  · have hvk : vals.length = k := by have := zaG hlen; rw [List.length_take] at this; omega
    obtain ⟨b, o, rfl, hbl, hcell⟩ := (hrow.keep (zgy.of_below hB)).rule hlt; obtain ⟨r, hrk⟩ : ∃ x, rs[k]? = some x := ⟨_, ye hlt⟩
    obtain ⟨hc0, hc1, hc2⟩ := hcell k r hrk; have hsz : w.heap.size + 1 <= wr.heap.size := by have := hb.size; simpa using this
    have hv1 : vals.length <= 1099511627776 := by omega
    have hat : 0 < k -> _ := fun h => hown.at_ (j := 0) yO; have Hat := yq hat; have Hr := yq hrk; have Hlen := yq hlen; have Hvk := yq hvk; clear hrk hcell hrow hlen hvk hat
    go_wp2_with (first
     | (go_at_call 93; refine (zbF _ _ _ _).mono ?_; rintro e w' ⟨rfl, rfl⟩)
     | (go_at_call 27; refine (zdE _ _ _ _).mono ?_; rintro e w' ⟨rfl, rfl⟩)
     | (go_at_call 94; refine (zf8 _ _).mono ?_; rintro e w' ⟨rfl, rfl⟩)
     | (at_builtin; go_must (refine zdD rfl _ _ rfl rfl rfl yS (by repeat (first | exact hown | apply zan.alloc)) yO (by simp; omega) ?_)
        intro v' w1 hown1 hgrow hbw))
    · go_ret2
      exact ⟨by repeat (first | exact hB | (refine Below.alloc ?_ (by first | omega | (simp; omega)) _)), .inr ⟨zcQ Hlen.o Hr.o (zbH (by rw [Hvk.o]; exact zoO ‹_› ‹_›)), rfl⟩⟩
    · have h1 : 0 <= r.left /\ r.left <= (k:Int) - 1 := by assumption
      have h2 : (!decide (0 <= r.right)) = false /\ (!decide (r.right <= (k:Int) - 1)) = false := by assumption
      have Hok := yq (zoM (r := r) (k := k) ‹_› h1 h2); simp at h2
      obtain ⟨g, cap, rfl, hgb, hgl, hcap, hgc⟩ := Hat.o yO; have Hgc := yq hgc; have hvk := Hvk.o; have hx1 := hgc r.left.toNat yO; have hx2 := hgc r.right.toNat yO; have hi1 : r.left < (vals.length : Int) := by omega
      have hi2 : r.right < (vals.length : Int) := by omega
      have hi3 : 0 <= r.right := h2.1; have hpos := zgx Hlen.o
      have hb1 : 1 <= vals.getD r.left.toNat 0 /\ vals.getD r.left.toNat 0 <= 1000000000000000 := by
       rw [yg, ye yO]; exact hpos _ (List.getElem_mem _)
      have hb2 : 1 <= vals.getD r.right.toNat 0 /\ vals.getD r.right.toNat 0 <= 1000000000000000 := by
       rw [yg, ye yO]; exact hpos _ (List.getElem_mem _)
      have hrl : zaU vals r = vals.getD r.left.toNat 0 + vals.getD r.right.toNat 0 := by simp [zaU, Hok.o.2]
      generalize vals.getD r.left.toNat 0 = x at *; generalize vals.getD r.right.toNat 0 = y at *; have hwr : IntKind.i64.wrap (x + y) = x + y := IntWalk.i64_in _ yO; have Hrl := yq hrl; clear hgc hvk hpos hrl; go_quiet (fail)
      clear hwr
      go_wp2_with (first
      | (at_builtin; go_must (refine zdD rfl _ _ rfl rfl rfl yS (by repeat (first | exact hown | apply zan.alloc | apply zan.drewN)) yO (by simp; omega) ?_)
         intro v' w1 hown1 hgrow hbw))
      · go_ret2
        exact ⟨by repeat (first | exact hB | (refine Below.alloc ?_ (by first | omega | (simp; omega)) _) | refine zal ?_ _), .inr ⟨zcQ Hlen.o Hr.o (zf7 (by rw [Hrl.o]; unfold ze2; omega)), rfl⟩⟩
      · go_roundw
        case rel => exact ⟨k + 1, vals ++ [x + y], by omega, by go_num, by have := zei Hlen.o Hr.o (by rw [Hvk.o]; exact Hok.o.1) (by rw [Hrl.o]; unfold ze2; omega); rw [Hrl.o] at this; exact this, hb.trans ((zal (((Below.refl _ _).alloc yO _).alloc (by simp; omega) _) _).trans hbw), hown1⟩
        case measure => simp [intOf]; omega
    · go_ret2
      exact ⟨by repeat (first | exact hB | (refine Below.alloc ?_ (by first | omega | (simp; omega)) _)), .inr ⟨zcQ Hlen.o Hr.o (zbH (by rw [Hvk.o]; exact zoN ‹_› ‹_›)), rfl⟩⟩
    · go_ret2
      exact ⟨by repeat (first | exact hB | (refine Below.alloc ?_ (by first | omega | (simp; omega)) _)), .inr ⟨zcQ Hlen.o Hr.o (zbH (by rw [Hvk.o]; exact zoT ‹_› ‹_›)), rfl⟩⟩
    · have Hok := zoP (r := r) (k := k) ‹_› ‹_› _ ‹_› ‹_› ‹_›
      go_roundw
      case rel => exact ⟨k + 1, vals ++ [1], by omega, by go_num, by have := zei Hlen.o Hr.o (by rw [Hvk.o]; exact Hok.1) (by simp [zaU, Hok.2, ze2]); simpa [zaU, Hok.2] using this, hb.trans (((Below.refl _ _).alloc yO _).alloc (by simp; omega) _ |>.trans hbw), hown1⟩
      case measure => simp [intOf]; omega
    · go_ret2
      exact ⟨by repeat (first | exact hB | (refine Below.alloc ?_ (by first | omega | (simp; omega)) _)), .inr ⟨zcQ Hlen.o Hr.o (zbH (by rw [Hvk.o]; exact zoS ‹_› ‹_›)), rfl⟩⟩
    · go_ret2
      exact ⟨by repeat (first | exact hB | (refine Below.alloc ?_ (by first | omega | (simp; omega)) _)), .inr ⟨zcQ Hlen.o Hr.o (zbH (by rw [Hvk.o]; exact zoR ‹_› _ ‹_›)), rfl⟩⟩
    · go_ret2
      exact ⟨by repeat (first | exact hB | (refine Below.alloc ?_ (by first | omega | (simp; omega)) _)), .inr ⟨zcQ Hlen.o Hr.o (zbH (by rw [Hvk.o]; exact zoQ ‹_› ‹_›)), rfl⟩⟩
  · have hkn : k = rs.length := by omega
    have hfin : zaW rs = some vals := by rw [<- hlen, List.take_of_length_le yO]
    have hg : wr.cell? ⟨w.heap.size, 0, none⟩ = some (Value.slice A rs.length c) := by rw [hb.cell yS]; simp [go_sem]
    have Hfin := yq hfin; subst hkn; clear hlen hrow hfin; go_wp2_with fail
    go_quiet (fail)
    go_wp2
    go_ret2
    exact ⟨zal hB _, .inl ⟨vals, _, Hfin.o, by simp; omega, zad (hown.drewN _) yO⟩⟩
theorem zfp (s : ByteArray) (w : World) (hs : s.size <= maxLen) :
  Calls Tryz.prog 68 #[.string s] w fun e w' => e = .returned (.bool (zaB s)) /\ w = w' := by
 unfold maxLen at hs; go_enter Tryz.func68, Tryz.ntmps68
 go_wp2_with fail
 · go_ret
   exact ⟨zaf (by symm; unfold zaB; rw [Bool.and_eq_false_iff]; left; simp; omega), rfl⟩
 · go_loop [3] (fun i => ∃ k : Nat, k <= s.size /\ i = .int .i64 k /\ yh ((s.data.toList.take k).all zci = true)) (fun i => s.size - (intOf i).toNat)
   case atStart => exact ⟨0, Nat.zero_le _, rfl, by simp [yh]⟩
   case round =>
    obtain ⟨k, hk, rfl, H⟩ := hrel; by_cases hlt : k < s.size
    · by_cases h1 : (s[k].toNat : Int) < 97
      · go_wp2
        go_ret
        exact ⟨zaf (by have := zjR hlt (by simp [zci]; omega); simp [zaB, this]), rfl⟩
      · by_cases h2 : 100 < (s[k].toNat : Int)
        · go_wp2
          go_ret
          exact ⟨zaf (by have := zjR hlt (by simp [zci]; omega); simp [zaB, this]), rfl⟩
        · go_wp2
          go_round
          case rel => exact ⟨k + 1, by omega, by go_num, zkI hlt H.o (by simp [zci]; omega)⟩
          case measure => simp [intOf]; omega
    · go_wp2
      go_ret
      exact ⟨zaf (by have := zmb yO H.o; simp [zaB, this]; omega), rfl⟩
theorem zc2 (s : ByteArray) (w : World) (hs : s.size <= maxLen) :
  Calls Tryz.prog 74 #[.string s] w fun e w' => e = .returned (.bool (zaB s)) /\ w = w' := by
 unfold maxLen at hs; go_enter Tryz.func74, Tryz.ntmps74
 go_wp2_with fail
 go_loop [6] (fun i => ∃ k : Nat, k <= s.size /\ i = .int .i64 k /\ yh ((s.data.toList.take k).all zci = true)) (fun i => s.size - (intOf i).toNat)
 case atStart => exact ⟨0, Nat.zero_le _, rfl, by simp [yh]⟩
 case round =>
  obtain ⟨k, hk, rfl, H⟩ := hrel; by_cases hlt : k < s.size
  · go_wp2_with (first | (go_at_call 94; go_must (refine (zf8 _ _).mono ?_); rintro e w' ⟨rfl, rfl⟩))
    · go_ret
      exact ⟨zaf (by have := zjR hlt (zmc ‹_›); simp [zaB, this]), rfl⟩
    · have h1 := zle (c := s[k]) ‹_›
      go_round
      case rel => exact ⟨k + 1, by omega, by go_num, zkI hlt H.o h1⟩
      case measure => simp [intOf]; omega
  · go_wp2
    go_ret
    exact ⟨zaf (by have := zmb yO H.o; simp [zaB, this]), rfl⟩
theorem zjS (b o : Nat) (r : zaa) (i : Nat) (w : World) (h0 : w.cell? ⟨b, o, none⟩ = some (.string r.letter)) (h1 : w.cell? ⟨b, o + 1, none⟩ = some (.int .i64 r.left)) (h2 : w.cell? ⟨b, o + 2, none⟩ = some (.int .i64 r.right)) (hi : i <= 1099511627776) (hs : r.letter.size <= maxLen) :
  Calls Tryz.prog 108 #[.pointer (some ⟨b, o, none⟩), .int .i64 i] w fun e w' => e = .returned (.bool (zaC i r)) /\ w = w' := by
 have Hs := yq hs; clear hs; go_enter Tryz.func108, Tryz.ntmps108
 go_wp2_with (first
  | (go_at_call 68; go_must (refine (zfp _ _ Hs.o).mono ?_); rintro e w' ⟨rfl, rfl⟩)
  | (go_at_call 21; go_must (refine (zdF _ _ _ _).mono ?_); rintro e w' ⟨rfl, rfl⟩))
 · have e : zaC i r = (r.right == 0) := by
    rw [zkJ ‹_›, <- zfQ yO, ‹zaB r.letter = true›, ‹r.left = 0›]; simp
   go_ret
   exact ⟨zaf e.symm, rfl⟩
 · have e : zaC i r = false := by
    rw [zkJ ‹_›]; simp [‹¬ r.left = 0›]
   go_ret
   exact ⟨zaf e.symm, rfl⟩
 · have e : zaC i r = false := by
    rw [zkJ ‹_›, <- zfQ yO]; simp [‹¬ zaB r.letter = true›]
   go_ret
   exact ⟨zaf e.symm, rfl⟩
 · have e : zaC i r = false := by
    rw [zkJ ‹_›, zmd ‹_›]; simp
   go_ret
   exact ⟨zaf e.symm, rfl⟩
 · have h : 0 <= r.left /\ r.left <= (i : Int) - 1 := by assumption
   have e : zaC i r = (decide (0 <= r.right) && decide (r.right <= (i : Int) - 1)) := by
    rw [zoy ‹_›]; simp [h.1, h.2]
   go_ret
   exact ⟨zaf e.symm, rfl⟩
 · have h : ¬ (0 <= r.left /\ r.left <= (i : Int) - 1) := by assumption
   have e : zaC i r = false := by
    rw [zoy ‹_›, Bool.and_eq_false_iff, Bool.and_eq_false_iff, Bool.and_eq_false_iff]; simp; omega
   go_ret
   exact ⟨zaf e.symm, rfl⟩
def zme (rs : List zaa) (w : World) (e : Ending) (w' : World) : Prop :=
 Below w.heap.size w w' /\ ((∃ ls v, zaW rs = some ls /\ e = .returned (.tuple #[v, .bool true]) /\ zan w' w.heap.size v ls) \/
  (zaW rs = none /\ ∃ v ls, e = .returned (.tuple #[v, .bool false]) /\ zan w' w.heap.size v ls))
theorem zf9 (b o : Nat) (v : Value) (rs : List zaa) (w : World) (hp : w.cell? ⟨b, o, none⟩ = some v) (hbl : b < w.heap.size) (h : Sl zar w w.heap.size v rs) (hsm : zaY rs) (hn : rs.length <= 1099511627776) :
  Calls Tryz.prog 69 #[.pointer (some ⟨b, o, none⟩)] w (zme rs w) := by
 obtain ⟨A, c, rfl, hc, hm, hrow⟩ := h; clear hm; go_enter Tryz.func69, Tryz.ntmps69
 go_wp2_with fail
 go_loopw [4, 5] (fun out i wr => ∃ (k : Nat) (vals : List Int), k <= rs.length /\ i = .int .i64 k /\ zaW (rs.take k) = some vals /\ Below w.heap.size w wr /\ zan wr w.heap.size out vals) (fun _ i _ => rs.length - (intOf i).toNat)
 case atStart => exact ⟨0, [], Nat.zero_le _, rfl, by simp [zaW], (Below.refl _ _).alloc yL _, zan.empty rfl yL⟩
 case round =>
  obtain ⟨k, vals, hk, rfl, hlen, hB, hown⟩ := hrel; have hpp : wr.cell? ⟨b, o, none⟩ = some (Value.slice A rs.length c) := (hB.cell hbl).trans hp; by_cases hlt : k < rs.length
  · have hvk : vals.length = k := by have := zaG hlen; rw [List.length_take] at this; omega
    obtain ⟨b1, o1, rfl, hbl1, hcell⟩ := hrow.rule hlt; obtain ⟨r, hrk⟩ : ∃ x, rs[k]? = some x := ⟨_, ye hlt⟩
    obtain ⟨g0, g1, g2⟩ := hcell k r hrk; have hc0 := (hB.cell (p := ⟨b1, o1 + k * 3, none⟩) hbl1).trans g0; have hc1 := (hB.cell (p := ⟨b1, o1 + k * 3 + 1, none⟩) hbl1).trans g1; have hc2 := (hB.cell (p := ⟨b1, o1 + k * 3 + 2, none⟩) hbl1).trans g2; have hsr := hsm r (List.mem_of_getElem? hrk); have hsz : w.heap.size <= wr.heap.size := hB.size; have hv1 : vals.length <= 1099511627776 := by omega
    have Hr := yq hrk; have Hlen := yq hlen; have Hvk := yq hvk; have Hown := yq hown; clear hrk hlen hvk hcell g0 g1 g2 hown
    go_wp2_with (first
     | (go_at_call 108; go_must (refine (zjS _ _ r k _ hc0 hc1 hc2 yO (by unfold maxLen; omega)).mono ?_); rintro e w2 ⟨rfl, rfl⟩)
     | (at_builtin; go_must (refine zdD rfl _ _ rfl rfl rfl yS (by repeat (first | exact Hown.o | apply zan.alloc | apply zan.drewN | apply zac.alloc | apply zac.drewN)) yO (by first | omega | (simp; omega)) ?_); intro v' w1 hown1 hgrow hbw))
    · have hok : zaC k r = false := by simpa using ‹(!zaC k r) = true›
      go_ret2
      exact ⟨hB, .inr ⟨zcQ Hlen.o Hr.o (zbH (by rw [Hvk.o]; exact hok)), _, vals, rfl, Hown.o⟩⟩
    · have hok : zaC k r = true := by simpa using ‹(!zaC k r) = false›
      have hpr : r.pair = true := by have h := ‹r.letter.toList.isEmpty = true›; rw [zaq] at h; exact h
      have hbd : 0 <= r.left /\ r.left <= (k : Int) - 1 /\ 0 <= r.right /\ r.right <= (k : Int) - 1 := by
       simp [zaC, hpr] at hok; omega
      have hvk := Hvk.o; obtain ⟨g, cap, rfl, hgb, hgl, hcap, hgc⟩ := zan.at_ Hown.o (j := 0) yO; have hx1 := hgc r.left.toNat yO; have hx2 := hgc r.right.toNat yO; have hi1 : r.left < (vals.length : Int) := by omega
      have hi2 : r.right < (vals.length : Int) := by omega
      obtain ⟨hj1, _, hj2, _⟩ := hbd; have hpos := zgx Hlen.o
      have hb1 : 1 <= vals.getD r.left.toNat 0 /\ vals.getD r.left.toNat 0 <= 1000000000000000 := by
       rw [yg, ye yO]; exact hpos _ (List.getElem_mem _)
      have hb2 : 1 <= vals.getD r.right.toNat 0 /\ vals.getD r.right.toNat 0 <= 1000000000000000 := by
       rw [yg, ye yO]; exact hpos _ (List.getElem_mem _)
      have hrl : zaU vals r = vals.getD r.left.toNat 0 + vals.getD r.right.toNat 0 := by simp [zaU, hpr]
      generalize vals.getD r.left.toNat 0 = x at *; generalize vals.getD r.right.toNat 0 = y at *; have hwr : IntKind.i64.wrap (x + y) = x + y := IntWalk.i64_in _ yO; have Hrl := yq hrl; have Hok := yq hok; clear hgc hvk hpos hrl hok hpr; go_quiet (fail)
      clear hwr; go_wp2_with (at_builtin; go_must (refine zdD rfl _ _ rfl rfl rfl yS (by repeat (first | exact Hown.o | apply zan.alloc | apply zan.drewN | apply zac.alloc | apply zac.drewN)) yO (by first | omega | (simp; omega)) ?_); intro v' w1 hown1 hgrow hbw)
      · go_ret2
        exact ⟨(have yx := hB; yb), .inr ⟨zcQ Hlen.o Hr.o (zf7 (by rw [Hrl.o]; unfold ze2; omega)), _, vals, rfl, (by repeat (first | exact Hown.o | apply zan.alloc | apply zan.drewN | apply zac.alloc | apply zac.drewN))⟩⟩
      · go_roundw
        case rel => exact ⟨k + 1, vals ++ [x + y], by omega, by go_num, by have := zei Hlen.o Hr.o (by rw [Hvk.o]; exact Hok.o) (by rw [Hrl.o]; unfold ze2; omega); rw [Hrl.o] at this; exact this, (zal hB _).trans hbw, hown1⟩
        case measure => simp [intOf]; omega
    · have hok : zaC k r = true := by simpa using ‹(!zaC k r) = false›
      have hpr : r.pair = false := by have h := ‹r.letter.toList.isEmpty = false›; rw [zaq] at h; exact h
      have hrl : zaU vals r = 1 := by simp [zaU, hpr]
      go_roundw
      case rel => exact ⟨k + 1, vals ++ [1], by omega, by go_num, by have := zei Hlen.o Hr.o (by rw [Hvk.o]; exact hok) (by rw [hrl]; unfold ze2; omega); rw [hrl] at this; exact this, hB.trans hbw, hown1⟩
      case measure => simp [intOf]; omega
  · have hkn : k = rs.length := by omega
    have hfin : zaW rs = some vals := by rw [<- hlen, List.take_of_length_le yO]
    have Hfin := yq hfin; have Hown := yq hown; subst hkn; clear hlen hfin hown; go_wp2_with fail
    go_ret2
    exact ⟨hB, .inl ⟨vals, _, Hfin.o, rfl, Hown.o⟩⟩
def zjT (rs : List zaa) (w : World) (e : Ending) (w' : World) : Prop :=
 Below w.heap.size w w' /\ ∃ v ls, e = .returned (.tuple #[v, .bool (decide (rs.length <= 400) && (zaW rs).isSome)]) /\ zan w' w.heap.size v ls /\ (rs.length <= 400 -> ∀ l, zaW rs = some l -> ls = l)
theorem zdv (b o : Nat) (v : Value) (rs : List zaa) (w : World) (hp : w.cell? ⟨b, o, none⟩ = some v) (hbl : b < w.heap.size) (h : Sl zar w w.heap.size v rs) (hsm : zaY rs) :
  Calls Tryz.prog 52 #[.pointer (some ⟨b, o, none⟩)] w (zjT rs w) := by
 have h' := h; obtain ⟨A, c, rfl, hc, hm, hrow⟩ := h'; have Hsl := yq h; clear h hm hrow; by_cases hn : rs.length <= 400
 · go_enter Tryz.func52, Tryz.ntmps52
   go_wp2_with fail
   refine (zf9 _ _ _ _ _ hp hbl Hsl.o hsm yO).mono ?_
   rintro e w1 ⟨hb, (⟨ls, v1, h1, rfl, h2⟩ | ⟨h1, v1, ls, rfl, h2⟩)⟩
   · have H1 := yq h1
     have H2 := yq h2; clear h1 h2; go_wp2
     go_ret2
     exact ⟨hb, _, ls, by simp [H1.o, hn], H2.o, fun _ l hl => by rw [H1.o] at hl; injection hl⟩
   · have H1 := yq h1
     have H2 := yq h2; clear h1 h2; go_wp2
     go_ret2
     exact ⟨hb, _, ls, by simp [H1.o], H2.o, fun _ l hl => by rw [H1.o] at hl; cases hl⟩
 · go_enter Tryz.func52, Tryz.ntmps52
   go_wp2
   go_ret2
   exact ⟨(Below.refl _ _).alloc yL _, _, [], by simp [hn], zan.empty rfl yL, fun h => absurd h hn⟩
def zag (rs : List zaa) : Bool := decide (rs.length <= 400) && (zaW rs).isSome
theorem zaZ (b o : Nat) (v : Value) (rs : List zaa) (w : World) (hp : w.cell? ⟨b, o, none⟩ = some v) (hbl : b < w.heap.size) (h : Sl zar w w.heap.size v rs) (hsm : zaY rs) :
  Calls Tryz.prog 19 #[.pointer (some ⟨b, o, none⟩)] w fun e w' => e = .returned (.bool (zag rs)) /\ Below w.heap.size w w' := by
 have Hsl := yq h; clear h; go_enter Tryz.func19, Tryz.ntmps19
 go_wp2_with fail
 refine (zdv _ _ _ _ _ hp hbl Hsl.o hsm).mono ?_
 rintro e w1 ⟨hb, v1, ls, rfl, h2, h3⟩; clear h2 h3; go_wp2
 go_ret
 exact ⟨rfl, hb⟩
theorem zbG (v : Value) (rs : List zaa) (w : World) (h : Sl zar w w.heap.size v rs) (hn : rs.length <= 1099511627776) :
  Calls Tryz.prog 25 #[.agg #[v]] w fun e w' => e = .returned (.bool (zag rs)) /\ Below w.heap.size w w' := by
 have h1 := fun o => (h.below ((Below.refl w.heap.size w).alloc yL o)).le (B' := (w.alloc o).heap.size) yS; have H1 := yq h1; clear h1 h; go_enter Tryz.func25, Tryz.ntmps25
 go_wp2_with fail
 refine (zcE _ _ _ (H1.o _) hn).mono ?_
 rintro e w1 ⟨hb, (⟨ls, v1, h1, rfl, h2⟩ | ⟨h1, rfl⟩)⟩
 · have e1 : zag rs = decide (rs.length <= 400) := by simp [zag, h1]
   have E1 := yq e1; clear h1 h2 e1; go_wp2
   go_ret
   exact ⟨zaf (by rw [E1.o]), ((Below.refl _ _).alloc yL _).trans (hb.mono yS)⟩
 · have e1 : zag rs = false := by simp [zag, h1]
   have E1 := yq e1; clear h1 e1; go_wp2
   go_ret
   exact ⟨zaf (by rw [E1.o]), ((Below.refl _ _).alloc yL _).trans (hb.mono yS)⟩
end Go.Proofs.YtejgbfgocaggfaaGreatDoor
