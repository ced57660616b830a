import Derived.Test.YtdacndamehiglaaGreatDoorM3
import Derived.Maps.Keyed
import Derived.DeepKeys4
import Derived.Deep.RegionLaw
import Derived.RangeFuncBox
import Derived.Deep.CutRange
import Derived.Deep.DeepCutAuto
import Derived.WalkArith
import Derived.Deep.OwnRows
set_option maxRecDepth 100000
set_option maxHeartbeats 8000000
namespace Go.Proofs.YtdacndamehiglaaGreatDoor
def zci (xs : List zaa) (ls : List Int) : Nat -> Nat -> Int -> Int -> List Nat
 | 0, _, _, _ => []
 | f + 1, r, i, j =>
   if j <= i then [] else if i = 0 /\ j = ls.getD r 0 then [r] else
    zci xs ls f (zav xs r).left.toNat i (min j (ls.getD (zav xs r).left.toNat 0)) ++ zci xs ls f (zav xs r).right.toNat (max (i - ls.getD (zav xs r).left.toNat 0) 0) (j - ls.getD (zav xs r).left.toNat 0)
theorem zlA {xs : List zaa} {ls : List Int} (hl : zaX xs = some ls) {i j : Int} (hij : i < j) : ∀ (f r : Nat) (p : Int), r < f -> r < xs.length ->
  zci xs ls f r (max (i - p) 0) (min (j - p) (ls.getD r 0)) = zbl xs ls i j f r p := by
 intro f
 induction f with
 | zero => intro r p hr; omega
 | succ f ih =>
   intro r p hr hx; have h1 := zaP hl hx; rw [zci, zbl]; by_cases c1 : p + ls.getD r 0 <= i \/ j <= p
   · rw [if_pos c1, if_pos yO]
   rw [if_neg c1, if_neg yO]; by_cases c2 : i <= p /\ p + ls.getD r 0 <= j
   · rw [if_pos c2, if_pos yO]
   rw [if_neg c2, if_neg yO]; cases hpair : (zav xs r).pair with
   | false => have := zbA hl hx hpair; omega
   | true =>
     obtain ⟨q1, q2, q3, q4, q5⟩ := zbg hl hx hpair; have hL := zaP hl (r := (zav xs r).left.toNat) yO; have hR := zaP hl (r := (zav xs r).right.toNat) yO; have e1 := ih (zav xs r).left.toNat p yO yO; have e2 := ih (zav xs r).right.toNat (p + ls.getD (zav xs r).left.toNat 0) yO yO; rw [<- e1, <- e2]; congr 1
     · congr 1; omega
     · congr 1 <;> omega
theorem zid {xs : List zaa} {ls : List Int} (hl : zaX xs = some ls) {i j : Int} (hi : 0 <= i) (hij : i < j) (hj : j <= zai ls) (h0 : 0 < xs.length) : za0 xs ls i j = zci xs ls xs.length (xs.length - 1) i j := by
 have hll := zaF hl; have e : zai ls = ls.getD (xs.length - 1) 0 := by rw [zai, hll]
 have := zlA hl hij xs.length (xs.length - 1) 0 yO yO; rw [za0, if_pos ⟨h0, hij⟩, <- this]; congr 1 <;> omega
theorem zlB {xs : List zaa} {ls : List Int} (hl : zaX xs = some ls) {i j : Int} : ∀ (f r : Nat) (p : Int), r < f -> r < xs.length -> ∀ x ∈ zbl xs ls i j f r p, x < xs.length := by
 intro f
 induction f with
 | zero => intro r p hr; omega
 | succ f ih =>
   intro r p hr hx y hy; rw [zbl] at hy; have h1 := zaP hl hx; split at hy
   · simp at hy
   split at hy
   · simp at hy; omega
   rename_i c1 c2
   cases hpair : (zav xs r).pair with
   | false => have := zbA hl hx hpair; omega
   | true =>
     obtain ⟨q1, q2, q3, q4, q5⟩ := zbg hl hx hpair; rcases List.mem_append.1 hy with hy | hy
     · exact ih _ _ yO yO y hy
     · exact ih _ _ yO yO y hy
theorem zie {xs : List zaa} {ls : List Int} (hl : zaX xs = some ls) {i j : Int} : ∀ (f r : Nat) (p : Int), r < f -> r < xs.length -> (i <= p \/ p + ls.getD r 0 <= j) -> (zbl xs ls i j f r p).length <= r + 1 := by
 intro f
 induction f with
 | zero => intro r p hr; omega
 | succ f ih =>
   intro r p hr hx ho; rw [zbl]; have h1 := zaP hl hx; split
   · simp
   split
   · simp
   rename_i c1 c2
   cases hpair : (zav xs r).pair with
   | false => have := zbA hl hx hpair; omega
   | true =>
     obtain ⟨q1, q2, q3, q4, q5⟩ := zbg hl hx hpair; have hL := zaP hl (r := (zav xs r).left.toNat) yO; have hR := zaP hl (r := (zav xs r).right.toNat) yO; obtain ⟨g, rfl⟩ : ∃ g, f = g + 1 := ⟨f - 1, by omega⟩
     rw [List.length_append]; rcases ho with ho | ho
     · by_cases c3 : p + ls.getD (zav xs r).left.toNat 0 <= j
       · have e1 : (zbl xs ls i j (g + 1) (zav xs r).left.toNat p).length = 1 := by rw [zbl, if_neg yO, if_pos yO]; rfl
         have e2 := ih (zav xs r).right.toNat (p + ls.getD (zav xs r).left.toNat 0) yO yO (.inl yO); omega
       · have e2 : (zbl xs ls i j (g + 1) (zav xs r).right.toNat (p + ls.getD (zav xs r).left.toNat 0)).length = 0 := by rw [zbl, if_pos yO]; rfl
         have e1 := ih (zav xs r).left.toNat p yO yO (.inl ho); omega
     · by_cases c3 : i <= p + ls.getD (zav xs r).left.toNat 0
       · have e2 : (zbl xs ls i j (g + 1) (zav xs r).right.toNat (p + ls.getD (zav xs r).left.toNat 0)).length <= 1 := by
          rw [zbl]; split
          · simp
          rw [if_pos yO]; simp
         have e1 := ih (zav xs r).left.toNat p yO yO (.inr yO); omega
       · have e1 : (zbl xs ls i j (g + 1) (zav xs r).left.toNat p).length = 0 := by rw [zbl, if_pos yO]; rfl
         have e2 := ih (zav xs r).right.toNat (p + ls.getD (zav xs r).left.toNat 0) yO yO (.inr yO); omega
theorem zlC {xs : List zaa} {ls : List Int} (hl : zaX xs = some ls) {i j : Int} : ∀ (f r : Nat) (p : Int), r < f -> r < xs.length -> (zbl xs ls i j f r p).length <= 2 * (r + 1) := by
 intro f
 induction f with
 | zero => intro r p hr; omega
 | succ f ih =>
   intro r p hr hx; rw [zbl]; have h1 := zaP hl hx; split
   · simp
   split
   · simp; omega
   rename_i c1 c2
   cases hpair : (zav xs r).pair with
   | false => have := zbA hl hx hpair; omega
   | true =>
     obtain ⟨q1, q2, q3, q4, q5⟩ := zbg hl hx hpair; have hL := zaP hl (r := (zav xs r).left.toNat) yO; have hR := zaP hl (r := (zav xs r).right.toNat) yO; obtain ⟨g, rfl⟩ : ∃ g, f = g + 1 := ⟨f - 1, by omega⟩
     rw [List.length_append]; by_cases c3 : j <= p + ls.getD (zav xs r).left.toNat 0
     · have e2 : (zbl xs ls i j (g + 1) (zav xs r).right.toNat (p + ls.getD (zav xs r).left.toNat 0)).length = 0 := by rw [zbl, if_pos yO]; rfl
       have e1 := ih (zav xs r).left.toNat p yO yO; omega
     · by_cases c4 : p + ls.getD (zav xs r).left.toNat 0 <= i
       · have e1 : (zbl xs ls i j (g + 1) (zav xs r).left.toNat p).length = 0 := by rw [zbl, if_pos yO]; rfl
         have e2 := ih (zav xs r).right.toNat (p + ls.getD (zav xs r).left.toNat 0) yO yO; omega
       · have e1 := zie hl (i := i) (j := j) (g + 1) (zav xs r).left.toNat p yO yO (.inr yO)
         have e2 := zie hl (i := i) (j := j) (g + 1) (zav xs r).right.toNat (p + ls.getD (zav xs r).left.toNat 0) yO yO (.inl yO); omega
theorem zlD {xs : List zaa} {ls : List Int} (hl : zaX xs = some ls) {i j : Int} (hij : i < j) : ∀ (f r : Nat) (p : Int), r < f -> r < xs.length -> i < p + ls.getD r 0 -> p < j -> 0 < (zbl xs ls i j f r p).length := by
 intro f
 induction f with
 | zero => intro r p hr; omega
 | succ f ih =>
   intro r p hr hx ha hb; rw [zbl, if_neg yO]; have h1 := zaP hl hx; split
   · simp
   rename_i c2
   cases hpair : (zav xs r).pair with
   | false => have := zbA hl hx hpair; omega
   | true =>
     obtain ⟨q1, q2, q3, q4, q5⟩ := zbg hl hx hpair; have hL := zaP hl (r := (zav xs r).left.toNat) yO; have hR := zaP hl (r := (zav xs r).right.toNat) yO; rw [List.length_append]; by_cases c3 : i < p + ls.getD (zav xs r).left.toNat 0
     · have := ih (zav xs r).left.toNat p yO yO c3 hb
       omega
     · have := ih (zav xs r).right.toNat (p + ls.getD (zav xs r).left.toNat 0) yO yO yO yO
       omega
def zbp (p : List zaa × Int) (c : Nat) : List zaa × Int := (p.1 ++ [zaK p.2 c], (p.1.length : Int))
def zif (xs : List zaa) : List Nat -> List zaa
 | [] => []
 | [c] => xs.take (c + 1)
 | c :: d :: cs => ((d :: cs).foldl zbp (xs, (c : Int))).1
def zam (xs : List zaa) (ls : List Int) (i j : Int) : List zaa := zaO (zif xs (za0 xs ls i j))
theorem zlE {m : Nat} : ∀ (cs : List Nat) (p : List zaa × Int), (∀ c ∈ cs, c < m) -> m <= p.1.length -> zaS p.1 -> 0 <= p.2 /\ p.2 < p.1.length -> zaS (cs.foldl zbp p).1 /\ (cs.foldl zbp p).1.length = p.1.length + cs.length
 | [], p, _, _, h, _ => ⟨h, rfl⟩
 | c :: cs, p, hc, hm, h, hp => by
   have hcm := hc c yS; have := zlE cs (zbp p c) (fun d hd => hc d (by simp [hd])) (by simp [zbp]; omega) (h.snoc (zbV hp ⟨by omega, by omega⟩)) (by simp [zbp]; omega); refine ⟨this.1, ?_⟩
   rw [List.foldl_cons, this.2]; simp [zbp]; omega
theorem zdm {xs : List zaa} (h : zaS xs) (n : Nat) : zaS (xs.take n) := fun k r hk => by
 rw [List.getElem?_take] at hk
 split at hk
 · exact h k r hk
 · cases hk
theorem zjb {xs : List zaa} (h : zaS xs) (cs : List Nat) (hc : ∀ c ∈ cs, c < xs.length) : zaS (zif xs cs) /\ (zif xs cs).length <= xs.length + cs.length := by
 match cs with
 | [] => exact ⟨fun k r hk => by simp [zif] at hk, by simp [zif]⟩
 | [c] => exact ⟨zdm h _, by simp [zif]; omega⟩
 | c :: d :: cs =>
   have := zlE (d :: cs) (xs, (c : Int)) (fun x hx => hc x (by simp at hx; simp; exact .inr hx)) yL h (by have := hc c yS; simp; omega); refine ⟨this.1, ?_⟩
   have e : (zif xs (c :: d :: cs)).length = xs.length + (d :: cs).length := this.2; rw [e]; simp
theorem zek {xs : List zaa} {ls : List Int} (hl : zaX xs = some ls) (i j : Int) : (za0 xs ls i j).length <= 2 * xs.length := by
 unfold za0; split
 · rename_i h
   have := zlC hl (i := i) (j := j) xs.length (xs.length - 1) 0 yO yO; omega
 · simp
theorem zcO {xs : List zaa} {ls : List Int} (hl : zaX xs = some ls) (i j : Int) : ∀ x ∈ za0 xs ls i j, x < xs.length := by
 unfold za0; split
 · rename_i h
   exact zlB hl xs.length (xs.length - 1) 0 yO yO
 · simp
theorem zkx {xs : List zaa} {ls : List Int} (hl : zaX xs = some ls) {i j : Int} (hi : 0 <= i) (hij : i < j) (hj : j <= zai ls) (h0 : 0 < xs.length) : 0 < (za0 xs ls i j).length := by
 have hll := zaF hl; have e : zai ls = ls.getD (xs.length - 1) 0 := by rw [zai, hll]
 rw [za0, if_pos ⟨h0, hij⟩]; exact zlD hl hij xs.length (xs.length - 1) 0 yO yO yO yO
theorem zig {xs : List zaa} {ls : List Int} (hl : zaX xs = some ls) (i j : Int) : (zam xs ls i j).length <= 3 * xs.length := by
 have h1 := zeU (zif xs (za0 xs ls i j)); have h2 := (zjb (zaz hl) _ (zcO hl i j)).2; have h3 := zek hl i j; unfold zam; omega
open Go.RowKit
def zjX (r : zaa) : Value := .agg #[.string r.letter, .int .i64 r.left, .int .i64 r.right]
def zht (r : zaa) : Prop := r.letter.size <= 1 /\ (-9223372036854775808 <= r.left /\ r.left <= 9223372036854775807) /\ (-9223372036854775808 <= r.right /\ r.right <= 9223372036854775807)
theorem zm0 {r s : zaa} (h : zjX r = zjX s) : r = s := by
 cases r; cases s
 simp [zjX] at h
 obtain ⟨h1, h2, h3⟩ := h; subst h1 h2 h3; rfl
theorem zm1 : laidOutB Tryz.prog = true := by kernel_rfl
theorem zlF : (112 : TypeId) < Tryz.prog.types.size := of_decide_eq_true yk
theorem zjc : Tryz.prog.keyTypeAt 2 112 = true := by kernel_rfl
theorem zhu : WideMaps.KeyLaw Tryz.prog 112 := deep_law_laid zm1 (m := 2) yO zlF zjc (by rw [Tryz.underlying112])
theorem zih : Tryz.prog.cellsOf 112 = 3 := by kernel_rfl
theorem zky (l : ByteArray) (a b : Int) : (Value.agg #[.string l, .int .i64 a, .int .i64 b]).formed Tryz.prog 112 = true := by simp [Value.formed, Tryz.underlying112, zih]
theorem zm2 (D : Nat) (l : ByteArray) (a b : Int) (hl : l.size <= 1) (ha : (Lit.int .i64 a).wf = true) (hb : (Lit.int .i64 b).wf = true) :
  Tryz.prog.keyLits (D + 2) 112 [.string l, .int .i64 a, .int .i64 b] = some [.string l.data.toList, .int .i64 a, .int .i64 b] := by
 have hm : l.size <= maxLen := Nat.le_trans hl (by decide); have c9 : Tryz.prog.cellsOf 9 = 1 := by kernel_rfl
 have c2 : Tryz.prog.cellsOf 2 = 1 := by kernel_rfl
 simp [zih, Tryz.underlying112, c9, c2, Program.keyLits, Tryz.underlying9, Tryz.underlying2, hm, ha, hb, List.mapM_cons]
theorem zdn {r : zaa} (h : zht r) : ∃ l, keyOf Tryz.prog 112 (zjX r) = some l := by
 obtain ⟨h1, h2, h3⟩ := h; have hw1 : (Lit.int .i64 r.left).wf = true := WalkArith.wf_i64 h2; have hw2 : (Lit.int .i64 r.right).wf = true := WalkArith.wf_i64 h3; obtain ⟨D, hD⟩ : ∃ D, Tryz.prog.types.size + 1 = D + 2 := ⟨Tryz.prog.types.size - 1, by have h9 : 1 < Tryz.prog.types.size := Nat.lt_of_le_of_lt (by decide) zlF; omega⟩
 have hk : Tryz.prog.keyType 112 = true := by kernel_rfl
 have hlits := zm2 D r.letter r.left r.right h1 hw1 hw2; rw [<- hD] at hlits; refine ⟨.string (keyBytes [.string r.letter.data.toList, .int .i64 r.left, .int .i64 r.right]), ?_⟩
 unfold keyOf zjX; rw [Tryz.underlying112]; have hc : (Value.agg #[.string r.letter, .int .i64 r.left, .int .i64 r.right]).cells.toList = [.string r.letter, .int .i64 r.left, .int .i64 r.right] := rfl
 show (if (Tryz.prog.keyType 112 && (Value.agg #[.string r.letter, .int .i64 r.left, .int .i64 r.right]).formed Tryz.prog 112) = true then
  (Tryz.prog.keyLits (Tryz.prog.types.size + 1) 112 (Value.agg #[.string r.letter, .int .i64 r.left, .int .i64 r.right]).cells.toList).map fun ls => Lit.string (keyBytes ls) else none) = _
 rw [hk, zky, hc, if_pos (show (true && true) = true from rfl), hlits]; rfl
def zdT (w : World) (b : Nat) (ks : List zaa) : Prop :=
 ∃ es clock, w.heap[b]? = some (.map es clock) /\ (∀ e ∈ es.toList, ∃ r, zht r /\ e.key = zjX r /\ r ∈ ks /\ e.val = .int .i64 (ks.idxOf r : Nat)) /\ ∀ r ∈ ks, ∃ e ∈ es.toList, e.key = zjX r
section
variable {w w' : World} {b : Nat} {ks : List zaa} {r : zaa}
theorem zdT.made (w : World) : zdT (w.alloc (.map #[] 0)) w.heap.size [] := ⟨#[], 0, (MapKept.heap_alloc w _).1, by simp, by simp⟩
theorem zdT.lt (h : zdT w b ks) : b < w.heap.size := by
 obtain ⟨es, clock, hb, _⟩ := h; exact (Array.getElem?_eq_some_iff.1 hb).1
theorem zdT.of_block (h : zdT w b ks) (hb : w'.heap[b]? = w.heap[b]?) : zdT w' b ks := by
 obtain ⟨es, clock, h0, h1, h2⟩ := h; exact ⟨es, clock, hb.trans h0, h1, h2⟩
theorem zdT.kept {row : Option Nat} (h : zdT w b ks) (hg : w.grownBy w' row) (hne : some b ≠ row) : zdT w' b ks := h.of_block (hg.block b h.lt hne)
theorem zdT.alloc (h : zdT w b ks) (o : Obj) : zdT (w.alloc o) b ks := h.kept (World.grownBy_alloc w o none) yS
theorem zdT.drew (h : zdT w b ks) : zdT w.drew b ks := h
theorem zdT.below {N : Nat} (h : zdT w b ks) (hb : Below N w w') (hlt : b < N) : zdT w' b ks := h.of_block (hb.block b hlt)
theorem zdT.same (h : zdT w b ks) (hr : r ∈ ks) : zdT w b (ks ++ [r]) := by
 obtain ⟨es, clock, h0, h1, h2⟩ := h; refine ⟨es, clock, h0, fun e he => ?_, fun s hs => ?_⟩
 · obtain ⟨s, a1, a2, a3, a4⟩ := h1 e he
   exact ⟨s, a1, a2, by simp [a3], by rw [List.idxOf_append, if_pos a3]; exact a4⟩
 · rcases List.mem_append.1 hs with hs | hs
   · exact h2 s hs
   · rw [List.mem_singleton] at hs; subst hs; exact h2 s hr
theorem zdT.find (h : zdT w b ks) (hk : zht r) : ∃ es clock, w.heap[b]? = some (.map es clock) /\ (∀ e ∈ es.toList, ∃ r, zht r /\ e.key = zjX r /\ r ∈ ks /\ e.val = .int .i64 (ks.idxOf r : Nat)) /\
  ((r ∉ ks /\ (Instr.findKey 112 (zjX r) es.toList).run Tryz.prog w = .ok none w) \/ (r ∈ ks /\ ∃ j, (Instr.findKey 112 (zjX r) es.toList).run Tryz.prog w = .ok (some (j, .int .i64 (ks.idxOf r : Nat))) w)) := by
 obtain ⟨es, clock, h0, h1, h2⟩ := h; obtain ⟨l, hl⟩ := zdn hk; refine ⟨es, clock, h0, h1, ?_⟩
 rcases zhu.find w hl es.toList (fun e he => by
  obtain ⟨s, a1, a2, _⟩ := h1 e he
  rw [a2]; exact zdn a1) with ⟨f1, f2⟩ | ⟨j, e, f1, f2, f3⟩
 · refine .inl ⟨fun hr => ?_, f1⟩
   obtain ⟨e, he, hek⟩ := h2 r hr; exact f2 e he hek
 · obtain ⟨s, a1, a2, a3, a4⟩ := h1 e (List.mem_of_getElem? f2)
   have : s = r := zm0 (a2.symm.trans f3); subst this; exact .inr ⟨a3, j, by rw [<- a4]; exact f1⟩
theorem zdT.yes (h : zdT w b ks) (hk : zht r) (hr : r ∈ ks) (c : Bool) :
  (Instr.lookup 174 (.map (some b)) (zjX r) c).run Tryz.prog w = .ok (if c then .tuple #[.int .i64 (ks.idxOf r : Nat), .bool true] else .int .i64 (ks.idxOf r : Nat)) w := by
 obtain ⟨es, clock, h0, h1, h2⟩ := h.find hk; obtain ⟨l, hl⟩ := zdn hk; rcases h2 with ⟨hn, _⟩ | ⟨_, j, hj⟩
 · exact absurd hr hn
 · simp [Instr.lookup, run_underlying Tryz.underlying174, MapKept.run_getObj_map h0, zhu.check w _ hl, hj, Result.andThen]
theorem zdT.no (h : zdT w b ks) (hk : zht r) (hr : r ∉ ks) (c : Bool) :
  (Instr.lookup 174 (.map (some b)) (zjX r) c).run Tryz.prog w = .ok (if c then .tuple #[.int .i64 0, .bool false] else .int .i64 0) w := by
 obtain ⟨es, clock, h0, h1, h2⟩ := h.find hk; obtain ⟨l, hl⟩ := zdn hk; have hz : (zeroValue 2).run Tryz.prog w = .ok (.int .i64 0) w := by kernel_rfl
 rcases h2 with ⟨_, hj⟩ | ⟨hy, _⟩
 · simp [Instr.lookup, run_underlying Tryz.underlying174, MapKept.run_getObj_map h0, zhu.check w _ hl, hj, hz, Result.andThen]
 · exact absurd hy hr
open Go.ChangeMaps in
theorem zdT.put (h : zdT w b ks) (hk : zht r) (hr : r ∉ ks) :
  ∃ w', (Instr.mapUpdate 174 (.map (some b)) (zjX r) (.int .i64 (ks.length : Nat))).run Tryz.prog w = .ok () w' /\ zdT w' b (ks ++ [r]) /\ w.grownBy w' (some b) := by
 have h' := h; obtain ⟨es0, clock0, g0, g1, g2⟩ := h'; obtain ⟨es, clock, h0, h1, h2⟩ := h.find hk; obtain ⟨l, hl⟩ := zdn hk
 have he : es0 = es /\ clock0 = clock := by
  rw [g0] at h0; have := Option.some.inj h0; exact ⟨by injection this, by injection this⟩
 obtain ⟨rfl, rfl⟩ := he; rcases h2 with ⟨_, hj⟩ | ⟨hy, _⟩
 · refine ⟨setBlock w b (.map (es0.push ⟨zjX r, .int .i64 (ks.length : Nat), clock0⟩) (clock0 + 1)), ?_, ⟨_, _, heap_setBlock_same g0 _, ?_, ?_⟩, ⟨rfl, rfl, rfl, by simp [setBlock], fun i _ hi => heap_setBlock_other g0 _ (fun e => hi (by rw [e]))⟩⟩
   · simp [Instr.mapUpdate, run_underlying Tryz.underlying174, MapKept.run_getObj_map g0, zhu.check w false hl, hj, MapKept.run_setObj_map _ g0, Result.andThen, setBlock]
   · intro e he
     simp only [Array.toList_push, List.mem_append, List.mem_singleton] at he
     rcases he with he | rfl
     · obtain ⟨s, a1, a2, a3, a4⟩ := g1 e he
       exact ⟨s, a1, a2, by simp [a3], by rw [List.idxOf_append, if_pos a3]; exact a4⟩
     · exact ⟨r, hk, rfl, by simp, by rw [List.idxOf_append, if_neg hr]; simp⟩
   · intro s hs
     simp only [Array.toList_push, List.mem_append, List.mem_singleton]
     rcases List.mem_append.1 hs with hs | hs
     · obtain ⟨e, he, hek⟩ := g2 s hs
       exact ⟨e, .inl he, hek⟩
     · rw [List.mem_singleton] at hs; subst hs; exact ⟨_, .inr rfl, rfl⟩
 · exact absurd hy hr
end
def zaH (xs : List zaa) : List zaa := if zaf xs then xs else []
def zaB (xs : List zaa) : Int := if zaf xs then 0 else 3
def zdc (xs ys : List zaa) : List zaa := if zaf xs && zaf ys then zaH (za8 xs ys) else []
def zc6 (xs ys : List zaa) : Int := if zaf xs && zaf ys then zaB (za8 xs ys) else 1
theorem zjd {xs : List zaa} {ls : List Int} (h : zaX xs = some ls) : ∀ (k : Nat) r, xs[k]? = some r -> zaD k r = true := by
 intro k r hr; rcases hk : zaX (xs.take k) with _ | out
 · have h2 : zaX xs = (xs.drop k).foldl zaR (zaX (xs.take k)) := by unfold zaX; rw [<- List.foldl_append, List.take_append_drop]
   rw [h2, hk, zcB] at h; cases h
 · by_cases hok : zaD k r = true
   · exact hok
   · have hlen := zaF hk
     rw [List.length_take, Nat.min_eq_left (Nat.le_of_lt (List.getElem?_eq_some_iff.1 hr).1)] at hlen
     have hb := zcw hk hr (zbx (by rw [hlen]; simpa using hok)); rw [hb] at h; cases h
theorem zag {xs : List zaa} (h : zaf xs = true) : xs.length <= 400 /\ ∃ ls, zaX xs = some ls := by
 simp only [zaf, Bool.and_eq_true, decide_eq_true_eq] at h
 exact ⟨h.1, Option.isSome_iff_exists.1 h.2⟩
theorem zgh {xs : List zaa} (h : zaf xs = true) : zh9 xs := by
 obtain ⟨hl, ls, hls⟩ := zag h; intro r hr hp; obtain ⟨k, hk, he⟩ := List.getElem_of_mem hr; have hok := zjd hls k r (by rw [ye hk, he]); simp [zaD, hp] at hok
 omega
theorem zlG {xs ys : List zaa} (h : xs.length <= 400) (h' : ys.length <= 400) : (za8 xs ys).length <= 801 := by
 unfold za8; split
 · omega
 · split
   · omega
   · simp; omega
def zlH (base : Nat) (xs : List zaa) (w : World) (e : Ending) (w' : World) : Prop :=
 Below w.heap.size w w' /\ ∃ v', zab w' base v' (zaH xs) /\ e = .returned (.tuple #[.agg #[v'], .int .i64 (zaB xs)])
theorem zcT (base : Nat) (v : Value) (xs : List zaa) (w : World) (h : zab w base v xs) (hn : xs.length <= 1099511627776) :
  Calls Tryz.prog 115 #[.agg #[v]] w (zlH base xs w) := by
 have h1 := fun o o' => (h.sl.below (((Below.refl w.heap.size w).alloc yL o).alloc yS o')).le (B' := ((w.alloc o).alloc o').heap.size) (by simp; omega); have hv : v.ownBlock ≠ some (w.heap.size + 1) := fun e => by have := (World.ownsRow.lt h _ e).2; omega
 have H1 := yq h1; have H := yq h; have Hv := yq hv; clear h1 hv; obtain ⟨A, c, rfl, _⟩ := zae h; clear h; go_enter Tryz.func115, Tryz.ntmps115
 go_wp2_with fail
 refine (zbN _ _ _ (H1.o _ _) hn).mono ?_
 rintro e w1 ⟨rfl, hb1⟩; obtain ⟨hc1, hf1⟩ := zda hb1; have hz1 : w.heap.size + 1 < w1.heap.size := by have := hb1.size; simp at this; omega
 have hc2 : w1.cell? ⟨w.heap.size + 1, 0, none⟩ = some (.slice none 0 0) := by rw [hc1 _ _ yS]; simp [go_sem]
 have hf2 : w1.frozen? ⟨w.heap.size + 1, 0, none⟩ = false := by rw [hf1 _ _ yS]; simp [go_sem]
 have hc3 : w1.cell? ⟨w.heap.size, 0, none⟩ = some (.slice A xs.length c) := by rw [hc1 _ _ (by simp; omega)]; simp [go_sem]
 have Hb1 := yq (((Below.refl w.heap.size w).alloc yL (Obj.cells #[Value.slice A xs.length c] 26)).alloc yS (Obj.cells #[Value.slice none 0 0] 26) |>.trans (hb1.mono (by simp; omega))); clear hc1 hf1 hb1; by_cases hok : zaf xs = true
 · have hok2 : (!zaf xs) = false := by simp [hok]
   have Hok := yq hok; clear hok; go_wp2
   refine bodyPost_ret (v := .tuple #[.agg #[.slice A xs.length c], .int .i64 0]) (by simp [results, Tryz.results115, go_sem, hc2]) rfl ⟨?_, _, ?_, by rw [zaB, if_pos Hok.o]⟩
   · exact Hb1.o.setCell (by show w.heap.size <= w.heap.size + 1; omega) _
   · rw [zaH, if_pos Hok.o]
     refine zbe (zab.below H.o Hb1.o) fun g hg => Below.heap_setCell _ _ _ _ (fun e => Hv.o ?_)
     rw [hg, e]
 · have hok2 : (!zaf xs) = true := by simp [hok]
   have Hok := yq hok; clear hok; go_wp2
   refine bodyPost_ret (v := .tuple #[.agg #[.slice none 0 0], .int .i64 3]) (by simp [results, Tryz.results115, go_sem, hc2]) rfl ⟨?_, _, ?_, by rw [zaB, if_neg Hok.o]⟩
   · exact Hb1.o.setCell (by show w.heap.size <= w.heap.size + 1; omega) _
   · rw [zaH, if_neg Hok.o]; exact World.ownsRow_nil _ _ _ _
theorem zeX (r : zaa) (n : Nat) (w : World) (hn : n <= 1099511627776) (hp : r.pair = true -> -1099511627776 <= r.left /\ r.left <= 1099511627776 /\ -1099511627776 <= r.right /\ r.right <= 1099511627776) :
  Calls Tryz.prog 177 #[.agg #[.string r.letter, .int .i64 r.left, .int .i64 r.right], .int .i64 n] w fun e w' => e = .returned (.agg #[.string (zaC n r).letter, .int .i64 (zaC n r).left, .int .i64 (zaC n r).right]) /\ Below w.heap.size w w' := by
 by_cases hpr : r.pair = true
 · obtain ⟨p1, p2, p3, p4⟩ := hp hpr
   have hemp : r.letter.toList.isEmpty = true := by rw [zan]; exact hpr
   have e : zaC n r = { letter := r.letter, left := r.left + n, right := r.right + n } := by rw [zaC, if_pos hpr]
   rw [e]; clear hpr e hp; go_enter Tryz.func177, Tryz.ntmps177
   go_wp2
   exact bodyPost_ret (v := .agg #[.string r.letter, .int .i64 (r.left + n), .int .i64 (r.right + n)]) (by simp [results, Tryz.results177, go_sem]) rfl ⟨rfl, yb⟩
 · have hemp : r.letter.toList.isEmpty = false := by rw [zan]; simpa [zaa.pair] using hpr
   have e : zaC n r = r := by rw [zaC, if_neg hpr]
   rw [e]; clear hpr e hp; go_enter Tryz.func177, Tryz.ntmps177
   go_wp2
   exact bodyPost_ret (v := .agg #[.string r.letter, .int .i64 r.left, .int .i64 r.right]) (by simp [results, Tryz.results177, go_sem]) rfl ⟨rfl, yb⟩
theorem zdG (base : Nat) (v : Value) (xs : List zaa) (w : World) (h : zab w base v xs) (hsm : za5 xs) :
  Calls Tryz.prog 160 #[.agg #[v]] w (zlH base xs w) := by
 have h1 := fun o o' => (h.sl.below (((Below.refl w.heap.size w).alloc yL o).alloc yS o')).le (B' := ((w.alloc o).alloc o').heap.size) (by simp; omega); have hv : v.ownBlock ≠ some (w.heap.size + 1) := fun e => by have := (World.ownsRow.lt h _ e).2; omega
 have H1 := yq h1; have H := yq h; have Hv := yq hv; clear h1 hv; obtain ⟨A, c, rfl, _⟩ := zae h; clear h; go_enter Tryz.func160, Tryz.ntmps160
 go_wp2_with fail
 refine (zbf _ _ _ _ _ (by simp [go_sem]) yo (H1.o _ _) hsm).mono ?_
 rintro e w1 ⟨rfl, hb1⟩; obtain ⟨hc1, hf1⟩ := zda hb1; have hz1 : w.heap.size + 1 < w1.heap.size := by have := hb1.size; simp at this; omega
 have hc2 : w1.cell? ⟨w.heap.size + 1, 0, none⟩ = some (.slice none 0 0) := by rw [hc1 _ _ yS]; simp [go_sem]
 have hf2 : w1.frozen? ⟨w.heap.size + 1, 0, none⟩ = false := by rw [hf1 _ _ yS]; simp [go_sem]
 have hc3 : w1.cell? ⟨w.heap.size, 0, none⟩ = some (.slice A xs.length c) := by rw [hc1 _ _ (by simp; omega)]; simp [go_sem]
 have Hb1 := yq (((Below.refl w.heap.size w).alloc yL (Obj.cells #[Value.slice A xs.length c] 26)).alloc yS (Obj.cells #[Value.slice none 0 0] 26) |>.trans (hb1.mono (by simp; omega))); clear hc1 hf1 hb1; by_cases hok : zaf xs = true
 · have hok2 : (!zaf xs) = false := by simp [hok]
   have Hok := yq hok; clear hok; go_wp2
   refine bodyPost_ret (v := .tuple #[.agg #[.slice A xs.length c], .int .i64 0]) (by simp [results, Tryz.results160, go_sem, hc2]) rfl ⟨?_, _, ?_, by rw [zaB, if_pos Hok.o]⟩
   · exact Hb1.o.setCell (by show w.heap.size <= w.heap.size + 1; omega) _
   · rw [zaH, if_pos Hok.o]
     refine zbe (zab.below H.o Hb1.o) fun g hg => Below.heap_setCell _ _ _ _ (fun e => Hv.o ?_)
     rw [hg, e]
 · have hok2 : (!zaf xs) = true := by simp [hok]
   have Hok := yq hok; clear hok; go_wp2
   refine bodyPost_ret (v := .tuple #[.agg #[.slice none 0 0], .int .i64 3]) (by simp [results, Tryz.results160, go_sem, hc2]) rfl ⟨?_, _, ?_, by rw [zaB, if_neg Hok.o]⟩
   · exact Hb1.o.setCell (by show w.heap.size <= w.heap.size + 1; omega) _
   · rw [zaH, if_neg Hok.o]; exact World.ownsRow_nil _ _ _ _
theorem zbb {W : World} {ops : Array Oper} {o : Oper} {a : Act} {K : Act -> World -> Prop} {Q : Exit -> Act -> World -> Prop} {E : Prop} (hgd : o.guard = none) (s x : Operand)
  (ho : o.op = .call { callee := .builtin .append, args := #[s, x], argTypes := #[24, 24] }) {t : ByteArray} {p q : Int} {base : Nat} {v : Value} {l : List zaa}
  (hs : a.eval s = v) {N : Nat} (hx : a.eval x = .slice (some ⟨N, 0, none⟩) 1 1) (hN : N = W.heap.size) (hown : zab W base v l) (hlen : l.length <= 1099511627775) (hbase : base <= W.heap.size)
  (h : ∀ v' w', zab w' base v' (l ++ [⟨t, p, q⟩]) -> (W.alloc (.cells #[.string t, .int .i64 p, .int .i64 q] 112)).grownBy w' v.ownBlock -> Below base (W.alloc (.cells #[.string t, .int .i64 p, .int .i64 q] 112)) w' -> K (a.put o.dst v') w') :
  if Region.wanted o (yielded ops a.tmps) = true then Oper.wp Tryz.prog o a (W.alloc (.cells #[.string t, .int .i64 p, .int .i64 q] 112)) K Q else E := by
 subst hN; refine zbr (ys := [⟨t, p, q⟩]) (S := fun b => b = W.heap.size) hgd s x ho hs hx (hown.alloc _) ⟨_, 1, rfl, Nat.le_refl _, by simp [maxLen], fun _ => ⟨W.heap.size, 0, rfl, rfl, fun k r hk => ⟨r.cells, rfl, fun j u hu => ?_⟩⟩⟩ (by simp; omega) (by simp; omega) h
 have hk0 : k = 0 := by
  have := (List.getElem?_eq_some_iff.1 hk).1
  simp at this; exact this
 subst hk0; simp at hk
 subst hk; have hc : (W.alloc (.cells #[.string t, .int .i64 p, .int .i64 q] 112)).cell? ⟨W.heap.size, j, none⟩ = (#[Value.string t, .int .i64 p, .int .i64 q] : Array Value)[j]? := cell_of_row _ _ _ _ 112 (0, 0) (heap_alloc_new W _); simp only [Nat.zero_mul, Nat.zero_add]
 rw [hc]; simpa [zaa.cells] using hu
theorem Boxed.mk' {w : World} {B : Nat} {t : TypeId} {v : Value} (h : w.heap[B]? = some (.cells #[v] t (0, 0))) : Boxed w.drew B t v := h
theorem Boxed.up {w w' : World} {B N : Nat} {t : TypeId} {v : Value} (h : Boxed w B t v) (hb : Below N w w') (hlt : B < N) : Boxed w' B t v := (hb.block B hlt).trans h
theorem Boxed.grown {w w' : World} {B base e s n : Nat} {t : TypeId} {v : Value} {xs : List Value} {o : Obj} (h : Boxed w B t v) (hte : t ≠ e) (own : w.ownsRow base e s v n xs) (hg : (w.alloc o).grownBy w' v.ownBlock) : Boxed w' B t v := (h.alloc o).kept hg (h.not_row hte own)
theorem zje (b o b' o' : Nat) (v u : Value) (xs ys : List zaa) (w : World) (hpt : w.cell? ⟨b, o, none⟩ = some v) (hpt' : w.cell? ⟨b', o', none⟩ = some u) (hbl : b < w.heap.size) (hbl' : b' < w.heap.size)
  (h : Sl zas w w.heap.size v xs) (h' : Sl zas w w.heap.size u ys) (hn : xs.length <= 1048576) (hn' : ys.length <= 1048576) (hp : zh9 ys) :
  Calls Tryz.prog 175 #[.pointer (some ⟨b, o, none⟩), .pointer (some ⟨b', o', none⟩)] w (zmY (za8 xs ys) w) := by
 have h1 := fun o => (h.below ((Below.refl w.heap.size w).alloc yL o)).le (B' := (w.alloc o).heap.size) yS; have h2 := fun o => (h'.below ((Below.refl w.heap.size w).alloc yL o)).le (B' := (w.alloc o).heap.size) yS; have H1 := yq h1; have H2 := yq h2; clear h1 h2; obtain ⟨A, c, rfl, hc, hm, hrow⟩ := h; obtain ⟨A', c', rfl, hc', hm', hrow'⟩ := h'; clear hm hm' hrow; by_cases h0 : xs.length = 0
 · have hj : za8 xs ys = ys := by rw [za8, if_pos h0]
   have Hj := yq hj; have hb0 : ((xs.length : Int) == 0) = true := by simp [h0]
   have H0 := yq h0; clear hj h0; go_enter Tryz.func175, Tryz.ntmps175
   go_wp2_with fail
   refine (zcM _ _ _ _ _ (by simpa [go_sem, hbl'] using hpt') yo (H2.o _) yO).mono ?_
   rintro e w1 ⟨v1, rfl, own1, hb1⟩; obtain ⟨A1, c1, rfl, _⟩ := zae own1; obtain ⟨hc1, hf1⟩ := zda hb1; have hz1 : w.heap.size + 1 <= w1.heap.size := by have := hb1.size; simp at this; omega
   have Hown := yq own1; have Hb1 := yq hb1; clear own1 hb1; go_wp2
   refine bodyPost_ret (v := .agg #[.slice A1 ys.length c1]) (by simp [results, Tryz.results175, go_sem, hc1]) rfl ⟨?_, _, ?_, rfl⟩
   · exact (((Below.refl _ _).alloc yL _).trans (Hb1.o.mono yS)).setCell (by show w.heap.size <= w.heap.size; omega) _
   · rw [Hj.o]
     have h4 : w1.ownsRow (w.heap.size + 1) 112 3 (.slice A1 ys.length c1) ys.length (ys.flatMap zaa.cells) := zac Hown.o yS; exact zac (ownsRow_setCell_below h4 (by show w.heap.size < w.heap.size + 1; omega) _) yO
 · have hb0 : ((xs.length : Int) == 0) = false := by rw [beq_eq_false_iff_ne]; omega
   by_cases h0' : ys.length = 0
   · have hj : za8 xs ys = xs := by rw [za8, if_neg h0, if_pos h0']
     have Hj := yq hj; have hb0' : ((ys.length : Int) == 0) = true := by simp [h0']
     have H0 := yq h0; have H0' := yq h0'; clear hj h0 h0'; go_enter Tryz.func175, Tryz.ntmps175
     go_wp2_with fail
     refine (zcM _ _ _ _ _ (by simpa [go_sem, hbl] using hpt) yo (H1.o _) yO).mono ?_
     rintro e w1 ⟨v1, rfl, own1, hb1⟩; obtain ⟨A1, c1, rfl, _⟩ := zae own1; obtain ⟨hc1, hf1⟩ := zda hb1; have hz1 : w.heap.size + 1 <= w1.heap.size := by have := hb1.size; simp at this; omega
     have hpt1 : w1.cell? ⟨b, o, none⟩ = some (.slice A xs.length c) := by rw [hb1.cell yo]; simpa [go_sem, hbl] using hpt
     have hpt1' : w1.cell? ⟨b', o', none⟩ = some (.slice A' ys.length c') := by rw [hb1.cell yo]; simpa [go_sem, hbl'] using hpt'
     have hcr1 : w1.cell? ⟨w.heap.size, 0, none⟩ = some (.slice none 0 0) := by rw [hc1 _ _ yS]; simp [go_sem]
     have hfr1 : w1.frozen? ⟨w.heap.size, 0, none⟩ = false := by rw [hf1 _ _ yS]; simp [go_sem]
     have hlb : b < w1.heap.size := by omega
     have hlb' : b' < w1.heap.size := by omega
     have hlr : w.heap.size < w1.heap.size := by omega
     have Hown := yq own1; have Hb1 := yq hb1; clear own1 hb1 hc1 hf1; go_wp2
     refine bodyPost_ret (v := .agg #[.slice A1 xs.length c1]) (by simp [results, Tryz.results175, go_sem, hcr1, hlr]) rfl ⟨?_, _, ?_, rfl⟩
     · refine Below.alloc (Below.setCell (((Below.refl _ _).alloc yL _).trans (Hb1.o.mono yS)) ?_ _) ?_ _
       · exact Nat.le_refl _
       · simp; omega
     · rw [Hj.o]
       have h4 : w1.ownsRow (w.heap.size + 1) 112 3 (.slice A1 xs.length c1) xs.length (xs.flatMap zaa.cells) := zac Hown.o yS; exact zac (World.ownsRow.alloc (ownsRow_setCell_below (a := ⟨w.heap.size, 0, none⟩) h4 (by show w.heap.size < w.heap.size + 1; omega) _) _) yO
   · have hb0' : ((ys.length : Int) == 0) = false := by rw [beq_eq_false_iff_ne]; omega
     have hj : za8 xs ys = xs ++ ys.map (zaC xs.length) ++ [zaK ((xs.length : Int) - 1) ((xs.length : Int) + ys.length - 1)] := by rw [za8, if_neg h0, if_neg h0']
     have Hj := yq hj; have hx1 : 1 <= xs.length := by omega
     have hy1 : 1 <= ys.length := by omega
     have Hp := yq hp; clear hj h0 h0' hp; go_enter Tryz.func175, Tryz.ntmps175
     go_wp2_with fail
     refine (zcM _ _ _ _ _ (by simpa [go_sem, hbl] using hpt) yo (H1.o _) yO).mono ?_
     rintro e w1 ⟨v1, rfl, own1, hb1⟩; have z1 : w.heap.size + 1 <= w1.heap.size := by have := hb1.size; simp at this; omega
     have Hb1 : yh (Below (w.heap.size + 1) (w.alloc (Obj.cells #[Value.slice none 0 0] 26)) w1) := hb1.mono yS; have hpt1 : w1.cell? ⟨b, o, none⟩ = some (.slice A xs.length c) := by rw [hb1.cell yo]; simpa [go_sem, hbl] using hpt
     have hpt1' : w1.cell? ⟨b', o', none⟩ = some (.slice A' ys.length c') := by rw [hb1.cell yo]; simpa [go_sem, hbl'] using hpt'
     have own1' : zab w1 (w.heap.size + 1) v1 xs := zac own1 yS; obtain ⟨A1, c1, rfl, _⟩ := zae own1'; have Hown1 := yq own1'; have hlb : b < w1.heap.size := by omega
     have hlb' : b' < w1.heap.size := by omega
     have Hrow := yq hrow'; clear own1 own1' hb1 hrow'; go_wp2_with fail
     go_loopw [7] (fun i wr => ∃ (k : Nat) (vo : Value), k <= ys.length /\ i = .int .i64 k /\ Below (w.heap.size + 1) (w.alloc (Obj.cells #[Value.slice none 0 0] 26)) wr /\ wr.heap[w1.heap.size]? = some (Obj.cells #[vo] 26 (0, 0)) /\ zab wr (w.heap.size + 1) vo (xs ++ (ys.take k).map (zaC xs.length))) (fun i _ => ys.length - (intOf i).toNat)
     case atStart => exact ⟨0, _, Nat.zero_le _, rfl, Hb1.o.alloc yO _, zbc _ _, by have := Hown1.o.alloc (Obj.cells #[Value.slice A1 xs.length c1] 26); simpa using this⟩
     case round =>
      obtain ⟨k, vo, hk, rfl, hb, hbox, hown⟩ := hrel; have hcb : wr.cell? ⟨w1.heap.size, 0, none⟩ = some vo := by simp [World.cell?, hbox]
      have hfb : wr.frozen? ⟨w1.heap.size, 0, none⟩ = false := by simp [World.frozen?, hbox]
      have hszr : w1.heap.size < wr.heap.size := (Array.getElem?_eq_some_iff.1 hbox).1
      have hptr : wr.cell? ⟨b, o, none⟩ = some (.slice A xs.length c) := by rw [hb.cell (p := ⟨b, o, none⟩) (by show b < w.heap.size + 1; omega)]; simpa [go_sem, hbl] using hpt
      have hptr' : wr.cell? ⟨b', o', none⟩ = some (.slice A' ys.length c') := by rw [hb.cell (p := ⟨b', o', none⟩) (by show b' < w.heap.size + 1; omega)]; simpa [go_sem, hbl'] using hpt'
      have Hbox := yq hbox; have Hown := yq hown; have Hb := yq hb; by_cases hlt : k < ys.length
      · obtain ⟨b2, o2, rfl, hbl2, hcell⟩ := Hrow.o.rule hlt
        obtain ⟨r, hr⟩ : ∃ x, ys[k]? = some x := ⟨_, ye hlt⟩
        obtain ⟨g0, g1, g2⟩ := hcell k r hr; have hbw : Below w.heap.size w wr := ((Below.refl _ _).alloc yL _).trans (hb.mono yO); have hc0 := (hbw.cell (p := ⟨b2, o2 + k * 3, none⟩) hbl2).trans g0; have hc1 := (hbw.cell (p := ⟨b2, o2 + k * 3 + 1, none⟩) hbl2).trans g1; have hc2 := (hbw.cell (p := ⟨b2, o2 + k * 3 + 2, none⟩) hbl2).trans g2; have hi : (k : Int) < (ys.length : Int) := by omega
        have hpr := Hp.o r (List.mem_of_getElem? hr); have Hpr := yq hpr; have Hr := yq hr; have hb2l : b2 < wr.heap.size := by omega
        have hbl3 : b' < wr.heap.size := by omega
        have hbl4 : b < wr.heap.size := by omega
        obtain ⟨L, hL⟩ : ∃ L, L = xs ++ (ys.take k).map (zaC xs.length) := ⟨_, rfl⟩
        rw [<- hL] at hown; have hlk : L.length = xs.length + k := by rw [hL]; simp; omega
        have Hll : yh (L.length <= 1099511627775) := by rw [yh]; omega
        have Hnx : yh (xs ++ (ys.take (k + 1)).map (zaC xs.length) = L ++ [zaC xs.length r]) := by rw [yh, List.take_add_one, hr, List.map_append, <- List.append_assoc, <- hL]; rfl
        have Hown := yq hown; clear hbox hown hb hcell g0 g1 g2 hbw hr hpr hpt hpt' hpt1 hpt1' hL hlk; go_wp2_with fail
        go_region_law (first
         | (refine zbb (base := w.heap.size + 1) yR _ _ yR yR (by first | rfl | simp) rfl (zab.below Hown.o.drew hb2) Hll.o yO ?_; intro v3 w3 own3 hg3 hb3; have bx3 : Boxed w3 w1.heap.size 26 vo := Boxed.grown (Boxed.up (Boxed.mk' Hbox.o) hb2 hszr) (by decide) (zab.below Hown.o.drew hb2) hg3; obtain ⟨A3, c3, rfl, _⟩ := zae own3; have hcb3 := bx3.cell; have hfb3 := bx3.frozen)
         | (go_simp; go_at_call 177; refine (zeX r xs.length _ yO Hpr.o).mono ?_; rintro e w2 ⟨rfl, hb2⟩; obtain ⟨hcc2, hff2⟩ := zda hb2; have bx2 := Boxed.up (Boxed.mk' Hbox.o) hb2 hszr; have hcb2 := bx2.cell; have hfb2 := bx2.frozen; have hlb2 := bx2.lt; have hlb3 : b < w2.heap.size := yO; have hlb3' : b' < w2.heap.size := yO; have hlb4 : b2 < w2.heap.size := yO))
        all_goals
         clear hcc2 hff2 hcb2 hfb2; go_wp2
         go_roundw
         case rel =>
          refine ⟨k + 1, _, by omega, by go_num, ?_, Boxed.set _ bx3, ?_⟩
          · exact (((Below.drew Hb.o).trans (hb2.mono (by show w.heap.size + 1 <= wr.heap.size; omega))).alloc yO _ |>.trans hb3).setCell (by show w.heap.size + 1 <= w1.heap.size; omega) _
          · have e9 : (L ++ [zaC xs.length r]).length = L.length + 1 := by simp
            have own9 : zab w3 (w.heap.size + 1) (.slice A3 (L.length + 1) c3) (L ++ [zaC xs.length r]) := by rw [<- e9]; exact own3
            rw [Hnx.o]; exact ownsRow_setCell_other (a := ⟨w1.heap.size, 0, none⟩) own9 (bx3.not_row (by decide) own9).symm _
         case measure => simp [intOf]; omega
      · have hkn : k = ys.length := by omega
        subst hkn; rw [List.take_length] at hown; obtain ⟨L, hL⟩ : ∃ L, L = xs ++ ys.map (zaC xs.length) := ⟨_, rfl⟩
        rw [<- hL] at hown; have hlk : L.length = xs.length + ys.length := by rw [hL]; simp
        have Hll : yh (L.length <= 1099511627775) := by rw [yh]; omega
        have HL := yq hL; have Hown := yq hown; have hw1 : IntKind.i64.wrap ((xs.length : Int) - 1) = (xs.length : Int) - 1 := IntWalk.i64_in _ yO; have hw2 : IntKind.i64.wrap ((xs.length : Int) + ys.length) = (xs.length : Int) + ys.length := IntWalk.i64_in _ yO; have hw3 : IntKind.i64.wrap ((xs.length : Int) + ys.length - 1) = (xs.length : Int) + ys.length - 1 := IntWalk.i64_in _ yO; clear hbox hown hb hpt hpt' hpt1 hpt1' hL; go_wp2_with fail
        go_region_law (first
         | (refine zbb (base := w.heap.size + 1) yR _ _ yR yR (by first | rfl | simp) rfl Hown.o.drew Hll.o (by show w.heap.size + 1 <= wr.heap.size; omega) ?_; intro v3 w3 own3 hg3 hb3; have bx3 : Boxed w3 w1.heap.size 26 vo := Boxed.grown (Boxed.mk' Hbox.o) (by decide) Hown.o.drew hg3; obtain ⟨A3, c3, rfl, _⟩ := zae own3; have hcb3 := bx3.cell; have hfb3 := bx3.frozen; have hl3 := bx3.lt))
        all_goals
         try rw [hw2] at own3
         try rw [hw1, hw3] at own3
         have hb9 := (((Below.drew Hb.o)).alloc (by show w.heap.size + 1 <= wr.heap.size; omega) _).trans hb3; obtain ⟨hc9, hf9⟩ := zda hb9; have hcr : w3.cell? ⟨w.heap.size, 0, none⟩ = some (.slice none 0 0) := by rw [hc9 _ _ yO]; simp [go_sem]
         have hfr : w3.frozen? ⟨w.heap.size, 0, none⟩ = false := by rw [hf9 _ _ yO]; simp [go_sem]
         have e9 : (L ++ [zaK ((xs.length : Int) - 1) ((xs.length : Int) + ys.length - 1)]).length = xs.length + ys.length + 1 := by simp [hlk]
         have Own9 : yh (zab w3 (w.heap.size + 1) (.slice A3 (xs.length + ys.length + 1) c3) (L ++ [zaK ((xs.length : Int) - 1) ((xs.length : Int) + ys.length - 1)])) := by rw [yh, <- e9]; exact own3
         have Hb9 := yq hb9; have Hbx3 := yq bx3; have hne : w.heap.size ≠ w1.heap.size := by omega
         have hl9 : w.heap.size < w3.heap.size := by omega
         clear hc9 hf9 hb9 own3 hg3 hb3 bx3 hlk; go_wp2
         refine bodyPost_ret (v := .agg #[.slice A3 (xs.length + ys.length + 1) c3]) (by simp [results, Tryz.results175, go_sem, hcr]) rfl ⟨?_, _, ?_, rfl⟩
         · exact ((((Below.refl _ _).alloc yL _).trans (Hb9.o.mono yO)).setCell (by show w.heap.size <= w1.heap.size; omega) _).setCell (by show w.heap.size <= w.heap.size; omega) _
         · rw [Hj.o, <- HL.o]
           unfold zab; rw [e9]; have h5 := Own9.o; unfold zab at h5; rw [e9] at h5; have h6 := ownsRow_setCell_other (a := ⟨w1.heap.size, 0, none⟩) h5 (Hbx3.o.not_row (by decide) h5).symm (.slice A3 (xs.length + ys.length + 1) c3); have h7 := ownsRow_setCell_below (a := ⟨w.heap.size, 0, none⟩) h6 (by show w.heap.size < w.heap.size + 1; omega) (.slice A3 (xs.length + ys.length + 1) c3); exact zac h7 yO
theorem za6 {W : World} {ops : Array Oper} {rest : List Oper} {o : Oper} {a : Act} {Q : Exit -> Act -> World -> Prop} (hgd : o.guard = none) (s x : Operand)
  (ho : o.op = .call { callee := .builtin .append, args := #[s, x], argTypes := #[24, 24] }) {t : ByteArray} {p q : Int} {base : Nat} {v : Value} {l : List zaa}
  (hs : a.eval s = v) {N : Nat} (hx : a.eval x = .slice (some ⟨N, 0, none⟩) 1 1) (hN : N = W.heap.size) (hown : zab W base v l) (hlen : l.length <= 1099511627775) (hbase : base <= W.heap.size)
  (h : ∀ v' w', zab w' base v' (l ++ [⟨t, p, q⟩]) -> (W.alloc (.cells #[.string t, .int .i64 p, .int .i64 q] 112)).grownBy w' v.ownBlock -> Below base (W.alloc (.cells #[.string t, .int .i64 p, .int .i64 q] 112)) w' -> wpList Tryz.prog ops Q rest (a.put o.dst v') w') :
  wpList Tryz.prog ops Q (o :: rest) a (W.alloc (.cells #[.string t, .int .i64 p, .int .i64 q] 112)) :=
 wpList_plain hgd fun K hK => by
  have := zbb (E := True) (K := K) (ops := ops) (Q := Q) hgd s x ho hs hx hN hown hlen hbase (fun v' w' h1 h2 h3 => hK _ _ (h v' w' h1 h2 h3)); rwa [if_pos (by simp [Region.wanted, hgd])] at this
theorem zcs {w5 : World} {K base n c5 : Nat} {A5 : Option Addr} {L M : List zaa} {vo : Value} (bx : Boxed w5 K 26 vo) (own : zab w5 base (.slice A5 L.length c5) L) (hM : L = M) (hn : M.length = n) :
  zab (w5.setCell ⟨K, 0, none⟩ (.slice A5 n c5)) base (.slice A5 n c5) M := by
 subst hM; subst hn; exact ownsRow_setCell_other (a := ⟨K, 0, none⟩) own (bx.not_row (by decide) own).symm _
theorem zdH (a b : Int) (w : World) :
  Calls Tryz.prog 143 #[.int .i64 a, .int .i64 b] w fun e w' => e = .returned (.agg #[.string ⟨#[]⟩, .int .i64 a, .int .i64 b]) /\ Below w.heap.size w w' := by
 go_enter Tryz.func143, Tryz.ntmps143
 go_wp2
 exact bodyPost_ret (v := .agg #[.string ⟨#[]⟩, .int .i64 a, .int .i64 b]) (by simp [results, Tryz.results143, go_sem]) rfl ⟨rfl, yb⟩
def zbv (w : World) (B : Nat) (r : zaa) : Prop := w.cell? ⟨B, 0, none⟩ = some (.string r.letter) /\ w.cell? ⟨B, 1, none⟩ = some (.int .i64 r.left) /\ w.cell? ⟨B, 2, none⟩ = some (.int .i64 r.right) /\ B < w.heap.size
theorem zbv.below {w w' : World} {B N : Nat} {r : zaa} (h : zbv w B r) (hb : Below N w w') (hlt : B < N) : zbv w' B r :=
 ⟨(hb.cell (p := ⟨B, 0, none⟩) hlt).trans h.1, (hb.cell (p := ⟨B, 1, none⟩) hlt).trans h.2.1, (hb.cell (p := ⟨B, 2, none⟩) hlt).trans h.2.2.1, Nat.lt_of_lt_of_le h.2.2.2 hb.size⟩
theorem zbv.kept {w w' : World} {B : Nat} {r : zaa} {row : Option Nat} (h : zbv w B r) (hg : w.grownBy w' row) (hne : some B ≠ row) : zbv w' B r :=
 ⟨(World.cell?_of_block (a := ⟨B, 0, none⟩) (hg.block B h.2.2.2 hne)).trans h.1, (World.cell?_of_block (a := ⟨B, 1, none⟩) (hg.block B h.2.2.2 hne)).trans h.2.1, (World.cell?_of_block (a := ⟨B, 2, none⟩) (hg.block B h.2.2.2 hne)).trans h.2.2.1, Nat.lt_of_lt_of_le h.2.2.2 hg.size⟩
theorem zkz {k : Nat} {r : zaa} (h : zaD k r = true) (hk : k <= 1099511627776) : zht r := by
 cases hp : r.pair with
 | true =>
   have := zbk h hp; exact ⟨zdZ h, by omega, by omega⟩
 | false =>
   obtain ⟨h1, h2, h3⟩ := zb9 h hp; exact ⟨zdZ h, by omega, by omega⟩
theorem zgi {W : World} {ops : Array Oper} {o : Oper} {a : Act} {K : Act -> World -> Prop} {Q : Exit -> Act -> World -> Prop} {E : Prop} (hgd : o.guard = none) (s x : Operand)
  (ho : o.op = .call { callee := .builtin .append, args := #[s, x], argTypes := #[24, 24] }) {r : zaa} {base : Nat} {v : Value} {l : List zaa}
  (hs : a.eval s = v) {N : Nat} (hx : a.eval x = .slice (some ⟨N, 0, none⟩) 1 1) (hc : zbv W N r) (hown : zab W base v l) (hlen : l.length <= 1099511627775) (hbase : base <= W.heap.size)
  (h : ∀ v' w', zab w' base v' (l ++ [r]) -> W.grownBy w' v.ownBlock -> (v'.ownBlock = v.ownBlock \/ v'.ownBlock = some W.heap.size) -> K (a.put o.dst v') w') :
  if Region.wanted o (yielded ops a.tmps) = true then Oper.wp Tryz.prog o a W K Q else E := by
 have hw : Region.wanted o (yielded ops a.tmps) = true := by simp [Region.wanted, hgd]
 rw [if_pos hw]; obtain ⟨i0, hi0, hz0, hz1, hz2⟩ := info_parts Tryz.infoR
 obtain ⟨v', w', hrun, h2, h3, _, h5⟩ := run_append_own_at (P := Tryz.prog) W base 24 o.type 112 i0 _ 3 32 Tryz.underlying24 hi0 hz0 hz1 hz2 rfl (by decide) v _ _ hown ⟨N, 0, none⟩ 1 1 r.cells rfl
  (fun j u hu => by
    obtain ⟨c0, c1, c2, _⟩ := hc
    match j, hu with
    | 0, hu => simp [zaa.cells] at hu; subst hu; simpa [Addr.add] using c0
    | 1, hu => simp [zaa.cells] at hu; subst hu; simpa [Addr.add] using c1
    | 2, hu => simp [zaa.cells] at hu; subst hu; simpa [Addr.add] using c2
    | j + 3, hu => simp [zaa.cells] at hu) (by simp [zaa.cells, Value.oneCell']) (by simp only [maxLen]; omega) yO hbase
 unfold Oper.wp execOp; simp only [ho, resolve, invoke, builtin, Sem.run_bind, Sem.run_pure, Result.andThen_ok, List.map_toArray, List.map_cons, List.map_nil, hs, hx, hrun]
 exact h v' w' (by unfold zab; simpa using h2) h3 h5
theorem zpb {W w' : World} {row : Option Nat} {N o : Nat} {u : Value} (hg : W.grownBy w' row) (hc : W.cell? ⟨N, o, none⟩ = some u) (hlt : N < W.heap.size) (hne : some N ≠ row) : w'.cell? ⟨N, o, none⟩ = some u :=
 (World.cell?_of_block (a := ⟨N, o, none⟩) (hg.block N hlt hne)).trans hc
theorem zeY {w : World} {base e s n : Nat} {v : Value} {xs : List Value} (h : w.ownsRow base e s v n xs) {g : Nat} (hg : v.ownBlock = some g) : ∃ cur, w.heap[g]? = some (.cells cur e (0, 0)) := by
 rcases h.2 with ⟨rfl, _⟩ | ⟨g', cap, cur, rfl, _, hb, _⟩
 · cases hg
 · have : g' = g := by simpa [Value.ownBlock] using hg
   subst this; exact ⟨cur, hb⟩
theorem zeZ {w : World} {base base' e e' s s' n n' : Nat} {v v' : Value} {xs xs' : List Value} (h : w.ownsRow base e s v n xs) (h' : w.ownsRow base' e' s' v' n' xs') (hne : e ≠ e') : ∀ g, v.ownBlock = some g -> some g ≠ v'.ownBlock := fun g hg hg' => by
 obtain ⟨c1, h1⟩ := zeY h hg; obtain ⟨c2, h2⟩ := zeY h' hg'.symm; rw [h1] at h2; have := Option.some.inj h2; injection this with _ h3; exact hne h3
theorem zel {w : World} {b base e s n : Nat} {v : Value} {xs : List Value} {ks : List zaa} (h : zdT w b ks) (h' : w.ownsRow base e s v n xs) : some b ≠ v.ownBlock := fun hb => by
 obtain ⟨c, h1⟩ := zeY h' hb.symm; obtain ⟨es, clock, h2, _⟩ := h; rw [h1] at h2; cases h2
structure T3 (w0 : World) (base bm bx : Nat) (X : zaa) (ks : List zaa) (W : World) (v4 : Value) (K : List zaa) (v6 : Value) (S : List Int) : Prop where
 below : Below base w0 W
 rows : zab W base v4 K
 ints : zal W base v6 S
 mp : zdT W bm ks
 box : zbv W bx X
 bxR : some bx ≠ v4.ownBlock
 bxI : some bx ≠ v6.ownBlock
 lb : base <= W.heap.size
section
variable {w0 W : World} {base bm bx : Nat} {X : zaa} {ks K : List zaa} {v4 v6 : Value} {S : List Int}
theorem T3.alloc (h : T3 w0 base bm bx X ks W v4 K v6 S) (o : Obj) : T3 w0 base bm bx X ks (W.alloc o) v4 K v6 S :=
 ⟨h.below.alloc h.lb _, h.rows.alloc _, h.ints.alloc _, h.mp.alloc _, h.box.below ((Below.refl W.heap.size W).alloc yL o) h.box.2.2.2, h.bxR, h.bxI, by have := h.lb; simp; omega⟩
theorem T3.drew (h : T3 w0 base bm bx X ks W v4 K v6 S) : T3 w0 base bm bx X ks W.drew v4 K v6 S :=
 ⟨Below.drew h.below, h.rows, h.ints, h.mp, h.box, h.bxR, h.bxI, h.lb⟩
theorem T3.pushR (h : T3 w0 base bm bx X ks W v4 K v6 S) {w' : World} {v' : Value} {L : List zaa} (h1 : zab w' base v' L) (hg : W.grownBy w' v4.ownBlock) (hv : v'.ownBlock = v4.ownBlock \/ v'.ownBlock = some W.heap.size) : T3 w0 base bm bx X ks w' v' L v6 S :=
 ⟨h.below.grown hg h.lb (fun g hgg => (World.ownsRow.lt h.rows g hgg).1), h1, zbe h.ints fun g hgg => hg.block g (World.ownsRow.lt h.ints g hgg).2 (zeZ h.ints h.rows (by decide) g hgg), h.mp.kept hg (zel h.mp h.rows), h.box.kept hg h.bxR,
  by
   rcases hv with e | e
   · rw [e]; exact h.bxR
   · rw [e]; intro e'; have := h.box.2.2.2; have : bx = W.heap.size := Option.some.inj e'; omega, h.bxI, Nat.le_trans h.lb hg.size⟩
theorem T3.pushI (h : T3 w0 base bm bx X ks W v4 K v6 S) {w' : World} {v' : Value} {L : List Int} (h1 : zal w' base v' L) (hg : W.grownBy w' v6.ownBlock) (hv : v'.ownBlock = v6.ownBlock \/ v'.ownBlock = some W.heap.size) : T3 w0 base bm bx X ks w' v4 K v' L :=
 ⟨h.below.grown hg h.lb (fun g hgg => (World.ownsRow.lt h.ints g hgg).1), zbe h.rows fun g hgg => hg.block g (World.ownsRow.lt h.rows g hgg).2 (zeZ h.rows h.ints (by decide) g hgg), h1, h.mp.kept hg (zel h.mp h.ints), h.box.kept hg h.bxI, h.bxR,
  by
   rcases hv with e | e
   · rw [e]; exact h.bxI
   · rw [e]; intro e'; have := h.box.2.2.2; have : bx = W.heap.size := Option.some.inj e'; omega, Nat.le_trans h.lb hg.size⟩
theorem zm3 {ops : Array Oper} {o : Oper} {a : Act} {KK : Act -> World -> Prop} {Q : Exit -> Act -> World -> Prop} {E : Prop} (hgd : o.guard = none) (s x : Operand)
  (ho : o.op = .call { callee := .builtin .append, args := #[s, x], argTypes := #[24, 24] }) {r : zaa} {N : Nat}
  (hs : a.eval s = v4) (hx : a.eval x = .slice (some ⟨N, 0, none⟩) 1 1) (T : T3 w0 base bm bx X ks W v4 K v6 S) (hc : zbv W N r) (hlen : K.length <= 1099511627775)
  (h : ∀ v' w', T3 w0 base bm bx X ks w' v' (K ++ [r]) v6 S -> W.grownBy w' v4.ownBlock -> KK (a.put o.dst v') w') :
  if Region.wanted o (yielded ops a.tmps) = true then Oper.wp Tryz.prog o a W KK Q else E :=
 zgi hgd s x ho hs hx hc T.rows hlen T.lb fun v' w' h1 h2 h3 => h v' w' (T.pushR h1 h2 h3) h2
theorem zm4 {ops : Array Oper} {o : Oper} {a : Act} {KK : Act -> World -> Prop} {Q : Exit -> Act -> World -> Prop} {E : Prop} (hgd : o.guard = none) (s x : Operand)
  (ho : o.op = .call { callee := .builtin .append, args := #[s, x], argTypes := #[117, 117] }) {y : Int} {N : Nat}
  (hs : a.eval s = v6) (hx : a.eval x = .slice (some ⟨N, 0, none⟩) 1 1) (T : T3 w0 base bm bx X ks W v4 K v6 S) (hc : W.cell? ⟨N, 0, none⟩ = some (.int .i64 y)) (hlen : S.length <= 1099511627775)
  (h : ∀ v' w', T3 w0 base bm bx X ks w' v4 K v' (S ++ [y]) -> W.grownBy w' v6.ownBlock -> KK (a.put o.dst v') w') :
  if Region.wanted o (yielded ops a.tmps) = true then Oper.wp Tryz.prog o a W KK Q else E :=
 zeW hgd s x ho hs hx hc T.ints yO T.lb fun v' w' h1 h2 h3 => h v' w' (T.pushI h1 h2 h3) h2
end
theorem zbv.new {W : World} {N : Nat} {r : zaa} (hN : N = W.heap.size) : zbv (W.alloc (.cells #[.string r.letter, .int .i64 r.left, .int .i64 r.right] 112)) N r := by
 subst hN; refine ⟨?_, ?_, ?_, by simp⟩ <;> simp [go_sem]
theorem zbv.alloc {W : World} {N : Nat} {r : zaa} (h : zbv W N r) (o : Obj) : zbv (W.alloc o) N r := h.below ((Below.refl W.heap.size W).alloc yL o) h.2.2.2
theorem zbv.drew {W : World} {N : Nat} {r : zaa} (h : zbv W N r) : zbv W.drew N r := h
def zd1 (w : World) (B : Nat) (q : Int) : Prop := w.cell? ⟨B, 0, none⟩ = some (.int .i64 q) /\ B < w.heap.size
theorem zd1.new {W : World} {N : Nat} {q : Int} (hN : N = W.heap.size) : zd1 (W.alloc (.cells #[.int .i64 q] 2)) N q := by
 subst hN; exact ⟨by simp [go_sem], by simp⟩
theorem zd1.alloc {W : World} {N : Nat} {q : Int} (h : zd1 W N q) (o : Obj) : zd1 (W.alloc o) N q :=
 ⟨(((Below.refl W.heap.size W).alloc yL o).cell (p := ⟨N, 0, none⟩) h.2).trans h.1, by have := h.2; simp; omega⟩
theorem zd1.drew {W : World} {N : Nat} {q : Int} (h : zd1 W N q) : zd1 W.drew N q := h
theorem zd1.kept {w w' : World} {B : Nat} {q : Int} {row : Option Nat} (h : zd1 w B q) (hg : w.grownBy w' row) (hne : some B ≠ row) : zd1 w' B q := ⟨zpb hg h.1 h.2 hne, Nat.lt_of_lt_of_le h.2 hg.size⟩
theorem zgj {w : World} {base e s n : Nat} {v : Value} {xs : List Value} (h : w.ownsRow base e s v n xs) {N : Nat} (hN : w.heap.size <= N) : some N ≠ v.ownBlock := fun e => by
 have := (World.ownsRow.lt h N e.symm).2; omega
theorem T3.look {w0 W : World} {base bm bx : Nat} {X : zaa} {ks K : List zaa} {v4 v6 : Value} {S : List Int} (h : T3 w0 base bm bx X ks W v4 K v6 S) {r : zaa} (hk : zht r) (hr : r ∈ ks) :
  (Instr.lookup 174 (.map (some bm)) (.agg #[.string r.letter, .int .i64 r.left, .int .i64 r.right]) false).run Tryz.prog W = .ok (.int .i64 (ks.idxOf r : Nat)) W := h.mp.yes hk hr false
def zfm (w : World) (b : Nat) (N : List Bool) : Prop := w.rowIs b 4 N.length fun i => .bool (N.getD i false)
def zdo (w : World) (b : Nat) (l : List Int) : Prop := w.rowIs b 2 l.length fun i => .int .i64 (l.getD i 0)
theorem zfm.made (w : World) (n : Nat) : zfm (w.alloc (.cells (madeCells #[.bool false] n) 4)) w.heap.size (List.replicate n false) := by
 have h := World.rowIs_made w (.bool false) n 4; unfold zfm; rw [List.length_replicate]; exact h.congr fun i hi => by simp [yg, hi]
theorem zdo.made (w : World) (n : Nat) : zdo (w.alloc (.cells (madeCells #[.int .i64 0] n) 2)) w.heap.size (List.replicate n 0) := by
 have h := World.rowIs_made w (.int .i64 0) n 2; unfold zdo; rw [List.length_replicate]; exact h.congr fun i hi => by simp [yg, hi]
section
variable {w w' : World} {b : Nat} {N : List Bool} {l : List Int}
theorem zfm.set (h : zfm w b N) (i : Nat) (x : Bool) : zfm (w.setCell ⟨b, i, none⟩ (.bool x)) b (N.set i x) := by
 have h2 := World.rowIs.set h i (.bool x); unfold zfm; rw [List.length_set]
 exact h2.congr fun j hj => by
  by_cases e : j = i
  · subst e; simp [yg, hj]
  · simp [e, yg, Ne.symm e]
theorem zdo.set (h : zdo w b l) (i : Nat) (x : Int) : zdo (w.setCell ⟨b, i, none⟩ (.int .i64 x)) b (l.set i x) := by
 have h2 := World.rowIs.set h i (.int .i64 x); unfold zdo; rw [List.length_set]
 exact h2.congr fun j hj => by
  by_cases e : j = i
  · subst e; simp [yg, hj]
  · simp [e, yg, Ne.symm e]
theorem zfm.lt (h : zfm w b N) : b < w.heap.size := World.rowIs.lt h
theorem zdo.lt (h : zdo w b l) : b < w.heap.size := World.rowIs.lt h
theorem zfm.cell (h : zfm w b N) {i : Nat} (hi : i < N.length) : w.cell? ⟨b, i, none⟩ = some (.bool (N.getD i false)) := World.rowIs.cell h hi
theorem zdo.cell (h : zdo w b l) {i : Nat} (hi : i < l.length) : w.cell? ⟨b, i, none⟩ = some (.int .i64 (l.getD i 0)) := World.rowIs.cell h hi
theorem zfm.frozen (h : zfm w b N) (i : Nat) : w.frozen? ⟨b, i, none⟩ = false := World.rowIs.frozen h i
theorem zdo.frozen (h : zdo w b l) (i : Nat) : w.frozen? ⟨b, i, none⟩ = false := World.rowIs.frozen h i
theorem zfm.alloc (h : zfm w b N) (o : Obj) : zfm (w.alloc o) b N := World.rowIs.alloc h o
theorem zdo.alloc (h : zdo w b l) (o : Obj) : zdo (w.alloc o) b l := World.rowIs.alloc h o
theorem zfm.drew (h : zfm w b N) : zfm w.drew b N := h
theorem zdo.drew (h : zdo w b l) : zdo w.drew b l := h
theorem zfm.below {M : Nat} (h : zfm w b N) (hb : Below M w w') (hlt : b < M) : zfm w' b N := World.rowIs.of_block h (hb.block b hlt)
theorem zdo.below {M : Nat} (h : zdo w b l) (hb : Below M w w') (hlt : b < M) : zdo w' b l := World.rowIs.of_block h (hb.block b hlt)
theorem zdo.kept {row : Option Nat} (h : zdo w b l) (hg : w.grownBy w' row) (hne : some b ≠ row) : zdo w' b l := World.rowIs.of_block h (hg.block b h.lt hne)
theorem zdo.other (h : zdo w b l) {c o : Nat} (hne : b ≠ c) (u : Value) : zdo (w.setCell ⟨c, o, none⟩ u) b l := World.rowIs.setOther h hne u
theorem zdo.not_row {base e s n : Nat} {v : Value} {xs : List Value} (h : zdo w b l) (h' : w.ownsRow base e s v n xs) (hne : 2 ≠ e) : some b ≠ v.ownBlock := fun hb => by
 obtain ⟨c, h1⟩ := zeY h' hb.symm; obtain ⟨c2, h2, _⟩ := h; rw [h1] at h2; have := Option.some.inj h2; injection this with _ h3; exact hne h3.symm
end
theorem zgk {W : World} {B B' o : Nat} {t : TypeId} {v : Value} (h : Boxed W B t v) (hne : B ≠ B') (u : Value) : Boxed (W.setCell ⟨B', o, none⟩ u) B t v := (Below.heap_setCell _ _ _ _ hne).trans h
theorem Boxed.of1 (w : World) (o : Obj) (t : TypeId) (v : Value) : Boxed ((w.alloc o).alloc (.cells #[v] t)).drew (w.heap.size + 1) t v := by
 have := Boxed.new (w.alloc o) t v; rw [show (w.alloc o).heap.size = w.heap.size + 1 by simp] at this; exact this
theorem zdo.of1 (w : World) (o : Obj) (n : Nat) : zdo ((w.alloc o).alloc (.cells (madeCells #[.int .i64 0] n) 2)).drew (w.heap.size + 1) (List.replicate n 0) := by
 have := zdo.made (w.alloc o) n; rw [show (w.alloc o).heap.size = w.heap.size + 1 by simp] at this; exact this
end Go.Proofs.YtdacndamehiglaaGreatDoor
