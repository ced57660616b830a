import Derived.Test.YtejgbfgocaggfaaM10
import Derived.Test.YtejgbfgocaggfaaM9
import Derived.Test.YtejgbfgocaggfaaRows
import Derived.WalkKit
import Derived.ProofKit
import Derived.Below
import Derived.ChangeSame
import Derived.Lib.SmallJoins
import Derived.Carry
import Derived.WideKeyArgs
import Derived.OpenShut
import Derived.Test.YtejgbfgocaggfaaM1
import Derived.Deep.Slices
import Derived.Deep.Fields
namespace Go.Proofs.Ytejgbfgocaggfaa
open Go.RowKit
def cntV (next : List (List Int)) (s : Nat) (w : List UInt8) (S n : Nat) : List Nat := (List.range S).map (fun x => visV next x s (w.take n))
def fstL (next : List (List Int)) (s : Nat) (w : List UInt8) (S n : Nat) : List Int := (List.range S).map (fun x => firstA next s x w n)
theorem range_getD {α : Type} (f : Nat → α) (d : α) {S x : Nat} (h : x < S) : ((List.range S).map f).getD x d = f x := by
  rw [List.getD_eq_getElem?_getD, List.getElem?_map, List.getElem?_range h]; rfl
theorem cntV_len (next : List (List Int)) (s : Nat) (w : List UInt8) (S n : Nat) : (cntV next s w S n).length = S := by simp [cntV]
theorem fstL_len (next : List (List Int)) (s : Nat) (w : List UInt8) (S n : Nat) : (fstL next s w S n).length = S := by simp [fstL]
theorem list_ext {α : Type} (d : α) {a b : List α} (h : a.length = b.length) (e : ∀ x, x < a.length → a.getD x d = b.getD x d) : a = b := by
  apply List.ext_getElem h
  intro i h1 h2
  have := e i h1
  rw [List.getD_eq_getElem?_getD, List.getD_eq_getElem?_getD, List.getElem?_eq_getElem h1, List.getElem?_eq_getElem h2] at this
  exact this
theorem cntV_zero (next : List (List Int)) (s : Nat) (w : List UInt8) (S : Nat) : cntV next s w S 0 = List.replicate S 0 := by
  apply list_ext 0 (by simp [cntV])
  intro x hx
  rw [cntV_len] at hx
  rw [cntV, range_getD _ _ hx, List.getD_eq_getElem?_getD, List.getElem?_replicate_of_lt hx]; rfl
theorem cntV_succ (next : List (List Int)) (s : Nat) {w : List UInt8} (S : Nat) {n : Nat} (h : n < w.length) (_ht : nowA next s w (n + 1) < S) :
    cntV next s w S (n + 1) = (cntV next s w S n).set (nowA next s w (n + 1)) ((cntV next s w S n).getD (nowA next s w (n + 1)) 0 + 1) := by
  apply list_ext 0 (by simp [cntV])
  intro x hx
  rw [cntV_len] at hx
  rw [cntV, range_getD _ _ hx, visV_succ next x s h]
  by_cases e : nowA next s w (n + 1) = x
  · rw [if_pos e, e, List.getD_eq_getElem?_getD, List.getElem?_set_self (by rw [cntV_len]; exact hx), cntV, range_getD _ _ hx]; rfl
  · rw [if_neg e, List.getD_eq_getElem?_getD, List.getElem?_set_ne e, ← List.getD_eq_getElem?_getD, cntV, range_getD _ _ hx]; omega
theorem fstL_zero (next : List (List Int)) (s : Nat) (w : List UInt8) (S : Nat) (_hs : s < S) : fstL next s w S 0 = (List.replicate S (-1)).set s 0 := by
  apply list_ext 0 (by simp [fstL])
  intro x hx
  rw [fstL_len] at hx
  rw [fstL, range_getD _ _ hx, firstA]
  by_cases e : s = x
  · rw [if_pos e, e, List.getD_eq_getElem?_getD, List.getElem?_set_self (by simpa using hx)]; rfl
  · rw [if_neg e, List.getD_eq_getElem?_getD, List.getElem?_set_ne e, List.getElem?_replicate_of_lt hx]; rfl
theorem fstL_succ (next : List (List Int)) (s : Nat) (w : List UInt8) (S n : Nat) (ht : nowA next s w (n + 1) < S) :
    fstL next s w S (n + 1) = if (fstL next s w S n).getD (nowA next s w (n + 1)) 0 < 0 then (fstL next s w S n).set (nowA next s w (n + 1)) ((n + 1 : Nat) : Int) else fstL next s w S n := by
  have e0 : (fstL next s w S n).getD (nowA next s w (n + 1)) 0 = firstA next s (nowA next s w (n + 1)) w n := by rw [fstL, range_getD _ _ ht]
  rw [e0]
  by_cases c : firstA next s (nowA next s w (n + 1)) w n < 0
  · rw [if_pos c]
    apply list_ext 0 (by simp [fstL])
    intro x hx
    rw [fstL_len] at hx
    rw [fstL, range_getD _ _ hx, firstA]
    by_cases e : nowA next s w (n + 1) = x
    · rw [List.getD_eq_getElem?_getD, e, List.getElem?_set_self (by rw [fstL_len]; exact hx), if_pos ⟨e ▸ c, rfl⟩]; rfl
    · rw [List.getD_eq_getElem?_getD, List.getElem?_set_ne e, ← List.getD_eq_getElem?_getD, fstL, range_getD _ _ hx, if_neg (fun h => e h.2)]
  · rw [if_neg c]
    apply list_ext 0 (by simp [fstL])
    intro x hx
    rw [fstL_len] at hx
    rw [fstL, range_getD _ _ hx, firstA, fstL, range_getD _ _ hx, if_neg]
    rintro ⟨h1, h2⟩
    exact c (h2 ▸ h1)
theorem firstA_self (next : List (List Int)) (s : Nat) (w : List UInt8) : ∀ n, firstA next s s w n = 0 := by
  intro n
  induction n with
  | zero => simp [firstA]
  | succ n ih => rw [firstA, ih, if_neg (by omega)]
def finN (a : GAuto) : List Nat := a.finals.map Int.toNat
theorem finN_has {a : GAuto} (ha : autoOk a = true) (t : Nat) : hasB a.finals (t : Int) = decide (t ∈ finN a) := by
  have hf := fin_lt ha
  unfold hasB finN
  by_cases h : t ∈ a.finals.map Int.toNat
  · rw [decide_eq_true h, List.any_eq_true]
    obtain ⟨x, hx, e⟩ := List.mem_map.1 h
    obtain ⟨k, hk⟩ := List.mem_iff_getElem?.1 hx
    have h1 := hf k (List.getElem?_eq_some_iff.1 hk).1
    rw [List.getD_eq_getElem?_getD, hk] at h1
    exact ⟨x, hx, by rw [beq_iff_eq]; have := h1.1; simp at this; omega⟩
  · rw [decide_eq_false h, List.any_eq_false]
    intro x hx he
    apply h
    rw [beq_iff_eq] at he
    exact List.mem_map.2 ⟨x, hx, by omega⟩
theorem finN_nodup {a : GAuto} (ha : autoOk a = true) : (finN a).Nodup := by
  have hf := fin_lt ha
  have hr := fin_rise ha
  have hm : ∀ d i, i + (d + 1) < a.finals.length → a.finals.getD i 0 < a.finals.getD (i + (d + 1)) 0 := by
    intro d
    induction d with
    | zero => intro i h; exact hr i h
    | succ d ih => intro i h; have h1 := ih i (by omega); have h2 := hr (i + (d + 1)) (by omega); rw [show i + (d + 1 + 1) = i + (d + 1) + 1 by omega]; omega
  unfold finN
  rw [List.Nodup, List.pairwise_iff_getElem]
  intro i j hi hj hij e
  rw [List.length_map] at hi hj
  rw [List.getElem_map, List.getElem_map] at e
  have h1 := hm (j - i - 1) i (by omega)
  rw [show i + (j - i - 1 + 1) = j by omega, List.getD_eq_getElem?_getD, List.getD_eq_getElem?_getD, List.getElem?_eq_getElem hi, List.getElem?_eq_getElem hj] at h1
  have h2 := (hf i hi).1
  rw [List.getD_eq_getElem?_getD, List.getElem?_eq_getElem hi] at h2
  simp only [Option.getD_some] at h1 h2
  omega
def accP (a : GAuto) (w : List UInt8) (n : Nat) : Nat := if n = 0 then 0 else accA a.next (finN a) a.start.toNat w (n - 1)
theorem accP_succ (a : GAuto) (ha : autoOk a = true) (w : List UInt8) (n : Nat) : accP a w (n + 1) = accP a w n + if hasB a.finals (nowA a.next a.start.toNat w n : Nat) then 1 else 0 := by
  rw [finN_has ha]
  unfold accP
  rw [if_neg (by omega), Nat.add_sub_cancel]
  cases n with
  | zero =>
    rw [accA, nowA_zero, if_pos rfl, Nat.zero_add]
    by_cases c : a.start.toNat ∈ finN a <;> simp [c]
  | succ n => rw [if_neg (by omega), Nat.add_sub_cancel, accA]; simp
theorem accA_le (next : List (List Int)) (F : List Nat) (s : Nat) (w : List UInt8) : ∀ n, accA next F s w n ≤ n + 1 := by
  intro n
  induction n with
  | zero => rw [accA]; split <;> omega
  | succ n ih => rw [accA]; split <;> omega
theorem count_acc {a : GAuto} (ha : autoOk a = true) {xs : List GRule} {ls : List Int} (hl : lens xs = some ls) :
    timesV a.finals (visOut a xs ls (lastI ls)) + (if hasB a.finals a.start then 1 else 0) = accP a (wordG xs) ((wordG xs).length + 1) := by
  obtain ⟨p0, p1⟩ := autoOk_start ha
  have est : a.start = ((a.start.toNat : Nat) : Int) := by omega
  have h := acc_sum a.next (finN a) (finN_nodup ha) a.start.toNat (wordG xs) (wordG xs).length (Nat.le_refl _)
  have e2 : accP a (wordG xs) ((wordG xs).length + 1) = accA a.next (finN a) a.start.toNat (wordG xs) (wordG xs).length := by
    unfold accP
    rw [if_neg (by omega), Nat.add_sub_cancel]
  have e3 : hasB a.finals a.start = decide (a.start.toNat ∈ finN a) := by
    have := finN_has ha a.start.toNat
    rwa [← est] at this
  rw [e2, ← h, e3]
  have e1 : timesV a.finals (visOut a xs ls (lastI ls)) = ((finN a).map (fun x => visV a.next x a.start.toNat ((wordG xs).take (wordG xs).length))).sum := by
    unfold timesV finN
    rw [List.map_map]
    congr 1
    apply List.map_congr_left
    intro x _
    rw [(vis_read ha hl).2, List.take_of_length_le (Nat.le_refl _)]; rfl
  rw [e1]
  by_cases c : a.start.toNat ∈ finN a <;> simp [c]
theorem visits_cnt {a : GAuto} (ha : autoOk a = true) {xs : List GRule} {ls : List Int} (hl : lens xs = some ls) : visOut a xs ls (lastI ls) = cntV a.next a.start.toNat (wordG xs) a.next.length (wordG xs).length := by
  obtain ⟨h1, h2⟩ := vis_read ha hl
  apply list_ext 0 (by rw [h1, cntV_len])
  intro x hx
  rw [h1] at hx
  rw [h2, cntV, range_getD _ _ hx, List.take_of_length_le (Nat.le_refl _)]
theorem first_is {a : GAuto} (ha : autoOk a = true) {xs : List GRule} {ls : List Int} (hl : lens xs = some ls) {n x : Nat} (hn : lastI ls = n) :
    firstR a xs ls n x = if firstA a.next a.start.toNat x (wordG xs) (wordG xs).length < 0 then .tuple #[.int .i64 0, .int .i64 6] else .tuple #[.int .i64 (firstA a.next a.start.toNat x (wordG xs) (wordG xs).length), .int .i64 0] := by
  obtain ⟨p0, p1⟩ := autoOk_start ha
  have hw := wordG_len hl
  have hwn : (wordG xs).length = n := by omega
  unfold firstR
  by_cases e : (x : Int) = a.start
  · have e2 : x = a.start.toNat := by omega
    rw [if_pos e, e2, firstA_self, if_neg (by omega)]
  · rw [if_neg e]
    have hv : ∀ j : Nat, (visOut a xs ls (j : Int)).getD x 0 = visV a.next x a.start.toNat ((wordG xs).take j) := fun j => by
      rw [(visOut_word ha (by omega) hl (j := (j : Int)) (pieces_mem hl 0 _)).2 x, cut_take, Int.toNat_natCast]
    obtain ⟨f1, f2⟩ := first_least a.next a.start.toNat x (wordG xs) (by omega) n (by omega)
    rw [hwn] at f1 f2
    rw [hv, hwn]
    have hfun : (fun j : Nat => (visOut a xs ls (j : Int)).getD x 0) = fun j => visV a.next x a.start.toNat ((wordG xs).take j) := funext hv
    rw [hfun]
    by_cases c : visV a.next x a.start.toNat ((wordG xs).take n) < 1
    · rw [if_pos c, f1 c, if_pos (by omega)]
    · rw [if_neg c, f2 (by omega), if_neg (by omega)]
def CelI (w : World) (b : Nat) (l : List Int) : Prop := ∃ cur : Array Value, w.heap[b]? = some (.cells cur 2 (0, 0)) ∧ ∀ i, i < l.length → cur[i]? = some (.int .i64 (l.getD i 0))
section
variable {w w' : World} {b : Nat} {l : List Int}
theorem CelI.lt (h : CelI w b l) : b < w.heap.size := by obtain ⟨c, h1, _⟩ := h; exact (Array.getElem?_eq_some_iff.1 h1).1
theorem CelI.cell (h : CelI w b l) {i : Nat} (hi : i < l.length) : w.cell? ⟨b, i, none⟩ = some (.int .i64 (l.getD i 0)) := by
  obtain ⟨c, h1, h2⟩ := h
  simp [World.cell?, h1, h2 i hi]
theorem CelI.frozen (h : CelI w b l) (i : Nat) : w.frozen? ⟨b, i, none⟩ = false := by
  obtain ⟨c, h1, _⟩ := h
  simp [World.frozen?, h1]
theorem CelI.same (h : CelI w b l) (e : w'.heap[b]? = w.heap[b]?) : CelI w' b l := by
  obtain ⟨c, h1, h2⟩ := h
  exact ⟨c, e.trans h1, h2⟩
theorem CelI.set (h : CelI w b l) {i : Nat} (hi : i < l.length) (x : Int) : CelI (w.setCell ⟨b, i, none⟩ (.int .i64 x)) b (l.set i x) := by
  obtain ⟨c, h1, h2⟩ := h
  have hb : i < c.size := (Array.getElem?_eq_some_iff.1 (h2 i hi)).1
  refine ⟨c.setIfInBounds i (.int .i64 x), by simp [World.setCell, Array.getElem?_modify, h1], fun j hj => ?_⟩
  rw [List.length_set] at hj
  rw [Array.getElem?_setIfInBounds]
  by_cases e : i = j
  · subst e
    rw [if_pos rfl, if_pos hb, List.getD_eq_getElem?_getD, List.getElem?_set_self hi]; rfl
  · have e9 : (l.set i x).getD j 0 = l.getD j 0 := by rw [List.getD_eq_getElem?_getD, List.getElem?_set_ne e, ← List.getD_eq_getElem?_getD]
    rw [if_neg e, h2 j hj, e9]
theorem CelI.of_own {base g c n : Nat} (h : OwnInts w base (.slice (some ⟨g, 0, none⟩) n c) l) : CelI w g l := by
  obtain ⟨cur, hc⟩ := own_block h (g := g) rfl
  refine ⟨cur, hc, fun i hi => ?_⟩
  obtain ⟨g', cap, hv, _, _, _, hcell⟩ := OwnInts.at_ h hi
  injection hv with hv
  injection hv with hv
  injection hv with hv
  subst hv
  have h3 := hcell i hi
  simpa [World.cell?, hc] using h3
end
set_option maxRecDepth 100000 in
set_option maxHeartbeats 2000000 in
theorem specStateMaps_any (v vR : Value) (a : GAuto) (xs : List GRule) (ls : List Int) (w : World) (h : AutoV w w.heap.size v a) (hR : Sl RuleE w w.heap.size vR xs) (ha : autoOk a = true) (hg : gramOk xs = true) (hl : lens xs = some ls) :
    Calls Try.prog 32 #[v, .agg #[vR]] w fun e w' => ∃ u, e = .returned (.tuple #[u, .int .i64 0]) ∧ Sl (SliceE IntE) w' w'.heap.size u (mapsOf a.next xs) ∧ Below w.heap.size w w' := by
  have hsm := gram_small1 hg
  have Hsm := Lib.hid hsm
  have hx9 : xs.length ≤ 1099511627776 := by have := (gram_lens hg).1; omega
  have hB := fun o o' => ((Below.refl w.heap.size w).alloc (Nat.le_refl _) o).alloc (by simp) o'
  have HB := Lib.hid hB
  have HR := Lib.hid hR
  have Ha := Lib.hid ha
  have Hl := Lib.hid hl
  clear hB hsm ha hl
  obtain ⟨vF, vN, rfl, hF, hN⟩ := h
  have HF := Lib.hid hF
  have HN := Lib.hid hN
  obtain ⟨AF, cF, rfl, _⟩ := hF
  obtain ⟨AN, cN, rfl, _⟩ := hN
  obtain ⟨AR, cR, rfl, _⟩ := hR
  go_enter Try.func32, Try.ntmps32
  go_wp2_with fail
  refine (l04Ok_any _ _ _ _ a _ (by simp [go_sem]) (by simp [go_sem]) (by simp [go_sem]) (by simp [go_sem]) ((HF.out.below (HB.out _ _)).le (by first | omega | (simp; done) | (simp; omega))) ((HN.out.below (HB.out _ _)).le (by first | omega | (simp; done) | (simp; omega)))).mono ?_
  rintro e w1 ⟨rfl, hw1⟩
  have hb1 := drewN_below hw1
  have z1 : w.heap.size + 1 < w1.heap.size := Nat.lt_of_lt_of_le (by simp) hb1.size
  have z0 : w.heap.size < w1.heap.size := by omega
  have y1 : w1.cell? ⟨w.heap.size + 1, 0, none⟩ = some (.slice AR xs.length cR) := (hb1.cell (p := ⟨w.heap.size + 1, 0, none⟩) (by simp)).trans (by simp [go_sem])
  have a1 : w1.cell? ⟨w.heap.size, 3, none⟩ = some (.slice AN a.next.length cN) := (hb1.cell (p := ⟨w.heap.size, 3, none⟩) (by simp; omega)).trans (by simp [go_sem])
  have B1 := Lib.hid ((HB.out _ _).trans (hb1.mono (by simp; omega)))
  have HR1 := Lib.hid ((HR.out.below B1.out).le (B' := w1.heap.size) (by omega))
  have HN1 := Lib.hid ((HN.out.below B1.out).le (B' := w1.heap.size) (by omega))
  clear hb1 hw1
  rw [Ha.out]
  go_wp2_with fail
  refine (l02Ok_any _ _ _ xs _ y1 z1 HR1.out Hsm.out).mono ?_
  rintro e w2 ⟨rfl, hb2⟩
  have z2 : w.heap.size + 1 < w2.heap.size := Nat.lt_of_lt_of_le z1 hb2.size
  have z20 : w.heap.size < w2.heap.size := by omega
  have y2 := (hb2.cell (p := ⟨w.heap.size + 1, 0, none⟩) z1).trans y1
  have a2 := (hb2.cell (p := ⟨w.heap.size, 3, none⟩) z0).trans a1
  have B2 := Lib.hid (B1.out.trans (hb2.mono (by omega)))
  have HR2 := Lib.hid (HR1.out.up hb2)
  have HN2 := Lib.hid (HN1.out.up hb2)
  clear hb2 y1 a1
  rw [hg]
  go_wp2_with fail
  refine (l04Maps_any _ _ _ _ a xs ls _ HN2.out HR2.out Ha.out Hl.out hx9 y2 z2).mono ?_
  rintro e w3 ⟨u, rfl, hu, hb3⟩
  have B3 := Lib.hid (B2.out.trans (hb3.mono (by omega)))
  have HU := Lib.hid (hu.more (S' := (· < w3.heap.size)) fun _ h => h.2)
  obtain ⟨AU, cU, rfl, _⟩ := hu
  clear hb3
  go_wp2_with fail
  go_ret2
  exact ⟨_, rfl, HU.out, B3.out⟩
theorem RowN.up {w w' : World} {b : Nat} {l : List Nat} (h : RowN w b l) (hb : Below w.heap.size w w') : RowN w' b l := h.same (hb.block b h.lt)
theorem CelI.up {w w' : World} {b : Nat} {l : List Int} (h : CelI w b l) (hb : Below w.heap.size w w') : CelI w' b l := h.same (hb.block b h.lt)
theorem fst_step (next : List (List Int)) (s : Nat) (w : List UInt8) (S m : Nat) (ht : nowA next s w m < S) :
    fstL next s w S m = if (fstL next s w S (m - 1)).getD (nowA next s w m) 0 < 0 then (fstL next s w S (m - 1)).set (nowA next s w m) (m : Int) else fstL next s w S (m - 1) := by
  cases m with
  | zero =>
    rw [if_neg]
    rw [nowA_zero] at ht
    rw [nowA_zero, fstL, range_getD _ _ ht, firstA, if_pos rfl]; omega
  | succ m => rw [Nat.add_sub_cancel]; exact fstL_succ next s w S m ht
theorem bytes_at (W : List UInt8) (p : Nat) (h : p < (⟨W.toArray⟩ : ByteArray).size) : (⟨W.toArray⟩ : ByteArray)[p] = W.getD p 0 := by
  have h' : p < W.length := by
    have e : (⟨W.toArray⟩ : ByteArray).size = W.length := by show W.toArray.size = W.length; simp
    omega
  rw [List.getD_eq_getElem?_getD, List.getElem?_eq_getElem h']
  show (W.toArray)[p]'_ = _
  simp
theorem word_run {a : GAuto} (ha : autoOk a = true) {xs : List GRule} {ls : List Int} (hl : lens xs = some ls) {W : List UInt8} (hW : wordG xs = W) {t : Nat} (ht : t < a.next.length) (hsz : W.length ≤ 2000) : runWC a t ⟨W.toArray⟩ = 0 ∧ runWV a t ⟨W.toArray⟩ = (readW a.next t W : Nat) := by
  have h3 := (autoOk_get ha).2.2.1
  have e1 : inR (t : Int) 0 (a.states - 1) = true := by simp only [inR, Bool.and_eq_true, decide_eq_true_eq]; omega
  have e2 : wordOk ⟨W.toArray⟩ = true := by
    unfold wordOk
    rw [Bool.and_eq_true]
    refine ⟨decide_eq_true (by show ((W.toArray.size : Nat) : Int) ≤ 2000; simp; omega), ?_⟩
    rw [← hW, List.all_eq_true]
    intro c hc
    have := wordG_letters hl c (by simpa using hc)
    simp only [letOk, Bool.and_eq_true, decide_eq_true_eq]; omega
  exact ⟨by simp [runWC, ha, e1, e2], by simp [runWV, ha, e1, e2]⟩
set_option maxRecDepth 100000 in
set_option maxHeartbeats 8000000 in
theorem lawAutoRuns_any (v v' : Value) (l l' : List UInt8) (w : World) (h : Sl ByteE w w.heap.size v l) (h' : Sl ByteE w w.heap.size v' l') :
    Calls Try.prog 6 #[v, v'] w fun r w' => r = .returned (.bool true) ∧ Below w.heap.size w w' := by
  have HL := Lib.hid h
  have HM := Lib.hid h'
  obtain ⟨A, c, rfl, _⟩ := h
  obtain ⟨A', c', rfl, _⟩ := h'
  go_enter Try.func6, Try.ntmps6
  by_cases hl1 : (4096 : Int) < l.length
  · have e1 : decide ((4096 : Int) < l.length) = true := decide_eq_true hl1
    have F1 := Lib.hid (fun w h => f6big_any (.slice A l.length c) l w h)
    go_wp2_with fail
    refine (F1.out _ HL.out).mono ?_
    rintro r w0 ⟨rfl, rfl⟩
    rw [e1]
    go_wp2_with fail
    go_ret
    exact ⟨rfl, Below.refl _ _⟩
  have e1 : decide ((4096 : Int) < l.length) = false := decide_eq_false hl1
  by_cases hl2 : (4096 : Int) < l'.length
  · have e2 : decide ((4096 : Int) < l'.length) = true := decide_eq_true hl2
    go_wp2_with fail
    refine (f6big_any _ l _ HL.out).mono ?_
    rintro r w0 ⟨rfl, rfl⟩
    rw [e1]
    go_wp2_with fail
    refine (f6big_any _ l' _ HM.out).mono ?_
    rintro r w0 ⟨rfl, rfl⟩
    rw [e2]
    go_wp2_with fail
    go_ret
    exact ⟨rfl, Below.refl _ _⟩
  have e2 : decide ((4096 : Int) < l'.length) = false := decide_eq_false hl2
  go_wp2_with fail
  refine (f6big_any _ l _ HL.out).mono ?_
  rintro r w0 ⟨rfl, rfl⟩
  rw [e1]
  go_wp2_with fail
  refine (f6big_any _ l' _ HM.out).mono ?_
  rintro r w0 ⟨rfl, rfl⟩
  rw [e2]
  clear hl1 hl2 e1 e2
  go_wp2_with fail
  refine (P6Auto_any _ l' _ HM.out).mono ?_
  rintro r w1 ⟨u, a, rfl, hV, hok, hb⟩
  have Ha := Lib.hid hok
  obtain ⟨h1, h2, h3, _⟩ := autoOk_get hok
  obtain ⟨h4, h5⟩ := autoOk_start hok
  obtain ⟨S, hS⟩ : ∃ S, a.next.length = S := ⟨_, rfl⟩
  have HS := Lib.hid hS
  have hst : a.states = (S : Int) := by omega
  have hS24 : S ≤ 24 := by omega
  have Hst := Lib.hid hst
  obtain ⟨s0, hs0⟩ := Int.eq_ofNat_of_zero_le h4
  have Hs0 := Lib.hid hs0
  obtain ⟨vF, vN, rfl, hF, hN⟩ := (id hV : AutoV w1 w1.heap.size u a)
  obtain ⟨AF, cF, rfl, _⟩ := hF
  obtain ⟨AN, cN, rfl, _⟩ := hN
  rw [hs0, hst] at hV
  rw [hs0, hst]
  clear hok h1 h2 h3 h4 h5 hS hst hs0
  have HB0 := Lib.hid (Below.refl w.heap.size w)
  have hVA := hV
  have ba := hb.alloc hb.size (Obj.cells #[.int .i64 (S : Int), .int .i64 (s0 : Int), .slice AF a.finals.length cF, .slice AN a.next.length cN] 45)
  have b1 := (Below.refl _ w1).alloc (Nat.le_refl _) (Obj.cells #[.int .i64 (S : Int), .int .i64 (s0 : Int), .slice AF a.finals.length cF, .slice AN a.next.length cN] 45)
  have nK := Blk.new w1 #[.int .i64 (S : Int), .int .i64 (s0 : Int), .slice AF a.finals.length cF, .slice AN a.next.length cN] 45
  have nVA := (hVA).up b1
  have HB1 := Lib.hid (Below.tr HB0.out ba)
  clear HB0
  have KA1 := Lib.hid nK
  have VA1 := Lib.hid nVA
  clear nK ba b1 hb nVA
  go_upto_region 4 with fail
  generalize (w1.alloc (Obj.cells #[.int .i64 (S : Int), .int .i64 (s0 : Int), .slice AF a.finals.length cF, .slice AN a.next.length cN] 45)) = W1 at KA1 VA1 HB1 ⊢
  go_wp2_with fail
  refine (P6Grammar_any _ l _ (HL.out.up HB1.out)).mono ?_
  rintro r w2 ⟨u2, xs, rfl, hsl, hdr, hb⟩
  obtain ⟨AX, cX, rfl, _⟩ := (id hsl : Sl RuleE w2 w2.heap.size u2 xs)
  obtain ⟨d1, d2, d3, d4⟩ := drawnW hdr (by omega) (by omega)
  have HG := Lib.hid hdr.1
  have HSX := Lib.hid hdr.2.2.2
  obtain ⟨h400, lx, hlx⟩ := gram_lens hdr.1
  have HX := Lib.hid hlx
  obtain ⟨W, hW⟩ : ∃ W, wordG xs = W := ⟨_, rfl⟩
  rw [hW] at d1 d3 d4
  have HW := Lib.hid hW
  have D1 := Lib.hid d1
  have D2 := Lib.hid d2
  obtain ⟨N, hN⟩ : ∃ N, W.length = N := ⟨_, rfl⟩
  have HNl := Lib.hid hN
  have hN8 : N ≤ 8 := by rw [hN] at d4; omega
  have hx9 : xs.length ≤ 1099511627776 := by omega
  clear hdr hlx d1 d2 d3 d4 hW hN
  have ba := hb.alloc hb.size (Obj.cells #[.slice AX xs.length cX] 31)
  have b1 := (Below.refl _ w2).alloc (Nat.le_refl _) (Obj.cells #[.slice AX xs.length cX] 31)
  have nK := Blk.new w2 #[.slice AX xs.length cX] 31
  have nSG := (hsl).up b1
  have KA2 := Lib.hid (KA1.out.up ba)
  have VA2 := Lib.hid (VA1.out.up ba)
  have HB2 := Lib.hid (Below.tr HB1.out ba)
  clear KA1 VA1 HB1
  have KG2 := Lib.hid nK
  have SG2 := Lib.hid nSG
  clear nK ba b1 hb nSG
  go_upto_region 5 with fail
  generalize (w2.alloc (Obj.cells #[.slice AX xs.length cX] 31)) = W2 at KA2 VA2 KG2 SG2 HB2 ⊢
  have cA0 := Blk.cell (i := 0) (v := .int .i64 (S : Int)) KA2.out rfl
  have cA1 := Blk.cell (i := 1) (v := .int .i64 (s0 : Int)) KA2.out rfl
  have cA2 := Blk.cell (i := 2) (v := .slice AF a.finals.length cF) KA2.out rfl
  have cA3 := Blk.cell (i := 3) (v := .slice AN a.next.length cN) KA2.out rfl
  have lA := Blk.lt KA2.out
  go_wp2_with fail
  refine (P6Pick_any _ l' _ _ (HM.out.up HB2.out)).mono ?_
  rintro r w4 ⟨t, rfl, ht, _, hb⟩
  have htS : t < S := by have := HS.out; have h1 := (autoOk_start Ha.out); omega
  have KA3 := Lib.hid (KA2.out.up hb)
  have VA3 := Lib.hid (VA2.out.up hb)
  have KG3 := Lib.hid (KG2.out.up hb)
  have SG3 := Lib.hid (SG2.out.up hb)
  have HB3 := Lib.hid (Below.tr HB2.out hb)
  clear KA2 VA2 KG2 SG2 HB2
  clear hb ht cA0 cA1 cA2 cA3 lA
  have cG0 := Blk.cell (i := 0) (v := .slice AX xs.length cX) KG3.out rfl
  have lG := Blk.lt KG3.out
  go_wp2_with fail
  refine (specUnpackWord_any _ xs _ SG3.out HSX.out).mono ?_
  rintro r w5 ⟨rfl, hb⟩
  rw [D1.out, D2.out]
  obtain ⟨sW, hsW⟩ : ∃ s : ByteArray, (⟨W.toArray⟩ : ByteArray) = s := ⟨_, rfl⟩
  rw [hsW]
  have HsW := Lib.hid hsW
  have KA4 := Lib.hid (KA3.out.up hb)
  have VA4 := Lib.hid (VA3.out.up hb)
  have KG4 := Lib.hid (KG3.out.up hb)
  have SG4 := Lib.hid (SG3.out.up hb)
  have HB4 := Lib.hid (Below.tr HB3.out hb)
  clear KA3 VA3 KG3 SG3 HB3
  clear hb cG0 lG
  have htS2 : t < a.next.length := by rw [HS.out]; exact htS
  obtain ⟨q1, q2⟩ := rg_read Ha.out HG.out HX.out htS2
  rw [HW.out] at q2
  have Q1 := Lib.hid q1
  have Q2 := Lib.hid q2
  obtain ⟨z, hz⟩ : ∃ z, readW a.next t W = z := ⟨_, rfl⟩
  rw [hz] at Q2
  have Hz := Lib.hid hz
  clear q1 q2 hz
  have cA0 := Blk.cell (i := 0) (v := .int .i64 (S : Int)) KA4.out rfl
  have cA1 := Blk.cell (i := 1) (v := .int .i64 (s0 : Int)) KA4.out rfl
  have cA2 := Blk.cell (i := 2) (v := .slice AF a.finals.length cF) KA4.out rfl
  have cA3 := Blk.cell (i := 3) (v := .slice AN a.next.length cN) KA4.out rfl
  have lA := Blk.lt KA4.out
  have cG0 := Blk.cell (i := 0) (v := .slice AX xs.length cX) KG4.out rfl
  have lG := Blk.lt KG4.out
  go_wp2_with fail
  refine (implRunGrammar_any _ _ a (t : Int) xs _ VA4.out SG4.out hx9).mono ?_
  rintro r w6 ⟨rfl, hb⟩
  rw [Q1.out, Q2.out]
  have KA5 := Lib.hid (KA4.out.up hb)
  have VA5 := Lib.hid (VA4.out.up hb)
  have KG5 := Lib.hid (KG4.out.up hb)
  have SG5 := Lib.hid (SG4.out.up hb)
  have HB5 := Lib.hid (Below.tr HB4.out hb)
  clear KA4 VA4 KG4 SG4 HB4
  clear hb cA0 cA1 cA2 cA3 lA cG0 lG
  have hWs : sW.size = N := by rw [← hsW, ← HNl.out]; show W.toArray.size = W.length; simp
  have hat : ∀ p (h : p < sW.size), sW[p] = W.getD p 0 := by subst hsW; intro p h; exact bytes_at W p h
  have Hat := Lib.hid hat
  clear hat hsW
  have HWs := Lib.hid hWs
  clear hWs
  obtain ⟨r1, r2⟩ := word_run Ha.out HX.out HW.out htS2 (by rw [HNl.out]; omega)
  rw [Hz.out, HsW.out] at r2
  rw [HsW.out] at r1
  have R1 := Lib.hid r1
  have R2 := Lib.hid r2
  clear r1 r2 htS2
  have cA0 := Blk.cell (i := 0) (v := .int .i64 (S : Int)) KA5.out rfl
  have cA1 := Blk.cell (i := 1) (v := .int .i64 (s0 : Int)) KA5.out rfl
  have cA2 := Blk.cell (i := 2) (v := .slice AF a.finals.length cF) KA5.out rfl
  have cA3 := Blk.cell (i := 3) (v := .slice AN a.next.length cN) KA5.out rfl
  have lA := Blk.lt KA5.out
  go_wp2_with fail
  refine (implRunWord_any _ a (t : Int) _ _ VA5.out (by rw [HWs.out]; unfold maxLen; omega)).mono ?_
  rintro r w7 ⟨rfl, hb⟩
  rw [R1.out, R2.out]
  have KA6 := Lib.hid (KA5.out.up hb)
  have VA6 := Lib.hid (VA5.out.up hb)
  have KG6 := Lib.hid (KG5.out.up hb)
  have SG6 := Lib.hid (SG5.out.up hb)
  have HB6 := Lib.hid (Below.tr HB5.out hb)
  clear KA5 VA5 KG5 SG5 HB5
  clear hb cA0 cA1 cA2 cA3 lA
  have cA0 := Blk.cell (i := 0) (v := .int .i64 (S : Int)) KA6.out rfl
  have cA1 := Blk.cell (i := 1) (v := .int .i64 (s0 : Int)) KA6.out rfl
  have cA2 := Blk.cell (i := 2) (v := .slice AF a.finals.length cF) KA6.out rfl
  have cA3 := Blk.cell (i := 3) (v := .slice AN a.next.length cN) KA6.out rfl
  have lA := Blk.lt KA6.out
  have cG0 := Blk.cell (i := 0) (v := .slice AX xs.length cX) KG6.out rfl
  have lG := Blk.lt KG6.out
  go_wp2_with fail
  refine (implStateMaps_any _ _ a xs lx _ VA6.out SG6.out Ha.out HG.out HX.out).mono ?_
  rintro r wm ⟨um, rfl, hM, hb⟩
  have HMm := Lib.hid hM
  obtain ⟨Am, cm, rfl, _⟩ := hM
  have KA7 := Lib.hid (KA6.out.up hb)
  have VA7 := Lib.hid (VA6.out.up hb)
  have KG7 := Lib.hid (KG6.out.up hb)
  have SG7 := Lib.hid (SG6.out.up hb)
  have HB7 := Lib.hid (Below.tr HB6.out hb)
  clear KA6 VA6 KG6 SG6 HB6
  have Um7 := HMm
  clear hb cA0 cA1 cA2 cA3 lA cG0 lG
  have cA0 := Blk.cell (i := 0) (v := .int .i64 (S : Int)) KA7.out rfl
  have cA1 := Blk.cell (i := 1) (v := .int .i64 (s0 : Int)) KA7.out rfl
  have cA2 := Blk.cell (i := 2) (v := .slice AF a.finals.length cF) KA7.out rfl
  have cA3 := Blk.cell (i := 3) (v := .slice AN a.next.length cN) KA7.out rfl
  have lA := Blk.lt KA7.out
  have cG0 := Blk.cell (i := 0) (v := .slice AX xs.length cX) KG7.out rfl
  have lG := Blk.lt KG7.out
  go_wp2_with fail
  refine (specStateMaps_any _ _ a xs lx _ VA7.out SG7.out Ha.out HG.out HX.out).mono ?_
  rintro r wd ⟨ud, rfl, hM, hb⟩
  have HMd := Lib.hid hM
  obtain ⟨Ad, cd, rfl, _⟩ := hM
  have KA8 := Lib.hid (KA7.out.up hb)
  have VA8 := Lib.hid (VA7.out.up hb)
  have KG8 := Lib.hid (KG7.out.up hb)
  have SG8 := Lib.hid (SG7.out.up hb)
  have Um8 := Lib.hid (Um7.out.up hb)
  have HB8 := Lib.hid (Below.tr HB7.out hb)
  clear KA7 VA7 KG7 SG7 Um7 HB7
  have Ud8 := HMd
  clear hb cA0 cA1 cA2 cA3 lA cG0 lG
  have hzz : ((z : Int) != (z : Int)) = false := by simp
  have HR := Lib.hid (f6rows_any _ _ _ _ Um8.out Ud8.out)
  go_wp2_with fail
  refine HR.out.mono ?_
  rintro r w8 ⟨rfl, jj, rfl⟩
  have hb := below_drewN (Below.refl wd.heap.size wd) jj
  have KA9 := Lib.hid (KA8.out.up hb)
  have VA9 := Lib.hid (VA8.out.up hb)
  have KG9 := Lib.hid (KG8.out.up hb)
  have SG9 := Lib.hid (SG8.out.up hb)
  have HB9 := Lib.hid (Below.tr HB8.out hb)
  clear KA8 VA8 KG8 SG8 HB8
  clear hb hzz HR HMm HMd
  generalize hW8 : wd.drewN jj = W8 at KA9 VA9 KG9 SG9 HB9 ⊢
  clear hW8
  have SVKA := KA9
  have SVVA := VA9
  have SVKG := KG9
  have SVSG := SG9
  have SVHB := HB9
  have hmkI : ∀ W : World, (Instr.makeSlice 26 (.int .i64 (S : Int)) (.int .i64 (S : Int))).run Try.prog W = .ok (.slice (some ⟨W.heap.size, 0, none⟩) S S) (W.alloc (.cells (madeCells #[.int .i64 0] S) 2)) :=
    fun W => run_make_row' _ _ _ 8 Try.underlying26 Try.infoI rfl .i64 .i64 S (by omega) (by omega) W
  have cA0 := Blk.cell (i := 0) (v := .int .i64 (S : Int)) KA9.out rfl
  have cA1 := Blk.cell (i := 1) (v := .int .i64 (s0 : Int)) KA9.out rfl
  have cA2 := Blk.cell (i := 2) (v := .slice AF a.finals.length cF) KA9.out rfl
  have cA3 := Blk.cell (i := 3) (v := .slice AN a.next.length cN) KA9.out rfl
  have lA := Blk.lt KA9.out
  go_upto_region 14 with fail
  have ba := (Below.refl W8.heap.size W8).alloc (Nat.le_refl _) (.cells (madeCells #[.int .i64 0] S) 2)
  have nC := RowN.made W8 S
  obtain ⟨BC, hBC⟩ : ∃ n, W8.heap.size = n := ⟨_, rfl⟩
  have KA10 := Lib.hid (KA9.out.up ba)
  have VA10 := Lib.hid (VA9.out.up ba)
  have KG10 := Lib.hid (KG9.out.up ba)
  have SG10 := Lib.hid (SG9.out.up ba)
  have HB10 := Lib.hid (Below.tr HB9.out ba)
  clear KA9 VA9 KG9 SG9 HB9
  rw [hBC] at nC
  rw [hBC]
  generalize (W8.alloc (.cells (madeCells #[.int .i64 0] S) 2)) = W9 at ba nC KA10 VA10 KG10 SG10 HB10 ⊢
  have HC := Lib.hid nC
  have HBC := Lib.hid hBC
  have HBa := Lib.hid ba
  have hz9 : BC < W9.heap.size := HC.out.lt
  clear nC hBC hmkI cA0 cA1 cA2 cA3 lA
  have cA0 := Blk.cell (i := 0) (v := .int .i64 (S : Int)) KA10.out rfl
  have cA1 := Blk.cell (i := 1) (v := .int .i64 (s0 : Int)) KA10.out rfl
  have cA2 := Blk.cell (i := 2) (v := .slice AF a.finals.length cF) KA10.out rfl
  have cA3 := Blk.cell (i := 3) (v := .slice AN a.next.length cN) KA10.out rfl
  have lA := Blk.lt KA10.out
  go_wp2_with fail
  go_loopw [19, 20] (fun q i wx => ∃ k : Nat, k ≤ S ∧ i = .int .i64 k ∧ OwnInts wx W9.heap.size q (List.replicate k (-1)) ∧ Below W9.heap.size W9 wx) (fun _ i _ => S - (intOf i).toNat)
  case atStart => exact ⟨0, Nat.zero_le _, rfl, OwnInts.empty rfl (Nat.le_refl _), (Below.refl _ _).alloc (Nat.le_refl _) _⟩
  case round =>
    obtain ⟨k, hk, rfl, hown, hb⟩ := hrel
    have HO := Lib.hid hown
    have HBk := Lib.hid hb
    obtain ⟨Aq, cq, rfl, _⟩ := own_nil hown
    have hkl : (List.replicate k (-1 : Int)).length = k := by simp
    have cA := (hb.cell (p := ⟨w1.heap.size, 0, none⟩) lA).trans cA0
    have cA1' := (hb.cell (p := ⟨w1.heap.size, 1, none⟩) lA).trans cA1
    have zA := Nat.lt_of_lt_of_le lA hb.size
    have hzb := hb.size
    by_cases hkS : k < S
    · have hks2 : (k : Int) < (S : Int) := by omega
      have hL9 : (List.replicate k (-1 : Int)).length ≤ 1099511627776 := by rw [hkl]; omega
      clear hown hb hkl
      go_wp2_with (first | (at_builtin; refine push_ints (base := W9.heap.size) (l := List.replicate k (-1)) (y := (-1 : Int)) rfl _ _ rfl rfl rfl rfl HO.out hL9 hzb ?_; intro v6 w6 own6 hg6 hb6))
      go_roundw
      case rel => exact ⟨k + 1, by omega, by go_num, by rw [List.replicate_succ']; exact own6, HBk.out.trans hb6⟩
      case measure => simp [intOf]; omega
    · have hkk : k = S := by omega
      subst hkk
      have hSpos : 0 < k := by omega
      obtain ⟨g, cap, hv, hg1, hg2, _, _⟩ := OwnInts.at_ HO.out (j := 0) (by rw [hkl]; omega)
      injection hv with hv _ hcap
      subst hv hcap
      have hCel := CelI.of_own HO.out
      rw [hkl]
      have cF := hCel.cell (i := s0) (by rw [hkl]; have := Hs0.out; have := autoOk_start Ha.out; have := HS.out; omega)
      have fF := hCel.frozen s0
      have lF := hCel.lt
      have hs0k : s0 < k := by have := Hs0.out; have := autoOk_start Ha.out; have := HS.out; omega
      have hs0i : (s0 : Int) < (k : Int) := by omega
      have HCel := Lib.hid (hCel.set (i := s0) (by rw [hkl]; omega) 0)
      have HC2 := Lib.hid ((HC.out.same (hb.block BC hz9)).other (c := g) (o := s0) (by omega) (.int .i64 0))
      have HBs := Lib.hid (show Below W8.heap.size W8 (wr.setCell ⟨g, s0, none⟩ (.int .i64 0)) from (HBa.out.trans (hb.mono (by have := HBa.out.size; omega))).setCell (by have := HBC.out; show W8.heap.size ≤ g; omega) _)
      have es0 : a.start.toNat = s0 := by have := Hs0.out; omega
      have Es0 := Lib.hid es0
      have Hgl := Lib.hid (show BC < g from by omega)
      have E0 : Hid ((List.replicate k (-1 : Int)).set s0 0 = fstL a.next s0 W k 0) := (fstL_zero a.next s0 W k hs0k).symm
      have E1 : Hid (List.replicate k 0 = cntV a.next s0 W k 0) := (cntV_zero a.next s0 W k).symm
      clear hCel hown hb hg1 hg2 hkl HO HBk es0 hzb
      go_upto_region 20 with fail
      generalize wr.setCell ⟨g, s0, none⟩ (.int .i64 0) = W10 at *
      clear cF fF lF zA
      have cA2 := Blk.cell (i := 1) (v := .int .i64 (s0 : Int)) (SVKA.out.up HBs.out) rfl
      have lA2 := Blk.lt (SVKA.out.up HBs.out)
      have hCl : ∀ n, (cntV a.next s0 W k n).length = k := fun n => cntV_len _ _ _ _ _
      have hFl : ∀ n, (fstL a.next s0 W k n).length = k := fun n => fstL_len _ _ _ _ _
      have HCl := Lib.hid hCl
      have HFl := Lib.hid hFl
      clear cA cA1' cA0 cA1 cA3 lA hCl hFl
      go_wp2_with fail
      go_loopw [21, 22, 23] (fun q c i wx => ∃ m : Nat, m ≤ N + 1 ∧ i = .int .i64 m ∧ q = .int .i64 (nowA a.next s0 W (m - 1) : Nat) ∧ c = .int .i64 (accP a W m : Nat) ∧ RowN wx BC (cntV a.next s0 W k (m - 1)) ∧ CelI wx g (fstL a.next s0 W k (m - 1)) ∧ Below W8.heap.size W8 wx) (fun _ _ i _ => N + 1 - (intOf i).toNat)
      case atStart =>
        refine ⟨0, Nat.zero_le _, rfl, rfl, rfl, ?_, ?_, HBs.out⟩
        · rw [← E1.out]; exact HC2.out
        · rw [← E0.out]; exact HCel.out
      case round =>
        obtain ⟨m, hm, rfl, rfl, rfl, hrC, hrF, hb⟩ := hrel
        have HRC := Lib.hid hrC
        have HRF := Lib.hid hrF
        have HBm := Lib.hid hb
        clear hrC hrF hb
        by_cases hmN : m ≤ N
        · have hmN2 : (m : Int) ≤ (sW.size : Int) := by rw [HWs.out]; omega
          have hnow : ∀ n, nowA a.next s0 W n < k := fun n => by rw [← HS.out]; exact readW_lt Ha.out _ _ (fun c hc => wordG_letters HX.out c (by rw [HW.out]; exact List.mem_of_mem_take hc)) (by rw [HS.out]; exact hs0k)
          have Hnow := Lib.hid hnow
          have kA := SVKA.out.up HBm.out
          have cA3 := Blk.cell (i := 3) (v := .slice AN a.next.length cN) kA rfl
          have lA3 := Blk.lt kA
          clear hnow kA
          go_upto_if 134 with fail
          go_cut [21] (fun q wx => q = .int .i64 (nowA a.next s0 W m : Nat) ∧ RowN wx BC (cntV a.next s0 W k m) ∧ CelI wx g (fstL a.next s0 W k (m - 1)) ∧ Below W8.heap.size W8 wx)
          case first =>
            cases m with
            | zero =>
              go_wp2_with fail
              go_meet
              exact ⟨rfl, HRC.out, HRF.out, HBm.out⟩
            | succ p =>
              rw [Nat.add_sub_cancel] at HRC HRF ⊢
              have hpN : p < W.length := by rw [HNl.out]; omega
              have hlet := wordG_letters HX.out (W.getD p 0) (by rw [HW.out, List.getD_eq_getElem?_getD, List.getElem?_eq_getElem hpN]; exact List.getElem_mem _)
              obtain ⟨d, hd⟩ : ∃ d, (W.getD p 0).toNat = 97 + d := ⟨(W.getD p 0).toNat - 97, by omega⟩
              have hd4 : d < 4 := by omega
              have hns := nowA_succ a.next s0 hpN
              rw [show (W.getD p 0).toNat - 97 = d by omega] at hns
              obtain ⟨vF, vN, eV, _, hN2⟩ := SVVA.out.up HBm.out
              injection eV with eV
              simp at eV
              obtain ⟨ev1, ev2, ev3, rfl⟩ := eV
              clear ev1 ev2 ev3
              obtain ⟨AN2, cN2, eN, _, _, hrowN⟩ := hN2
              injection eN with eN enl ecN
              subst eN ecN
              clear enl
              have htk := Hnow.out p
              obtain ⟨tt, htt⟩ : ∃ tt, nowA a.next s0 W p = tt := ⟨_, rfl⟩
              rw [htt] at hns htk
              have n4 := (autoOk_get Ha.out).2.2.2
              obtain ⟨r1, r2⟩ := n4 tt (by rw [HS.out]; exact htk)
              obtain ⟨bN, oN, rfl, hbN, hcells⟩ := cells2 hrowN (by rw [HS.out]; omega)
              obtain ⟨b3, o3, c3, e1, e2, e3⟩ := hcells tt d (by rw [HS.out]; exact htk) (by rw [r1]; exact hd4)
              rw [r1] at e1
              have hpS : p < sW.size := by rw [HWs.out]; omega
              have h8 : IntKind.u8.wrap ((sW[p].toNat : Int) - 97) = (d : Int) := by rw [Hat.out p hpS, hd, IntWalk.u8_in _ (by omega)]; omega
              have hst : (a.next.getD tt []).getD d 0 = ((stepW a.next tt d : Nat) : Int) := by have := (r2 d hd4).1; unfold stepW; omega
              rw [hst, ← hns] at e3
              have ht2 := Hnow.out (p + 1)
              have Hcs := Lib.hid (cntV_succ a.next s0 k hpN ht2)
              have htti : (tt : Int) < (a.next.length : Int) := by rw [HS.out]; omega
              have hdi : (d : Int) < 4 := by omega
              have hpi : (p : Int) < (sW.size : Int) := by omega
              obtain ⟨t2, ht2e⟩ : ∃ t2, nowA a.next s0 W (p + 1) = t2 := ⟨_, rfl⟩
              rw [ht2e] at e3 ht2 Hcs
              rw [htt]
              have Ht2 := Lib.hid ht2e
              have hbN' : bN < wr.heap.size := hbN
              have hb3' : b3 < wr.heap.size := e2
              clear hcells hrowN r1 r2 n4 hns hst hd hlet htt ht2e hpN e2 hbN
              go_wp2_with fail
              go_quiet (fail)
              have HRC2 := Lib.hid (HRC.out.same (w' := wr.drewN nq) rfl)
              have HRF2 := Lib.hid (HRF.out.same (w' := wr.drewN nq) rfl)
              have HB2 := Lib.hid (below_drewN HBm.out nq)
              clear e1 e3 h8 cA3 lA3 hbN' hb3' hdi htti
              generalize wr.drewN nq = wq at *
              have xC := HRC2.out.cell (i := t2) (by rw [HCl.out]; exact ht2)
              have xF := HRC2.out.frozen t2
              have xl := HRC2.out.lt
              have hti2 : (t2 : Int) < (k : Int) := by omega
              obtain ⟨y, hy⟩ : ∃ y, (cntV a.next s0 W k p).getD t2 0 = y := ⟨_, rfl⟩
              have hy8 : y ≤ 8 := by
                rw [← hy, cntV, range_getD _ _ ht2]
                have := visV_le a.next t2 (W.take p) s0
                rw [List.length_take, HNl.out] at this; omega
              rw [hy] at xC Hcs
              have hwy : IntKind.i64.wrap ((y : Int) + 1) = (y : Int) + 1 := IntWalk.i64_in _ (by omega)
              have HRC3 := Lib.hid (HRC2.out.set (i := t2) (by rw [HCl.out]; exact ht2) (y + 1))
              have HRF3 := Lib.hid (HRF2.out.same (Below.heap_setCell wq ⟨BC, t2, none⟩ (.int .i64 ((y + 1 : Nat) : Int)) g (by have := Hgl.out; show g ≠ BC; omega)))
              have HB3 := Lib.hid (HB2.out.setCell (p := ⟨BC, t2, none⟩) (by have := HBC.out; show W8.heap.size ≤ BC; omega) (.int .i64 ((y + 1 : Nat) : Int)))
              rw [← Hcs.out] at HRC3
              clear hy
              go_wp2_with fail
              go_meet
              exact ⟨by rw [Ht2.out], HRC3.out, HRF3.out, HB3.out⟩
          case rest =>
            revert hcut
            generalize wc = wa
            intro hcut
            obtain ⟨rfl, h1, h2, h3⟩ := hcut
            have HCa := Lib.hid h1
            have HFa := Lib.hid h2
            have HBa2 := Lib.hid h3
            have hq := Hnow.out m
            have Hfs := Lib.hid (fst_step a.next s0 W k m hq)
            obtain ⟨q, hqe⟩ : ∃ q, nowA a.next s0 W m = q := ⟨_, rfl⟩
            rw [hqe] at hq Hfs
            rw [hqe]
            have Hq := Lib.hid hqe
            have hqi : (q : Int) < (k : Int) := by omega
            obtain ⟨x, hx⟩ : ∃ x, (fstL a.next s0 W k (m - 1)).getD q 0 = x := ⟨_, rfl⟩
            have xF := h2.cell (i := q) (by rw [HFl.out]; exact hq)
            rw [hx] at xF Hfs
            have fF := h2.frozen q
            have lF := h2.lt
            have HFs2 := Lib.hid (h2.set (i := q) (by rw [HFl.out]; exact hq) (m : Int))
            clear h1 h2 h3 hqe hx cA3 lA3 HRC HRF HBm
            go_upto_if 157 with fail
            go_cut [] (fun wx => RowN wx BC (cntV a.next s0 W k m) ∧ CelI wx g (fstL a.next s0 W k m) ∧ Below W8.heap.size W8 wx)
            case first =>
              by_cases hx0 : x < 0
              · have e1 := Hfs.out
                rw [if_pos hx0] at e1
                have E9 := Lib.hid e1
                clear e1
                go_wp2_with fail
                go_meet
                refine ⟨HCa.out.other (by have := Hgl.out; omega) _, ?_, HBa2.out.setCell (p := ⟨g, q, none⟩) (by have := HBC.out; have := Hgl.out; show W8.heap.size ≤ g; omega) _⟩
                rw [E9.out]; exact HFs2.out
              · have e1 := Hfs.out
                rw [if_neg hx0] at e1
                have E9 := Lib.hid e1
                have hx1 : decide (x < 0) = false := decide_eq_false hx0
                clear e1
                go_wp2_with fail
                go_meet
                exact ⟨HCa.out, by rw [E9.out]; exact HFa.out, HBa2.out⟩
            case rest =>
              revert hcut
              generalize wc = wb
              intro hcut
              obtain ⟨h1, h2, h3⟩ := hcut
              have HCb := Lib.hid h1
              have HFb := Lib.hid h2
              have HBb := Lib.hid h3
              have kA := Lib.hid (SVKA.out.up h3)
              have vA := Lib.hid (SVVA.out.up h3)
              have kG := Lib.hid (SVKG.out.up h3)
              have sG := Lib.hid (SVSG.out.up h3)
              have hfin : Sl IntE wb wb.heap.size (.slice AF a.finals.length cF) a.finals := by
                obtain ⟨vF, vN, e, q1, _⟩ := vA.out
                injection e with e; simp at e; obtain ⟨_, _, rfl, _⟩ := e; exact q1
              have Hfin := Lib.hid hfin
              have cA2f := Blk.cell (i := 2) (v := .slice AF a.finals.length cF) kA.out rfl
              have lAf := Blk.lt kA.out
              have hac := accP_succ a Ha.out W m
              rw [Es0.out, Hq.out] at hac
              have Hac := Lib.hid hac
              have ha9 : accP a W m ≤ 10 := by unfold accP; split; · omega
                                               · have := accA_le a.next (finN a) a.start.toNat W (m - 1); omega
              obtain ⟨ac, hace⟩ : ∃ ac, accP a W m = ac := ⟨_, rfl⟩
              rw [hace] at ha9 Hac
              rw [hace]
              have hwa : IntKind.i64.wrap ((ac : Int) + 1) = (ac : Int) + 1 := IntWalk.i64_in _ (by omega)
              clear h1 h2 h3 hfin hac hace HCa HFa HBa2 HFs2 xF fF lF
              go_upto_if 165 with (first | (go_at_call 34; refine (f6has_any _ a.finals _ _ Hfin.out).mono ?_; rintro r wq ⟨rfl, rfl⟩))
              go_cut [22] (fun q wx => q = .int .i64 (accP a W (m + 1) : Nat) ∧ wx = wq)
              case first =>
                cases hh : hasB a.finals (q : Int) with
                | true =>
                  have e1 := Hac.out
                  rw [hh] at e1
                  have E9 := Lib.hid e1
                  clear e1
                  go_wp2_with fail
                  go_meet
                  exact ⟨by rw [E9.out]; rfl, rfl⟩
                | false =>
                  have e1 := Hac.out
                  rw [hh] at e1
                  have E9 := Lib.hid e1
                  clear e1
                  go_wp2_with fail
                  go_meet
                  exact ⟨by rw [E9.out]; rfl, rfl⟩
              case rest =>
                obtain ⟨rfl, rfl⟩ := hcut
                have hlast : lastI lx = (N : Int) := by have := wordG_len HX.out; rw [HW.out, HNl.out] at this; omega
                obtain ⟨s1, s2⟩ := sa_read Ha.out HG.out HX.out (i := (m : Int)) (by omega) (by omega)
                rw [Es0.out, HW.out, Int.toNat_natCast, Hq.out] at s2
                have S1 := Lib.hid s1
                have S2 := Lib.hid s2
                clear s1 s2 hlast cA2f lAf Hac Hfin hwa ha9
                have cA0 := Blk.cell (i := 0) (v := .int .i64 (k : Int)) kA.out rfl
                have cA1 := Blk.cell (i := 1) (v := .int .i64 (s0 : Int)) kA.out rfl
                have cA2 := Blk.cell (i := 2) (v := .slice AF a.finals.length cF) kA.out rfl
                have cA3 := Blk.cell (i := 3) (v := .slice AN a.next.length cN) kA.out rfl
                have lA := Blk.lt kA.out
                have cG0 := Blk.cell (i := 0) (v := .slice AX xs.length cX) kG.out rfl
                have lG := Blk.lt kG.out
                have hqq : ((q : Int) != (q : Int)) = false := by simp
                have hzz : ((0 : Int) != (0 : Int)) = false := rfl
                go_wp2_with fail
                refine (implStateAfter_any _ _ a (m : Int) xs _ vA.out sG.out hx9).mono ?_
                rintro r wn ⟨rfl, hb⟩
                rw [S1.out, S2.out]
                have HRe := Lib.hid (HCb.out.up hb)
                have HFe := Lib.hid (HFb.out.up hb)
                have HBe := Lib.hid (HBb.out.trans (hb.mono HBb.out.size))
                clear hb cA0 cA1 cA2 cA3 lA cG0 lG lA2
                go_wp2_with fail
                go_roundw
                case rel => exact ⟨m + 1, by omega, by go_num, by rw [Nat.add_sub_cancel, Hq.out], rfl, by rw [Nat.add_sub_cancel]; exact HRe.out, by rw [Nat.add_sub_cancel]; exact HFe.out, HBe.out⟩
                case measure => simp [intOf]; omega
        · have hmN2 : ¬ ((m : Int) ≤ (sW.size : Int)) := by rw [HWs.out]; omega
          have hm1 : m = N + 1 := by omega
          have hm2 : m - 1 = N := by omega
          rw [hm2] at HRC HRF ⊢
          obtain ⟨ac, hace⟩ : ∃ ac, accP a W m = ac := ⟨_, rfl⟩
          rw [hace]
          rw [hm1] at hace
          have Hac := Lib.hid hace
          have hlast : lastI lx = (N : Int) := by have := wordG_len HX.out; rw [HW.out, HNl.out] at this; omega
          have HLa := Lib.hid hlast
          obtain ⟨qq, hqq⟩ : ∃ qq, nowA a.next s0 W N = qq := ⟨_, rfl⟩
          rw [hqq]
          clear hace hlast hqq
          have KA90 := Lib.hid (SVKA.out.up HBm.out)
          have VA90 := Lib.hid (SVVA.out.up HBm.out)
          have KG90 := Lib.hid (SVKG.out.up HBm.out)
          have SG90 := Lib.hid (SVSG.out.up HBm.out)
          have HB90 := Lib.hid (Below.tr SVHB.out HBm.out)
          have RC90 := HRC
          have RF90 := HRF
          clear HRC HRF HBm lA2 cA2
          have cA0 := Blk.cell (i := 0) (v := .int .i64 (k : Int)) KA90.out rfl
          have cA1 := Blk.cell (i := 1) (v := .int .i64 (s0 : Int)) KA90.out rfl
          have cA2 := Blk.cell (i := 2) (v := .slice AF a.finals.length cF) KA90.out rfl
          have cA3 := Blk.cell (i := 3) (v := .slice AN a.next.length cN) KA90.out rfl
          have lA := Blk.lt KA90.out
          have cG0 := Blk.cell (i := 0) (v := .slice AX xs.length cX) KG90.out rfl
          have lG := Blk.lt KG90.out
          go_wp2_with fail
          refine (implVisitCounts_any _ _ a xs lx _ VA90.out SG90.out Ha.out HG.out HX.out).mono ?_
          rintro r wv ⟨u, rfl, hU, hb⟩
          rw [visits_cnt Ha.out HX.out, Es0.out, HW.out, HNl.out, HS.out] at hU
          have HU := Lib.hid hU
          obtain ⟨AU, cU, rfl, _⟩ := hU
          have KA91 := Lib.hid (KA90.out.up hb)
          have VA91 := Lib.hid (VA90.out.up hb)
          have KG91 := Lib.hid (KG90.out.up hb)
          have SG91 := Lib.hid (SG90.out.up hb)
          have RC91 := Lib.hid (RC90.out.up hb)
          have RF91 := Lib.hid (RF90.out.up hb)
          have HB91 := Lib.hid (Below.tr HB90.out hb)
          clear KA90 VA90 KG90 SG90 RC90 RF90 HB90
          have U91 := HU
          clear hb HU cA0 cA1 cA2 cA3 lA cG0 lG
          have hcu : ((cntV a.next s0 W k N).map Int.ofNat).length = k := by rw [List.length_map, HCl.out]
          rw [hcu]
          clear hcu
          have cA0 := Blk.cell (i := 0) (v := .int .i64 (k : Int)) KA91.out rfl
          have cA1 := Blk.cell (i := 1) (v := .int .i64 (s0 : Int)) KA91.out rfl
          have cA2 := Blk.cell (i := 2) (v := .slice AF a.finals.length cF) KA91.out rfl
          have cA3 := Blk.cell (i := 3) (v := .slice AN a.next.length cN) KA91.out rfl
          have lA := Blk.lt KA91.out
          have cG0 := Blk.cell (i := 0) (v := .slice AX xs.length cX) KG91.out rfl
          have lG := Blk.lt KG91.out
          go_wp2_with fail
          refine (implCountAccepted_any _ _ a xs lx _ VA91.out SG91.out Ha.out HG.out HX.out).mono ?_
          rintro r wt ⟨rfl, hb⟩
          rw [count_acc Ha.out HX.out, HW.out, HNl.out, Hac.out]
          have KA92 := Lib.hid (KA91.out.up hb)
          have VA92 := Lib.hid (VA91.out.up hb)
          have KG92 := Lib.hid (KG91.out.up hb)
          have SG92 := Lib.hid (SG91.out.up hb)
          have RC92 := Lib.hid (RC91.out.up hb)
          have RF92 := Lib.hid (RF91.out.up hb)
          have U92 := Lib.hid (U91.out.up hb)
          have HB92 := Lib.hid (Below.tr HB91.out hb)
          clear KA91 VA91 KG91 SG91 RC91 RF91 U91 HB91
          clear hb cA0 cA1 cA2 cA3 lA cG0 lG
          have hrs : Sl IntE wt wt.heap.size (.slice (some ⟨BC, 0, none⟩) k k) ((cntV a.next s0 W k N).map Int.ofNat) := by
            rcases RC92.out.sl with h | h
            · rw [HCl.out] at h; exact h
            · rw [HCl.out] at h; exact absurd h (by unfold maxLen; omega)
          have hu1 : Sl IntE wt wt.heap.size (.slice AU k cU) ((cntV a.next s0 W k N).map Int.ofNat) := by have h := U92.out; rw [List.length_map, HCl.out] at h; exact h
          have HR := Lib.hid (f6ints_any _ _ _ _ hu1 hrs)
          clear hrs hu1
          have hcc : ((ac : Int) != (ac : Int)) = false := by simp
          have hzz : ((0 : Int) != (0 : Int)) = false := rfl
          go_wp2_with fail
          refine HR.out.mono ?_
          rintro r w8 ⟨rfl, jj, rfl⟩
          have hb := below_drewN (Below.refl wt.heap.size wt) jj
          have KA93 := Lib.hid (KA92.out.up hb)
          have VA93 := Lib.hid (VA92.out.up hb)
          have KG93 := Lib.hid (KG92.out.up hb)
          have SG93 := Lib.hid (SG92.out.up hb)
          have RF93 := Lib.hid (RF92.out.up hb)
          have HB93 := Lib.hid (Below.tr HB92.out hb)
          clear KA92 VA92 KG92 SG92 RF92 HB92
          clear hb HR
          generalize hW8 : wt.drewN jj = W11 at KA93 VA93 KG93 SG93 RF93 HB93 ⊢
          clear hW8
          have TVKA := KA93
          have TVVA := VA93
          have TVKG := KG93
          have TVSG := SG93
          have TVRF := RF93
          have TVHB := HB93
          go_wp2_with fail
          go_loopw [30] (fun i wx => ∃ j : Nat, j ≤ k ∧ i = .int .i64 j ∧ Below W11.heap.size W11 wx) (fun i _ => k - (intOf i).toNat)
          case atStart => exact ⟨0, Nat.zero_le _, rfl, Below.refl _ _⟩
          case round =>
            obtain ⟨j, hj, rfl, hb⟩ := hrel
            have KA94 := Lib.hid (TVKA.out.up hb)
            have VA94 := Lib.hid (TVVA.out.up hb)
            have KG94 := Lib.hid (TVKG.out.up hb)
            have SG94 := Lib.hid (TVSG.out.up hb)
            have RF94 := Lib.hid (TVRF.out.up hb)
            have HB94 := Lib.hid (Below.tr TVHB.out hb)
            have HBj := Lib.hid hb
            clear hb
            have cA0 := Blk.cell (i := 0) (v := .int .i64 (k : Int)) KA94.out rfl
            have cA1 := Blk.cell (i := 1) (v := .int .i64 (s0 : Int)) KA94.out rfl
            have cA2 := Blk.cell (i := 2) (v := .slice AF a.finals.length cF) KA94.out rfl
            have cA3 := Blk.cell (i := 3) (v := .slice AN a.next.length cN) KA94.out rfl
            have lA := Blk.lt KA94.out
            have cG0 := Blk.cell (i := 0) (v := .slice AX xs.length cX) KG94.out rfl
            have lG := Blk.lt KG94.out
            by_cases hjk : j < k
            · have hj2 : (j : Int) < (k : Int) := by omega
              have hj3 : j < a.next.length := by rw [HS.out]; exact hjk
              have Hfi := Lib.hid (first_is Ha.out HX.out HLa.out (x := j))
              go_wp2_with fail
              refine (implFirstVisit_any _ _ a xs lx N j _ VA94.out SG94.out Ha.out HG.out HX.out HLa.out hj3).mono ?_
              rintro r wf ⟨rfl, hb⟩
              rw [Hfi.out, Es0.out, HW.out, HNl.out]
              have HBk := Lib.hid (HBj.out.trans (hb.mono HBj.out.size))
              have RFk := RF94.out.up hb
              have xF := RFk.cell (i := j) (by rw [HFl.out]; exact hjk)
              have fF := RFk.frozen j
              have lF := RFk.lt
              have e0 : (fstL a.next s0 W k N).getD j 0 = firstA a.next s0 j W N := by rw [fstL, range_getD _ _ hjk]
              rw [e0] at xF
              obtain ⟨y, hy⟩ : ∃ y, firstA a.next s0 j W N = y := ⟨_, rfl⟩
              rw [hy] at xF ⊢
              clear hy e0 RFk hb Hfi cA0 cA1 cA2 cA3 lA cG0 lG
              by_cases hy0 : y < 0
              · have d1 : decide (y < 0) = true := decide_eq_true hy0
                have d2 : decide (y ≥ 0) = false := decide_eq_false (by omega)
                have d3 : decide (0 ≤ y) = false := decide_eq_false (by omega)
                rw [if_pos hy0]
                go_wp2_with fail
                go_roundw
                case rel => exact ⟨j + 1, by omega, by go_num, HBk.out⟩
                case measure => simp [intOf]; omega
              · have d1 : decide (y < 0) = false := decide_eq_false hy0
                have d2 : decide (y ≥ 0) = true := decide_eq_true (by omega)
                have d3 : decide (0 ≤ y) = true := decide_eq_true (by omega)
                have d4 : (y != y) = false := by simp
                rw [if_neg hy0]
                go_wp2_with fail
                go_roundw
                case rel => exact ⟨j + 1, by omega, by go_num, HBk.out⟩
                case measure => simp [intOf]; omega
            · have hj2 : ¬ ((j : Int) < (k : Int)) := by omega
              go_wp2_with fail
              go_ret
              exact ⟨rfl, HB94.out⟩
open Go.RowKit Go.WideShapes Go.ChangeShapes
section
variable {H : Type} {enc : TypeId × Value → H} {P : Program}
theorem post_of_below {f : Func} {s : ChangeSpec} {apart fresh handsOn again : Bool} {W W' : World} {args : Array Value} {v : Value} {ds gs : List (DataW H)} {before pa pv : List MemPlace}
    (hW : DataW.Whole enc P f.params.toList s.vars apart W args.toList ds gs before)
    (hres : ∀ (b : Nat) (sp : Nat → Bool) (hd : Bool), DataW.TrodAll enc P W' b sp hd f.resultTypes.toList (v.resultList f.resultTypes.size) (s.fn H (ds ++ gs)).results [])
    (hargs : ∀ sp : Nat → Bool, (∀ p ∈ before, sp p.block = true) → DataW.TrodAll enc P W' 0 sp true f.params.toList args.toList (s.fn H (ds ++ gs)).args pa)
    (hvars : ∀ sp : Nat → Bool, (∀ p ∈ before, sp p.block = true) → DataW.TrodVars enc P W' sp s.vars (s.fn H (ds ++ gs)).vars pv)
    (hps : before = pa ++ pv) (hb : Below W.heap.size W W')
    (hok : ∀ (j : Nat) (t : TypeId) (r : Value), f.resultTypes[j]? = some t → (v.resultList f.resultTypes.size)[j]? = some r → Value.okWide P W' .any 0 t r) :
    s.post enc P f apart fresh handsOn again W args v W' := by
  have hlt : ∀ p ∈ before, p.block < W.heap.size := fun p hp => hW.lt p hp
  have hold : ∀ p ∈ before, (fun b => decide (b < W.heap.size)) p.block = true := fun p hp => by simpa using hlt p hp
  refine ⟨ds, gs, before, [], pa, pv, hW, hres _ _ _, hargs _ hold, hvars _ hold, World.keptBut_mono (fun p hp => ⟨hp, ?_⟩) (hb.frame (· ∈ before)), fun _ => ?_⟩
  · rw [hps, List.mem_append] at hp
    exact Or.inr hp
  · obtain ⟨_, _, _, _, _, hz, hn⟩ := hW
    refine ⟨hok, _, _, ([] ++ pa) ++ pv, ⟨[] ++ pa, pv, trodAll_append (hargs _ (fun _ _ => rfl)) (hres _ _ _), hvars _ (fun _ _ => rfl), rfl, ?_, ?_⟩, ?_⟩
    · intro b off hp
      have hin : MemPlace.cell b off ∈ before := by rw [hps]; simpa using hp
      rw [hb.frozen (hlt _ hin)]
      exact hz b off hin
    · intro ha
      have := hn ha
      rw [hps] at this
      simpa using this
    · intro p hp _
      rw [hps]
      simpa using hp
theorem trodAll_below (hl : laidOutB P = true) {W W' : World} (hb : Below W.heap.size W W') : ∀ {ts : List TypeId} {vs : List Value} {ds : List (DataW H)} {ps : List MemPlace},
    (∀ t ∈ ts, P.readableRec t = true ∧ t < P.types.size) → DataW.TrodAll enc P W 0 (fun _ => true) true ts vs ds ps → (∀ x ∈ ps, x.block < W.heap.size) → ∀ sp : Nat → Bool, (∀ p ∈ ps, sp p.block = true) →
    DataW.TrodAll enc P W' 0 sp true ts vs ds ps
  | [], _, _, _, _, h, _, _, _ => by
    obtain ⟨rfl, rfl, rfl⟩ := trodAll_nil h
    exact trodAll_mk0
  | t :: ts, vs, ds, ps, hts, h, hlt, sp, hsp => by
    obtain ⟨v, vs', d, ds', p, q, rfl, rfl, rfl, h0, r0⟩ := trodAll_cons h
    refine trodAll_cons_mk (WideElems.Trod_stays hl (hts t (by simp)).1 (hts t (by simp)).2 h0 (fun x hx => hb.same (hlt x (by simp [hx]))) (fun x hx => hsp x (by simp [hx]))) ?_
    exact trodAll_below hl hb (fun t ht => hts t (by simp [ht])) r0 (fun x hx => hlt x (by simp [hx])) sp (fun x hx => hsp x (by simp [hx]))
end
theorem laidOut : laidOutB Try.prog = true := by kernel_rfl
theorem own : ownKnob Try.prog.godebug = none := by kernel_rfl
open Go.RowKit Go.ChangeShapes Go.WideShapes Go.Deep
section
variable {H : Type} {enc : TypeId × Value → H} {P : Program} {w : World} {base : Nat} {spare : Nat → Bool} {held : Bool}
theorem add_plain (b o n : Nat) : (⟨b, o, none⟩ : Addr).add n = ⟨b, o + n, none⟩ := by unfold Addr.add; split <;> simp_all
theorem spot_none {a : Addr} {v : Value} (h : w.cell? a = some v) : a = ⟨a.block, a.off, none⟩ ∧ a.block < w.heap.size := by
  have hl := World.block_lt_of_cell? w a h
  refine ⟨?_, hl⟩
  obtain ⟨b, o, s⟩ := a
  unfold World.cell? at h
  cases s with
  | none => rfl
  | some s => split at h <;> simp at h
theorem len_map_range {α : Type} (f : Nat → α) (n : Nat) : ((List.range n).map f).length = n := by simp
end
end Go.Proofs.Ytejgbfgocaggfaa
