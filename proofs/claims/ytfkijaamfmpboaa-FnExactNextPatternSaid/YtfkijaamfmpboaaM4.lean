import Derived.Test.YtfkijaamfmpboaaM3
namespace Go.Proofs.Ytfkijaamfmpboaa
open Go.RowKit
set_option maxRecDepth 100000 in
set_option maxHeartbeats 8000000 in
theorem l04Pattern_any (p : ByteArray) (w : World) (hp : p.size ≤ 20) : Calls Try.prog 30 #[.string p] w (PatPost p w) := by
  go_enter Try.func30, Try.ntmps30
  go_upto_region 1 with fail
  have ka : Below w.heap.size w (w.alloc (Obj.cells #[.int .i64 0, .int .i64 0, .slice none 0 0, .slice none 0 0] 56)) := (Below.refl _ _).alloc (Nat.le_refl _) _
  have kb : Blk (w.alloc (Obj.cells #[.int .i64 0, .int .i64 0, .slice none 0 0, .slice none 0 0] 56)) w.heap.size #[.int .i64 0, .int .i64 0, .slice none 0 0, .slice none 0 0] 56 := Blk.new _ _ _
  have kz : (w.alloc (Obj.cells #[.int .i64 0, .int .i64 0, .slice none 0 0, .slice none 0 0] 56)).heap.size = w.heap.size + 1 := by simp
  generalize w.alloc (Obj.cells #[.int .i64 0, .int .i64 0, .slice none 0 0, .slice none 0 0] 56) = w2 at *
  have hwn : IntKind.i64.wrap ((p.size : Int) + 1) = (p.size : Int) + 1 := IntWalk.i64_in _ (by omega)
  have hkz := Lib.hid kz
  clear kz
  go_upto_region 2 with fail
  have kc := (Below.refl w2.heap.size w2).alloc (Nat.le_refl _) (Obj.cells #[.int .i64 (p.size : Int)] 2)
  have kd := kc.alloc (by simp) (Obj.cells #[.int .i64 ((p.size : Int) + 1), .int .i64 0, .slice (some ⟨w2.heap.size, 0, none⟩) 1 1, .slice none 0 0] 56)
  have H0 : PaSt w ((w2.alloc (Obj.cells #[.int .i64 (p.size : Int)] 2)).alloc (Obj.cells #[.int .i64 ((p.size : Int) + 1), .int .i64 0, .slice (some ⟨w2.heap.size, 0, none⟩) 1 1, .slice none 0 0] 56)) w2.heap.size (w2.heap.size + 1) p.size (.slice none 0 0) 0 [] [] :=
    ⟨Below.tr ka kd, kb.up kd, by have := hkz.out; omega, by omega, (Blk.new w2 _ _).up ((Below.refl _ _).alloc (Nat.le_refl _) _), by have := Blk.new (w2.alloc (Obj.cells #[.int .i64 (p.size : Int)] 2)) #[.int .i64 ((p.size : Int) + 1), .int .i64 0, .slice (some ⟨w2.heap.size, 0, none⟩) 1 1, .slice none 0 0] 56; simpa using this, World.ownsRow_nil _ _ _ _, Each.nil⟩
  obtain ⟨F, hF⟩ : ∃ F, w2.heap.size = F := ⟨_, rfl⟩
  rw [hF] at H0
  rw [hF]
  obtain ⟨P, hP⟩ : ∃ P, F + 1 = P := ⟨_, rfl⟩
  rw [hP] at H0
  try rw [hP]
  have H0h := Lib.hid H0
  generalize ((w2.alloc (Obj.cells #[.int .i64 (p.size : Int)] 2)).alloc (Obj.cells #[.int .i64 ((p.size : Int) + 1), .int .i64 0, .slice (some ⟨F, 0, none⟩) 1 1, .slice none 0 0] 56)) = w3 at *
  clear kc kd ka kb hkz H0 hF hP
  go_wp2_with fail
  go_loopw [4] (fun i wx => ∃ (k : Nat) (vN : Value) (vs : List Value), k ≤ p.size + 1 ∧ i = .int .i64 k ∧ PaSt w wx F P p.size vN k vs ((List.range k).map (rowP p))) (fun i _ => p.size + 1 - (intOf i).toNat)
  case atStart => exact ⟨0, _, [], Nat.zero_le _, rfl, H0h.out⟩
  case round =>
    obtain ⟨k, vN, vs, hk, rfl, hA⟩ := hrel
    have HA := Lib.hid hA
    obtain ⟨wo, rfl⟩ : ∃ wo : World, wo = wr := ⟨_, rfl⟩
    obtain ⟨c0, c1, c2, c3, zP, fP⟩ := hA.cells
    clear hA
    by_cases hkn : k < p.size + 1
    · have hkn2 : (k : Int) ≤ (p.size : Int) := by omega
      clear c0 c1 c2 c3
      go_wp2_with fail
      have ka := (Below.refl wo.heap.size wo).alloc (Nat.le_refl _) (Obj.cells #[] 2)
      go_loopw [5, 6] (fun row c wi => ∃ d : Nat, d ≤ 4 ∧ c = .int .u8 (97 + (d : Int)) ∧ OwnInts wi wo.heap.size row ((rowP p k).take d) ∧ Below wo.heap.size wo wi) (fun _ c _ => 101 - (intOf c).toNat)
      case atStart => exact ⟨0, by omega, rfl, OwnInts.empty rfl (Nat.le_refl _), ka⟩
      case round =>
        obtain ⟨d, hd, rfl, hrow, hbm⟩ := hrel
        obtain ⟨wm, rfl⟩ : ∃ wm : World, wm = wr := ⟨_, rfl⟩
        have HBm := Lib.hid hbm
        obtain ⟨Lr, hLr⟩ : ∃ Lr, (rowP p k).take d = Lr := ⟨_, rfl⟩
        rw [hLr] at hrow
        have HLl := Lib.hid (show Lr.length = d by rw [← hLr, List.length_take, rowP_len]; omega)
        have HLr := Lib.hid hLr
        clear hLr
        obtain ⟨Ar, cr, rfl, _⟩ := own_nil hrow
        have HR := Lib.hid hrow
        have hzm := hbm.size
        clear hbm hrow ka
        by_cases hd4 : d < 4
        · have hd42 : 97 + (d : Int) ≤ 100 := by omega
          obtain ⟨c, hc⟩ : ∃ c, UInt8.ofNat (97 + d) = c := ⟨_, rfl⟩
          have hcv : ∀ W : World, (convert 41 9 (.slice (some ⟨W.heap.size, 0, none⟩) 1 1)).run Try.prog (W.alloc (.cells #[.int .u8 (97 + (d : Int))] 5)) = .ok (.string ⟨#[c]⟩) (W.alloc (.cells #[.int .u8 (97 + (d : Int))] 5)) := fun W => by rw [← hc]; exact convOne (97 + d) (by omega) _ _ (by simp [go_sem])
          have hcv2 : ∀ W : World, (convert 41 9 (.slice (some ⟨W.heap.size, 0, none⟩) 1 1)).run Try.prog (W.alloc (.cells #[.int .u8 (97 + (d : Int))] 5)).drew = .ok (.string ⟨#[c]⟩) (W.alloc (.cells #[.int .u8 (97 + (d : Int))] 5)).drew := fun W => by rw [← hc]; exact convOne (97 + d) (by omega) _ _ (by show (W.alloc (.cells #[.int .u8 (97 + (d : Int))] 5)).cell? _ = _; simp [go_sem])
          obtain ⟨s, hs⟩ : ∃ s, letB p k d = s := ⟨_, rfl⟩
          have hs2 : p.extract 0 k ++ ⟨#[c]⟩ = s := by rw [← hs, ← hc]; rfl
          have Hs2 := Lib.hid hs2
          clear hs2 hc
          have hsz := letB_size p d (n := k) (by omega)
          have hfit : fitN p k d = fitB p (letB p k d) (min p.size (k + 1)) := rfl
          rw [hs] at hfit hsz
          have hcall : ∀ W : World, Calls Try.prog 72 #[.string p, .string (p.extract 0 k ++ ⟨#[c]⟩)] W fun e w' => e = .returned (.int .i64 (fitN p k d : Nat)) ∧ Below W.heap.size W w' := fun W => by
            rw [Hs2.out, hfit, ← hsz]
            exact l04Fit_any p s W (by omega) (by omega)
          have HCall := Lib.hid hcall
          have hadd : ∀ W : World, (Op.stringOp .add (p.extract 0 k) ⟨#[c]⟩).run Try.prog W = .ok (.string (p.extract 0 k ++ ⟨#[c]⟩)) W := fun W => run_string_add_sum (P := Try.prog) W _ _ (by rw [ByteArray.size_extract]; show min k p.size - 0 + 1 ≤ _; omega)
          have htk := rowP_take p k hd4
          rw [HLr.out] at htk
          have HTK := Lib.hid htk
          have hL9 : Lr.length ≤ 1099511627776 := by have := HLl.out; omega
          have hw8 : IntKind.u8.wrap (97 + (d : Int) + 1) = 97 + ((d : Int) + 1) := by rw [IntWalk.u8_in _ (by omega)]; omega
          clear hfit htk hs hcall Hs2 hsz
          go_wp2_with fail
          go_region_law (first
            | (go_simp; go_at_call 72; refine (HCall.out _).mono ?_; rintro e w6 ⟨rfl, hb6⟩; have HB6 := Lib.hid (Below.tr ((Below.refl wm.heap.size wm).alloc (Nat.le_refl _) (Obj.cells #[.int .u8 (97 + (d : Int))] 5)).drew hb6); have HR6 := Lib.hid (ownsRow_below HR.out HB6.out); have hz6 : wo.heap.size ≤ w6.heap.size := Nat.le_trans hzm HB6.out.size; clear hb6)
            | (refine step_push_int (y := (fitN p k d : Int)) (N := w6.heap.size) (base := wo.heap.size) (by rfl) _ _ (by rfl) (by rfl) (by rfl) (by simp [go_sem]) (OwnInts.drew (OwnInts.alloc HR6.out _)) hL9 (Nat.le_trans hz6 (leDA _ _)) ?_; intro v7 w7 own7 hg7 hblk))
          all_goals
            have hb7 : Below wo.heap.size w6 w7 := by
              first
              | exact (((Below.refl _ _).alloc hz6 _).drew).grown hg7 (Nat.le_trans hz6 (leDA _ _)) (fun g hg => (World.ownsRow.lt HR6.out g hg).1)
              | exact ((Below.refl _ _).alloc hz6 _).grown hg7 (Nat.le_trans hz6 (by simp)) (fun g hg => (World.ownsRow.lt HR6.out g hg).1)
            have HB7 := Lib.hid (HBm.out.trans ((HB6.out.mono hzm).trans hb7))
            have HO7 := Lib.hid own7
            clear hb7 hg7 hblk own7
            go_wp2_with fail
            go_roundw
            case rel => exact ⟨d + 1, by omega, by go_num, by rw [HTK.out]; exact HO7.out, HB7.out⟩
            case measure => simp [intOf]; omega
        · have hd5 : d = 4 := by omega
          subst hd5
          have ht4 : (rowP p k).take 4 = rowP p k := List.take_of_length_le (by rw [rowP_len]; omega)
          have hLe : Lr = rowP p k := by rw [← HLr.out, ht4]
          have HA6 := Lib.hid (HA.out.up HBm.out)
          obtain ⟨e1, e2, e3, e4, zP6, fP2⟩ := HA6.out.cells
          obtain ⟨AN, cN, rfl, _⟩ := own_nil HA6.out.nx
          have hk9 : k ≤ 1099511627776 := by omega
          have hPz : P + 1 ≤ wm.heap.size := zP6
          have hbN : ∀ g, (Value.slice AN k cN).ownBlock = some g → g < wo.heap.size := fun g hg => (World.ownsRow.lt HA.out.nx g hg).2
          have HbN := Lib.hid hbN
          have hkr : (List.range (k + 1)).map (rowP p) = (List.range k).map (rowP p) ++ [rowP p k] := by rw [List.range_succ, List.map_append]; rfl
          have HKR := Lib.hid hkr
          have hwk : IntKind.i64.wrap ((k : Int) + 1) = (k : Int) + 1 := IntWalk.i64_in _ (by omega)
          rw [← hLe] at HKR
          clear e1 e2 e3 hbN ht4 hkr hLe
          go_wp2_with (first | (at_builtin; refine push_sl (W := wm) (N := wm.heap.size) (base := P + 1) rfl _ _ rfl rfl rfl rfl rfl HA6.out.nx hk9 hPz ?_; intro v7 w7 own7 hg7 hv7'; have hv7 := Lib.hid hv7'; clear hv7'; obtain ⟨A7, c7, rfl, _⟩ := own_nil own7; have hbx7 := HA6.out.grN hg7; have cP7 := Blk.cell (i := 3) (v := .slice AN k cN) hbx7 rfl; have fP7 := Blk.frozen hbx7 3; have zP7 := Blk.lt hbx7))
          have HA7 := Lib.hid (HA6.out.pushN HR.out (Nat.succ_le_of_lt zP) HbN.out hg7 hv7.out own7)
          rw [← HKR.out] at HA7
          clear hbx7 cP7 fP7 zP7 hg7 hv7 own7
          generalize w7.setCell ⟨P, 3, none⟩ (.slice A7 (k + 1) c7) = w8 at *
          go_roundw
          case rel => exact ⟨k + 1, _, _, by omega, by go_num, HA7.out⟩
          case measure => simp [intOf]; omega
    · have hkk : k = p.size + 1 := by omega
      subst hkk
      have cb0 := Blk.cell (i := 0) (v := .int .i64 0) HA.out.b0 rfl
      have cb1 := Blk.cell (i := 1) (v := .int .i64 0) HA.out.b0 rfl
      have cb2 := Blk.cell (i := 2) (v := .slice none 0 0) HA.out.b0 rfl
      have cb3 := Blk.cell (i := 3) (v := .slice none 0 0) HA.out.b0 rfl
      have fb := Blk.frozen HA.out.b0
      have zb := Blk.lt HA.out.b0
      obtain ⟨AN, cN, rfl, _⟩ := own_nil HA.out.nx
      clear fP
      go_wp2_with fail
      refine bodyPost_ret (v := .agg #[.int .i64 ((p.size : Int) + 1), .int .i64 0, .slice (some ⟨F, 0, none⟩) 1 1, .slice AN (p.size + 1) cN]) (by simp [results, Try.results30, go_sem, cb0, cb1, cb2, cb3]) rfl ?_
      exact HA.out.done
def visV (next : List (List Int)) (x : Nat) : Nat → List UInt8 → Nat
  | _, [] => 0
  | s, c :: w => (if stepW next s (c.toNat - 97) = x then 1 else 0) + visV next x (stepW next s (c.toNat - 97)) w
theorem readW_app (next : List (List Int)) (s : Nat) (u v : List UInt8) : readW next s (u ++ v) = readW next (readW next s u) v := by simp [readW, List.foldl_append]
theorem visV_app (next : List (List Int)) (x : Nat) : ∀ (u v : List UInt8) (s : Nat), visV next x s (u ++ v) = visV next x s u + visV next x (readW next s u) v := by
  intro u
  induction u with
  | nil => intro v s; simp [visV, readW]
  | cons c u ih =>
    intro v s
    rw [List.cons_append, visV, visV, ih v]
    have : readW next s (c :: u) = readW next (stepW next s (c.toNat - 97)) u := rfl
    rw [this]; omega
def dotR (F : Nat → Nat) : Nat → List Nat → Nat
  | _, [] => 0
  | k, n :: l => n * F k + dotR F (k + 1) l
def addR (l : List Nat) (s n : Nat) : List Nat := l.set s (l.getD s 0 + n)
theorem addR_len (l : List Nat) (s n : Nat) : (addR l s n).length = l.length := by simp [addR]
theorem dotR_add (F : Nat → Nat) : ∀ (l : List Nat) (k s n : Nat), s < l.length → dotR F k (addR l s n) = dotR F k l + n * F (k + s) := by
  intro l
  induction l with
  | nil => intro k s n h; exact absurd h (by simp)
  | cons m l ih =>
    intro k s n h
    match s with
    | 0 => simp only [addR, List.set_cons_zero, List.getD_cons_zero, dotR, Nat.add_mul, Nat.add_zero]; omega
    | s + 1 =>
      have e : addR (m :: l) (s + 1) n = m :: addR l s n := by simp [addR]
      rw [e, dotR, dotR, ih (k + 1) s n (by simpa using h), show k + 1 + s = k + (s + 1) by omega]; omega
theorem dotR_drop (F : Nat → Nat) : ∀ (l : List Nat) (k s : Nat), s < l.length → dotR F (k + s) (l.drop s) = l.getD s 0 * F (k + s) + dotR F (k + s + 1) (l.drop (s + 1)) := by
  intro l
  induction l with
  | nil => intro k s h; exact absurd h (by simp)
  | cons m l ih =>
    intro k s h
    match s with
    | 0 => simp [dotR]
    | s + 1 =>
      have := ih (k + 1) s (by simpa using h)
      simp only [List.drop_succ_cons, List.getD_cons_succ]
      rw [show k + (s + 1) = k + 1 + s by omega]; exact this
theorem dotR_zero (F : Nat → Nat) : ∀ (n k : Nat), dotR F k (List.replicate n 0) = 0 := by
  intro n
  induction n with
  | zero => intro k; rfl
  | succ n ih => intro k; rw [List.replicate_succ, dotR, ih]; omega
theorem dotR_le (F : Nat → Nat) : ∀ (l : List Nat) (k s : Nat), s < l.length → l.getD s 0 * F (k + s) ≤ dotR F k l := by
  intro l
  induction l with
  | nil => intro k s h; exact absurd h (by simp)
  | cons m l ih =>
    intro k s h
    match s with
    | 0 => simp [dotR]
    | s + 1 =>
      have := ih (k + 1) s (by simpa using h)
      rw [show k + (s + 1) = k + 1 + s by omega, List.getD_cons_succ, dotR]; omega
def dotM (F : Nat → Nat → Nat) (M : List (List Nat)) : Nat → Nat
  | 0 => 0
  | k + 1 => dotM F M k + dotR (F k) 0 (M.getD k [])
def addM (M : List (List Nat)) (r s n : Nat) : List (List Nat) := M.set r (addR (M.getD r []) s n)
theorem addM_len (M : List (List Nat)) (r s n : Nat) : (addM M r s n).length = M.length := by simp [addM]
theorem addM_get (M : List (List Nat)) (r s n k : Nat) (hr : r < M.length) : (addM M r s n).getD k [] = if k = r then addR (M.getD r []) s n else M.getD k [] := by
  unfold addM
  by_cases e : k = r
  · subst e; rw [if_pos rfl, List.getD_eq_getElem?_getD, List.getElem?_set_self hr]; rfl
  · rw [if_neg e, List.getD_eq_getElem?_getD, List.getElem?_set_ne (by omega), List.getD_eq_getElem?_getD]
def RowsN (n : Nat) (M : List (List Nat)) : Prop := ∀ t, t < M.length → (M.getD t []).length = n
theorem RowsN.add {n : Nat} {M : List (List Nat)} (h : RowsN n M) (r s m : Nat) (hr : r < M.length) : RowsN n (addM M r s m) := by
  intro t ht
  rw [addM_len] at ht
  rw [addM_get M r s m t hr]
  split
  · rw [addR_len]; exact h r hr
  · exact h t ht
theorem dotM_add (F : Nat → Nat → Nat) (M : List (List Nat)) (r s n : Nat) (hr : r < M.length) (hs : s < (M.getD r []).length) : ∀ k, dotM F (addM M r s n) k = dotM F M k + if r < k then n * F r s else 0 := by
  intro k
  induction k with
  | zero => simp [dotM]
  | succ k ih =>
    rw [dotM, dotM, ih, addM_get M r s n k hr]
    by_cases e : k = r
    · subst e
      rw [if_pos rfl, dotR_add _ _ _ _ _ hs, if_neg (by omega), if_pos (by omega), Nat.zero_add]; omega
    · rw [if_neg e]
      by_cases h2 : r < k
      · rw [if_pos h2, if_pos (by omega)]; omega
      · rw [if_neg h2, if_neg (by omega)]; omega
theorem dotM_le (F : Nat → Nat → Nat) (M : List (List Nat)) {r s : Nat} (hs : s < (M.getD r []).length) : ∀ k, r < k → (M.getD r []).getD s 0 * F r s ≤ dotM F M k := by
  intro k
  induction k with
  | zero => intro h; exact absurd h (by omega)
  | succ k ih =>
    intro h
    rw [dotM]
    by_cases e : r = k
    · subst e
      have := dotR_le (F r) (M.getD r []) 0 s hs
      rw [Nat.zero_add] at this; omega
    · have := ih (by omega); omega
def visStep (xs : List GRule) (maps : List (List Int)) (i : Nat) (st : List (List Nat) × List Nat) (s : Nat) : List (List Nat) × List Nat :=
  if (getR xs i).pair then
    (addM (addM st.1 (getR xs i).left.toNat s ((st.1.getD i []).getD s 0)) (getR xs i).right.toNat (stepM maps s (getR xs i).left.toNat) ((st.1.getD i []).getD s 0), st.2)
  else (st.1, addR st.2 (stepM maps s i) ((st.1.getD i []).getD s 0))
def visRow (xs : List GRule) (maps : List (List Int)) (i : Nat) (st : List (List Nat) × List Nat) : Nat → List (List Nat) × List Nat
  | 0 => st
  | s + 1 => visStep xs maps i (visRow xs maps i st s) s
def visAll (xs : List GRule) (maps : List (List Int)) (S : Nat) : Nat → List (List Nat) × List Nat → List (List Nat) × List Nat
  | 0, st => st
  | k + 1, st => visAll xs maps S k (visRow xs maps k st S)
def pot (F : Nat → Nat → Nat) (G : Nat → Nat) (st : List (List Nat) × List Nat) (k : Nat) : Nat := dotM F st.1 k + dotR G 0 st.2
structure Wts (xs : List GRule) (maps : List (List Int)) (S : Nat) (F : Nat → Nat → Nat) (G : Nat → Nat) : Prop where
  two : ∀ r s, r < xs.length → s < S → (getR xs r).pair = true → F r s = F (getR xs r).left.toNat s + F (getR xs r).right.toNat (stepM maps s (getR xs r).left.toNat)
  one : ∀ r s, r < xs.length → s < S → (getR xs r).pair = false → F r s = G (stepM maps s r)
structure VisS (xs : List GRule) (S : Nat) (st : List (List Nat) × List Nat) : Prop where
  len : st.1.length = xs.length
  rows : RowsN S st.1
  out : st.2.length = S
theorem VisS.step {xs : List GRule} {ls : List Int} {maps : List (List Int)} {S : Nat} {st : List (List Nat) × List Nat} (hl : lens xs = some ls) (h : VisS xs S st) {i s : Nat} (hi : i < xs.length) : VisS xs S (visStep xs maps i st s) := by
  unfold visStep
  cases hp : (getR xs i).pair with
  | true =>
    obtain ⟨q1, q2, q3, q4, _⟩ := lens_pair hl hi hp
    rw [if_pos rfl]
    exact ⟨by simp only [addM_len]; exact h.len, (h.rows.add _ _ _ (by rw [h.len]; omega)).add _ _ _ (by rw [addM_len, h.len]; omega), h.out⟩
  | false => rw [if_neg (by simp)]; exact ⟨h.len, h.rows, by rw [addR_len]; exact h.out⟩
theorem VisS.row {xs : List GRule} {ls : List Int} {maps : List (List Int)} {S : Nat} {st : List (List Nat) × List Nat} (hl : lens xs = some ls) (h : VisS xs S st) {i : Nat} (hi : i < xs.length) : ∀ s, VisS xs S (visRow xs maps i st s) := by
  intro s
  induction s with
  | zero => exact h
  | succ s ih => exact ih.step hl hi
theorem visRow_get {xs : List GRule} {ls : List Int} {maps : List (List Int)} {S : Nat} {st : List (List Nat) × List Nat} (hl : lens xs = some ls) (h : VisS xs S st) {i : Nat} (hi : i < xs.length) : ∀ s, (visRow xs maps i st s).1.getD i [] = st.1.getD i [] := by
  intro s
  induction s with
  | zero => rfl
  | succ s ih =>
    have hv := h.row (maps := maps) hl hi s
    rw [visRow]
    unfold visStep
    cases hp : (getR xs i).pair with
    | true =>
      obtain ⟨q1, q2, q3, q4, _⟩ := lens_pair hl hi hp
      rw [if_pos rfl]
      show (addM _ _ _ _).getD i [] = _
      rw [addM_get _ _ _ _ _ (by rw [addM_len, hv.len]; omega), if_neg (by omega), addM_get _ _ _ _ _ (by rw [hv.len]; omega), if_neg (by omega), ih]
    | false => rw [if_neg (by simp)]; exact ih
theorem visRow_pot {xs : List GRule} {ls : List Int} {maps : List (List Int)} {S : Nat} {st : List (List Nat) × List Nat} {F : Nat → Nat → Nat} {G : Nat → Nat} (hl : lens xs = some ls) (h : VisS xs S st) (hW : Wts xs maps S F G) (hok : RowsOk S maps) (hm : maps.length = xs.length)
    {i : Nat} (hi : i < xs.length) : ∀ s, s ≤ S → pot F G (visRow xs maps i st s) i + dotR (F i) s ((st.1.getD i []).drop s) = pot F G st (i + 1) := by
  have hrow : (st.1.getD i []).length = S := h.rows i (by rw [h.len]; exact hi)
  intro s
  induction s with
  | zero => intro _; simp only [visRow, pot, dotM, List.drop_zero]; omega
  | succ s ih =>
    intro hs
    have e1 := ih (by omega)
    have e2 := dotR_drop (F i) (st.1.getD i []) 0 s (by omega)
    rw [Nat.zero_add] at e2
    have hv := h.row (maps := maps) hl hi s
    have hg := visRow_get (maps := maps) hl h hi s
    have hst : ∀ r, r < xs.length → stepM maps s r < S := fun r hr => by
      have := (hok r (by omega)).2 s (by omega)
      unfold stepM; omega
    rw [← e1, e2, visRow]
    generalize visRow xs maps i st s = sv at hv hg ⊢
    unfold visStep
    cases hp : (getR xs i).pair with
    | true =>
      obtain ⟨q1, q2, q3, q4, _⟩ := lens_pair hl hi hp
      rw [if_pos rfl, hW.two i s hi (by omega) hp]
      unfold pot
      simp only []
      rw [dotM_add _ _ _ _ _ (by rw [addM_len, hv.len]; omega) (by rw [(hv.rows.add _ _ _ (by rw [hv.len]; omega)) _ (by rw [addM_len, hv.len]; omega)]; exact hst _ (by omega)), if_pos (by omega),
        dotM_add _ _ _ _ _ (by rw [hv.len]; omega) (by rw [hv.rows _ (by rw [hv.len]; omega)]; omega), if_pos (by omega), hg, Nat.mul_add]
      omega
    | false =>
      rw [if_neg (by simp), hW.one i s hi (by omega) hp]
      unfold pot
      simp only []
      rw [dotR_add _ _ _ _ _ (by rw [hv.out]; exact hst i hi), hg, Nat.zero_add]
      omega
theorem visAll_pot {xs : List GRule} {ls : List Int} {maps : List (List Int)} {S : Nat} {F : Nat → Nat → Nat} {G : Nat → Nat} (hl : lens xs = some ls) (hW : Wts xs maps S F G) (hok : RowsOk S maps) (hm : maps.length = xs.length) :
    ∀ (k : Nat) (st : List (List Nat) × List Nat), k ≤ xs.length → VisS xs S st → dotR G 0 (visAll xs maps S k st).2 = pot F G st k ∧ VisS xs S (visAll xs maps S k st) := by
  intro k
  induction k with
  | zero => intro st _ h; exact ⟨by simp [visAll, pot, dotM], h⟩
  | succ k ih =>
    intro st hk h
    have hr := h.row (maps := maps) hl (i := k) (by omega) S
    have e := visRow_pot hl h hW hok hm (i := k) (by omega) S (Nat.le_refl _)
    have hrow : (st.1.getD k []).length = S := h.rows k (by rw [h.len]; omega)
    rw [List.drop_of_length_le (by omega), dotR, Nat.add_zero] at e
    obtain ⟨g1, g2⟩ := ih _ (by omega) hr
    exact ⟨by rw [visAll, g1, e], by rw [visAll]; exact g2⟩
theorem mapsOf_take {next : List (List Int)} {xs : List GRule} {r : Nat} : ∀ k, r < k → k ≤ xs.length → (mapsOf next (xs.take k)).getD r [] = mapRow next (mapsOf next (xs.take r)) (getR xs r) := by
  intro k
  induction k with
  | zero => intro h; exact absurd h (by omega)
  | succ k ih =>
    intro h hk
    have hlen : (mapsOf next (xs.take k)).length = k := by rw [mapsOf_len, List.length_take]; omega
    rw [mapsOf_snoc (getR_at (xs := xs) (r := k) (by omega))]
    by_cases e : r = k
    · subst e
      rw [List.getD_eq_getElem?_getD, List.getElem?_append_right (by omega), hlen, Nat.sub_self]; rfl
    · rw [List.getD_eq_getElem?_getD, List.getElem?_append_left (by omega), ← List.getD_eq_getElem?_getD, ih (by omega) (by omega)]
theorem stepM_word {a : GAuto} (ha : autoOk a = true) {xs : List GRule} {ls : List Int} (hl : lens xs = some ls) : ∀ (r s : Nat), r < xs.length → s < a.next.length → stepM (mapsOf a.next xs) s r = readW a.next s (W1 xs r) := by
  intro r
  induction r using Nat.strongRecOn with
  | _ r ih =>
    intro s hr hs
    have e := mapsOf_take (next := a.next) (xs := xs) (r := r) xs.length hr (Nat.le_refl _)
    rw [List.take_length] at e
    have e0 : stepM (mapsOf a.next xs) s r = (mapCell a.next (mapsOf a.next (xs.take r)) (getR xs r) s).toNat := by
      unfold stepM; rw [e, mapRow_get _ _ _ hs]
    rw [e0]
    unfold mapCell
    cases hp : (getR xs r).pair with
    | true =>
      obtain ⟨q1, q2, q3, q4, _⟩ := lens_pair hl hr hp
      have f : ∀ t, t < r → (mapsOf a.next (xs.take r)).getD t [] = (mapsOf a.next xs).getD t [] := fun t ht => by
        rw [mapsOf_take r ht (by omega)]
        have := mapsOf_take (next := a.next) (xs := xs) (r := t) xs.length (by omega) (Nat.le_refl _)
        rw [List.take_length] at this; rw [this]
      rw [if_pos rfl, f _ (by omega), f _ (by omega), W1_pair hl hr hp, readW_app]
      have h1 := ih (getR xs r).left.toNat (by omega) s (by omega) hs
      have hok := mapsOf_ok ha hl xs.length (Nat.le_refl _)
      rw [List.take_length] at hok
      have hb := (hok (getR xs r).left.toNat (by rw [mapsOf_len]; omega)).2 s hs
      have h2 := ih (getR xs r).right.toNat (by omega) (((mapsOf a.next xs).getD (getR xs r).left.toNat []).getD s 0).toNat (by omega) (by omega)
      unfold stepM at h1 h2
      rw [h2, h1]
    | false =>
      rw [if_neg (by simp), W1_let hp]
      have hsz := isLet_size (lens_isLet hl hr hp)
      have hL : (getR xs r).letter.data.toList.length = 1 := by rw [Array.length_toList]; exact hsz
      have hx : (getR xs r).letter.data.getD 0 0 = (getR xs r).letter.data.toList.getD 0 0 := by
        rw [Array.getD_eq_getD_getElem?, List.getD_eq_getElem?_getD, Array.getElem?_toList]
      rw [hx]
      generalize (getR xs r).letter.data.toList = L at hL ⊢
      match L, hL with
      | [c], _ => rfl
def visPut (maps : List (List Int)) : List Nat → List (List Nat) → Nat → List (List Nat)
  | [], M, _ => M
  | r :: L, M, s => visPut maps L (addM M r s 1) (stepM maps s r)
theorem visPut_pot {xs : List GRule} {maps : List (List Int)} {S : Nat} (F : Nat → Nat → Nat) (hok : RowsOk S maps) (hm : maps.length = xs.length) :
    ∀ (L : List Nat) (M : List (List Nat)) (s : Nat), (∀ r ∈ L, r < xs.length) → M.length = xs.length → RowsN S M → s < S →
      RowsN S (visPut maps L M s) ∧ (visPut maps L M s).length = xs.length ∧
      ∃ t, dotM F (visPut maps L M s) xs.length = dotM F M xs.length + t ∧ ∀ (f : Nat → List Nat → Nat), (∀ s, f s [] = 0) → (∀ s r L, r < xs.length → s < S → f s (r :: L) = F r s + f (stepM maps s r) L) → t = f s L := by
  intro L
  induction L with
  | nil => intro M s _ hM hR _; exact ⟨hR, hM, 0, rfl, fun f h0 _ => (h0 s).symm⟩
  | cons r L ih =>
    intro M s h hM hR hs
    have hr := h r (by simp)
    have hst : stepM maps s r < S := by
      have := (hok r (by omega)).2 s hs
      unfold stepM; omega
    obtain ⟨g1, g2, t, g3, g4⟩ := ih (addM M r s 1) (stepM maps s r) (fun x hx => h x (by simp [hx])) (by rw [addM_len]; exact hM) (hR.add _ _ _ (by omega)) hst
    refine ⟨g1, g2, F r s + t, ?_, fun f h0 h1 => by rw [h1 s r L hr hs, g4 f h0 h1]⟩
    rw [visPut, g3, dotM_add F M r s 1 (by omega) (by rw [hR r (by omega)]; exact hs), if_pos hr]; omega
theorem dotM_zero (F : Nat → Nat → Nat) (m S : Nat) : ∀ k, k ≤ m → dotM F (List.replicate m (List.replicate S 0)) k = 0 := by
  intro k
  induction k with
  | zero => intro _; rfl
  | succ k ih =>
    intro h
    have e : (List.replicate m (List.replicate S 0)).getD k [] = List.replicate S 0 := by
      rw [List.getD_eq_getElem?_getD, List.getElem?_replicate_of_lt (by omega)]; rfl
    rw [dotM, ih (by omega), e, dotR_zero]
theorem dotR_ind (x : Nat) : ∀ (l : List Nat) (k : Nat), dotR (fun y => if y = x then 1 else 0) k l = if k ≤ x then l.getD (x - k) 0 else 0 := by
  intro l
  induction l with
  | nil => intro k; simp [dotR]
  | cons m l ih =>
    intro k
    rw [dotR, ih]
    by_cases e : k = x
    · subst e; simp; omega
    · rw [if_neg e]
      by_cases h : k ≤ x
      · rw [if_pos h, if_pos (by omega), show x - k = (x - (k + 1)) + 1 by omega, List.getD_cons_succ]; omega
      · rw [if_neg h, if_neg (by omega)]; omega
theorem wts_vis {a : GAuto} (ha : autoOk a = true) {xs : List GRule} {ls : List Int} (hl : lens xs = some ls) (x : Nat) :
    Wts xs (mapsOf a.next xs) a.next.length (fun r s => visV a.next x s (W1 xs r)) (fun y => if y = x then 1 else 0) := by
  refine ⟨fun r s hr hs hp => ?_, fun r s hr hs hp => ?_⟩
  · obtain ⟨q1, q2, q3, q4, _⟩ := lens_pair hl hr hp
    show visV a.next x s (W1 xs r) = _
    rw [W1_pair hl hr hp, visV_app, stepM_word ha hl _ s (by omega) hs]
  · show visV a.next x s (W1 xs r) = _
    rw [stepM_word ha hl r s hr hs, W1_let hp]
    have hsz := isLet_size (lens_isLet hl hr hp)
    have hL : (getR xs r).letter.data.toList.length = 1 := by rw [Array.length_toList]; exact hsz
    generalize (getR xs r).letter.data.toList = L at hL ⊢
    match L, hL with
    | [c], _ =>
      by_cases g : stepW a.next s (c.toNat - 97) = x
      · simp [visV, readW, g]
      · simp [visV, readW, g]
theorem wts_len {a : GAuto} {xs : List GRule} {ls : List Int} (hl : lens xs = some ls) :
    Wts xs (mapsOf a.next xs) a.next.length (fun r _ => (W1 xs r).length) (fun _ => 1) := by
  refine ⟨fun r s hr hs hp => ?_, fun r s hr hs hp => ?_⟩
  · show (W1 xs r).length = _
    rw [W1_pair hl hr hp, List.length_append]
  · show (W1 xs r).length = _
    rw [W1_let hp, Array.length_toList]; exact isLet_size (lens_isLet hl hr hp)
def visOut (a : GAuto) (xs : List GRule) (ls : List Int) (j : Int) : List Nat :=
  (visAll xs (mapsOf a.next xs) a.next.length xs.length (visPut (mapsOf a.next xs) (piecesL xs ls 0 j) (List.replicate xs.length (List.replicate a.next.length 0)) a.start.toNat, List.replicate a.next.length 0)).2
theorem visOut_word {a : GAuto} (ha : autoOk a = true) (h0 : a.start.toNat < a.next.length) {xs : List GRule} {ls : List Int} (hl : lens xs = some ls) {j : Int} (hp : ∀ r ∈ piecesL xs ls 0 j, r < xs.length) :
    (visOut a xs ls j).length = a.next.length ∧ ∀ x, (visOut a xs ls j).getD x 0 = visV a.next x a.start.toNat (cutL (wordG xs) 0 j) := by
  have hok := mapsOf_ok ha hl xs.length (Nat.le_refl _)
  rw [List.take_length] at hok
  have hm := mapsOf_len a.next xs
  have hR : RowsN a.next.length (List.replicate xs.length (List.replicate a.next.length 0)) := fun t ht => by
    rw [List.length_replicate] at ht
    rw [List.getD_eq_getElem?_getD, List.getElem?_replicate_of_lt ht]; simp
  have key : ∀ x, VisS xs a.next.length (visAll xs (mapsOf a.next xs) a.next.length xs.length (visPut (mapsOf a.next xs) (piecesL xs ls 0 j) (List.replicate xs.length (List.replicate a.next.length 0)) a.start.toNat, List.replicate a.next.length 0)) ∧
      (visOut a xs ls j).getD x 0 = visV a.next x a.start.toNat (cutL (wordG xs) 0 j) := by
    intro x
    obtain ⟨g1, g2, t, g3, g4⟩ := visPut_pot (xs := xs) (fun r s => visV a.next x s (W1 xs r)) hok hm (piecesL xs ls 0 j) (List.replicate xs.length (List.replicate a.next.length 0)) a.start.toNat hp (by simp) hR h0
    obtain ⟨k1, k2⟩ := visAll_pot hl (wts_vis ha hl x) hok hm xs.length (visPut (mapsOf a.next xs) (piecesL xs ls 0 j) (List.replicate xs.length (List.replicate a.next.length 0)) a.start.toNat, List.replicate a.next.length 0) (Nat.le_refl _) ⟨g2, g1, by simp⟩
    refine ⟨k2, ?_⟩
    rw [dotR_ind, if_pos (Nat.zero_le _), Nat.sub_zero] at k1
    unfold visOut
    rw [k1]
    unfold pot
    simp only []
    rw [g3, dotM_zero _ _ _ _ (Nat.le_refl _), dotR_zero, g4 (fun s L => visV a.next x s (L.flatMap (W1 xs))) (fun s => rfl) (fun s r L hr hs => by
      show visV a.next x s ((r :: L).flatMap (W1 xs)) = _
      rw [List.flatMap_cons, visV_app, stepM_word ha hl r s hr hs]), pieces_word hl]
    omega
  exact ⟨(key 0).1.out, fun x => (key x).2⟩
theorem vis_bound {a : GAuto} {xs : List GRule} {ls : List Int} (hl : lens xs = some ls) {st : List (List Nat) × List Nat} (hS : VisS xs a.next.length st) {k s r : Nat} (hk : k ≤ xs.length) (hr : r < k) (hs : s < a.next.length) :
    (st.1.getD r []).getD s 0 ≤ pot (fun r _ => (W1 xs r).length) (fun _ => 1) st k := by
  have h1 := dotM_le (fun r _ => (W1 xs r).length) st.1 (r := r) (s := s) (by rw [hS.rows r (by rw [hS.len]; omega)]; exact hs) k hr
  have h2 : 1 ≤ (W1 xs r).length := by
    have e1 := W1_len hl r (by omega)
    have e2 := (lens_pos' hl (r := r) (by omega)).1
    omega
  have h3 : (st.1.getD r []).getD s 0 * 1 ≤ (st.1.getD r []).getD s 0 * (W1 xs r).length := Nat.mul_le_mul (Nat.le_refl _) h2
  unfold pot; omega
def RowN (w : World) (b : Nat) (l : List Nat) : Prop := w.rowIs b 2 l.length fun i => .int .i64 ((l.getD i 0 : Nat) : Int)
section
variable {w w' : World} {b M : Nat} {l : List Nat}
theorem RowN.made (w : World) (n : Nat) : RowN (w.alloc (.cells (madeCells #[.int .i64 0] n) 2)) w.heap.size (List.replicate n 0) := by
  have h := World.rowIs_made w (.int .i64 0) n 2
  unfold RowN; rw [List.length_replicate]
  exact h.congr fun i hi => by simp [hi]
theorem RowN.set (h : RowN w b l) {i : Nat} (_hi : i < l.length) (x : Nat) : RowN (w.setCell ⟨b, i, none⟩ (.int .i64 (x : Int))) b (l.set i x) := by
  have h2 := World.rowIs.set h i (.int .i64 (x : Int))
  unfold RowN; rw [List.length_set]
  exact h2.congr fun j hj => by
    by_cases e : j = i
    · subst e; simp [hj]
    · rw [if_neg e, List.getD_eq_getElem?_getD, List.getD_eq_getElem?_getD, List.getElem?_set_ne (by omega)]
theorem RowN.lt (h : RowN w b l) : b < w.heap.size := World.rowIs.lt h
theorem RowN.cell (h : RowN w b l) {i : Nat} (hi : i < l.length) : w.cell? ⟨b, i, none⟩ = some (.int .i64 ((l.getD i 0 : Nat) : Int)) := World.rowIs.cell h hi
theorem RowN.frozen (h : RowN w b l) (i : Nat) : w.frozen? ⟨b, i, none⟩ = false := World.rowIs.frozen h i
theorem RowN.same (h : RowN w b l) (e : w'.heap[b]? = w.heap[b]?) : RowN w' b l := World.rowIs.of_block h e
theorem RowN.other (h : RowN w b l) {c o : Nat} (hne : b ≠ c) (u : Value) : RowN (w.setCell ⟨c, o, none⟩ u) b l := World.rowIs.setOther h hne u
theorem RowN.sl (h : RowN w b l) : Sl IntE w w.heap.size (.slice (some ⟨b, 0, none⟩) l.length l.length) (l.map Int.ofNat) ∨ maxLen < l.length := by
  rcases Nat.lt_or_ge maxLen l.length with hm | hm
  · exact Or.inr hm
  · refine Or.inl ⟨some ⟨b, 0, none⟩, l.length, by simp, by simp, hm, fun _ => ⟨b, 0, rfl, h.lt, fun k x hx => ⟨[.int .i64 x], rfl, fun j u hu => ?_⟩⟩⟩
    match j, hu with
    | 0, hu =>
      simp at hu; subst hu
      rw [List.getElem?_map] at hx
      obtain ⟨y, hy, rfl⟩ : ∃ y, l[k]? = some y ∧ Int.ofNat y = x := by
        cases hy : l[k]? with
        | none => rw [hy] at hx; cases hx
        | some y => rw [hy] at hx; exact ⟨y, rfl, by simpa using hx⟩
      have hk : k < l.length := (List.getElem?_eq_some_iff.1 hy).1
      have := h.cell hk
      rw [List.getD_eq_getElem?_getD, hy] at this
      simpa [IntE] using this
    | j + 1, hu => simp at hu
end
structure TabN (w : World) (N0 B : Nat) (R : Nat → Nat) (n S : Nat) (M : List (List Nat)) : Prop where
  top : w.rowIs B 34 n fun i => .slice (some ⟨R i, 0, none⟩) S S
  row : ∀ i, i < n → RowN w (R i) (M.getD i [])
  len : M.length = n
  wid : ∀ i, i < n → (M.getD i []).length = S
  inj : ∀ i j, i < n → j < n → R i = R j → i = j
  ne : ∀ i, i < n → R i ≠ B
  lowB : N0 ≤ B
  low : ∀ i, i < n → N0 ≤ R i
section
variable {w w' : World} {N0 B : Nat} {R : Nat → Nat} {n S : Nat} {M : List (List Nat)}
theorem TabN.same (h : TabN w N0 B R n S M) (e0 : w'.heap[B]? = w.heap[B]?) (e1 : ∀ i, i < n → w'.heap[R i]? = w.heap[R i]?) : TabN w' N0 B R n S M :=
  ⟨World.rowIs.of_block h.top e0, fun i hi => (h.row i hi).same (e1 i hi), h.len, h.wid, h.inj, h.ne, h.lowB, h.low⟩
theorem TabN.below (h : TabN w N0 B R n S M) (hb : Below w.heap.size w w') : TabN w' N0 B R n S M :=
  h.same (hb.block B (World.rowIs.lt h.top)) fun i hi => hb.block (R i) (h.row i hi).lt
theorem TabN.drew (h : TabN w N0 B R n S M) : TabN w.drew N0 B R n S M := h.same rfl fun _ _ => rfl
theorem TabN.other (h : TabN w N0 B R n S M) {c o : Nat} (h0 : B ≠ c) (h1 : ∀ i, i < n → R i ≠ c) (u : Value) : TabN (w.setCell ⟨c, o, none⟩ u) N0 B R n S M :=
  h.same (Below.heap_setCell w ⟨c, o, none⟩ u B h0) fun i hi => Below.heap_setCell w ⟨c, o, none⟩ u (R i) (h1 i hi)
theorem TabN.at_ (h : TabN w N0 B R n S M) {r s : Nat} (hr : r < n) (hs : s < S) : w.cell? ⟨B, r, none⟩ = some (.slice (some ⟨R r, 0, none⟩) S S) ∧ w.cell? ⟨R r, s, none⟩ = some (.int .i64 (((M.getD r []).getD s 0 : Nat) : Int)) ∧
    w.frozen? ⟨R r, s, none⟩ = false ∧ B < w.heap.size ∧ R r < w.heap.size :=
  ⟨World.rowIs.cell h.top hr, (h.row r hr).cell (by rw [h.wid r hr]; exact hs), (h.row r hr).frozen s, World.rowIs.lt h.top, (h.row r hr).lt⟩
theorem TabN.top_at (h : TabN w N0 B R n S M) {r : Nat} (hr : r < n) : w.cell? ⟨B, r, none⟩ = some (.slice (some ⟨R r, 0, none⟩) S S) ∧ B < w.heap.size := ⟨World.rowIs.cell h.top hr, World.rowIs.lt h.top⟩
theorem TabN.add (h : TabN w N0 B R n S M) {r s : Nat} (hr : r < n) (hs : s < S) (x : Nat) : TabN (w.setCell ⟨R r, s, none⟩ (.int .i64 ((((M.getD r []).getD s 0 + x : Nat)) : Int))) N0 B R n S (addM M r s x) := by
  have hrl : r < M.length := by rw [h.len]; exact hr
  refine ⟨World.rowIs.of_block h.top (Below.heap_setCell w ⟨R r, s, none⟩ _ B (fun e => h.ne r hr e.symm)), fun i hi => ?_, by rw [addM_len]; exact h.len, fun i hi => ?_, h.inj, h.ne, h.lowB, h.low⟩
  · rw [addM_get _ _ _ _ _ hrl]
    by_cases e : i = r
    · subst e
      rw [if_pos rfl]
      exact (h.row i hi).set (by rw [h.wid i hi]; exact hs) _
    · rw [if_neg e]
      exact (h.row i hi).other (fun e2 => e (h.inj i r hi hr e2)) _
  · rw [addM_get _ _ _ _ _ hrl]
    by_cases e : i = r
    · subst e; rw [if_pos rfl, addR_len]; exact h.wid i hi
    · rw [if_neg e]; exact h.wid i hi
end
structure TabK (w : World) (N0 B : Nat) (R : Nat → Nat) (n k S : Nat) : Prop where
  top : w.rowIs B 34 n fun i => if i < k then .slice (some ⟨R i, 0, none⟩) S S else .slice none 0 0
  row : ∀ i, i < k → RowN w (R i) (List.replicate S 0)
  inj : ∀ i j, i < k → j < k → R i = R j → i = j
  ne : ∀ i, i < k → R i ≠ B
  lowB : N0 ≤ B
  low : ∀ i, i < k → N0 ≤ R i
theorem TabK.done {w : World} {N0 B : Nat} {R : Nat → Nat} {n S : Nat} (h : TabK w N0 B R n n S) : TabN w N0 B R n S (List.replicate n (List.replicate S 0)) := by
  have e : ∀ i, i < n → (List.replicate n (List.replicate S 0)).getD i [] = List.replicate S 0 := fun i hi => by
    rw [List.getD_eq_getElem?_getD, List.getElem?_replicate_of_lt hi]; rfl
  exact ⟨h.top.congr fun i hi => by rw [if_pos hi], fun i hi => by rw [e i hi]; exact h.row i hi, by simp, fun i hi => by rw [e i hi]; simp, h.inj, h.ne, h.lowB, h.low⟩
theorem TabK.next {w w' : World} {N0 B : Nat} {R : Nat → Nat} {n k S b : Nat} (h : TabK w N0 B R n k S) (_hk : k < n) (hb : Below w.heap.size w w') (hr : RowN w' b (List.replicate S 0)) (hn : w.heap.size ≤ b) (hN : N0 ≤ w.heap.size) :
    TabK (w'.setCell ⟨B, k, none⟩ (.slice (some ⟨b, 0, none⟩) S S)) N0 B (fun i => if i = k then b else R i) n (k + 1) S := by
  have hB := World.rowIs.lt h.top
  refine ⟨?_, fun i hi => ?_, fun i j hi hj e => ?_, fun i hi => ?_, h.lowB, fun i hi => ?_⟩
  · have h1 : w'.rowIs B 34 n (fun i => if i < k then .slice (some ⟨R i, 0, none⟩) S S else .slice none 0 0) := World.rowIs.of_block h.top (hb.block B hB)
    refine (h1.set k (.slice (some ⟨b, 0, none⟩) S S)).congr fun i hi => ?_
    by_cases e : i = k
    · subst e; simp
    · simp only [if_neg e]
      by_cases g : i < k
      · rw [if_pos g, if_pos (by omega)]
      · rw [if_neg g, if_neg (by omega)]
  · by_cases e : i = k
    · simp only [e, if_true]; exact hr.other (by omega) _
    · simp only [if_neg e]
      have h2 := h.row i (by omega)
      exact (h2.same (hb.block _ h2.lt)).other (h.ne i (by omega)) _
  · by_cases e1 : i = k
    · by_cases e2 : j = k
      · omega
      · simp only [e1, if_true, if_neg e2] at e
        have := (h.row j (by omega)).lt; omega
    · by_cases e2 : j = k
      · simp only [e2, if_true, if_neg e1] at e
        have := (h.row i (by omega)).lt; omega
      · simp only [if_neg e1, if_neg e2] at e
        exact h.inj i j (by omega) (by omega) e
  · by_cases e : i = k
    · simp only [e, if_true]; omega
    · simp only [if_neg e]; exact h.ne i (by omega)
  · by_cases e : i = k
    · simp only [e, if_true]; omega
    · simp only [if_neg e]; exact h.low i (by omega)
theorem TabK.start {w : World} {N0 n S : Nat} (R : Nat → Nat) {B : Nat} (h : w.rowIs B 34 n fun _ => .slice none 0 0) (hN : N0 ≤ B) : TabK w N0 B R n 0 S :=
  ⟨h.congr fun i hi => by rw [if_neg (by omega)], fun i hi => absurd hi (by omega), fun i j hi => absurd hi (by omega), fun i hi => absurd hi (by omega), hN, fun i hi => absurd hi (by omega)⟩
theorem TabK.below {w w' : World} {N0 B : Nat} {R : Nat → Nat} {n k S : Nat} (h : TabK w N0 B R n k S) (hb : Below w.heap.size w w') : TabK w' N0 B R n k S :=
  ⟨World.rowIs.of_block h.top (hb.block B (World.rowIs.lt h.top)), fun i hi => (h.row i hi).same (hb.block _ (h.row i hi).lt), h.inj, h.ne, h.lowB, h.low⟩
theorem visPut_le (maps : List (List Int)) : ∀ (L : List Nat) (M : List (List Nat)) (s : Nat) (k : Nat), (∀ r t, (M.getD r []).getD t 0 ≤ k) → ∀ r t, ((visPut maps L M s).getD r []).getD t 0 ≤ k + L.length := by
  intro L
  induction L with
  | nil => intro M s k h; exact h
  | cons r L ih =>
    intro M s k h r' t'
    have e := ih (addM M r s 1) (stepM maps s r) (k + 1) (fun r2 t2 => by
      by_cases hr : r < M.length
      · rw [addM_get _ _ _ _ _ hr]
        by_cases e : r2 = r
        · rw [if_pos e]
          by_cases hs : s < (M.getD r []).length
          · by_cases e2 : t2 = s
            · subst e2
              unfold addR
              rw [List.getD_eq_getElem?_getD, List.getElem?_set_self hs]
              have := h r t2; show (M.getD r []).getD t2 0 + 1 ≤ _; omega
            · unfold addR
              rw [List.getD_eq_getElem?_getD, List.getElem?_set_ne (by omega), ← List.getD_eq_getElem?_getD]
              have := h r t2; omega
          · unfold addR
            rw [List.set_eq_of_length_le (by omega)]
            have := h r t2; omega
        · rw [if_neg e]; have := h r2 t2; omega
      · unfold addM
        rw [List.set_eq_of_length_le (by omega)]
        have := h r2 t2; omega) r' t'
    rw [visPut, List.length_cons]; omega
structure VJ (w0 : World) (N0 bs B : Nat) (R : Nat → Nat) (n S : Nat) (C : Nat → Prop) (st : Nat × List (List Nat)) (w : World) : Prop where
  wk : Wk (fun b => b < w0.heap.size ∧ b ≠ bs ∧ ∀ i, i < n → b ≠ R i) w0 w
  cell : w.cell? ⟨bs, 0, none⟩ = some (.int .i64 st.1)
  fr : w.frozen? ⟨bs, 0, none⟩ = false
  tab : TabN w N0 B R n S st.2
  nc : ¬ C bs
  nr : ∀ i, i < n → ¬ C (R i)
  lt : st.1 < S
theorem VJ.ext {w0 : World} {N0 bs B : Nat} {R : Nat → Nat} {n S : Nat} (hbs : bs < w0.heap.size) (hR : ∀ i, i < n → R i < w0.heap.size) : ∀ C st w w', VJ w0 N0 bs B R n S C st w → Below w.heap.size w w' → (∀ b, C b → b < w.heap.size) → VJ w0 N0 bs B R n S (ext C w.heap.size w'.heap.size) st w' := by
  intro C st w w' h hb hC
  have hsz := h.wk.size
  refine ⟨h.wk.trans (Wk.of_below hb fun k hk => by have := hk.1; omega), (hb.cell (p := ⟨bs, 0, none⟩) (by show bs < _; omega)).trans h.cell, (hb.frozen (p := ⟨bs, 0, none⟩) (by show bs < _; omega)).trans h.fr, h.tab.below hb, ?_, ?_, h.lt⟩
  · intro h'
    rcases h' with h' | h'
    · exact h.nc h'
    · omega
  · intro i hi h'
    rcases h' with h' | h'
    · exact h.nr i hi h'
    · have := hR i hi; omega
def visStepP (maps : List (List Int)) (st : Nat × List (List Nat)) (r : Nat) : Nat × List (List Nat) := (stepM maps st.1 r, addM st.2 r st.1 1)
theorem visStepP_fold (maps : List (List Int)) : ∀ (L : List Nat) (s : Nat) (M : List (List Nat)), L.foldl (visStepP maps) (s, M) = (L.foldl (stepM maps) s, visPut maps L M s) := by
  intro L
  induction L with
  | nil => intro s M; rfl
  | cons r L ih => intro s M; rw [List.foldl_cons, List.foldl_cons, visPut, ← ih]; rfl
def VOk (st : Nat × List (List Nat)) (r : Nat) : Prop := (st.2.getD r []).getD st.1 0 ≤ 1000000000000000
set_option maxRecDepth 100000 in
set_option maxHeartbeats 1000000 in
theorem visCl_any (w0 : World) (br bo bs B N0 : Nat) (R : Nat → Nat) (n S : Nat) (vM : Value) (maps : List (List Int)) (hbr : br < w0.heap.size ∧ br ≠ bs ∧ ∀ i, i < n → br ≠ R i) (hbo : bo < w0.heap.size ∧ bo ≠ bs ∧ ∀ i, i < n → bo ≠ R i)
    (hbs : bs < w0.heap.size) (hR : ∀ i, i < n → R i < w0.heap.size ∧ R i ≠ bs) (hB : B ≠ bs) (hn : n ≤ 1099511627776)
    (hm : w0.cell? ⟨br, 6, none⟩ = some vM) (ho : w0.cell? ⟨bo, 0, none⟩ = some (.slice (some ⟨B, 0, none⟩) n n)) (hM : SlS (SliceE IntE) w0 (fun b => b < w0.heap.size ∧ b ≠ bs ∧ ∀ i, i < n → b ≠ R i) vM maps) (hok : RowsOk S maps) (hml : maps.length = n) :
    ∀ C st (r : Nat) (w : World), VJ w0 N0 bs B R n S C st w → VOk st r → r < n → (∀ b, C b → b < w.heap.size) → Calls Try.prog 112 (#[.int .i64 r] ++ #[.pointer (some ⟨bo, 0, none⟩), .pointer (some ⟨bs, 0, none⟩), .pointer (some ⟨br, 0, none⟩)]) w (TakePost (VJ w0 N0 bs B R n S) C (visStepP maps st r) w) := by
  intro C st r w hJ hO hr hC
  have HJ := Lib.hid hJ
  have HC := Lib.hid hC
  obtain ⟨s, M⟩ := st
  have hlt : s < S := hJ.lt
  obtain ⟨A, c, rfl, _, hmx, hrow⟩ := (hM.keep hJ.wk.keep)
  obtain ⟨b, o, rfl, hbb, hcells⟩ := cells2 hrow (by omega)
  have r1 := hok r (by omega)
  obtain ⟨b', o', c', d1, d2, d3⟩ := hcells r s (by omega) (by rw [r1.1]; exact hlt)
  rw [r1.1] at d1
  obtain ⟨m, hm1⟩ : ∃ m : Nat, (maps.getD r []).getD s 0 = m := ⟨((maps.getD r []).getD s 0).toNat, by have := (r1.2 s hlt).1; omega⟩
  have hmn : m < S := by have := (r1.2 s hlt).2; omega
  rw [hm1] at d3
  have hst : stepM maps s r = m := by rw [stepM, hm1]; rfl
  have Hst := Lib.hid hst
  have x6 := hJ.wk.cell (k := br) (o := 6) hbr hm
  have x0 := hJ.wk.cell (k := bo) (o := 0) hbo ho
  have xs : w.cell? ⟨bs, 0, none⟩ = some (.int .i64 (s : Int)) := hJ.cell
  have xf := hJ.fr
  have hsz := hJ.wk.size
  have y1 : bs < w.heap.size := by omega
  have y2 : br < w.heap.size := by omega
  have y3 : bo < w.heap.size := by omega
  have y4 : b < w.heap.size := by have := hbb.1; omega
  have y5 : b' < w.heap.size := by have := d2.1; omega
  have i1 : (r : Int) < (maps.length : Int) := by omega
  have i2 : (s : Int) < (S : Int) := by omega
  have i3 : (r : Int) < (n : Int) := by omega
  obtain ⟨t1, t2, t3, t4, t5⟩ := hJ.tab.at_ hr hlt
  have hO' : (M.getD r []).getD s 0 ≤ 1000000000000000 := hO
  obtain ⟨x, hx⟩ : ∃ x, (M.getD r []).getD s 0 = x := ⟨_, rfl⟩
  have Hx := Lib.hid hx
  have t2' : w.cell? ⟨R r, s, none⟩ = some (.int .i64 (x : Int)) := by have := t2; simp only at this; rw [hx] at this; exact this
  have hwr : IntKind.i64.wrap ((x : Int) + 1) = (x : Int) + 1 := IntWalk.i64_in _ (by omega)
  have n1 : ¬ (br = R r) := fun e => hbr.2.2 r hr e
  have n2 : ¬ (bs = R r) := fun e => (hR r hr).2 e.symm
  have n3 : ¬ (b = R r) := fun e => hbb.2.2 r hr e
  have n4 : ¬ (b' = R r) := fun e => d2.2.2 r hr e
  have g6 := fun v => show (w.setCell ⟨R r, s, none⟩ v).drew.cell? ⟨br, 6, none⟩ = _ from (World.cell?_of_block (a := ⟨br, 6, none⟩) (Below.heap_setCell w ⟨R r, s, none⟩ v br n1)).trans x6
  have gs := fun v => show (w.setCell ⟨R r, s, none⟩ v).drew.cell? ⟨bs, 0, none⟩ = _ from (World.cell?_of_block (a := ⟨bs, 0, none⟩) (Below.heap_setCell w ⟨R r, s, none⟩ v bs n2)).trans xs
  have gb := fun v => show (w.setCell ⟨R r, s, none⟩ v).drew.cell? ⟨b, o + r, none⟩ = _ from (World.cell?_of_block (a := ⟨b, o + r, none⟩) (Below.heap_setCell w ⟨R r, s, none⟩ v b n3)).trans d1
  have gb' := fun v => show (w.setCell ⟨R r, s, none⟩ v).drew.cell? ⟨b', o' + s, none⟩ = _ from (World.cell?_of_block (a := ⟨b', o' + s, none⟩) (Below.heap_setCell w ⟨R r, s, none⟩ v b' n4)).trans d3
  have gf := fun v => show (w.setCell ⟨R r, s, none⟩ v).drew.frozen? ⟨bs, 0, none⟩ = _ from (World.frozen?_of_block (a := ⟨bs, 0, none⟩) (Below.heap_setCell w ⟨R r, s, none⟩ v bs n2)).trans xf
  have G6 := Lib.hid g6
  have Gs := Lib.hid gs
  have Gb := Lib.hid gb
  have Gb' := Lib.hid gb'
  have Gf := Lib.hid gf
  unfold maxLen at hmx
  have Hnr : Hid (∀ i, i < n → R i ≠ bs) := fun i hi => (hR i hi).2
  have HBs := Lib.hid hB
  have Hr := Lib.hid hr
  have Hlt := Lib.hid hlt
  clear hcells r1 hm1 hst hrow hM hm hJ hok hC hx hO hO' t2 d2 hbb n1 n3 n4 g6 gs gb gb' gf hR hbr hbo hB
  show Calls Try.prog 112 #[.int .i64 r, .pointer (some ⟨bo, 0, none⟩), .pointer (some ⟨bs, 0, none⟩), .pointer (some ⟨br, 0, none⟩)] w _
  go_enter Try.func112, Try.ntmps112
  go_wp2_with fail
  go_still_tail 9, (by kernel_rfl)
  change wpList _ _ _ _ _ w.drew
  go_wp2_with fail
  have e6 := G6.out (.int .i64 ((x : Int) + 1))
  have es := Gs.out (.int .i64 ((x : Int) + 1))
  have eb := Gb.out (.int .i64 ((x : Int) + 1))
  have eb' := Gb'.out (.int .i64 ((x : Int) + 1))
  have ef := Gf.out (.int .i64 ((x : Int) + 1))
  clear x6 xs d1 d3 xf t1 t2' t3 x0
  have T1 := Lib.hid (HJ.out.tab.add Hr.out Hlt.out 1)
  rw [show (((M.getD r []).getD s 0 + 1 : Nat) : Int) = (x : Int) + 1 by rw [Hx.out]; rfl] at T1
  replace T1 := Lib.hid T1.out.drew
  have W1 : Hid (Wk (fun b => b < w0.heap.size ∧ b ≠ bs ∧ ∀ i, i < n → b ≠ R i) w0 (w.setCell ⟨R r, s, none⟩ (.int .i64 ((x : Int) + 1))).drew) := HJ.out.wk.trans (Wk.set fun h => h.2.2 r Hr.out rfl)
  have W2 : Hid (Wk C w (w.setCell ⟨R r, s, none⟩ (.int .i64 ((x : Int) + 1))).drew) := Wk.set (HJ.out.nr r Hr.out)
  have z0 : (w.setCell ⟨R r, s, none⟩ (.int .i64 ((x : Int) + 1))).drew.heap.size = w.heap.size := by simp
  clear Gf G6 Gs Gb Gb'
  generalize (w.setCell ⟨R r, s, none⟩ (.int .i64 ((x : Int) + 1))).drew = w1 at *
  have v1 : bs < w1.heap.size := by omega
  have v2 : br < w1.heap.size := by omega
  have v4 : b < w1.heap.size := by omega
  have v5 : b' < w1.heap.size := by omega
  clear y1 y2 y3 y4 y5 t4 t5 hwr
  go_still_tail 8, (by kernel_rfl)
  change wpList _ _ _ _ _ w1.drew
  go_wp2_with fail
  go_end0
  have nC : ¬ C bs := HJ.out.nc
  refine ⟨rfl, C, fun _ h => h, ?_, ⟨?_, ?_, ?_, ?_, HJ.out.nc, HJ.out.nr, by show stepM maps s r < S; rw [Hst.out]; exact hmn⟩, ?_⟩
  · intro b h
    have := HC.out b h
    simp [World.setCell]; omega
  · exact W1.out.trans (Wk.set (C := fun b => b < w0.heap.size ∧ b ≠ bs ∧ ∀ i, i < n → b ≠ R i) (w := w1) (b := bs) (o := 0) (v := .int .i64 (m : Int)) fun h => h.2.1 rfl)
  · show _ = some (Value.int .i64 ((stepM maps s r : Nat) : Int))
    rw [Hst.out]; simp [go_sem, es]
  · simp [go_sem, ef]
  · exact (T1.out.other (c := bs) (o := 0) (by exact HBs.out) (fun i hi => Hnr.out i hi) (.int .i64 (m : Int))).drew
  · exact W2.out.trans (Wk.set nC)
end Go.Proofs.Ytfkijaamfmpboaa
