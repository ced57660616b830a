import Derived.Test.YtagpjommhoedlaaGreatDoorM3
import Derived.Test.YtagpjommhoedlaaGreatDoorM5
import Derived.Test.YtagpjommhoedlaaGreatDoorM4
namespace Go.Proofs.YtagpjommhoedlaaGreatDoor
open Go.RowKit

theorem getD_at {x : ByteArray} {i : Nat} (h : i < x.size) : x.data.getD i 0 = x[i] := by
  rw [Array.getD_eq_getD_getElem?, Array.getElem?_eq_getElem h]; rfl
theorem W1_letsG {x : ByteArray} {c : UInt8} {r : Nat} (hr : r < (letsG x 4).length) (h : (letsG x 4)[r] = letR c) : W1 (letsG x 4) r = [c] := by
  have hg : getR (letsG x 4) r = letR c := by unfold getR; rw [List.getD_eq_getElem?_getD, List.getElem?_eq_getElem hr, h]; rfl
  rw [W1_let (by rw [hg]; rfl), hg]
  rfl
theorem W1_idx {x : ByteArray} (hw : wordOk x = true) {i : Nat} (h : i < x.size) : W1 (letsG x 4) (idxG x x[i]) = [x[i]] := by
  have hl := idxG_lt hw h
  refine W1_letsG hl ?_
  unfold idxG at hl ⊢
  exact List.getElem_idxOf hl
/-- The word of the grammar of a plain word. -/
theorem plainG_word {x : ByteArray} (hw : wordOk x = true) (hg : gramOk (plainG x) = true) : wordG (plainG x) = x.data.toList := by
  obtain ⟨_, ls, hl⟩ := gram_lens hg
  have hsz : x.data.toList.length = x.size := by rw [Array.length_toList]; rfl
  by_cases h0 : x.size = 0
  · have he : x.data.toList = [] := List.eq_nil_of_length_eq_zero (by omega)
    have hc : ∀ c, hasC x c = false := fun c => by unfold hasC; rw [he]; rfl
    have h1 : letsG x 4 = [] := by unfold letsG; simp [hc]
    rw [plainG, h0, plainK_zero, h1, he]; rfl
  · have hpre : ∀ m, m ≤ x.size - 1 → ∃ l, lens (plainK x m) = some l := by
      intro m hm
      have hpp : plainG x = plainK x m ++ ((List.range (x.size - 1)).drop m).map (pairAt x) := by
        unfold plainG plainK
        rw [List.append_assoc, ← List.map_append]
        congr 2
        have := List.take_append_drop m (List.range (x.size - 1))
        rw [List.take_range, Nat.min_eq_left hm] at this
        exact this.symm
      rw [hpp] at hl
      obtain ⟨l1, t, h1, _⟩ := lens_pre hl
      exact ⟨l1, h1⟩
    have main : ∀ m, m ≤ x.size - 1 → W1 (plainK x m) (if m = 0 then idxG x (x.data.getD 0 0) else (letsG x 4).length + m - 1) = x.data.toList.take (m + 1) := by
      intro m
      induction m with
      | zero =>
        intro _
        rw [if_pos rfl, plainK_zero, getD_at (by omega), W1_idx hw (by omega)]
        have h1 : (0 : Nat) < x.data.toList.length := by omega
        have h2 : x.data.toList[0] = x[0] := by simp; rfl
        rw [List.take_add_one, List.getElem?_eq_getElem h1, h2]
        simp
      | succ m ih =>
        intro hm
        have ih1 := ih (by omega)
        obtain ⟨l, hlm⟩ := hpre m (by omega)
        obtain ⟨l2, hlm2⟩ := hpre (m + 1) hm
        have hpl := plainK_len x m
        have hi0 := idxG_lt hw (i := 0) (by omega)
        have hi1 := idxG_lt hw (i := m + 1) (by omega)
        rw [plainK_succ] at hlm2 ⊢
        have hpa : pairAt x m = pairR (((if m = 0 then idxG x (x.data.getD 0 0) else (letsG x 4).length + m - 1 : Nat)) : Int) ((idxG x x[m + 1] : Nat) : Int) := by
          unfold pairAt
          rw [getD_at (show m + 1 < x.size by omega)]
          congr 1
          split
          · rfl
          · rfl
        rw [hpa] at hlm2 ⊢
        obtain ⟨ρ, hρ⟩ : ∃ ρ, (if m = 0 then idxG x (x.data.getD 0 0) else (letsG x 4).length + m - 1) = ρ := ⟨_, rfl⟩
        have hρl : ρ < (plainK x m).length := by
          rw [← hρ, hpl]
          split
          · rw [getD_at (show 0 < x.size by omega)]; omega
          · omega
        rw [hρ] at hlm2 ih1 ⊢
        rw [if_neg (show ¬ m + 1 = 0 by omega), show (letsG x 4).length + (m + 1) - 1 = (plainK x m).length by omega]
        rw [W1_snoc hlm2 hρl (by omega), ih1]
        have hlz : ∃ l0, lens (letsG x 4) = some l0 := by have := hpre 0 (by omega); rw [plainK_zero] at this; exact this
        obtain ⟨l0, hl0⟩ := hlz
        have hidx : W1 (plainK x m) (idxG x x[m + 1]) = [x[m + 1]] := by
          unfold plainK
          rw [W1_appL hl0 hi1, W1_idx hw (by omega)]
        rw [hidx]
        have h1 : m + 1 < x.data.toList.length := by omega
        have h2 : x.data.toList[m + 1] = x[m + 1] := by simp; rfl
        rw [List.take_add_one (i := m + 1), List.getElem?_eq_getElem h1, h2]
        rfl
    have hfin := main (x.size - 1) (Nat.le_refl _)
    have hpl := plainK_len x (x.size - 1)
    have hi0 := idxG_lt hw (i := 0) (by omega)
    have hlen : 0 < (plainG x).length := by unfold plainG; omega
    rw [wordG_pos hlen]
    have htk : x.data.toList.take (x.size - 1 + 1) = x.data.toList := List.take_of_length_le (by omega)
    rw [htk] at hfin
    by_cases h1 : x.size = 1
    · have hone : x.data.toList = [x[0]] := by
        have h2 : x.data.toList[0]'(by omega) = x[0] := by simp; rfl
        obtain ⟨y, hy⟩ := List.length_eq_one_iff.1 (show x.data.toList.length = 1 by omega)
        rw [← h2]; simp [hy]
      have hP : plainG x = letsG x 4 := by unfold plainG; rw [h1]; exact plainK_zero x
      rw [hP, hone]
      have hr : (letsG x 4).length - 1 < (letsG x 4).length := by omega
      refine W1_letsG hr ?_
      obtain ⟨k, hk, hkk⟩ := letsG_ok x _ (List.getElem_mem hr)
      have hmem := List.getElem_mem hr
      unfold letsG at hmem
      obtain ⟨j, hj, hjj⟩ := List.mem_map.1 hmem
      have hc := (List.mem_filter.1 hj).2
      unfold hasC at hc
      rw [hone, List.contains_iff_mem] at hc
      simp at hc
      unfold letsG
      rw [← hjj, hc]
    · rw [if_neg (by omega)] at hfin
      have : (plainG x).length - 1 = (letsG x 4).length + (x.size - 1) - 1 := by unfold plainG; omega
      rw [this]
      exact hfin
theorem plainG_ge {x : ByteArray} (hw : wordOk x = true) : x.size ≤ (plainG x).length := by
  unfold plainG
  rw [plainK_len]
  rcases Nat.eq_zero_or_pos x.size with h | h
  · omega
  · have := idxG_lt hw h; omega
end Go.Proofs.YtagpjommhoedlaaGreatDoor

namespace Go.Proofs.YtagpjommhoedlaaGreatDoor
open Go.RowKit

theorem kf_word (X : ByteArray) : ∀ m, kf X m ≠ 0 → ∃ k : Nat, kf X m = (k : Int) ∧ 1 ≤ k ∧ k < m ∧ (⟨(wordE (k : Int)).toArray⟩ : ByteArray) = X := by
  intro m
  induction m with
  | zero => intro h; exact absurd rfl h
  | succ m ih =>
    intro h
    rw [kf] at h ⊢
    split at h
    · rename_i hh
      rw [if_pos hh]
      exact ⟨m, rfl, hh.1, by omega, hh.2⟩
    · rename_i hh
      rw [if_neg hh]
      obtain ⟨k, h1, h2, h3, h4⟩ := ih h
      exact ⟨k, h1, h2, by omega, h4⟩
theorem kf_eq {X : ByteArray} {m : Nat} (h1 : 1 ≤ m) (h8 : m < 8) (h : (⟨(wordE (m : Int)).toArray⟩ : ByteArray) = X) : kf X 8 = (m : Int) := by
  subst h
  have : m = 1 ∨ m = 2 ∨ m = 3 ∨ m = 4 ∨ m = 5 ∨ m = 6 ∨ m = 7 := by omega
  rcases this with rfl | rfl | rfl | rfl | rfl | rfl | rfl <;> decide
def eB : ByteArray := ⟨#[]⟩
/-- The edit that the program tries. -/
def rdMk (κ : Int) (L : List ByteArray) : GEdit :=
  ⟨κ, pI (L.getD 1 eB).data.toList, if usesJ κ then pI (L.getD 2 eB).data.toList else 0, if usesK κ then pI (L.getD 3 eB).data.toList else 0, if κ == 1 then plainG (L.getD 2 eB) else [], if κ == 7 then L.getD 3 eB else eB⟩
def rdTry (κ : Int) (L : List ByteArray) (t : ByteArray) : Option GEdit :=
  if (κ == 1) && !pgOk (L.getD 2 eB) then none
  else if editOk (rdMk κ L) && (etV (rdMk κ L) == t.data.toList) then some (rdMk κ L) else none
def rdImp (t : ByteArray) : Option GEdit :=
  if kf ((splB 32 t).headD eB) 8 = 0 then none else rdTry (kf ((splB 32 t).headD eB) 8) (splB 32 t) t
/-! what stands in the pieces -/
theorem dec_no32 (n : Int) : ∀ c ∈ dec n, c ≠ 32 := by
  intro c hc e
  have h := (decD_num n.toNat).2.1
  have := List.all_eq_true.1 h c hc
  subst e
  simp [isDgt] at this
theorem wordE_no32 {k : Int} (h : inR k 1 7 = true) : ∀ c ∈ wordE k, c ≠ 32 := by
  rcases kind7 h with rfl | rfl | rfl | rfl | rfl | rfl | rfl <;> decide
theorem letters_no32 {l : List UInt8} (h : l.all letOk = true) : ∀ c ∈ l, c ≠ 32 := by
  intro c hc e
  have := List.all_eq_true.1 h c hc
  subst e
  simp [letOk] at this
theorem wordOk_all {x : ByteArray} (h : wordOk x = true) : x.data.toList.all letOk = true := by
  unfold wordOk at h
  simp only [Bool.and_eq_true] at h
  exact h.2
/-- The fields of an edit's text. -/
def flds (e : GEdit) : List (List UInt8) := [wordE e.kind, dec e.i] ++ (if usesJ e.kind then [dec e.j] else []) ++ (if usesK e.kind then [dec e.k] else []) ++ (if e.kind == 1 then [wordG e.part] else []) ++ (if e.kind == 7 then [e.map.data.toList] else [])
theorem etL_flds {e : GEdit} (h : inR e.kind 1 7 = true) : etL e = glue 32 (flds e) := by
  unfold etL flds
  rcases combos h with ⟨h1, h2, h3, h4⟩ | ⟨h1, h2, h3, h4⟩ | ⟨h1, h2, h3, h4⟩ | ⟨h1, h2, h3, h4⟩ <;> simp [h1, h2, h3, h4, glue]
theorem flds_no32 {e : GEdit} (h : editOk e = true) : ∀ u ∈ flds e, ∀ c ∈ u, c ≠ 32 := by
  obtain ⟨hk, _, _, _, hg, _⟩ := editOk_nums h
  have hw : (wordG e.part).all letOk = true := by
    obtain ⟨_, ls, hl⟩ := gram_lens hg
    by_cases h0 : 0 < e.part.length
    · rw [wordG_pos h0]; exact W1_ok hl _ (by omega)
    · have : e.part = [] := List.eq_nil_of_length_eq_zero (by omega)
      rw [this]; rfl
  have hm : e.kind == 7 → e.map.data.toList.all letOk = true := by
    intro h7
    unfold editOk at h
    simp only [Bool.and_eq_true] at h
    have := h.2
    rw [if_pos h7, Bool.and_eq_true] at this
    exact wordOk_all this.2
  intro u hu
  unfold flds at hu
  simp only [List.mem_append, List.mem_cons, List.not_mem_nil, or_false] at hu
  rcases hu with ((((rfl | rfl) | hu) | hu) | hu) | hu
  · exact wordE_no32 hk
  · exact dec_no32 _
  · split at hu
    · simp at hu; subst hu; exact dec_no32 _
    · simp at hu
  · split at hu
    · simp at hu; subst hu; exact dec_no32 _
    · simp at hu
  · split at hu
    · simp at hu; subst hu; exact letters_no32 hw
    · simp at hu
  · split at hu
    · rename_i h7
      simp at hu; subst hu; exact letters_no32 (hm h7)
    · simp at hu
end Go.Proofs.YtagpjommhoedlaaGreatDoor

namespace Go.Proofs.YtagpjommhoedlaaGreatDoor
open Go.RowKit

theorem shapes {κ : Int} (h : inR κ 1 7 = true) :
    (usesJ κ = false ∧ usesK κ = false ∧ (κ == 1) = true ∧ (κ == 7) = false ∧ (usesS κ).data.toList = [73, 80]) ∨ (usesJ κ = true ∧ usesK κ = false ∧ (κ == 1) = false ∧ (κ == 7) = false ∧ (usesS κ).data.toList = [73, 74]) ∨
    (usesJ κ = true ∧ usesK κ = true ∧ (κ == 1) = false ∧ (κ == 7) = false ∧ (usesS κ).data.toList = [73, 74, 75]) ∨ (usesJ κ = true ∧ usesK κ = false ∧ (κ == 1) = false ∧ (κ == 7) = true ∧ (usesS κ).data.toList = [73, 74, 77]) := by
  rcases kind7 h with rfl | rfl | rfl | rfl | rfl | rfl | rfl <;> decide
theorem len3 {α : Type} {l : List α} (h : l.length = 3) : ∃ a b c, l = [a, b, c] := by
  match l, h with
  | [a, b, c], _ => exact ⟨a, b, c, rfl⟩
theorem len4 {α : Type} {l : List α} (h : l.length = 4) : ∃ a b c d, l = [a, b, c, d] := by
  match l, h with
  | [a, b, c, d], _ => exact ⟨a, b, c, d, rfl⟩
section
variable {κ : Int} {x1 x2 x3 : ByteArray} {e : GEdit}
theorem run_IP : rdRun [73, 80] [x1, x2] ⟨κ, 0, 0, 0, [], ⟨#[]⟩⟩ = some e ↔ (rdOk x1.data.toList = true ∧ wordOk x2 = true ∧ x2.size ≤ 400) ∧ e = ⟨κ, numV x1.data.toList, 0, 0, plainG x2, ⟨#[]⟩⟩ := by
  cases h1 : rdOk x1.data.toList <;> cases h2 : wordOk x2 <;> by_cases h3 : x2.size ≤ 400 <;> simp [rdRun, rdStep, h1, h2, h3, eq_comm]
theorem run_IJ : rdRun [73, 74] [x1, x2] ⟨κ, 0, 0, 0, [], ⟨#[]⟩⟩ = some e ↔ (rdOk x1.data.toList = true ∧ rdOk x2.data.toList = true) ∧ e = ⟨κ, numV x1.data.toList, numV x2.data.toList, 0, [], ⟨#[]⟩⟩ := by
  cases h1 : rdOk x1.data.toList <;> cases h2 : rdOk x2.data.toList <;> simp [rdRun, rdStep, h1, h2, eq_comm]
theorem run_IJK : rdRun [73, 74, 75] [x1, x2, x3] ⟨κ, 0, 0, 0, [], ⟨#[]⟩⟩ = some e ↔ (rdOk x1.data.toList = true ∧ rdOk x2.data.toList = true ∧ rdOk x3.data.toList = true) ∧ e = ⟨κ, numV x1.data.toList, numV x2.data.toList, numV x3.data.toList, [], ⟨#[]⟩⟩ := by
  cases h1 : rdOk x1.data.toList <;> cases h2 : rdOk x2.data.toList <;> cases h3 : rdOk x3.data.toList <;> simp [rdRun, rdStep, h1, h2, h3, eq_comm]
theorem run_IJM : rdRun [73, 74, 77] [x1, x2, x3] ⟨κ, 0, 0, 0, [], ⟨#[]⟩⟩ = some e ↔ (rdOk x1.data.toList = true ∧ rdOk x2.data.toList = true) ∧ e = ⟨κ, numV x1.data.toList, numV x2.data.toList, 0, [], x3⟩ := by
  cases h1 : rdOk x1.data.toList <;> cases h2 : rdOk x2.data.toList <;> simp [rdRun, rdStep, h1, h2, eq_comm]
end
theorem splB_lists (b : UInt8) (t : ByteArray) : (splB b t).map (·.data.toList) = spl b [] t.data.toList := by
  unfold splB
  rw [List.map_map]
  conv => rhs; rw [← List.map_id (spl b [] t.data.toList)]
  apply List.map_congr_left
  intro u _
  rfl
/-- An edit whose fields stand in the text. -/
theorem et_of_flds {e : GEdit} {t : ByteArray} (h : editOk e = true) (hf : flds e = (splB 32 t).map (·.data.toList)) (hw : (wordG e.part).length ≤ 2000) : etV e = t.data.toList := by
  unfold etV
  rw [if_pos h]
  have : (e.kind == 1 && decide (2000 < (wordG e.part).length)) = false := by simp; intro _; exact hw
  rw [this, etL_flds (editOk_nums h).1, hf, splB_lists, glue_spl]
  simp
/-- The pieces of the text of an edit. -/
theorem flds_of_et {e : GEdit} {t : ByteArray} (h : editOk e = true) (ht : etV e = t.data.toList) (h0 : t.data.toList ≠ []) : (splB 32 t).map (·.data.toList) = flds e := by
  unfold etV at ht
  rw [if_pos h] at ht
  split at ht
  · exact absurd ht.symm h0
  · rw [splB_lists, ← ht, etL_flds (editOk_nums h).1, spl_glue _ (by simp [flds]) (flds_no32 h)]
theorem bytes_eq {x : ByteArray} {u : List UInt8} (h : (⟨u.toArray⟩ : ByteArray) = x) : u = x.data.toList := by rw [← h]
theorem rdSpec_imp {t : ByteArray} {e : GEdit} (h : rdSpec t = some e) : rdImp t = some e := by
  unfold rdSpec at h
  unfold rdImp
  generalize hκ : kf ((splB 32 t).headD ⟨#[]⟩) 8 = κ at h
  have hκ' : kf ((splB 32 t).headD eB) 8 = κ := hκ
  rw [hκ']
  unfold rdK at h
  split at h
  · cases h
  · rename_i hk0
    rw [if_neg hk0]
    split at h
    · cases h
    · rename_i hlen
      have hlen : (splB 32 t).length = (usesS κ).size + 1 := by simpa using hlen
      obtain ⟨k, hk1, hk2, hk3, hk4⟩ := kf_word ((splB 32 t).headD eB) 8 (by rw [hκ']; exact hk0)
      rw [hκ'] at hk1
      have hin : inR κ 1 7 = true := by rw [hk1]; simp [inR]; omega
      rw [← hk1] at hk4
      split at h
      · cases h
      · rename_i e' hrun
        split at h
        · rename_i hok
          cases h
          have huse : (usesS κ).size = (usesS κ).data.toList.length := by rw [Array.length_toList]; rfl
          rcases shapes hin with ⟨s1, s2, s3, s4, s5⟩ | ⟨s1, s2, s3, s4, s5⟩ | ⟨s1, s2, s3, s4, s5⟩ | ⟨s1, s2, s3, s4, s5⟩
          · rw [huse, s5] at hlen
            obtain ⟨X, x1, x2, hL⟩ := len3 hlen
            rw [hL] at hk4 hrun ⊢
            rw [s5] at hrun
            obtain ⟨⟨r1, r2, r3⟩, rfl⟩ := run_IP.1 hrun
            have hg : gramOk (plainG x2) = true := (editOk_nums hok).2.2.2.2.1
            have hmk : rdMk κ [X, x1, x2] = ⟨κ, numV x1.data.toList, 0, 0, plainG x2, ⟨#[]⟩⟩ := by
              unfold rdMk
              rw [s1, s2, s3, s4]
              simp [(pI_num r1).1, eB]
            have hpg : pgOk x2 = true := by simp [pgOk, r2, hg]
            have hwg := plainG_word r2 hg
            have het := et_of_flds (t := t) hok (by rw [hL]; simp [flds, s1, s2, s3, s4, hwg, (rdOk_dec r1).1, bytes_eq hk4]) (by rw [hwg, Array.length_toList]; show x2.size ≤ 2000; omega)
            unfold rdTry
            rw [hmk, hok, het, s3]
            simp [hpg]
          · rw [huse, s5] at hlen
            obtain ⟨X, x1, x2, hL⟩ := len3 hlen
            rw [hL] at hk4 hrun ⊢
            rw [s5] at hrun
            obtain ⟨⟨r1, r2⟩, rfl⟩ := run_IJ.1 hrun
            have hmk : rdMk κ [X, x1, x2] = ⟨κ, numV x1.data.toList, numV x2.data.toList, 0, [], ⟨#[]⟩⟩ := by
              unfold rdMk
              rw [s1, s2, s3, s4]
              simp [(pI_num r1).1, (pI_num r2).1, eB]
            have het := et_of_flds (t := t) hok (by rw [hL]; simp [flds, s1, s2, s3, s4, (rdOk_dec r1).1, (rdOk_dec r2).1, bytes_eq hk4]) (by simp [wordG])
            unfold rdTry
            rw [hmk, hok, het, s3]
            simp
          · rw [huse, s5] at hlen
            obtain ⟨X, x1, x2, x3, hL⟩ := len4 hlen
            rw [hL] at hk4 hrun ⊢
            rw [s5] at hrun
            obtain ⟨⟨r1, r2, r3⟩, rfl⟩ := run_IJK.1 hrun
            have hmk : rdMk κ [X, x1, x2, x3] = ⟨κ, numV x1.data.toList, numV x2.data.toList, numV x3.data.toList, [], ⟨#[]⟩⟩ := by
              unfold rdMk
              rw [s1, s2, s3, s4]
              simp [(pI_num r1).1, (pI_num r2).1, (pI_num r3).1, eB]
            have het := et_of_flds (t := t) hok (by rw [hL]; simp [flds, s1, s2, s3, s4, (rdOk_dec r1).1, (rdOk_dec r2).1, (rdOk_dec r3).1, bytes_eq hk4]) (by simp [wordG])
            unfold rdTry
            rw [hmk, hok, het, s3]
            simp
          · rw [huse, s5] at hlen
            obtain ⟨X, x1, x2, x3, hL⟩ := len4 hlen
            rw [hL] at hk4 hrun ⊢
            rw [s5] at hrun
            obtain ⟨⟨r1, r2⟩, rfl⟩ := run_IJM.1 hrun
            have hmk : rdMk κ [X, x1, x2, x3] = ⟨κ, numV x1.data.toList, numV x2.data.toList, 0, [], x3⟩ := by
              unfold rdMk
              rw [s1, s2, s3, s4]
              simp [(pI_num r1).1, (pI_num r2).1]
            have het := et_of_flds (t := t) hok (by rw [hL]; simp [flds, s1, s2, s3, s4, (rdOk_dec r1).1, (rdOk_dec r2).1, bytes_eq hk4]) (by simp [wordG])
            unfold rdTry
            rw [hmk, hok, het, s3]
            simp
        · cases h
theorem rd_num {x : ByteArray} {n : Int} (hn : n = pI x.data.toList) (h0 : 0 ≤ n ∧ n ≤ 1000000000000000) (hx : x.data.toList = dec n) : rdOk x.data.toList = true ∧ numV x.data.toList = pI x.data.toList := by
  obtain ⟨a1, a2⟩ := dec_rdOk h0.1 h0.2
  rw [hx, ← hx]
  rw [← hx] at a1 a2
  exact ⟨a1, by rw [a2, hn]⟩
theorem rdImp_spec {t : ByteArray} {e : GEdit} (h : rdImp t = some e) : rdSpec t = some e := by
  unfold rdImp at h
  unfold rdSpec
  generalize hκ : kf ((splB 32 t).headD ⟨#[]⟩) 8 = κ
  have hκ' : kf ((splB 32 t).headD eB) 8 = κ := hκ
  rw [hκ'] at h
  unfold rdK
  split at h
  · cases h
  · rename_i hk0
    rw [if_neg hk0]
    obtain ⟨k, hk1, hk2, hk3, hk4⟩ := kf_word ((splB 32 t).headD eB) 8 (by rw [hκ']; exact hk0)
    rw [hκ'] at hk1
    have hin : inR κ 1 7 = true := by rw [hk1]; simp [inR]; omega
    rw [← hk1] at hk4
    have huse : (usesS κ).size = (usesS κ).data.toList.length := by rw [Array.length_toList]; rfl
    unfold rdTry at h
    split at h
    · cases h
    · rename_i hpg
      split at h
      · rename_i hboth
        cases h
        rw [Bool.and_eq_true] at hboth
        obtain ⟨hok, het⟩ := hboth
        have het : etV (rdMk κ (splB 32 t)) = t.data.toList := by simpa using het
        have ht0 : t.data.toList ≠ [] := by
          intro h0
          have hX : (splB 32 t).headD eB = eB := by unfold splB; rw [h0]; rfl
          rw [hX] at hk4
          have := bytes_eq hk4
          rcases kind7 hin with rfl | rfl | rfl | rfl | rfl | rfl | rfl <;> simp [wordE, eB] at this
        have hfl := flds_of_et hok het ht0
        obtain ⟨_, ni, nj, nq, ng, _⟩ := editOk_nums hok
        rcases shapes hin with ⟨s1, s2, s3, s4, s5⟩ | ⟨s1, s2, s3, s4, s5⟩ | ⟨s1, s2, s3, s4, s5⟩ | ⟨s1, s2, s3, s4, s5⟩
        · have hlen : (splB 32 t).length = 3 := by
            have := congrArg List.length hfl
            simpa [flds, rdMk, s1, s2, s3, s4] using this
          obtain ⟨X, x1, x2, hL⟩ := len3 hlen
          rw [hL] at hfl hok ni ng hpg ⊢
          have hmk : rdMk κ [X, x1, x2] = ⟨κ, pI x1.data.toList, 0, 0, plainG x2, ⟨#[]⟩⟩ := by
            unfold rdMk
            rw [s1, s2, s3, s4]
            simp [eB]
          rw [hmk] at hfl hok ni ng ⊢
          rw [s3] at hpg
          have hpg : pgOk x2 = true := by simpa using hpg
          simp only [pgOk, Bool.and_eq_true] at hpg
          simp [flds, s1, s2, s3, s4] at hfl
          obtain ⟨r1, r1'⟩ := rd_num rfl ni hfl.2.1
          have hsz := plainG_ge hpg.1
          have h400 := (gram_lens hpg.2).1
          rw [if_neg (by rw [huse, s5]; simp), s5]
          show (match rdRun [73, 80] [x1, x2] _ with | none => none | some e => if editOk e = true then some e else none) = _
          rw [run_IP.2 ⟨⟨r1, hpg.1, by omega⟩, rfl⟩]
          simp only [r1', hok, if_true]
        · have hlen : (splB 32 t).length = 3 := by
            have := congrArg List.length hfl
            simpa [flds, rdMk, s1, s2, s3, s4] using this
          obtain ⟨X, x1, x2, hL⟩ := len3 hlen
          rw [hL] at hfl hok ni nj ⊢
          have hmk : rdMk κ [X, x1, x2] = ⟨κ, pI x1.data.toList, pI x2.data.toList, 0, [], ⟨#[]⟩⟩ := by
            unfold rdMk
            rw [s1, s2, s3, s4]
            simp [eB]
          rw [hmk] at hfl hok ni nj ⊢
          simp [flds, s1, s2, s3, s4] at hfl
          obtain ⟨r1, r1'⟩ := rd_num rfl ni hfl.2.1
          obtain ⟨r2, r2'⟩ := rd_num rfl nj hfl.2.2
          rw [if_neg (by rw [huse, s5]; simp), s5]
          show (match rdRun [73, 74] [x1, x2] _ with | none => none | some e => if editOk e = true then some e else none) = _
          rw [run_IJ.2 ⟨⟨r1, r2⟩, rfl⟩]
          simp only [r1', r2', hok, if_true]
        · have hlen : (splB 32 t).length = 4 := by
            have := congrArg List.length hfl
            simpa [flds, rdMk, s1, s2, s3, s4] using this
          obtain ⟨X, x1, x2, x3, hL⟩ := len4 hlen
          rw [hL] at hfl hok ni nj nq ⊢
          have hmk : rdMk κ [X, x1, x2, x3] = ⟨κ, pI x1.data.toList, pI x2.data.toList, pI x3.data.toList, [], ⟨#[]⟩⟩ := by
            unfold rdMk
            rw [s1, s2, s3, s4]
            simp [eB]
          rw [hmk] at hfl hok ni nj nq ⊢
          simp [flds, s1, s2, s3, s4] at hfl
          obtain ⟨r1, r1'⟩ := rd_num rfl ni hfl.2.1
          obtain ⟨r2, r2'⟩ := rd_num rfl nj hfl.2.2.1
          obtain ⟨r3, r3'⟩ := rd_num rfl nq hfl.2.2.2
          rw [if_neg (by rw [huse, s5]; simp), s5]
          show (match rdRun [73, 74, 75] [x1, x2, x3] _ with | none => none | some e => if editOk e = true then some e else none) = _
          rw [run_IJK.2 ⟨⟨r1, r2, r3⟩, rfl⟩]
          simp only [r1', r2', r3', hok, if_true]
        · have hlen : (splB 32 t).length = 4 := by
            have := congrArg List.length hfl
            simpa [flds, rdMk, s1, s2, s3, s4] using this
          obtain ⟨X, x1, x2, x3, hL⟩ := len4 hlen
          rw [hL] at hfl hok ni nj ⊢
          have hmk : rdMk κ [X, x1, x2, x3] = ⟨κ, pI x1.data.toList, pI x2.data.toList, 0, [], x3⟩ := by
            unfold rdMk
            rw [s1, s2, s3, s4]
            simp
          rw [hmk] at hfl hok ni nj ⊢
          simp [flds, s1, s2, s3, s4] at hfl
          obtain ⟨r1, r1'⟩ := rd_num rfl ni hfl.2.1
          obtain ⟨r2, r2'⟩ := rd_num rfl nj hfl.2.2
          rw [if_neg (by rw [huse, s5]; simp), s5]
          show (match rdRun [73, 74, 77] [x1, x2, x3] _ with | none => none | some e => if editOk e = true then some e else none) = _
          rw [run_IJM.2 ⟨⟨r1, r2⟩, rfl⟩]
          simp only [r1', r2', hok, if_true]
      · cases h
/-- Both read the same. -/
theorem rd_eq (t : ByteArray) : rdImp t = rdSpec t := by
  cases h : rdSpec t with
  | some e => exact rdSpec_imp h
  | none =>
    cases h2 : rdImp t with
    | none => rfl
    | some e => rw [rdImp_spec h2] at h; cases h
end Go.Proofs.YtagpjommhoedlaaGreatDoor

namespace Go.Proofs.YtagpjommhoedlaaGreatDoor
open Go.RowKit

/-- The pieces, and four empty ones. -/
def pcs (t : ByteArray) : List ByteArray := splB 32 t ++ [⟨#[]⟩, ⟨#[]⟩, ⟨#[]⟩, ⟨#[]⟩]
theorem pcs_get (t : ByteArray) (i : Nat) (h : i < 4) : (pcs t)[i]? = some ((splB 32 t).getD i eB) := by
  unfold pcs
  rcases Nat.lt_or_ge i (splB 32 t).length with hl | hl
  · rw [List.getElem?_append_left hl, List.getD_eq_getElem?_getD, List.getElem?_eq_getElem hl]; rfl
  · rw [List.getElem?_append_right hl, List.getD_eq_getElem?_getD, List.getElem?_eq_none hl]
    have : i - (splB 32 t).length < 4 := by omega
    generalize i - (splB 32 t).length = j at this
    have : j = 0 ∨ j = 1 ∨ j = 2 ∨ j = 3 := by omega
    rcases this with rfl | rfl | rfl | rfl <;> rfl
theorem pcs_size (t : ByteArray) (i : Nat) : ((splB 32 t).getD i eB).size ≤ t.size := by
  rw [List.getD_eq_getElem?_getD]
  cases h : (splB 32 t)[i]? with
  | none => exact Nat.zero_le _
  | some x => exact splB_size (List.mem_of_getElem? h)
/-- The edit, the form of its kind, and what stood there before. -/
structure RdF (wP w4 w6 wx : World) (X : ByteArray) (bJ bK b1 b7 : Bool) (e : GEdit) (v : Value) : Prop where
  bel : Below wP.heap.size wP wx
  frm : Blk wx w4.heap.size #[.string X, .bool bJ, .bool bK, .bool b1, .bool b7] 83
  st : RdSt w6 wx e v
theorem RdF.up {wP w4 w6 wx w' : World} {X : ByteArray} {bJ bK b1 b7 : Bool} {e : GEdit} {v : Value} (h : RdF wP w4 w6 wx X bJ bK b1 b7 e v) (hb : Below wx.heap.size wx w') : RdF wP w4 w6 w' X bJ bK b1 b7 e v :=
  ⟨Below.tr h.bel hb, h.frm.up hb, h.st.up hb⟩
theorem RdF.upN {wP w4 w6 wx : World} {X : ByteArray} {bJ bK b1 b7 : Bool} {e : GEdit} {v : Value} (h : RdF wP w4 w6 wx X bJ bK b1 b7 e v) (n : Nat) : RdF wP w4 w6 (wx.drewN n) X bJ bK b1 b7 e v :=
  ⟨below_drewN h.bel n, h.frm, h.st.drewN n⟩
theorem RdF.put {wP w4 w6 wx : World} {X : ByteArray} {bJ bK b1 b7 : Bool} {e e' : GEdit} {v v' u : Value} {o : Nat} (h : RdF wP w4 w6 wx X bJ bK b1 b7 e v) (hs : RdSt w6 (wx.setCell ⟨w6.heap.size, o, none⟩ u) e' v') (h1 : wP.heap.size ≤ w6.heap.size) (h2 : w4.heap.size < w6.heap.size) : RdF wP w4 w6 (wx.setCell ⟨w6.heap.size, o, none⟩ u) X bJ bK b1 b7 e' v' :=
  ⟨Below.setCell h.bel h1 _, Blk.other h.frm (p := ⟨w6.heap.size, o, none⟩) (Nat.ne_of_lt h2) _, hs⟩
set_option maxRecDepth 100000 in
set_option maxHeartbeats 8000000 in
theorem implRead_any (t : ByteArray) (w : World) (hs : t.size ≤ 1048576) (hv : RdVars w) :
    Calls Tryz.prog 10 #[.string t] w (ERes (rdOut t) (rdCode t) w) := by
  have HV := Lib.hid hv
  clear hv
  have HV1 := Lib.hid (fun o => HV.out.up ((Below.refl w.heap.size w).alloc (Nat.le_refl _) o))
  go_enter Tryz.func10, Tryz.ntmps10
  go_wp2_with fail
  refine (split_any t _ hs (HV1.out _)).mono ?_
  rintro e w1 ⟨hb1, v, own, rfl⟩
  have KR1 : Blk w1 w.heap.size #[.int .i64 0, .int .i64 0, .int .i64 0, .int .i64 0, .slice none 0 0, .string ⟨#[]⟩] 26 := by have := (Below.unalloc hb1).2; simpa [Blk] using this
  replace hb1 := (Below.unalloc hb1).1
  have hll : (splB 32 t).length ≤ 1099511627776 := by
    have : (splB 32 t).length ≤ 1048577 := by
      rw [← splitB_eq, Lib.splitB_all ⟨#[32]⟩ (by decide) 0 _ t rfl]
      have := Lib.countB_le ⟨#[32]⟩ (by decide) t.size t (Nat.le_refl _); omega
    omega
  have HLL := Lib.hid hll
  have HO1 := Lib.hid own
  have HB1 := Lib.hid hb1
  have HK1 := Lib.hid KR1
  have hz1 : (w.alloc (.cells #[.int .i64 0, .int .i64 0, .int .i64 0, .int .i64 0, .slice none 0 0, .string ⟨#[]⟩] 26)).heap.size ≤ w1.heap.size := by simp; exact KR1.lt
  have HZ1 := Lib.hid hz1
  clear hll own hb1 KR1 hz1
  go_wp2_with (first
    | (at_builtin; refine push_word4 rfl _ _ rfl (by rfl) (by rfl) rfl HO1.out HLL.out HZ1.out ?_; intro v3 w3 own3 hb3; obtain ⟨g, cL, rfl, _, hgl, _⟩ := own_form own3 (by simp)))
  have KR3 : Blk w3 w.heap.size #[.int .i64 0, .int .i64 0, .int .i64 0, .int .i64 0, .slice none 0 0, .string ⟨#[]⟩] 26 := (hb3.block _ (by simp)).trans HK1.out
  have HB3 : Below w.heap.size w w3 := Below.trans HB1.out (Below.mono hb3 (by simp))
  obtain ⟨L, hL⟩ : ∃ L, splB 32 t ++ [⟨#[]⟩, ⟨#[]⟩, ⟨#[]⟩, ⟨#[]⟩] = L := ⟨_, rfl⟩
  rw [hL] at own3
  have eL : (splB 32 t).length + 4 = L.length := by rw [← hL]; simp
  rw [eL]
  have ba := (Below.refl w3.heap.size w3).alloc (Nat.le_refl _) (.cells #[.slice (some ⟨g, 0, none⟩) L.length cL] 68)
  have HPP := Lib.hid (Blk.new w3 #[.slice (some ⟨g, 0, none⟩) L.length cL] 68)
  have HLP := Lib.hid (show OwnW _ _ _ L from ownsRow_below own3 ba)
  have HRP := Lib.hid (KR3.up ba)
  have HBP := Lib.hid (Below.tr HB3 ba)
  have HVP := Lib.hid (HV.out.up HBP.out)
  have hzP : w3.heap.size < (w3.alloc (.cells #[.slice (some ⟨g, 0, none⟩) L.length cL] 68)).heap.size := by simp
  have HL := Lib.hid hL
  clear own3 hb3 KR3 HB3 ba HV HV1 HO1 HB1 HK1 HZ1 HLL eL hL
  revert HPP HLP HRP HBP HVP hzP
  generalize (w3.alloc (.cells #[.slice (some ⟨g, 0, none⟩) L.length cL] 68)) = wP
  intro HPP HLP HRP HBP HVP hzP
  have hgP : g < wP.heap.size := Nat.lt_trans hgl hzP
  obtain ⟨X, hX⟩ : ∃ X, (splB 32 t).getD 0 eB = X := ⟨_, rfl⟩
  have HX := Lib.hid hX
  have hL4 : 4 ≤ L.length := by rw [← HL.out]; simp
  have hget : ∀ i, i < 4 → L[i]? = some ((splB 32 t).getD i eB) := fun i hi => by rw [← HL.out]; exact pcs_get t i hi
  have HG := Lib.hid hget
  have hXh : (splB 32 t).headD eB = X := by rw [← hX]; cases splB 32 t <;> rfl
  have HXH := Lib.hid hXh
  clear hX hget hXh
  go_loopw [6] (fun k wx => ∃ m : Nat, 1 ≤ m ∧ m ≤ 8 ∧ k = .int .i64 m ∧ Hid (Below wP.heap.size wP wx) ∧ Hid (∀ j : Nat, 1 ≤ j → j < m → (⟨(wordE (j : Int)).toArray⟩ : ByteArray) = X → rdTry (j : Int) (splB 32 t) t = none)) (fun k _ => 8 - (intOf k).toNat)
  case atStart => exact ⟨1, Nat.le_refl _, by omega, rfl, Lib.hid (Below.refl _ _), Lib.hid (fun j h1 h2 => by omega)⟩
  case round =>
    obtain ⟨m, hm1, hm8, rfl, HB, HN⟩ := hrel
    by_cases hlt : m < 8
    · have hm7 : (m : Int) ≤ 7 := by omega
      have hk7 : inR (m : Int) 1 7 = true := by simp [inR]; omega
      go_wp2_with fail
      refine (formOf_word (m : Int) _ hk7).mono ?_
      rintro e w4 ⟨rfl, hb4⟩
      obtain ⟨bJ, hbJ⟩ : ∃ b, usesJ (m : Int) = b := ⟨_, rfl⟩
      obtain ⟨bK, hbK⟩ : ∃ b, usesK (m : Int) = b := ⟨_, rfl⟩
      obtain ⟨b1, hb1⟩ : ∃ b, ((m : Int) == 1) = b := ⟨_, rfl⟩
      obtain ⟨b7, hb7⟩ : ∃ b, ((m : Int) == 7) = b := ⟨_, rfl⟩
      rw [hbJ, hbK, hb1, hb7]
      have HFJ := Lib.hid hbJ
      have HFK := Lib.hid hbK
      have HF1 := Lib.hid hb1
      have HF7 := Lib.hid hb7
      clear hbJ hbK hb1 hb7
      have HB4 := Lib.hid (Below.tr HB.out hb4)
      have cP := Blk.cell (i := 0) (v := .slice (some ⟨g, 0, none⟩) L.length cL) (HPP.out.up HB4.out) rfl
      have lP := Blk.lt (HPP.out.up HB4.out)
      have cX := (HB4.out.cell (p := ⟨g, 0, none⟩) hgP).trans (OwnW.at HLP.out (k := 0) (x := X) (by rw [HG.out 0 (by omega), HX.out]))
      have hgw : g < w4.heap.size := Nat.lt_of_lt_of_le hgP HB4.out.size
      clear hb4
      cases hq : (wordE (m : Int) == X.toList) with
      | false =>
        have HN2 : Hid (∀ j : Nat, 1 ≤ j → j < m + 1 → (⟨(wordE (j : Int)).toArray⟩ : ByteArray) = X → rdTry (j : Int) (splB 32 t) t = none) := by
          intro j h1 h2 h3
          rcases Nat.lt_or_ge j m with h | h
          · exact HN.out j h1 h h3
          · have : j = m := by omega
            subst this
            rw [(weq _ _).2 h3] at hq; cases hq
        go_wp2_with fail
        go_quiet (fail)
        go_wp2_with fail
        exact ⟨⟨m + 1, by omega, by omega, by go_num, Lib.hid (below_drewN (Below.alloc HB4.out (Below.size HB4.out) _) nq), HN2⟩, by simp [intOf]; omega⟩
      | true =>
        have hqX := (weq _ _).1 hq
        have HQX := Lib.hid hqX
        obtain ⟨x1, hx1⟩ : ∃ x, (splB 32 t).getD 1 eB = x := ⟨_, rfl⟩
        obtain ⟨x2, hx2⟩ : ∃ x, (splB 32 t).getD 2 eB = x := ⟨_, rfl⟩
        obtain ⟨x3, hx3⟩ : ∃ x, (splB 32 t).getD 3 eB = x := ⟨_, rfl⟩
        have HS1 := Lib.hid (show x1.size ≤ 1048576 by rw [← hx1]; exact Nat.le_trans (pcs_size t 1) hs)
        have HS2 := Lib.hid (show x2.size ≤ 1048576 by rw [← hx2]; exact Nat.le_trans (pcs_size t 2) hs)
        have HS3 := Lib.hid (show x3.size ≤ 1048576 by rw [← hx3]; exact Nat.le_trans (pcs_size t 3) hs)
        have HC1 := Lib.hid (OwnW.at HLP.out (k := 1) (x := x1) (by rw [HG.out 1 (by omega), hx1]))
        have HC2 := Lib.hid (OwnW.at HLP.out (k := 2) (x := x2) (by rw [HG.out 2 (by omega), hx2]))
        have HC3 := Lib.hid (OwnW.at HLP.out (k := 3) (x := x3) (by rw [HG.out 3 (by omega), hx3]))
        have HMK := Lib.hid (show rdMk (m : Int) (splB 32 t) = ⟨(m : Int), pI x1.data.toList, if usesJ (m : Int) then pI x2.data.toList else 0, if usesK (m : Int) then pI x3.data.toList else 0, if (m : Int) == 1 then plainG x2 else [], if (m : Int) == 7 then x3 else eB⟩ by unfold rdMk; rw [hx1, hx2, hx3])
        have HX2 := Lib.hid hx2
        have h1L : (1 : Nat) < L.length := by omega
        have h2L : (2 : Nat) < L.length := by omega
        have h3L : (3 : Nat) < L.length := by omega
        clear hx1 hx2 hx3
        go_wp2_with fail
        go_quiet (fail)
        go_wp2_with fail
        have HB5 := Lib.hid (below_drewN (Below.alloc HB4.out (Below.size HB4.out) (.cells #[.string X, .bool bJ, .bool bK, .bool b1, .bool b7] 83)) nq)
        have KF5 := Lib.hid (show Blk ((w4.alloc (.cells #[.string X, .bool bJ, .bool bK, .bool b1, .bool b7] 83)).drewN nq) w4.heap.size _ _ from Blk.new w4 #[.string X, .bool bJ, .bool bK, .bool b1, .bool b7] 83)
        clear cP lP cX
        revert HB5 KF5
        generalize ((w4.alloc (.cells #[.string X, .bool bJ, .bool bK, .bool b1, .bool b7] 83)).drewN nq) = w5
        intro HB5 KF5
        refine (number_any w3.heap.size g cL 1 L x1 _ (HPP.out.up HB5.out) ((HB5.out.cell (p := ⟨g, 1, none⟩) hgP).trans HC1.out) h1L HS1.out (HVP.out.up HB5.out)).mono ?_
        rintro r w6 ⟨hb6, rfl⟩
        have HB6 := Lib.hid (Below.tr HB5.out hb6)
        have KF6 := Lib.hid (KF5.out.up hb6)
        have h46 : w4.heap.size < w6.heap.size := Blk.lt KF6.out
        have hP6 : wP.heap.size ≤ w6.heap.size := HB6.out.size
        obtain ⟨i1, hi1⟩ : ∃ i, pI x1.data.toList = i := ⟨_, rfl⟩
        rw [hi1] at HMK
        rw [hi1]
        obtain ⟨jj, hjj⟩ : ∃ j, (if usesJ (m : Int) then pI x2.data.toList else 0) = j := ⟨_, rfl⟩
        obtain ⟨kk, hkk⟩ : ∃ j, (if usesK (m : Int) then pI x3.data.toList else 0) = j := ⟨_, rfl⟩
        obtain ⟨pp, hpp⟩ : ∃ j, (if (m : Int) == 1 then plainG x2 else []) = j := ⟨_, rfl⟩
        obtain ⟨mm, hmm⟩ : ∃ j, (if (m : Int) == 7 then x3 else eB) = j := ⟨_, rfl⟩
        rw [hjj, hkk, hpp, hmm] at HMK
        have HJJ := Lib.hid hjj
        have HKK := Lib.hid hkk
        have HPQ := Lib.hid hpp
        have HMM := Lib.hid hmm
        clear hi1 hjj hkk hpp hmm hb6
        have ba := (Below.refl w6.heap.size w6).alloc (Nat.le_refl _) (.cells #[.int .i64 m, .int .i64 i1, .int .i64 0, .int .i64 0, .slice none 0 0, .string ⟨#[]⟩] 26)
        have F7 := Lib.hid (show RdF wP w4 w6 (w6.alloc (.cells #[.int .i64 m, .int .i64 i1, .int .i64 0, .int .i64 0, .slice none 0 0, .string ⟨#[]⟩] 26)) X bJ bK b1 b7 ⟨(m : Int), i1, 0, 0, [], ⟨#[]⟩⟩ (.slice none 0 0) from ⟨Below.tr HB6.out ba, KF6.out.up ba, ⟨ba, Blk.new _ _ _, World.ownsRow_nil _ _ _ _⟩⟩)
        clear ba
        go_upto_region 9 with fail
        revert F7
        generalize (w6.alloc (.cells #[.int .i64 m, .int .i64 i1, .int .i64 0, .int .i64 0, .slice none 0 0, .string ⟨#[]⟩] 26)) = w7
        intro F7
        have f1 := Blk.cell (i := 1) (v := .bool bJ) F7.out.frm rfl
        have lf := Blk.lt F7.out.frm
        go_upto_if 37 with fail
        clear f1 lf
        go_cut [] from 38 to 40 (fun wx => RdF wP w4 w6 wx X bJ bK b1 b7 ⟨(m : Int), i1, jj, 0, [], ⟨#[]⟩⟩ (.slice none 0 0))
        case first =>
          cases bJ with
          | false =>
            have : jj = 0 := by rw [← HJJ.out, HFJ.out]; rfl
            subst this
            go_wp2
            go_meet
            exact F7.out
          | true =>
            have : pI x2.data.toList = jj := by rw [← HJJ.out, HFJ.out]; rfl
            go_wp2_with fail
            refine (number_any w3.heap.size g cL 2 L x2 _ (HPP.out.up F7.out.bel) ((F7.out.bel.cell (p := ⟨g, 2, none⟩) hgP).trans HC2.out) h2L HS2.out (HVP.out.up F7.out.bel)).mono ?_
            rintro r w8 ⟨hb8, rfl⟩
            rw [this]
            have F8 := Lib.hid (F7.out.up hb8)
            have ce := Blk.cell (i := 2) (v := .int .i64 0) F8.out.st.box rfl
            have ze := Blk.frozen F8.out.st.box 2
            have le := Blk.lt F8.out.st.box
            clear hb8
            go_wp2_with fail
            go_meet
            exact F8.out.put (F8.out.st.set2 jj) hP6 h46
        case rest =>
          revert hcut
          generalize wc = w9
          intro hcut
          have F9 := Lib.hid hcut
          clear hcut F7
          have f2 := Blk.cell (i := 2) (v := .bool bK) F9.out.frm rfl
          have lf := Blk.lt F9.out.frm
          go_upto_if 42 with fail
          clear f2 lf
          go_cut [] from 43 to 45 (fun wx => RdF wP w4 w6 wx X bJ bK b1 b7 ⟨(m : Int), i1, jj, kk, [], ⟨#[]⟩⟩ (.slice none 0 0))
          case first =>
            cases bK with
            | false =>
              have : kk = 0 := by rw [← HKK.out, HFK.out]; rfl
              subst this
              go_wp2
              go_meet
              exact F9.out
            | true =>
              have : pI x3.data.toList = kk := by rw [← HKK.out, HFK.out]; rfl
              go_wp2_with fail
              refine (number_any w3.heap.size g cL 3 L x3 _ (HPP.out.up F9.out.bel) ((F9.out.bel.cell (p := ⟨g, 3, none⟩) hgP).trans HC3.out) h3L HS3.out (HVP.out.up F9.out.bel)).mono ?_
              rintro r w10 ⟨hb10, rfl⟩
              rw [this]
              have F10 := Lib.hid (F9.out.up hb10)
              have ce := Blk.cell (i := 3) (v := .int .i64 0) F10.out.st.box rfl
              have ze := Blk.frozen F10.out.st.box 3
              have le := Blk.lt F10.out.st.box
              clear hb10
              go_wp2_with fail
              go_meet
              exact F10.out.put (F10.out.st.set3 kk) hP6 h46
          case rest =>
            revert hcut
            generalize wc = w11
            intro hcut
            have F11 := Lib.hid hcut
            clear hcut F9
            have f3 := Blk.cell (i := 3) (v := .bool b1) F11.out.frm rfl
            have lf := Blk.lt F11.out.frm
            go_upto_if 47 with fail
            clear f3 lf
            go_cut [10, 11] from 48 to 59 (fun _ _ wx => ∃ (AP : Option Addr) (cP : Nat), RdF wP w4 w6 wx X bJ bK b1 b7 ⟨(m : Int), i1, jj, kk, pp, ⟨#[]⟩⟩ (.slice AP pp.length cP) ∧ (b1 = true → pgOk x2 = true))
            case first =>
              cases b1 with
              | false =>
                have : pp = [] := by rw [← HPQ.out, HF1.out]; rfl
                subst this
                go_wp2
                go_meet
                exact ⟨none, 0, F11.out, fun h => by cases h⟩
              | true =>
                have HPE := Lib.hid (show plainG x2 = pp by rw [← HPQ.out, HF1.out]; rfl)
                have cP := Blk.cell (i := 0) (v := .slice (some ⟨g, 0, none⟩) L.length cL) (HPP.out.up F11.out.bel) rfl
                have lP := Blk.lt (HPP.out.up F11.out.bel)
                have c2 := (F11.out.bel.cell (p := ⟨g, 2, none⟩) hgP).trans HC2.out
                have h2I : (2 : Int) < (L.length : Int) := by omega
                go_wp2_with fail
                refine (implPlainG_any x2 _ HS2.out).mono ?_
                rintro r w12 ⟨hb12, v12, own12, rfl⟩
                have F12 := Lib.hid (F11.out.up hb12)
                obtain ⟨A12, c12, rfl, _⟩ := own_nil own12
                have HO12 := Lib.hid own12
                have h612 : w6.heap.size < w11.heap.size := Blk.lt F11.out.st.box
                clear own12 hb12 cP lP c2
                cases hpg : pgOk x2 with
                | false =>
                  have HNO := Lib.hid (show rdSpec t = none by rw [← rd_eq]; unfold rdImp; rw [HXH.out, kf_eq hm1 hlt HQX.out, if_neg (by omega)]; unfold rdTry; rw [HF1.out]; have := HX2.out; rw [this, hpg]; rfl)
                  have hc := pg_no hpg
                  obtain ⟨cd, hcd⟩ : ∃ c, pgCode x2 = c := ⟨_, rfl⟩
                  have hc0 : ¬ cd = 0 := by rw [← hcd]; rcases hc with h | h <;> rw [h] <;> decide
                  rw [hcd]
                  clear hc hcd hpg
                  have ba := Below.alloc (Below.refl w12.heap.size w12) (Nat.le_refl _) (.cells #[.slice A12 (pgOut x2).length c12] 24)
                  have HBA := Lib.hid (Below.tr F12.out.bel ba)
                  clear ba
                  have KR := HRP.out.up HBA.out
                  have hbW := Lib.hid (Below.tr HBP.out HBA.out)
                  have r0 := Blk.cell (i := 0) (v := .int .i64 0) KR rfl
                  have q0 := Blk.frozen KR 0
                  have r1 := Blk.cell (i := 1) (v := .int .i64 0) KR rfl
                  have q1 := Blk.frozen KR 1
                  have r2 := Blk.cell (i := 2) (v := .int .i64 0) KR rfl
                  have q2 := Blk.frozen KR 2
                  have r3 := Blk.cell (i := 3) (v := .int .i64 0) KR rfl
                  have q3 := Blk.frozen KR 3
                  have r4 := Blk.cell (i := 4) (v := .slice none 0 0) KR rfl
                  have q4 := Blk.frozen KR 4
                  have r5 := Blk.cell (i := 5) (v := .string ⟨#[]⟩) KR rfl
                  have q5 := Blk.frozen KR 5
                  have lR := Blk.lt KR
                  have HKX := Lib.hid KR
                  clear KR
                  go_wp2_with fail
                  obtain ⟨⟨hf, _⟩, x0, x1, x2, x3, x4, x5⟩ := fin6 HKX.out hbW.out (.int .i64 0) (.int .i64 0) (.int .i64 0) (.int .i64 0) (.slice none 0 0) (.string ⟨#[]⟩)
                  exact bodyPost_ret (v := .tuple #[.agg #[.int .i64 0, .int .i64 0, .int .i64 0, .int .i64 0, .slice none 0 0, .string ⟨#[]⟩], .int .i64 5]) (by simp [results, Tryz.results10, go_sem, x0, x1, x2, x3, x4, x5]) rfl ⟨hf, .slice none 0 0, by rw [(rd_none HNO.out).1]; exact World.ownsRow_nil _ _ _ _, by rw [(rd_none HNO.out).1, (rd_none HNO.out).2]; rfl⟩
                | true =>
                  have hp := pg_yes hpg
                  have HPY := Lib.hid hpg
                  rw [hp.1]
                  have hpo : pgOut x2 = pp := by rw [hp.2, HPE.out]
                  rw [hpo] at HO12
                  rw [hpo]
                  have ba := Below.alloc (Below.refl w12.heap.size w12) (Nat.le_refl _) (.cells #[.slice A12 pp.length c12] 24)
                  have F13 := Lib.hid (F12.out.up ba)
                  have HO13 := Lib.hid (OwnRules.below HO12.out ba)
                  have KP13 := Lib.hid (Blk.new w12 #[.slice A12 pp.length c12] 24)
                  clear hp hpg hpo ba HO12 F12
                  go_upto_region 15 with fail
                  revert F13 HO13 KP13
                  generalize (w12.alloc (.cells #[.slice A12 pp.length c12] 24)) = w13
                  intro F13 HO13 KP13
                  have cp := Blk.cell (i := 0) (v := .slice A12 pp.length c12) KP13.out rfl
                  have lp := Blk.lt KP13.out
                  have ce := Blk.cell (i := 4) (v := .slice none 0 0) F13.out.st.box rfl
                  have ze := Blk.frozen F13.out.st.box 4
                  have le := Blk.lt F13.out.st.box
                  go_wp2_with fail
                  go_meet
                  exact ⟨A12, c12, F13.out.put (F13.out.st.set4 HO13.out h612) hP6 h46, fun _ => HPY.out⟩
            case rest =>
              revert hcut
              generalize wc = w14
              intro hcut
              obtain ⟨AP, cP, hF, hpg⟩ := hcut
              have F14 := Lib.hid hF
              have HPG := Lib.hid hpg
              clear hF hpg F11
              have f4 := Blk.cell (i := 4) (v := .bool b7) F14.out.frm rfl
              have lf := Blk.lt F14.out.frm
              go_upto_if 61 with fail
              clear f4 lf
              go_cut [] from 62 to 65 (fun wx => RdF wP w4 w6 wx X bJ bK b1 b7 ⟨(m : Int), i1, jj, kk, pp, mm⟩ (.slice AP pp.length cP))
              case first =>
                cases b7 with
                | false =>
                  have : mm = ⟨#[]⟩ := by rw [← HMM.out, HF7.out]; rfl
                  subst this
                  go_wp2
                  go_meet
                  exact F14.out
                | true =>
                  have : x3 = mm := by rw [← HMM.out, HF7.out]; rfl
                  have cPP := Blk.cell (i := 0) (v := .slice (some ⟨g, 0, none⟩) L.length cL) (HPP.out.up F14.out.bel) rfl
                  have lP := Blk.lt (HPP.out.up F14.out.bel)
                  have c3 := (F14.out.bel.cell (p := ⟨g, 3, none⟩) hgP).trans HC3.out
                  have h3I : (3 : Int) < (L.length : Int) := by omega
                  rw [this] at c3
                  have ce := Blk.cell (i := 5) (v := .string ⟨#[]⟩) F14.out.st.box rfl
                  have ze := Blk.frozen F14.out.st.box 5
                  have le := Blk.lt F14.out.st.box
                  clear this
                  go_wp2_with fail
                  go_meet
                  exact F14.out.put (F14.out.st.set5 mm) hP6 h46
              case rest =>
                revert hcut
                generalize wc = w15
                intro hcut
                have F15 := Lib.hid hcut
                clear hcut F14
                have hppl : pp.length ≤ 1048576 := by
                  rw [← HPQ.out]
                  rw [HF1.out]
                  cases hb : b1 with
                  | false => simp
                  | true =>
                    have hp := HPG.out hb
                    simp only [pgOk, Bool.and_eq_true] at hp
                    have := (gram_lens hp.2).1
                    simp only [if_true]
                    omega
                have hmml : mm.size ≤ maxLen := by
                  rw [← HMM.out]
                  split
                  · have := HS3.out; unfold maxLen; omega
                  · exact Nat.zero_le _
                have HC0 := Lib.hid (show ((m : Int) == 1 && !pgOk ((splB 32 t).getD 2 eB)) = false by
                  rw [HF1.out]; have := HX2.out; rw [this]
                  cases hb : b1 with
                  | false => rfl
                  | true => rw [HPG.out hb]; rfl)
                have HTRY := Lib.hid (show rdTry (m : Int) (splB 32 t) t = if editOk ⟨(m : Int), i1, jj, kk, pp, mm⟩ && (etV ⟨(m : Int), i1, jj, kk, pp, mm⟩ == t.data.toList) then some ⟨(m : Int), i1, jj, kk, pp, mm⟩ else none by unfold rdTry; rw [HC0.out, HMK.out]; rfl)
                have HPPL := Lib.hid hppl
                have HMML := Lib.hid hmml
                have HN3 := Lib.hid (fun (hn : rdTry (m : Int) (splB 32 t) t = none) => (show ∀ j : Nat, 1 ≤ j → j < m + 1 → (⟨(wordE (j : Int)).toArray⟩ : ByteArray) = X → rdTry (j : Int) (splB 32 t) t = none from fun j h1 h2 h3 => by
                  rcases Nat.lt_or_ge j m with h | h
                  · exact HN.out j h1 h h3
                  · have : j = m := by omega
                    subst this
                    exact hn))
                clear hppl hmml
                have g0 := Blk.cell (i := 0) (v := .int .i64 (m : Int)) F15.out.st.box rfl
                have g1 := Blk.cell (i := 1) (v := .int .i64 i1) F15.out.st.box rfl
                have g2 := Blk.cell (i := 2) (v := .int .i64 jj) F15.out.st.box rfl
                have g3 := Blk.cell (i := 3) (v := .int .i64 kk) F15.out.st.box rfl
                have g4 := Blk.cell (i := 4) (v := .slice AP pp.length cP) F15.out.st.box rfl
                have g5 := Blk.cell (i := 5) (v := .string mm) F15.out.st.box rfl
                have lE := Blk.lt F15.out.st.box
                go_wp2_with fail
                refine (implValidEdit_any _ ⟨(m : Int), i1, jj, kk, pp, mm⟩ _ ⟨_, rfl, OwnRules.sl F15.out.st.own⟩ (by have := HPPL.out; show pp.length ≤ _; omega) HMML.out).mono ?_
                rintro r w16 ⟨rfl, hb16⟩
                have F16 := Lib.hid (F15.out.up hb16)
                clear hb16 g0 g1 g2 g3 g4 g5 lE
                cases hok : editOk ⟨(m : Int), i1, jj, kk, pp, mm⟩ with
                | false =>
                  have HNN := Lib.hid (HN3.out (by rw [HTRY.out, hok]; rfl))
                  clear hok
                  go_wp2_with fail
                  exact ⟨⟨m + 1, by omega, by omega, by go_num, Lib.hid F16.out.bel, HNN⟩, by simp [intOf]; omega⟩
                | true =>
                  have HOK := Lib.hid hok
                  clear hok
                  have g0 := Blk.cell (i := 0) (v := .int .i64 (m : Int)) F16.out.st.box rfl
                  have g1 := Blk.cell (i := 1) (v := .int .i64 i1) F16.out.st.box rfl
                  have g2 := Blk.cell (i := 2) (v := .int .i64 jj) F16.out.st.box rfl
                  have g3 := Blk.cell (i := 3) (v := .int .i64 kk) F16.out.st.box rfl
                  have g4 := Blk.cell (i := 4) (v := .slice AP pp.length cP) F16.out.st.box rfl
                  have g5 := Blk.cell (i := 5) (v := .string mm) F16.out.st.box rfl
                  have lE := Blk.lt F16.out.st.box
                  go_wp2_with fail
                  refine (implEditText_any _ ⟨(m : Int), i1, jj, kk, pp, mm⟩ _ ⟨_, rfl, OwnRules.sl F16.out.st.own⟩ HPPL.out HMML.out (HVP.out.up F16.out.bel).tab).mono ?_
                  rintro r w17 ⟨rfl, hb17⟩
                  have F17 := Lib.hid (F16.out.up hb17)
                  clear hb17 g0 g1 g2 g3 g4 g5 lE
                  cases hcmp : (etV ⟨(m : Int), i1, jj, kk, pp, mm⟩ == t.toList) with
                  | false =>
                    have HNN := Lib.hid (HN3.out (by rw [HTRY.out, HOK.out, ← ByteArray.toList_eq, hcmp]; rfl))
                    go_wp2_with fail
                    exact ⟨⟨m + 1, by omega, by omega, by go_num, Lib.hid F17.out.bel, HNN⟩, by simp [intOf]; omega⟩
                  | true =>
                    have HYES := Lib.hid (show rdSpec t = some ⟨(m : Int), i1, jj, kk, pp, mm⟩ by rw [← rd_eq]; unfold rdImp; rw [HXH.out, kf_eq hm1 hlt HQX.out, if_neg (by omega), HTRY.out, HOK.out, ← ByteArray.toList_eq, hcmp]; rfl)
                    have KR := HRP.out.up F17.out.bel
                    have hbW := Lib.hid (Below.tr HBP.out F17.out.bel)
                    have r0 := Blk.cell (i := 0) (v := .int .i64 0) KR rfl
                    have q0 := Blk.frozen KR 0
                    have r1 := Blk.cell (i := 1) (v := .int .i64 0) KR rfl
                    have q1 := Blk.frozen KR 1
                    have r2 := Blk.cell (i := 2) (v := .int .i64 0) KR rfl
                    have q2 := Blk.frozen KR 2
                    have r3 := Blk.cell (i := 3) (v := .int .i64 0) KR rfl
                    have q3 := Blk.frozen KR 3
                    have r4 := Blk.cell (i := 4) (v := .slice none 0 0) KR rfl
                    have q4 := Blk.frozen KR 4
                    have r5 := Blk.cell (i := 5) (v := .string ⟨#[]⟩) KR rfl
                    have q5 := Blk.frozen KR 5
                    have g0 := Blk.cell (i := 0) (v := .int .i64 (m : Int)) F17.out.st.box rfl
                    have g1 := Blk.cell (i := 1) (v := .int .i64 i1) F17.out.st.box rfl
                    have g2 := Blk.cell (i := 2) (v := .int .i64 jj) F17.out.st.box rfl
                    have g3 := Blk.cell (i := 3) (v := .int .i64 kk) F17.out.st.box rfl
                    have g4 := Blk.cell (i := 4) (v := .slice AP pp.length cP) F17.out.st.box rfl
                    have g5 := Blk.cell (i := 5) (v := .string mm) F17.out.st.box rfl
                    have lE := Blk.lt F17.out.st.box
                    have lR := Blk.lt KR
                    have HKX := Lib.hid KR
                    have hwE : w.heap.size < w6.heap.size := Nat.lt_of_lt_of_le (Blk.lt HRP.out) hP6
                    clear KR
                    go_wp2_with fail
                    obtain ⟨⟨hf, hh⟩, x0, x1, x2, x3, x4, x5⟩ := fin6 HKX.out hbW.out (.int .i64 (m : Int)) (.int .i64 i1) (.int .i64 jj) (.int .i64 kk) (.slice AP pp.length cP) (.string mm)
                    exact bodyPost_ret (v := .tuple #[.agg #[.int .i64 (m : Int), .int .i64 i1, .int .i64 jj, .int .i64 kk, .slice AP pp.length cP, .string mm], .int .i64 0]) (by simp [results, Tryz.results10, go_sem, x0, x1, x2, x3, x4, x5]) rfl ⟨hf, .slice AP pp.length cP, by rw [(rd_some HYES.out).1]; exact ownsRow_more (own_keep F17.out.st.own (fun g hg => hh g (by have := (World.ownsRow.lt F17.out.st.own g hg).1; omega))) (by omega), by rw [(rd_some HYES.out).1, (rd_some HYES.out).2]⟩
    · have hm : m = 8 := by omega
      subst hm
      have HNO := Lib.hid (show rdSpec t = none by
        rw [← rd_eq]; unfold rdImp; rw [HXH.out]
        split
        · rfl
        · rename_i hk
          obtain ⟨k, h1, h2, h3, h4⟩ := kf_word X 8 hk
          rw [h1]; exact HN.out k h2 h3 h4)
      have KR := HRP.out.up HB.out
      have hbW := Lib.hid (Below.tr HBP.out HB.out)
      have r0 := Blk.cell (i := 0) (v := .int .i64 0) KR rfl
      have q0 := Blk.frozen KR 0
      have r1 := Blk.cell (i := 1) (v := .int .i64 0) KR rfl
      have q1 := Blk.frozen KR 1
      have r2 := Blk.cell (i := 2) (v := .int .i64 0) KR rfl
      have q2 := Blk.frozen KR 2
      have r3 := Blk.cell (i := 3) (v := .int .i64 0) KR rfl
      have q3 := Blk.frozen KR 3
      have r4 := Blk.cell (i := 4) (v := .slice none 0 0) KR rfl
      have q4 := Blk.frozen KR 4
      have r5 := Blk.cell (i := 5) (v := .string ⟨#[]⟩) KR rfl
      have q5 := Blk.frozen KR 5
      have lR := Blk.lt KR
      have HKX := Lib.hid KR
      clear KR
      go_wp2_with fail
      obtain ⟨⟨hf, _⟩, x0, x1, x2, x3, x4, x5⟩ := fin6 HKX.out hbW.out (.int .i64 0) (.int .i64 0) (.int .i64 0) (.int .i64 0) (.slice none 0 0) (.string ⟨#[]⟩)
      exact bodyPost_ret (v := .tuple #[.agg #[.int .i64 0, .int .i64 0, .int .i64 0, .int .i64 0, .slice none 0 0, .string ⟨#[]⟩], .int .i64 5]) (by simp [results, Tryz.results10, go_sem, x0, x1, x2, x3, x4, x5]) rfl ⟨hf, .slice none 0 0, by rw [(rd_none HNO.out).1]; exact World.ownsRow_nil _ _ _ _, by rw [(rd_none HNO.out).1, (rd_none HNO.out).2]; rfl⟩
end Go.Proofs.YtagpjommhoedlaaGreatDoor

namespace Go.Proofs.YtagpjommhoedlaaGreatDoor
open Go.RowKit

theorem l01Split32 (s : ByteArray) (w : World) (hs : s.size ≤ 1048576) :
    Calls Tryz.prog 45 #[.string s, .int .u8 32] w fun e w' => Below w.heap.size w w' ∧ ∃ v, OwnW w' w.heap.size v (splB 32 s) ∧ e = .returned v := l01Split_any s 32 w hs
set_option maxRecDepth 100000 in
set_option maxHeartbeats 8000000 in
theorem specRead_any (t : ByteArray) (w : World) (hs : t.size ≤ 1048576) :
    Calls Tryz.prog 9 #[.string t] w (ERes (rdOut t) (rdCode t) w) := by
  obtain ⟨X, R, hXR⟩ : ∃ X R, splB 32 t = X :: R := by
    cases hq : splB 32 t with
    | nil => unfold splB at hq; exact absurd (List.map_eq_nil_iff.1 hq) (spl_pos 32 _ _)
    | cons x r => exact ⟨x, r, rfl⟩
  have HXR := Lib.hid hXR
  go_enter Tryz.func9, Tryz.ntmps9
  go_wp2_with fail
  refine (l01Split32 t _ hs).mono ?_
  rintro e w1 ⟨hb1, v, own, rfl⟩
  have KR1 : Blk w1 w.heap.size #[.int .i64 0, .int .i64 0, .int .i64 0, .int .i64 0, .slice none 0 0, .string ⟨#[]⟩] 26 := by have := (Below.unalloc hb1).2; simpa [Blk] using this
  replace hb1 := (Below.unalloc hb1).1
  rw [hXR] at own
  obtain ⟨g, cL, rfl, _, hgl, _⟩ := own_form own (by simp)
  have HO1 := Lib.hid own
  clear own hXR
  go_wp2_with fail
  refine (l07Words_any _).mono ?_
  rintro r w2 ⟨B, rfl, hb2, hB, hw2⟩
  have HW2 := Lib.hid hw2
  have HO2 := Lib.hid (show OwnW w2 _ _ (X :: R) from ownsRow_below HO1.out hb2)
  have HB2 := Lib.hid (Below.tr hb1 hb2)
  have HKR := Lib.hid (KR1.up hb2)
  have hgl2 : g < w2.heap.size := Nat.lt_of_lt_of_le hgl hb2.size
  clear hb1 hb2 KR1 HO1 hw2
  go_wp2_with fail
  go_loopw [7] (fun k wx => ∃ m : Nat, 1 ≤ m ∧ m ≤ 8 ∧ k = .int .i64 m ∧ Hid (RdSt w2 wx ⟨kf X m, 0, 0, 0, [], ⟨#[]⟩⟩ (.slice none 0 0))) (fun k _ => 8 - (intOf k).toNat)
  case atStart =>
    have e0 : kf X 1 = 0 := by simp [kf]
    exact ⟨1, Nat.le_refl _, by omega, rfl, Lib.hid ⟨(by repeat (first | exact Below.refl _ _ | (refine Below.alloc ?_ (by first | omega | (simp; done) | (simp; omega)) _) | (refine Below.setCell ?_ (by first | exact Nat.le_refl _ | (show _ ≤ _; omega) | (simp; done) | (simp; omega)) _) | refine below_drewN ?_ _ | refine Below.drew ?_)), by rw [e0]; exact Blk.new _ _ _, World.ownsRow_nil _ _ _ _⟩⟩
  case round =>
    obtain ⟨m, hm1, hm8, rfl, HJ⟩ := hrel
    by_cases hlt : m < 8
    · have hmI : (m : Int) < 8 := by omega
      have hcw := (HJ.out.bel.cell (p := ⟨B, m, none⟩) hB).trans (HW2.out m (by simp [inR]; omega))
      have hc0 := (HJ.out.bel.cell (p := ⟨g, 0, none⟩) hgl2).trans (OwnW.at HO2.out (k := 0) (x := X) rfl)
      have ce := Blk.cell (i := 0) (v := .int .i64 (kf X m)) HJ.out.box rfl
      have ze := Blk.frozen HJ.out.box 0
      have le := Blk.lt HJ.out.box
      cases hq2 : (wordE (m : Int) == X.toList) with
      | true =>
        have hq := (weq _ _).1 hq2
        have HN := Lib.hid (show kf X (m + 1) = (m : Int) by rw [kf, if_pos ⟨hm1, hq⟩])
        clear hq
        go_wp2_with fail
        go_quiet (fail)
        go_wp2_with fail
        exact ⟨⟨m + 1, by omega, by omega, by go_num, Lib.hid (by rw [HN.out]; exact (HJ.out.drewN _).setK _)⟩, by simp [intOf]; omega⟩
      | false =>
        have HN := Lib.hid (show kf X (m + 1) = kf X m by rw [kf, if_neg (fun h => by rw [(weq _ _).2 h.2] at hq2; cases hq2)])
        go_wp2_with fail
        go_quiet (fail)
        go_wp2_with fail
        exact ⟨⟨m + 1, by omega, by omega, by go_num, Lib.hid (by rw [HN.out]; exact (HJ.out.drewN _))⟩, by simp [intOf]; omega⟩
    · have hm : m = 8 := by omega
      subst hm
      obtain ⟨κ, hκ⟩ : ∃ κ, kf X 8 = κ := ⟨_, rfl⟩
      have HK := Lib.hid hκ
      have hin := kf_in X 8 (Nat.le_refl _)
      rw [hκ] at HJ hin
      clear hκ
      have ce := Blk.cell (i := 0) (v := .int .i64 κ) HJ.out.box rfl
      have le := Blk.lt HJ.out.box
      by_cases hk0 : κ = 0
      · have HNO := Lib.hid (show rdSpec t = none by rw [rdSpec_of HXR.out HK.out]; unfold rdK; rw [if_pos hk0])
        have KR := HKR.out.up (HJ.out.bel)
        have hbW := Lib.hid (Below.tr HB2.out (HJ.out.bel))
        have r0 := Blk.cell (i := 0) (v := .int .i64 0) KR rfl
        have q0 := Blk.frozen KR 0
        have r1 := Blk.cell (i := 1) (v := .int .i64 0) KR rfl
        have q1 := Blk.frozen KR 1
        have r2 := Blk.cell (i := 2) (v := .int .i64 0) KR rfl
        have q2 := Blk.frozen KR 2
        have r3 := Blk.cell (i := 3) (v := .int .i64 0) KR rfl
        have q3 := Blk.frozen KR 3
        have r4 := Blk.cell (i := 4) (v := .slice none 0 0) KR rfl
        have q4 := Blk.frozen KR 4
        have r5 := Blk.cell (i := 5) (v := .string ⟨#[]⟩) KR rfl
        have q5 := Blk.frozen KR 5
        have lR := Blk.lt KR
        have HKX := Lib.hid KR
        clear KR
        go_wp2_with fail
        obtain ⟨⟨hf, _⟩, x0, x1, x2, x3, x4, x5⟩ := fin6 HKX.out hbW.out (.int .i64 0) (.int .i64 0) (.int .i64 0) (.int .i64 0) (.slice none 0 0) (.string ⟨#[]⟩)
        exact bodyPost_ret (v := .tuple #[.agg #[.int .i64 0, .int .i64 0, .int .i64 0, .int .i64 0, .slice none 0 0, .string ⟨#[]⟩], .int .i64 5]) (by simp [results, Tryz.results9, go_sem, x0, x1, x2, x3, x4, x5]) rfl ⟨hf, .slice none 0 0, by rw [(rd_none HNO.out).1]; exact World.ownsRow_nil _ _ _ _, by rw [(rd_none HNO.out).1, (rd_none HNO.out).2]; rfl⟩
      · have hk7 : inR κ 1 7 = true := hin.resolve_left hk0
        clear hin
        go_wp2_with fail
        refine (l07Uses_any κ _ hk7).mono ?_
        rintro r w3 ⟨rfl, hb3⟩
        have J3 := Lib.hid (HJ.out.up hb3)
        obtain ⟨U, hU⟩ : ∃ U, usesS κ = U := ⟨_, rfl⟩
        have HU := Lib.hid hU
        have hUl : U.size ≤ 3 := by rw [← hU]; exact (uses_has hk7).2.2.2.2
        rw [hU]
        clear hU hb3 ce le
        by_cases hlen : (R.length : Int) + 1 = (U.size : Int) + 1
        · have hRl : R.length = U.size := by omega
          have w1 : IntKind.i64.wrap ((U.size : Int) + 1) = (U.size : Int) + 1 := IntWalk.i64_in _ (by omega)
          go_wp2_with fail
          go_loopw [9] (fun i wx => ∃ (m : Nat) (e : GEdit) (AP : Option Addr) (cP : Nat), m ≤ U.size ∧ i = .int .i64 m ∧ Hid (RdSt w2 wx e (.slice AP e.part.length cP)) ∧ Hid (rdRun (U.data.toList.drop m) (R.drop m) e = rdRun U.data.toList R ⟨κ, 0, 0, 0, [], ⟨#[]⟩⟩) ∧ Hid (SmallE e)) (fun i _ => U.size - (intOf i).toNat)
          case atStart => exact ⟨0, ⟨κ, 0, 0, 0, [], ⟨#[]⟩⟩, none, 0, Nat.zero_le _, rfl, J3, Lib.hid rfl, Lib.hid ⟨fun r hr => absurd hr (by simp), by simp, Nat.zero_le _⟩⟩
          case round =>
            obtain ⟨m, e, AP, cP, hm, rfl, HJ, HR, HSE⟩ := hrel
            by_cases hlt : m < U.size
            · have hmR : m < R.length := by omega
              obtain ⟨x, hx⟩ : ∃ x, R[m]? = some x := ⟨_, List.getElem?_eq_getElem hmR⟩
              have hxs : x.size ≤ 1048576 := Nat.le_trans (splB_size (b := 32) (s := t) (by rw [HXR.out]; exact List.mem_cons_of_mem _ (List.mem_of_getElem? hx))) hs
              have HXS := Lib.hid hxs
              have hcx := (HJ.out.bel.cell (p := ⟨g, m + 1, none⟩) hgl2).trans (OwnW.at HO2.out (k := m + 1) (x := x) (by simpa using hx))
              have hUm : U.data.toList[m]? = some U[m] := by rw [List.getElem?_eq_getElem (by rw [Array.length_toList]; exact hlt)]; simp; rfl
              have HST := Lib.hid (rdRun_step (e := e) hUm hx)
              rw [HR.out] at HST
              have w2' : IntKind.i64.wrap ((m : Int) + 1) = (m : Int) + 1 := IntWalk.i64_in _ (by omega)
              have hmI : (m : Int) + 1 < (R.length : Int) + 1 := by omega
              have hm0 : (0 : Int) ≤ (m : Int) + 1 := by omega
              clear hUm HR hx
              go_wp2_with fail
              refine (l01Number_any x _ HXS.out).mono ?_
              rintro r w4 ⟨hb4, rfl⟩
              have J4 := Lib.hid (HJ.out.up hb4)
              clear hb4 hcx
              by_cases c73 : U[m] = 73
              · have e73 : (U[m].toNat : Int) = 73 := by rw [c73]; rfl
                have ce := Blk.cell (i := 1) (v := .int .i64 e.i) J4.out.box rfl
                have ze := Blk.frozen J4.out.box 1
                have le := Blk.lt J4.out.box
                have J5 := Lib.hid (J4.out.set1 (numV x.data.toList))
                cases hrd : rdOk x.data.toList with
                | false =>
                  have hstep : rdStep e U[m] x = none := by unfold rdStep; rw [if_pos c73, hrd]; rfl
                  have HNO := Lib.hid (show rdSpec t = none by rw [rdSpec_of HXR.out HK.out]; unfold rdK; rw [if_neg hk0, HU.out, if_neg (by simp; omega)]; simp only [List.tail_cons]; rw [HST.out, hstep])
                  clear c73 hstep
                  have KR := HKR.out.up (J5.out.bel)
                  have hbW := Lib.hid (Below.tr HB2.out (J5.out.bel))
                  have r0 := Blk.cell (i := 0) (v := .int .i64 0) KR rfl
                  have q0 := Blk.frozen KR 0
                  have r1 := Blk.cell (i := 1) (v := .int .i64 0) KR rfl
                  have q1 := Blk.frozen KR 1
                  have r2 := Blk.cell (i := 2) (v := .int .i64 0) KR rfl
                  have q2 := Blk.frozen KR 2
                  have r3 := Blk.cell (i := 3) (v := .int .i64 0) KR rfl
                  have q3 := Blk.frozen KR 3
                  have r4 := Blk.cell (i := 4) (v := .slice none 0 0) KR rfl
                  have q4 := Blk.frozen KR 4
                  have r5 := Blk.cell (i := 5) (v := .string ⟨#[]⟩) KR rfl
                  have q5 := Blk.frozen KR 5
                  have lR := Blk.lt KR
                  have HKX := Lib.hid KR
                  clear KR
                  go_wp2_with fail
                  obtain ⟨⟨hf, _⟩, x0, x1, x2, x3, x4, x5⟩ := fin6 HKX.out hbW.out (.int .i64 0) (.int .i64 0) (.int .i64 0) (.int .i64 0) (.slice none 0 0) (.string ⟨#[]⟩)
                  exact bodyPost_ret (v := .tuple #[.agg #[.int .i64 0, .int .i64 0, .int .i64 0, .int .i64 0, .slice none 0 0, .string ⟨#[]⟩], .int .i64 5]) (by simp [results, Tryz.results9, go_sem, x0, x1, x2, x3, x4, x5]) rfl ⟨hf, .slice none 0 0, by rw [(rd_none HNO.out).1]; exact World.ownsRow_nil _ _ _ _, by rw [(rd_none HNO.out).1, (rd_none HNO.out).2]; rfl⟩
                | true =>
                  have hstep : rdStep e U[m] x = some ⟨e.kind, numV x.data.toList, e.j, e.k, e.part, e.map⟩ := by unfold rdStep; rw [if_pos c73, hrd]; rfl
                  have HST2 := Lib.hid (show rdRun (U.data.toList.drop (m + 1)) (R.drop (m + 1)) ⟨e.kind, numV x.data.toList, e.j, e.k, e.part, e.map⟩ = rdRun U.data.toList R ⟨κ, 0, 0, 0, [], ⟨#[]⟩⟩ by rw [HST.out, hstep])
                  clear c73 hstep
                  go_wp2_with fail
                  exact ⟨⟨m + 1, ⟨e.kind, numV x.data.toList, e.j, e.k, e.part, e.map⟩, AP, cP, by omega, by go_num, J5, HST2, HSE⟩, by simp [intOf]; omega⟩
              · have e73 : ¬ (U[m].toNat : Int) = 73 := fun h => c73 (UInt8.toNat_inj.1 (by have : (73 : UInt8).toNat = 73 := rfl; omega))
                by_cases c74 : U[m] = 74
                · have e74 : (U[m].toNat : Int) = 74 := by rw [c74]; rfl
                  have ce := Blk.cell (i := 2) (v := .int .i64 e.j) J4.out.box rfl
                  have ze := Blk.frozen J4.out.box 2
                  have le := Blk.lt J4.out.box
                  have J5 := Lib.hid (J4.out.set2 (numV x.data.toList))
                  cases hrd : rdOk x.data.toList with
                  | false =>
                    have hstep : rdStep e U[m] x = none := by unfold rdStep; rw [if_neg c73, if_pos c74, hrd]; rfl
                    have HNO := Lib.hid (show rdSpec t = none by rw [rdSpec_of HXR.out HK.out]; unfold rdK; rw [if_neg hk0, HU.out, if_neg (by simp; omega)]; simp only [List.tail_cons]; rw [HST.out, hstep])
                    clear c74 hstep
                    have KR := HKR.out.up (J5.out.bel)
                    have hbW := Lib.hid (Below.tr HB2.out (J5.out.bel))
                    have r0 := Blk.cell (i := 0) (v := .int .i64 0) KR rfl
                    have q0 := Blk.frozen KR 0
                    have r1 := Blk.cell (i := 1) (v := .int .i64 0) KR rfl
                    have q1 := Blk.frozen KR 1
                    have r2 := Blk.cell (i := 2) (v := .int .i64 0) KR rfl
                    have q2 := Blk.frozen KR 2
                    have r3 := Blk.cell (i := 3) (v := .int .i64 0) KR rfl
                    have q3 := Blk.frozen KR 3
                    have r4 := Blk.cell (i := 4) (v := .slice none 0 0) KR rfl
                    have q4 := Blk.frozen KR 4
                    have r5 := Blk.cell (i := 5) (v := .string ⟨#[]⟩) KR rfl
                    have q5 := Blk.frozen KR 5
                    have lR := Blk.lt KR
                    have HKX := Lib.hid KR
                    clear KR
                    go_wp2_with fail
                    obtain ⟨⟨hf, _⟩, x0, x1, x2, x3, x4, x5⟩ := fin6 HKX.out hbW.out (.int .i64 0) (.int .i64 0) (.int .i64 0) (.int .i64 0) (.slice none 0 0) (.string ⟨#[]⟩)
                    exact bodyPost_ret (v := .tuple #[.agg #[.int .i64 0, .int .i64 0, .int .i64 0, .int .i64 0, .slice none 0 0, .string ⟨#[]⟩], .int .i64 5]) (by simp [results, Tryz.results9, go_sem, x0, x1, x2, x3, x4, x5]) rfl ⟨hf, .slice none 0 0, by rw [(rd_none HNO.out).1]; exact World.ownsRow_nil _ _ _ _, by rw [(rd_none HNO.out).1, (rd_none HNO.out).2]; rfl⟩
                  | true =>
                    have hstep : rdStep e U[m] x = some ⟨e.kind, e.i, numV x.data.toList, e.k, e.part, e.map⟩ := by unfold rdStep; rw [if_neg c73, if_pos c74, hrd]; rfl
                    have HST2 := Lib.hid (show rdRun (U.data.toList.drop (m + 1)) (R.drop (m + 1)) ⟨e.kind, e.i, numV x.data.toList, e.k, e.part, e.map⟩ = rdRun U.data.toList R ⟨κ, 0, 0, 0, [], ⟨#[]⟩⟩ by rw [HST.out, hstep])
                    clear c74 hstep
                    go_wp2_with fail
                    exact ⟨⟨m + 1, ⟨e.kind, e.i, numV x.data.toList, e.k, e.part, e.map⟩, AP, cP, by omega, by go_num, J5, HST2, HSE⟩, by simp [intOf]; omega⟩
                · have e74 : ¬ (U[m].toNat : Int) = 74 := fun h => c74 (UInt8.toNat_inj.1 (by have : (74 : UInt8).toNat = 74 := rfl; omega))
                  by_cases c75 : U[m] = 75
                  · have e75 : (U[m].toNat : Int) = 75 := by rw [c75]; rfl
                    have ce := Blk.cell (i := 3) (v := .int .i64 e.k) J4.out.box rfl
                    have ze := Blk.frozen J4.out.box 3
                    have le := Blk.lt J4.out.box
                    have J5 := Lib.hid (J4.out.set3 (numV x.data.toList))
                    cases hrd : rdOk x.data.toList with
                    | false =>
                      have hstep : rdStep e U[m] x = none := by unfold rdStep; rw [if_neg c73, if_neg c74, if_pos c75, hrd]; rfl
                      have HNO := Lib.hid (show rdSpec t = none by rw [rdSpec_of HXR.out HK.out]; unfold rdK; rw [if_neg hk0, HU.out, if_neg (by simp; omega)]; simp only [List.tail_cons]; rw [HST.out, hstep])
                      clear c75 hstep
                      have KR := HKR.out.up (J5.out.bel)
                      have hbW := Lib.hid (Below.tr HB2.out (J5.out.bel))
                      have r0 := Blk.cell (i := 0) (v := .int .i64 0) KR rfl
                      have q0 := Blk.frozen KR 0
                      have r1 := Blk.cell (i := 1) (v := .int .i64 0) KR rfl
                      have q1 := Blk.frozen KR 1
                      have r2 := Blk.cell (i := 2) (v := .int .i64 0) KR rfl
                      have q2 := Blk.frozen KR 2
                      have r3 := Blk.cell (i := 3) (v := .int .i64 0) KR rfl
                      have q3 := Blk.frozen KR 3
                      have r4 := Blk.cell (i := 4) (v := .slice none 0 0) KR rfl
                      have q4 := Blk.frozen KR 4
                      have r5 := Blk.cell (i := 5) (v := .string ⟨#[]⟩) KR rfl
                      have q5 := Blk.frozen KR 5
                      have lR := Blk.lt KR
                      have HKX := Lib.hid KR
                      clear KR
                      go_wp2_with fail
                      obtain ⟨⟨hf, _⟩, x0, x1, x2, x3, x4, x5⟩ := fin6 HKX.out hbW.out (.int .i64 0) (.int .i64 0) (.int .i64 0) (.int .i64 0) (.slice none 0 0) (.string ⟨#[]⟩)
                      exact bodyPost_ret (v := .tuple #[.agg #[.int .i64 0, .int .i64 0, .int .i64 0, .int .i64 0, .slice none 0 0, .string ⟨#[]⟩], .int .i64 5]) (by simp [results, Tryz.results9, go_sem, x0, x1, x2, x3, x4, x5]) rfl ⟨hf, .slice none 0 0, by rw [(rd_none HNO.out).1]; exact World.ownsRow_nil _ _ _ _, by rw [(rd_none HNO.out).1, (rd_none HNO.out).2]; rfl⟩
                    | true =>
                      have hstep : rdStep e U[m] x = some ⟨e.kind, e.i, e.j, numV x.data.toList, e.part, e.map⟩ := by unfold rdStep; rw [if_neg c73, if_neg c74, if_pos c75, hrd]; rfl
                      have HST2 := Lib.hid (show rdRun (U.data.toList.drop (m + 1)) (R.drop (m + 1)) ⟨e.kind, e.i, e.j, numV x.data.toList, e.part, e.map⟩ = rdRun U.data.toList R ⟨κ, 0, 0, 0, [], ⟨#[]⟩⟩ by rw [HST.out, hstep])
                      clear c75 hstep
                      go_wp2_with fail
                      exact ⟨⟨m + 1, ⟨e.kind, e.i, e.j, numV x.data.toList, e.part, e.map⟩, AP, cP, by omega, by go_num, J5, HST2, HSE⟩, by simp [intOf]; omega⟩
                  · have e75 : ¬ (U[m].toNat : Int) = 75 := fun h => c75 (UInt8.toNat_inj.1 (by have : (75 : UInt8).toNat = 75 := rfl; omega))
                    by_cases c80 : U[m] = 80
                    · have e80 : (U[m].toNat : Int) = 80 := by rw [c80]; rfl
                      have hxm : x.size ≤ maxLen := by have := HXS.out; unfold maxLen; omega
                      have HXM := Lib.hid hxm
                      clear hxm
                      cases hwo : wordOk x with
                      | false =>
                        have hstep : rdStep e U[m] x = none := by unfold rdStep; rw [if_neg c73, if_neg c74, if_neg c75, if_pos c80, hwo]; rfl
                        have HNO := Lib.hid (show rdSpec t = none by rw [rdSpec_of HXR.out HK.out]; unfold rdK; rw [if_neg hk0, HU.out, if_neg (by simp; omega)]; simp only [List.tail_cons]; rw [HST.out, hstep])
                        have HWO := Lib.hid hwo
                        clear c80 hstep hwo
                        go_wp2_with fail
                        refine (l01Ok_any x _ HXM.out).mono ?_
                        rintro r w5 ⟨rfl, rfl⟩
                        rw [HWO.out]
                        have KR := HKR.out.up (J4.out.bel)
                        have hbW := Lib.hid (Below.tr HB2.out (J4.out.bel))
                        have r0 := Blk.cell (i := 0) (v := .int .i64 0) KR rfl
                        have q0 := Blk.frozen KR 0
                        have r1 := Blk.cell (i := 1) (v := .int .i64 0) KR rfl
                        have q1 := Blk.frozen KR 1
                        have r2 := Blk.cell (i := 2) (v := .int .i64 0) KR rfl
                        have q2 := Blk.frozen KR 2
                        have r3 := Blk.cell (i := 3) (v := .int .i64 0) KR rfl
                        have q3 := Blk.frozen KR 3
                        have r4 := Blk.cell (i := 4) (v := .slice none 0 0) KR rfl
                        have q4 := Blk.frozen KR 4
                        have r5 := Blk.cell (i := 5) (v := .string ⟨#[]⟩) KR rfl
                        have q5 := Blk.frozen KR 5
                        have lR := Blk.lt KR
                        have HKX := Lib.hid KR
                        clear KR
                        go_wp2_with fail
                        obtain ⟨⟨hf, _⟩, x0, x1, x2, x3, x4, x5⟩ := fin6 HKX.out hbW.out (.int .i64 0) (.int .i64 0) (.int .i64 0) (.int .i64 0) (.slice none 0 0) (.string ⟨#[]⟩)
                        exact bodyPost_ret (v := .tuple #[.agg #[.int .i64 0, .int .i64 0, .int .i64 0, .int .i64 0, .slice none 0 0, .string ⟨#[]⟩], .int .i64 5]) (by simp [results, Tryz.results9, go_sem, x0, x1, x2, x3, x4, x5]) rfl ⟨hf, .slice none 0 0, by rw [(rd_none HNO.out).1]; exact World.ownsRow_nil _ _ _ _, by rw [(rd_none HNO.out).1, (rd_none HNO.out).2]; rfl⟩
                      | true =>
                        have HWO := Lib.hid hwo
                        by_cases hl : x.size ≤ 400
                        · have hlI : (x.size : Int) ≤ 400 := by omega
                          have hstep : rdStep e U[m] x = some ⟨e.kind, e.i, e.j, e.k, plainG x, e.map⟩ := by unfold rdStep; rw [if_neg c73, if_neg c74, if_neg c75, if_pos c80, hwo, decide_eq_true hl]; rfl
                          have HST2 := Lib.hid (show rdRun (U.data.toList.drop (m + 1)) (R.drop (m + 1)) ⟨e.kind, e.i, e.j, e.k, plainG x, e.map⟩ = rdRun U.data.toList R ⟨κ, 0, 0, 0, [], ⟨#[]⟩⟩ by rw [HST.out, hstep])
                          have hpl := plainG_len x
                          have HPL := Lib.hid (show (plainG x).length ≤ 404 by omega)
                          clear c80 hstep hwo hpl
                          go_wp2_with fail
                          refine (l01Ok_any x _ HXM.out).mono ?_
                          rintro r w5 ⟨rfl, rfl⟩
                          rw [HWO.out]
                          go_wp2_with fail
                          refine (l02Plain_any x _ HWO.out).mono ?_
                          rintro r w6 ⟨hb6, v6, own6, rfl⟩
                          obtain ⟨A6, c6, rfl, _⟩ := own_nil own6
                          have J6 := Lib.hid (J4.out.up hb6)
                          have ce := Blk.cell (i := 4) (v := .slice AP e.part.length cP) J6.out.box rfl
                          have ze := Blk.frozen J6.out.box 4
                          have le := Blk.lt J6.out.box
                          have J7 := Lib.hid (J6.out.set4 own6 (Blk.lt J4.out.box))
                          clear own6 hb6
                          go_wp2_with fail
                          exact ⟨⟨m + 1, ⟨e.kind, e.i, e.j, e.k, plainG x, e.map⟩, A6, c6, by omega, by go_num, J7, HST2, Lib.hid ⟨plain_smallL HWO.out, HPL.out, HSE.out.2.2⟩⟩, by simp [intOf]; omega⟩
                        · have hlI : ¬ (x.size : Int) ≤ 400 := by omega
                          have hld : (decide ((x.size : Int) ≤ 400)) = false := by simp; omega
                          have hstep : rdStep e U[m] x = none := by unfold rdStep; rw [if_neg c73, if_neg c74, if_neg c75, if_pos c80, hwo, decide_eq_false hl]; rfl
                          have HNO := Lib.hid (show rdSpec t = none by rw [rdSpec_of HXR.out HK.out]; unfold rdK; rw [if_neg hk0, HU.out, if_neg (by simp; omega)]; simp only [List.tail_cons]; rw [HST.out, hstep])
                          clear c80 hstep hwo
                          go_wp2_with fail
                          refine (l01Ok_any x _ HXM.out).mono ?_
                          rintro r w5 ⟨rfl, rfl⟩
                          rw [HWO.out]
                          have KR := HKR.out.up (J4.out.bel)
                          have hbW := Lib.hid (Below.tr HB2.out (J4.out.bel))
                          have r0 := Blk.cell (i := 0) (v := .int .i64 0) KR rfl
                          have q0 := Blk.frozen KR 0
                          have r1 := Blk.cell (i := 1) (v := .int .i64 0) KR rfl
                          have q1 := Blk.frozen KR 1
                          have r2 := Blk.cell (i := 2) (v := .int .i64 0) KR rfl
                          have q2 := Blk.frozen KR 2
                          have r3 := Blk.cell (i := 3) (v := .int .i64 0) KR rfl
                          have q3 := Blk.frozen KR 3
                          have r4 := Blk.cell (i := 4) (v := .slice none 0 0) KR rfl
                          have q4 := Blk.frozen KR 4
                          have r5 := Blk.cell (i := 5) (v := .string ⟨#[]⟩) KR rfl
                          have q5 := Blk.frozen KR 5
                          have lR := Blk.lt KR
                          have HKX := Lib.hid KR
                          clear KR
                          go_wp2_with fail
                          obtain ⟨⟨hf, _⟩, x0, x1, x2, x3, x4, x5⟩ := fin6 HKX.out hbW.out (.int .i64 0) (.int .i64 0) (.int .i64 0) (.int .i64 0) (.slice none 0 0) (.string ⟨#[]⟩)
                          exact bodyPost_ret (v := .tuple #[.agg #[.int .i64 0, .int .i64 0, .int .i64 0, .int .i64 0, .slice none 0 0, .string ⟨#[]⟩], .int .i64 5]) (by simp [results, Tryz.results9, go_sem, x0, x1, x2, x3, x4, x5]) rfl ⟨hf, .slice none 0 0, by rw [(rd_none HNO.out).1]; exact World.ownsRow_nil _ _ _ _, by rw [(rd_none HNO.out).1, (rd_none HNO.out).2]; rfl⟩
                    · have e80 : ¬ (U[m].toNat : Int) = 80 := fun h => c80 (UInt8.toNat_inj.1 (by have : (80 : UInt8).toNat = 80 := rfl; omega))
                      have ce := Blk.cell (i := 5) (v := .string e.map) J4.out.box rfl
                      have ze := Blk.frozen J4.out.box 5
                      have le := Blk.lt J4.out.box
                      have J5 := Lib.hid (J4.out.set5 x)
                      have hstep : rdStep e U[m] x = some ⟨e.kind, e.i, e.j, e.k, e.part, x⟩ := by unfold rdStep; rw [if_neg c73, if_neg c74, if_neg c75, if_neg c80]
                      have HST2 := Lib.hid (show rdRun (U.data.toList.drop (m + 1)) (R.drop (m + 1)) ⟨e.kind, e.i, e.j, e.k, e.part, x⟩ = rdRun U.data.toList R ⟨κ, 0, 0, 0, [], ⟨#[]⟩⟩ by rw [HST.out, hstep])
                      clear hstep
                      go_wp2_with fail
                      exact ⟨⟨m + 1, ⟨e.kind, e.i, e.j, e.k, e.part, x⟩, AP, cP, by omega, by go_num, J5, HST2, Lib.hid ⟨HSE.out.1, HSE.out.2.1, HXS.out⟩⟩, by simp [intOf]; omega⟩
            · have hmU : m = U.size := by omega
              subst hmU
              have hre : rdRun U.data.toList R ⟨κ, 0, 0, 0, [], ⟨#[]⟩⟩ = some e := by
                rw [← HR.out]
                have : U.data.toList.drop U.size = [] := by rw [List.drop_eq_nil_iff, Array.length_toList]; exact Nat.le_refl _
                rw [this]; rfl
              have HRE := Lib.hid hre
              clear hre HR
              go_wp2_with fail
              refine (l07Ok_any w2.heap.size _ e _ (RdSt.at HJ.out) HSE.out.1 (by have := HSE.out.2.1; omega) (by have := HSE.out.2.2; unfold maxLen; omega)).mono ?_
              rintro r w5 ⟨rfl, hb5⟩
              have J5 := Lib.hid (HJ.out.up hb5)
              clear hb5
              cases hok : editOk e with
              | false =>
                have HNO := Lib.hid (show rdSpec t = none by rw [rdSpec_of HXR.out HK.out]; unfold rdK; rw [if_neg hk0, HU.out, if_neg (by simp; omega)]; simp only [List.tail_cons]; rw [HRE.out]; simp [hok])
                clear hok
                have KR := HKR.out.up (J5.out.bel)
                have hbW := Lib.hid (Below.tr HB2.out (J5.out.bel))
                have r0 := Blk.cell (i := 0) (v := .int .i64 0) KR rfl
                have q0 := Blk.frozen KR 0
                have r1 := Blk.cell (i := 1) (v := .int .i64 0) KR rfl
                have q1 := Blk.frozen KR 1
                have r2 := Blk.cell (i := 2) (v := .int .i64 0) KR rfl
                have q2 := Blk.frozen KR 2
                have r3 := Blk.cell (i := 3) (v := .int .i64 0) KR rfl
                have q3 := Blk.frozen KR 3
                have r4 := Blk.cell (i := 4) (v := .slice none 0 0) KR rfl
                have q4 := Blk.frozen KR 4
                have r5 := Blk.cell (i := 5) (v := .string ⟨#[]⟩) KR rfl
                have q5 := Blk.frozen KR 5
                have lR := Blk.lt KR
                have HKX := Lib.hid KR
                clear KR
                go_wp2_with fail
                obtain ⟨⟨hf, _⟩, x0, x1, x2, x3, x4, x5⟩ := fin6 HKX.out hbW.out (.int .i64 0) (.int .i64 0) (.int .i64 0) (.int .i64 0) (.slice none 0 0) (.string ⟨#[]⟩)
                exact bodyPost_ret (v := .tuple #[.agg #[.int .i64 0, .int .i64 0, .int .i64 0, .int .i64 0, .slice none 0 0, .string ⟨#[]⟩], .int .i64 5]) (by simp [results, Tryz.results9, go_sem, x0, x1, x2, x3, x4, x5]) rfl ⟨hf, .slice none 0 0, by rw [(rd_none HNO.out).1]; exact World.ownsRow_nil _ _ _ _, by rw [(rd_none HNO.out).1, (rd_none HNO.out).2]; rfl⟩
              | true =>
                have HYES := Lib.hid (show rdSpec t = some e by rw [rdSpec_of HXR.out HK.out]; unfold rdK; rw [if_neg hk0, HU.out, if_neg (by simp; omega)]; simp only [List.tail_cons]; rw [HRE.out]; simp [hok])
                clear hok
                have KR := HKR.out.up (J5.out.bel)
                have hbW := Lib.hid (Below.tr HB2.out J5.out.bel)
                have r0 := Blk.cell (i := 0) (v := .int .i64 0) KR rfl
                have q0 := Blk.frozen KR 0
                have r1 := Blk.cell (i := 1) (v := .int .i64 0) KR rfl
                have q1 := Blk.frozen KR 1
                have r2 := Blk.cell (i := 2) (v := .int .i64 0) KR rfl
                have q2 := Blk.frozen KR 2
                have r3 := Blk.cell (i := 3) (v := .int .i64 0) KR rfl
                have q3 := Blk.frozen KR 3
                have r4 := Blk.cell (i := 4) (v := .slice none 0 0) KR rfl
                have q4 := Blk.frozen KR 4
                have r5 := Blk.cell (i := 5) (v := .string ⟨#[]⟩) KR rfl
                have q5 := Blk.frozen KR 5
                have g0 := Blk.cell (i := 0) (v := .int .i64 e.kind) J5.out.box rfl
                have g1 := Blk.cell (i := 1) (v := .int .i64 e.i) J5.out.box rfl
                have g2 := Blk.cell (i := 2) (v := .int .i64 e.j) J5.out.box rfl
                have g3 := Blk.cell (i := 3) (v := .int .i64 e.k) J5.out.box rfl
                have g4 := Blk.cell (i := 4) (v := .slice AP e.part.length cP) J5.out.box rfl
                have g5 := Blk.cell (i := 5) (v := .string e.map) J5.out.box rfl
                have lE := Blk.lt J5.out.box
                have lR := Blk.lt KR
                have HKX := Lib.hid KR
                have hwE : w.heap.size < w2.heap.size := HKR.out.lt
                clear KR
                go_wp2_with fail
                obtain ⟨⟨hf, hh⟩, x0, x1, x2, x3, x4, x5⟩ := fin6 HKX.out hbW.out (.int .i64 e.kind) (.int .i64 e.i) (.int .i64 e.j) (.int .i64 e.k) (.slice AP e.part.length cP) (.string e.map)
                exact bodyPost_ret (v := .tuple #[.agg #[.int .i64 e.kind, .int .i64 e.i, .int .i64 e.j, .int .i64 e.k, .slice AP e.part.length cP, .string e.map], .int .i64 0]) (by simp [results, Tryz.results9, go_sem, x0, x1, x2, x3, x4, x5]) rfl ⟨hf, .slice AP e.part.length cP, by rw [(rd_some HYES.out).1]; exact ownsRow_more (own_keep J5.out.own (fun g hg => hh g (by have := (World.ownsRow.lt J5.out.own g hg).1; omega))) (by omega), by rw [(rd_some HYES.out).1, (rd_some HYES.out).2]⟩
        · have HNO := Lib.hid (show rdSpec t = none by rw [rdSpec_of HXR.out HK.out]; unfold rdK; rw [if_neg hk0, HU.out, if_pos (by simp; omega)])
          have w1 : IntKind.i64.wrap ((U.size : Int) + 1) = (U.size : Int) + 1 := IntWalk.i64_in _ (by omega)
          have KR := HKR.out.up (J3.out.bel)
          have hbW := Lib.hid (Below.tr HB2.out (J3.out.bel))
          have r0 := Blk.cell (i := 0) (v := .int .i64 0) KR rfl
          have q0 := Blk.frozen KR 0
          have r1 := Blk.cell (i := 1) (v := .int .i64 0) KR rfl
          have q1 := Blk.frozen KR 1
          have r2 := Blk.cell (i := 2) (v := .int .i64 0) KR rfl
          have q2 := Blk.frozen KR 2
          have r3 := Blk.cell (i := 3) (v := .int .i64 0) KR rfl
          have q3 := Blk.frozen KR 3
          have r4 := Blk.cell (i := 4) (v := .slice none 0 0) KR rfl
          have q4 := Blk.frozen KR 4
          have r5 := Blk.cell (i := 5) (v := .string ⟨#[]⟩) KR rfl
          have q5 := Blk.frozen KR 5
          have lR := Blk.lt KR
          have HKX := Lib.hid KR
          clear KR
          go_wp2_with fail
          obtain ⟨⟨hf, _⟩, x0, x1, x2, x3, x4, x5⟩ := fin6 HKX.out hbW.out (.int .i64 0) (.int .i64 0) (.int .i64 0) (.int .i64 0) (.slice none 0 0) (.string ⟨#[]⟩)
          exact bodyPost_ret (v := .tuple #[.agg #[.int .i64 0, .int .i64 0, .int .i64 0, .int .i64 0, .slice none 0 0, .string ⟨#[]⟩], .int .i64 5]) (by simp [results, Tryz.results9, go_sem, x0, x1, x2, x3, x4, x5]) rfl ⟨hf, .slice none 0 0, by rw [(rd_none HNO.out).1]; exact World.ownsRow_nil _ _ _ _, by rw [(rd_none HNO.out).1, (rd_none HNO.out).2]; rfl⟩
end Go.Proofs.YtagpjommhoedlaaGreatDoor

