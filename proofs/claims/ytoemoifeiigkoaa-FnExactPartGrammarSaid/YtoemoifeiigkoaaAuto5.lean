import Derived.Test.YtoemoifeiigkoaaAuto4
namespace Go.Proofs.Ytoemoifeiigkoaa
open Go.RowKit

def szA (a : GAuto) (left : Int) : Int := if szN a.finals.length left < 0 then -1 else if szII a.next (szN a.finals.length left) < 0 then -1 else szII a.next (szN a.finals.length left)
theorem szII_le (xs : List (List Int)) (left : Int) (h0 : 0 ≤ left) : szII xs left ≤ left := by
  unfold szII
  split
  · omega
  · have := szNN_le xs (szN xs.length left) (by omega)
    have h3 : szN xs.length left ≤ left := by unfold szN; split <;> omega
    omega
theorem szNN_all (xs : List (List Int)) : ∀ left : Int, 0 ≤ szNN xs left → left ≤ 1048576 → ∀ x ∈ xs, x.length ≤ 1048576 := by
  induction xs with
  | nil => intro l _ _ x hx; simp at hx
  | cons y ys ih =>
    intro l h hl x hx
    unfold szNN at h
    split at h
    · omega
    · rename_i hn
      have h3 : szN y.length l ≤ l := by unfold szN at *; split at hn <;> split <;> omega
      have h4 : (y.length : Int) ≤ l := by unfold szN at hn; split at hn <;> omega
      rcases List.mem_cons.1 hx with rfl | hx
      · omega
      · exact ih _ h (by omega) x hx
theorem szA_le {a : GAuto} (h : 0 ≤ szA a 1048576) : a.finals.length ≤ 1048576 ∧ a.next.length ≤ 1048576 ∧ ∀ x ∈ a.next, x.length ≤ 1048576 := by
  unfold szA at h
  split at h
  · omega
  · rename_i h1
    split at h
    · omega
    · rename_i h2
      have h3 : szN a.finals.length 1048576 ≤ 1048576 := by unfold szN; split <;> omega
      have h4 : (a.finals.length : Int) ≤ 1048576 := by unfold szN at h1; split at h1 <;> omega
      unfold szII at h
      split at h
      · omega
      · rename_i h5
        have h6 : szN a.next.length (szN a.finals.length 1048576) ≤ 1048576 := by unfold szN at *; (repeat' split) <;> omega
        have h7 : (a.next.length : Int) ≤ 1048576 := by unfold szN at h5 h6 h3; (repeat' split at h5) <;> omega
        exact ⟨by omega, by omega, szNN_all _ _ h h6⟩

theorem Keep.of_set {S : Nat → Prop} {w : World} {p : Addr} (h : ¬ S p.block) (v : Value) : Keep S w (w.setCell p v) := by
  intro b hb
  exact heap_setCell_other w p b v (fun e => h (e ▸ hb))
theorem Keep.of_set2 {N M b o : Nat} {w : World} (h : b < N) (v : Value) : Keep (fun k => N ≤ k ∧ k < M) w (w.setCell ⟨b, o, none⟩ v) := Keep.of_set (fun h' => by have := h'.1; simp at this; omega) v

end Go.Proofs.Ytoemoifeiigkoaa
