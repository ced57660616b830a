import Derived.Test.YthidgjdjijjkoaaDoorDeed0
import Derived.Test.YthidgjdjijjkoaaDoorDShelf
import Derived.Lib.LaidTab
namespace Go.Proofs.YthidgjdjijjkoaaDoor
open Go.RowKit

theorem tab_below {P : Program} {w w' : World} {nm : String} {k : IntKind} {zs : List Int} (h : Lib.TabIs P w nm k zs) (hb : Below w.heap.size w w') : Lib.TabIs P w' nm k zs := by
  unfold Lib.TabIs World.var? at h ⊢
  obtain ⟨g, hg, h2⟩ := Option.bind_eq_some_iff.1 h
  rw [hg]
  simp only [Option.bind_some]
  have hlt : g < w.heap.size := by
    rcases Nat.lt_or_ge g w.heap.size with h' | h'
    · exact h'
    · rw [Array.getElem?_eq_none h'] at h2; cases h2
  rw [hb.block g hlt]; exact h2
theorem below_grow {w : World} {k : Nat} {os : Array Obj} : Below w.heap.size w (Go.Sort.grow (w.drewN k) os) :=
  ⟨rfl, rfl, rfl, by simp [Go.Sort.grow, World.drewN], fun b hb => by simp [Go.Sort.grow, World.drewN, Array.getElem?_append_left, hb]⟩

def dec (n : Int) : List UInt8 := Lib.decDigits n.toNat
theorem decimal_any (n : Int) (w : World) (h : 0 ≤ n ∧ n ≤ 999) (htab : Lib.TabIs Tryd.prog w "internal/strconv.uint64pow10" .u64 Lib.pow10Tab) :
    Calls Tryd.prog 21 #[.int .i64 n] w fun e w' => e = .returned (.string ⟨(dec n).toArray⟩) ∧ Below w.heap.size w w' := by
  have hd : Lib.itoa n = dec n := by rw [Lib.itoa, if_neg (by omega)]; rfl
  have Hd := Lib.hid hd
  have HT := Lib.hid htab
  clear hd htab
  go_enter Tryd.func21, Tryd.ntmps21
  go_wp2_with fail
  refine (Tryd.strconv_FormatInt_10 n (by omega) (by omega) _ HT.out).mono ?_
  rintro e w' ⟨rfl, k, os, rfl⟩
  rw [Hd.out]
  go_wp2_with fail
  go_ret
  exact ⟨rfl, below_grow⟩

theorem str_app (a b : List UInt8) : (⟨a.toArray⟩ : ByteArray) ++ ⟨b.toArray⟩ = ⟨(a ++ b).toArray⟩ := by
  apply ByteArray.ext
  simp [ByteArray.data_append]
theorem digits_le {m : Nat} (h : m < 1000) : Lib.nDigits m ≤ 3 := by
  rw [Lib.nDigits]; split
  · omega
  · rw [Lib.nDigits]; split
    · omega
    · rw [Lib.nDigits]; split
      · omega
      · omega
theorem convOne (x : Nat) (hx : x < 256) (W : World) (b : Nat) (h : W.cell? ⟨b, 0, none⟩ = some (.int .u8 (x : Int))) :
    (convert 63 9 (.slice (some ⟨b, 0, none⟩) 1 1)).run Tryd.prog W = .ok (.string ⟨#[UInt8.ofNat x]⟩) W :=
  run_convert_bytes_back (P := Tryd.prog) W 63 9 5 ⟨b, 0, none⟩ 1 [UInt8.ofNat x] Tryd.underlying63 Tryd.underlying5 Tryd.underlying9 (fun j hj => by
    have : j = 0 := by simp at hj; omega
    subst this
    have e : ((UInt8.ofNat x).toNat : Int) = x := by rw [UInt8.toNat_ofNat']; omega
    simp only [List.getElem_cons_zero, e]
    simpa [Addr.add] using h)
set_option maxRecDepth 100000 in
set_option maxHeartbeats 1000000 in
theorem Decimal_any : ∀ (n : Nat), n < 1000 → ∀ (w : World), Calls Tryd.prog 17 #[.int .i64 n] w fun e w' => e = .returned (.string ⟨(Lib.decDigits n).toArray⟩) ∧ Below w.heap.size w w' := by
  intro n
  induction n using Nat.strongRecOn with
  | ind n ih =>
    intro hn w
    by_cases c : n < 10
    · have hd : Lib.decDigits n = [UInt8.ofNat (48 + n)] := Lib.decDigits_one c
      have Hd := Lib.hid hd
      have c' : ¬ (10 ≤ (n : Int)) := by omega
      have hcv := convOne (48 + n) (by omega)
      rw [show ((48 + n : Nat) : Int) = 48 + (n : Int) by omega] at hcv
      obtain ⟨q, hq⟩ : ∃ q, UInt8.ofNat (48 + n) = q := ⟨_, rfl⟩
      rw [hq] at hcv Hd
      clear ih hd hq
      go_enter Tryd.func17, Tryd.ntmps17
      go_wp2_with fail
      go_ret
      exact ⟨by rw [Hd.out]; rfl, (by repeat (first | exact Below.refl _ _ | (refine Below.alloc ?_ (by first | omega | (simp; done) | (simp; omega)) _) | refine below_drewN ?_ _ | refine Below.drew ?_))⟩
    · have ih' := ih (n / 10) (by omega) (by omega)
      rw [show ((n / 10 : Nat) : Int) = (n : Int) / 10 by omega] at ih'
      have c' : 10 ≤ (n : Int) := by omega
      have hd : Lib.decDigits n = Lib.decDigits (n / 10) ++ [UInt8.ofNat (48 + n % 10)] := by rw [Lib.decDigits, dif_neg c]
      have Hd := Lib.hid hd
      have hcv := convOne (48 + n % 10) (by omega)
      rw [show ((48 + n % 10 : Nat) : Int) = 48 + (n : Int) % 10 by omega] at hcv
      obtain ⟨q, hq⟩ : ∃ q, UInt8.ofNat (48 + n % 10) = q := ⟨_, rfl⟩
      rw [hq] at hcv Hd
      have hlen : (Lib.decDigits (n / 10)).length ≤ 3 := by rw [Lib.decDigits_length]; exact digits_le (by omega)
      obtain ⟨D, hD⟩ : ∃ D, Lib.decDigits (n / 10) = D := ⟨_, rfl⟩
      rw [hD] at hlen Hd ih'
      have Ih := Lib.hid ih'
      have ihA : ∀ (W : World) (u : Value), Calls Tryd.prog 17 #[.int .i64 ((n : Int) / 10)] (W.alloc (Obj.cells #[u] 5)).drew fun e w' => e = .returned (.string ⟨D.toArray⟩) ∧ Below (W.alloc (Obj.cells #[u] 5)).drew.heap.size (W.alloc (Obj.cells #[u] 5)).drew w' ∧ w'.cell? ⟨W.heap.size, 0, none⟩ = some u :=
        fun W u => (Ih.out _).mono fun e w' ⟨h1, h2⟩ => ⟨h1, h2, (h2.cell (p := ⟨W.heap.size, 0, none⟩) (by simp)).trans (by simp [go_sem])⟩
      have IhA := Lib.hid ihA
      have hn3 : ¬ (9223372036854775807 < D.length + 1) := by omega
      have hdv : IntKind.i64.wrap ((n : Int) / 10) = (n : Int) / 10 := IntWalk.i64_in _ (by omega)
      have hmd : (n : Int).tmod 10 = (n : Int) % 10 := Int.tmod_eq_emod_of_nonneg (by omega)
      have had : IntKind.i64.wrap (48 + (n : Int) % 10) = 48 + (n : Int) % 10 := IntWalk.i64_in _ (by omega)
      have hu8 : IntKind.u8.wrap (48 + (n : Int) % 10) = 48 + (n : Int) % 10 := IntWalk.u8_in _ (by omega)
      clear ih ih' hd hq ihA hD hlen
      go_enter Tryd.func17, Tryd.ntmps17
      go_wp2_with fail
      go_region_law (go_simp; go_at_call 17; first | (with_reducible refine (IhA.out _ _).mono ?_; rintro e w2 ⟨rfl, hb2, hq⟩; have hq' : w2.cell? ⟨w.heap.size, 0, none⟩ = _ := hq) | (with_reducible refine (Ih.out _).mono ?_; rintro e w2 ⟨rfl, hb2⟩))
      all_goals
        go_wp2_with fail
        go_ret
        refine ⟨?_, ?_⟩
        · show Ending.returned (Value.string ((⟨D.toArray⟩ : ByteArray) ++ ⟨[q].toArray⟩)) = _
          rw [Hd.out, str_app]
        · first
          | (have hB := (Below.drew (Below.refl w.heap.size w)).trans hb2
             have hs := hB.size
             exact (by repeat (first | exact hB | (refine Below.alloc ?_ (by first | omega | (simp; done) | (simp; omega)) _) | refine below_drewN ?_ _ | refine Below.drew ?_)))
          | (have hA := Below.drew ((Below.refl w.heap.size w).alloc (Nat.le_refl _) (Obj.cells #[Value.int .u8 (48 + (n : Int) % 10)] 5))
             have hB := hA.trans (hb2.mono hA.size)
             have hs := hB.size
             exact (by repeat (first | exact hB | (refine Below.alloc ?_ (by first | omega | (simp; done) | (simp; omega)) _) | refine below_drewN ?_ _ | refine Below.drew ?_)))
end Go.Proofs.YthidgjdjijjkoaaDoor
