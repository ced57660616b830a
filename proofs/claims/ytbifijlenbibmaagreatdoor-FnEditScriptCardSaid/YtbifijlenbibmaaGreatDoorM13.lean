import Derived.Test.YtbifijlenbibmaaGreatDoorM12
import Derived.Test.YtbifijlenbibmaaGreatDoorM7
import Derived.Test.YtbifijlenbibmaaGreatDoorM11
import Derived.Test.YtbifijlenbibmaaGreatDoorM10
import Derived.Test.YtbifijlenbibmaaGreatDoorM8
namespace Go.Proofs.YtbifijlenbibmaaGreatDoor
open Go.RowKit
theorem codeNm_out {c : Int} (h : ¬ (0 ≤ c ∧ c ≤ 8)) : codeNm c = ⟨#[]⟩ := by unfold codeNm; rw [if_neg h]
theorem codeNm_size (c : Int) : (codeNm c).size ≤ 8 := by
  by_cases h : 0 ≤ c ∧ c ≤ 8
  · obtain ⟨h0, h8⟩ := h
    rcases (by omega : c = 0 ∨ c = 1 ∨ c = 2 ∨ c = 3 ∨ c = 4 ∨ c = 5 ∨ c = 6 ∨ c = 7 ∨ c = 8) with rfl | rfl | rfl | rfl | rfl | rfl | rfl | rfl | rfl <;> decide
  · rw [codeNm_out h]; decide
set_option maxRecDepth 100000 in
set_option maxHeartbeats 1000000 in
theorem implCodeName_any (c : Int) (w : World) : Calls Tryz.prog 187 #[.int .i64 c] w fun e w' => e = .returned (.string (codeNm c)) ∧ Below w.heap.size w w' := by
  by_cases h : 0 ≤ c ∧ c ≤ 8
  · obtain ⟨h0, h8⟩ := h
    rcases (by omega : c = 0 ∨ c = 1 ∨ c = 2 ∨ c = 3 ∨ c = 4 ∨ c = 5 ∨ c = 6 ∨ c = 7 ∨ c = 8) with rfl | rfl | rfl | rfl | rfl | rfl | rfl | rfl | rfl
    all_goals
      go_enter Tryz.func187, Tryz.ntmps187
      go_wp2_with fail
      go_ret
      exact ⟨rfl, (by repeat (first | exact Below.refl _ _ | (refine Below.alloc ?_ (by first | omega | (simp; done) | (simp; omega)) _) | (refine Below.setCell ?_ (by first | exact Nat.le_refl _ | (show _ ≤ _; omega) | (simp; done) | (simp; omega)) _) | refine below_drewN ?_ _ | refine Below.drew ?_))⟩
  · have HC := Lib.hid (codeNm_out h)
    rcases (by omega : c < 0 ∨ (¬ c < 0 ∧ 9 ≤ c)) with h1 | ⟨h1, h2⟩
    all_goals
      go_enter Tryz.func187, Tryz.ntmps187
      go_wp2_with fail
      go_ret
      exact ⟨by rw [HC.out]; rfl, (by repeat (first | exact Below.refl _ _ | (refine Below.alloc ?_ (by first | omega | (simp; done) | (simp; omega)) _) | (refine Below.setCell ?_ (by first | exact Nat.le_refl _ | (show _ ≤ _; omega) | (simp; done) | (simp; omega)) _) | refine below_drewN ?_ _ | refine Below.drew ?_))⟩
set_option maxRecDepth 100000 in
set_option maxHeartbeats 1000000 in
theorem specCodeName_any (c : Int) (w : World) : Calls Tryz.prog 115 #[.int .i64 c] w fun e w' => e = .returned (.string (codeNm c)) ∧ Below w.heap.size w w' := by
  by_cases h : 0 ≤ c ∧ c ≤ 8
  · obtain ⟨h0, h8⟩ := h
    rcases (by omega : c = 0 ∨ c = 1 ∨ c = 2 ∨ c = 3 ∨ c = 4 ∨ c = 5 ∨ c = 6 ∨ c = 7 ∨ c = 8) with rfl | rfl | rfl | rfl | rfl | rfl | rfl | rfl | rfl
    all_goals
      go_enter Tryz.func115, Tryz.ntmps115
      go_wp2_with fail
      refine (l00In_any _ _ _ _).mono ?_
      rintro e w1 ⟨rfl, rfl⟩
      go_wp2_with fail
      go_ret
      exact ⟨rfl, (by repeat (first | exact Below.refl _ _ | (refine Below.alloc ?_ (by first | omega | (simp; done) | (simp; omega)) _) | (refine Below.setCell ?_ (by first | exact Nat.le_refl _ | (show _ ≤ _; omega) | (simp; done) | (simp; omega)) _) | refine below_drewN ?_ _ | refine Below.drew ?_))⟩
  · have HC := Lib.hid (codeNm_out h)
    have hd : (decide (0 ≤ c) && decide (c ≤ 8)) = false := by rw [← Bool.not_eq_true]; simp; omega
    go_enter Tryz.func115, Tryz.ntmps115
    go_wp2_with fail
    refine (l00In_any _ _ _ _).mono ?_
    rintro e w1 ⟨rfl, rfl⟩
    rw [hd]
    go_wp2_with fail
    go_ret
    exact ⟨by rw [HC.out]; rfl, (by repeat (first | exact Below.refl _ _ | (refine Below.alloc ?_ (by first | omega | (simp; done) | (simp; omega)) _) | (refine Below.setCell ?_ (by first | exact Nat.le_refl _ | (show _ ≤ _; omega) | (simp; done) | (simp; omega)) _) | refine below_drewN ?_ _ | refine Below.drew ?_))⟩
set_option maxRecDepth 100000 in
theorem spoken_any (t : ByteArray) (c : Int) (w : World) : Calls Tryz.prog 119 #[.string t, .int .i64 c] w fun e w' => e = .returned (.string (spokB t c)) ∧ Below w.heap.size w w' := by
  by_cases h : c = 0
  · subst h
    go_enter Tryz.func119, Tryz.ntmps119
    go_wp2_with fail
    go_ret
    exact ⟨rfl, (by repeat (first | exact Below.refl _ _ | (refine Below.alloc ?_ (by first | omega | (simp; done) | (simp; omega)) _) | (refine Below.setCell ?_ (by first | exact Nat.le_refl _ | (show _ ≤ _; omega) | (simp; done) | (simp; omega)) _) | refine below_drewN ?_ _ | refine Below.drew ?_))⟩
  · have hb : (c != 0) = true := by simp [h]
    have HQ := Lib.hid (show spokB t c = errB c by unfold spokB; rw [if_neg h])
    have hsz := codeNm_size c
    clear h
    go_enter Tryz.func119, Tryz.ntmps119
    go_wp2_with fail
    refine (implCodeName_any c _).mono ?_
    rintro e w1 ⟨rfl, hb1⟩
    have HB := Lib.hid hb1
    go_wp2_with fail
    go_ret
    exact ⟨by rw [HQ.out]; rfl, HB.out⟩
set_option maxRecDepth 100000 in
theorem decimal_wide (n : Int) (w : World) (h : 0 ≤ n ∧ n ≤ 9223372036854775807) (htab : Lib.TabIs Tryz.prog w "internal/strconv.uint64pow10" .u64 Lib.pow10Tab) :
    Calls Tryz.prog 78 #[.int .i64 n] w fun e w' => e = .returned (.string ⟨(dec n).toArray⟩) ∧ Below w.heap.size w w' := by
  have hd : Lib.itoa n = dec n := by rw [Lib.itoa, if_neg (by omega)]; rfl
  have Hd := Lib.hid hd
  have HT := Lib.hid htab
  clear hd htab
  go_enter Tryz.func78, Tryz.ntmps78
  go_wp2_with fail
  refine (Tryz.strconv_FormatInt_10 n (by omega) (by omega) _ HT.out).mono ?_
  rintro e w' ⟨rfl, k, os, rfl⟩
  rw [Hd.out]
  go_wp2_with fail
  go_ret
  exact ⟨rfl, below_grow⟩
set_option maxRecDepth 100000 in
theorem hasPrefix_at (s : ByteArray) (w : World) : Calls Tryz.prog 227 #[.string s, .string ⟨#[97, 116, 32]⟩] w fun e w' => e = .returned (.bool (decide (s.data.toList.take 3 = [97, 116, 32]))) ∧ w = w' := by
  by_cases h : 3 ≤ s.size
  · have h1 : (3 : Int) ≤ (s.size : Int) := by omega
    have hl : ((s.extract 0 3).toList == ([97, 116, 32] : List UInt8)) = decide (s.data.toList.take 3 = [97, 116, 32]) := by
      rw [ByteArray.toList_eq, ext_list, Bool.eq_iff_iff]
      simp
    have HL := Lib.hid hl
    clear hl
    go_enter Tryz.func227, Tryz.ntmps227
    go_wp2_with fail
    go_ret
    exact ⟨by rw [← HL.out]; rfl, rfl⟩
  · have h1 : ¬ (3 : Int) ≤ (s.size : Int) := by omega
    have HL := Lib.hid (show decide (s.data.toList.take 3 = [97, 116, 32]) = false by
      rw [decide_eq_false_iff_not]
      intro e
      have h2 := congrArg List.length e
      rw [List.length_take] at h2
      have h3 : s.data.toList.length = s.size := by rw [Array.length_toList]; rfl
      simp at h2
      omega)
    go_enter Tryz.func227, Tryz.ntmps227
    go_wp2_with fail
    go_ret
    exact ⟨by rw [HL.out]; rfl, rfl⟩
def CutPost (s : ByteArray) (w : World) (e : Ending) (w' : World) : Prop :=
  (s.data.toList.take 3 = [97, 116, 32] → e = .returned (.tuple #[.string (s.extract 3 s.size), .bool true])) ∧ (s.data.toList.take 3 ≠ [97, 116, 32] → e = .returned (.tuple #[.string s, .bool false])) ∧ w = w'
set_option maxRecDepth 100000 in
theorem cutPrefix0_at (s : ByteArray) (w : World) : Calls Tryz.prog 259 #[.string s, .string ⟨#[97, 116, 32]⟩] w (CutPost s w) := by
  by_cases h : s.data.toList.take 3 = [97, 116, 32]
  · have hd : decide (s.data.toList.take 3 = [97, 116, 32]) = true := decide_eq_true h
    have h3 : (3 : Int) ≤ (s.size : Int) := by
      have h2 := congrArg List.length h
      rw [List.length_take] at h2
      have h3 : s.data.toList.length = s.size := by rw [Array.length_toList]; rfl
      simp at h2
      omega
    have HH := Lib.hid h
    have HD := Lib.hid hd
    clear h hd
    go_enter Tryz.func259, Tryz.ntmps259
    go_wp2_with fail
    refine (hasPrefix_at s _).mono ?_
    rintro e w1 ⟨rfl, rfl⟩
    rw [HD.out]
    go_wp2_with fail
    go_ret2
    exact ⟨fun _ => rfl, fun h => absurd HH.out h, rfl⟩
  · have HH := Lib.hid h
    have HD := Lib.hid (decide_eq_false h)
    clear h
    go_enter Tryz.func259, Tryz.ntmps259
    go_wp2_with fail
    refine (hasPrefix_at s _).mono ?_
    rintro e w1 ⟨rfl, rfl⟩
    rw [HD.out]
    go_wp2_with fail
    go_ret2
    exact ⟨fun h => absurd h HH.out, fun _ => rfl, rfl⟩
set_option maxRecDepth 100000 in
theorem cutPrefix_at (s : ByteArray) (w : World) : Calls Tryz.prog 188 #[.string s, .string ⟨#[97, 116, 32]⟩] w (CutPost s w) := by
  go_enter Tryz.func188, Tryz.ntmps188
  go_wp2_with fail
  refine (cutPrefix0_at s _).mono ?_
  rintro e w1 ⟨h1, h2, rfl⟩
  by_cases h : s.data.toList.take 3 = [97, 116, 32]
  · have HH := Lib.hid h
    obtain rfl := h1 h
    clear h1 h2 h
    go_wp2_with fail
    go_ret2
    exact ⟨fun _ => rfl, fun h => absurd HH.out h, rfl⟩
  · have HH := Lib.hid h
    obtain rfl := h2 h
    clear h1 h2 h
    go_wp2_with fail
    go_ret2
    exact ⟨fun h => absurd h HH.out, fun _ => rfl, rfl⟩
theorem dec_rdOk18 {n : Int} (h1 : (dec n).length ≤ 18) (h0 : 0 ≤ n) : rdOk (dec n) = true ∧ numV (dec n) = n := by
  obtain ⟨k, rfl⟩ := Int.eq_ofNat_of_zero_le h0
  obtain ⟨a1, a2, a3, a4, _⟩ := decD_num k
  have hok : rdOk (dec (k : Int)) = true := by
    rw [rdOk_iff]
    refine ⟨?_, h1, ?_, ?_⟩
    · unfold dec; rw [Int.toNat_natCast]; exact List.length_pos_iff.2 a3
    · unfold dec; rw [Int.toNat_natCast]; exact fun h => a4 h.2 h.1
    · unfold dec; rw [Int.toNat_natCast]; exact a2
  refine ⟨hok, ?_⟩
  unfold numV
  rw [if_pos hok]
  unfold dec
  rw [Int.toNat_natCast, a1]
theorem place_off {t : ByteArray} (h : t.data.toList.take 3 ≠ [97, 116, 32]) : scPlace t = none := by unfold scPlace; rw [if_neg (fun q => h q.1)]
theorem place_on {t : ByteArray} (h : t.data.toList.take 3 = [97, 116, 32]) : (rdOk (t.extract 3 t.size).data.toList = true → scPlace t = some (numV (t.extract 3 t.size).data.toList)) ∧ (rdOk (t.extract 3 t.size).data.toList = false → scPlace t = none) := by
  have he : (t.extract 3 t.size).data.toList = t.data.toList.drop 3 := by
    rw [ext_list, List.take_of_length_le (by rw [Array.length_toList]; exact Nat.le_refl _)]
  rw [he]
  unfold scPlace
  exact ⟨fun q => if_pos ⟨h, q⟩, fun q => if_neg (fun q2 => by rw [q] at q2; exact absurd q2.2 (by decide))⟩
def PlPost (t : ByteArray) (w : World) (e : Ending) (w' : World) : Prop :=
  Below w.heap.size w w' ∧ ∃ n : Int, e = .returned (.tuple #[.int .i64 n, .bool (scPlace t).isSome]) ∧ ∀ i, scPlace t = some i → n = i
set_option maxRecDepth 100000 in
set_option maxHeartbeats 2000000 in
theorem readPlace_any (t : ByteArray) (w : World) (hs : t.size ≤ 1048576) (hv : RdVars w) : Calls Tryz.prog 120 #[.string t] w (PlPost t w) := by
  have HV := Lib.hid hv
  clear hv
  go_enter Tryz.func120, Tryz.ntmps120
  go_wp2_with fail
  refine (cutPrefix_at t _).mono ?_
  rintro e w1 ⟨h1, h2, rfl⟩
  by_cases h : t.data.toList.take 3 = [97, 116, 32]
  · obtain rfl := h1 h
    have HP := Lib.hid (place_on h)
    obtain ⟨u, hu⟩ : ∃ u, t.extract 3 t.size = u := ⟨_, rfl⟩
    have hus : u.size ≤ 1048576 := by rw [← hu, ByteArray.size_extract]; omega
    rw [hu] at HP ⊢
    clear h1 h2 h hu
    obtain ⟨_, ⟨tp, p, hv2⟩, ⟨tq, q, hv3⟩, htab⟩ := HV.out
    have HT := Lib.hid htab
    go_wp2_with fail
    cases hq : Lib.parseIntB 64 u.data.toList with
    | ok v =>
      have HQ := Lib.hid hq
      refine (Tryz.strconv_ParseInt_10_at64_ok u (by omega) v hq _).mono ?_
      rintro e w2 ⟨rfl, hw⟩
      have hb2 : Below w.heap.size w w2 := by
        rcases hw with rfl | ⟨t, rfl⟩
        · exact Below.refl _ _
        · exact Lib.bytesWorld_below _ _ _
      have HB2 := Lib.hid hb2
      have HT2 := Lib.hid (tabB HT.out hb2)
      have hvb := Lib.parseIntB_bounds hq
      have hvb2 : v ≤ 9223372036854775807 := by have := hvb.2; simp at this; omega
      clear hw hb2 hq hvb hv2 hv3 htab
      by_cases h0 : 0 ≤ v
      · have HD := Lib.hid (fun (W : World) (hW : Below w2.heap.size w2 W) => decimal_wide v W ⟨h0, hvb2⟩ (tabB HT2.out hW))
        cases he : ((dec v) == u.toList) with
        | true =>
          have heq : dec v = u.data.toList := by rw [← ByteArray.toList_eq]; exact beq_iff_eq.1 he
          by_cases h18 : u.size ≤ 18
          · have h18i : (u.size : Int) ≤ 18 := by omega
            have hl : (dec v).length ≤ 18 := by rw [heq, Array.length_toList]; exact h18
            have hr := dec_rdOk18 hl h0
            have HR := Lib.hid (show scPlace t = some v by have := HP.out.1 (by rw [← heq]; exact hr.1); rw [this, ← heq, hr.2])
            clear heq hl hr
            go_wp2_with fail
            refine (HD.out _ (by repeat (first | exact Below.refl _ _ | (refine Below.alloc ?_ (by first | omega | (simp; done) | (simp; omega)) _) | (refine Below.setCell ?_ (by first | exact Nat.le_refl _ | (show _ ≤ _; omega) | (simp; done) | (simp; omega)) _) | refine below_drewN ?_ _ | refine Below.drew ?_))).mono ?_
            rintro e w3 ⟨rfl, hb3⟩
            have HB3 := Lib.hid (Below.tr HB2.out hb3)
            go_wp2_with fail
            refine bodyPost_ret (v := .tuple #[.int .i64 v, .bool true]) (by simp [results, Tryz.results120, go_sem]) rfl ⟨HB3.out, v, by rw [HR.out]; rfl, fun i hi => by rw [HR.out] at hi; exact Option.some.inj hi⟩
          · have h18i : 18 < (u.size : Int) := by omega
            have HR := Lib.hid (show scPlace t = none by
              refine HP.out.2 ?_
              rw [← Bool.not_eq_true, rdOk_iff, Array.length_toList]
              intro q
              exact h18 q.2.1)
            clear heq
            go_wp2_with fail
            refine (HD.out _ (by repeat (first | exact Below.refl _ _ | (refine Below.alloc ?_ (by first | omega | (simp; done) | (simp; omega)) _) | (refine Below.setCell ?_ (by first | exact Nat.le_refl _ | (show _ ≤ _; omega) | (simp; done) | (simp; omega)) _) | refine below_drewN ?_ _ | refine Below.drew ?_))).mono ?_
            rintro e w3 ⟨rfl, hb3⟩
            have HB3 := Lib.hid (Below.tr HB2.out hb3)
            go_wp2_with fail
            refine bodyPost_ret (v := .tuple #[.int .i64 v, .bool false]) (by simp [results, Tryz.results120, go_sem, h18i]) rfl ⟨HB3.out, v, by rw [HR.out]; rfl, fun i hi => by rw [HR.out] at hi; cases hi⟩
        | false =>
          have HR := Lib.hid (show scPlace t = none by
            refine HP.out.2 ?_
            rw [← Bool.not_eq_true]
            intro q
            have k1 := pI_num q
            rw [HQ.out] at k1
            have k2 : v = numV u.data.toList := by have := k1.2; injection this
            have k3 := (rdOk_dec q).1
            rw [← k2, ← ByteArray.toList_eq] at k3
            rw [k3] at he
            simp at he)
          go_wp2_with fail
          refine (HD.out _ (by repeat (first | exact Below.refl _ _ | (refine Below.alloc ?_ (by first | omega | (simp; done) | (simp; omega)) _) | (refine Below.setCell ?_ (by first | exact Nat.le_refl _ | (show _ ≤ _; omega) | (simp; done) | (simp; omega)) _) | refine below_drewN ?_ _ | refine Below.drew ?_))).mono ?_
          rintro e w3 ⟨rfl, hb3⟩
          have HB3 := Lib.hid (Below.tr HB2.out hb3)
          go_wp2_with fail
          refine bodyPost_ret (v := .tuple #[.int .i64 v, .bool false]) (by simp [results, Tryz.results120, go_sem]) rfl ⟨HB3.out, v, by rw [HR.out]; rfl, fun i hi => by rw [HR.out] at hi; cases hi⟩
      · have HR := Lib.hid (show scPlace t = none by
          refine HP.out.2 ?_
          rw [← Bool.not_eq_true]
          intro q
          have k1 := pI_num q
          rw [HQ.out] at k1
          have k2 : v = numV u.data.toList := by have := k1.2; injection this
          have k3 := (rdOk_dec q).2
          rw [← k2] at k3
          exact h0 k3)
        go_wp2_with fail
        refine bodyPost_ret (v := .tuple #[.int .i64 v, .bool false]) (by simp [results, Tryz.results120, go_sem]) rfl ⟨HB2.out, v, by rw [HR.out]; rfl, fun i hi => by rw [HR.out] at hi; cases hi⟩
    | «syntax» =>
      have HR := Lib.hid (show scPlace t = none by
        refine HP.out.2 ?_
        rw [← Bool.not_eq_true]
        intro q
        have k1 := (pI_num q).2
        rw [hq] at k1
        cases k1)
      refine (Tryz.strconv_ParseInt_10_at64_syntax_var u (by omega) hq tp p _ hv2).mono ?_
      rintro e w2 ⟨N, rfl, _, _, hb2⟩
      have HB2 := Lib.hid hb2
      clear hv2 hv3 htab hq
      go_wp2_with fail
      refine bodyPost_ret (v := .tuple #[.int .i64 0, .bool false]) (by simp [results, Tryz.results120, go_sem]) rfl ⟨HB2.out, 0, by rw [HR.out]; rfl, fun i hi => by rw [HR.out] at hi; cases hi⟩
    | range =>
      have HR := Lib.hid (show scPlace t = none by
        refine HP.out.2 ?_
        rw [← Bool.not_eq_true]
        intro q
        have k1 := (pI_num q).2
        rw [hq] at k1
        cases k1)
      refine (Tryz.strconv_ParseInt_10_at64_range_var u (by omega) hq tq q _ hv3).mono ?_
      rintro e w2 ⟨N, rfl, _, _, hb2⟩
      have HB2 := Lib.hid hb2
      clear hv2 hv3 htab hq
      go_wp2_with fail
      refine bodyPost_ret (v := .tuple #[.int .i64 (Lib.intSat 64 u.data.toList), .bool false]) (by simp [results, Tryz.results120, go_sem]) rfl ⟨HB2.out, _, by rw [HR.out]; rfl, fun i hi => by rw [HR.out] at hi; cases hi⟩
  · obtain rfl := h2 h
    have HR := Lib.hid (place_off h)
    clear h1 h2 h
    go_wp2_with fail
    refine (parseInt_any t _ hs HV.out).mono ?_
    rintro e w2 ⟨hb2, ev, rfl⟩
    have HB2 := Lib.hid hb2
    go_wp2_with fail
    refine bodyPost_ret (v := .tuple #[.int .i64 (pI t.data.toList), .bool false]) (by simp [results, Tryz.results120, go_sem]) rfl ⟨HB2.out, _, by rw [HR.out]; rfl, fun i hi => by rw [HR.out] at hi; cases hi⟩
theorem cut_one {xs : List GRule} {ls : List Int} {i : Int} (hl : lens xs = some ls) (h0 : 0 ≤ i) (h1 : i + 1 ≤ lastI ls) : (cutL (wordG xs) i (i + 1)).length = 1 := by
  have hw := wordG_len hl
  have := cutL_len (l := wordG xs) h0 (show i ≤ i + 1 by omega) (by omega)
  omega
set_option maxRecDepth 100000 in
set_option maxHeartbeats 1000000 in
theorem letterAt_any (v : Value) (xs : List GRule) (i : Int) (w : World) (h : Sl RuleE w w.heap.size v xs) (hg : gramOk xs = true) (h0 : 0 ≤ i) (hi : i ≤ 1000000000000000000) :
    Calls Tryz.prog 121 #[.agg #[v], .int .i64 i] w fun e w' => (∃ s c, e = .returned (.tuple #[.string s, .int .i64 c]) ∧ spokB s c = scLet xs i) ∧ Below w.heap.size w w' := by
  obtain ⟨hn, ls, hl⟩ := gram_lens hg
  have hV : lenV xs = lastI ls := by simp [lenV, hg, gramLen_of hl]
  have h1 := fun o => (h.below ((Below.refl w.heap.size w).alloc (Nat.le_refl _) o)).le (B' := (w.alloc o).heap.size) (by simp)
  have H1 := Lib.hid h1
  have HV := Lib.hid hV
  clear h1 hV
  obtain ⟨A, c, rfl, _⟩ := h
  have Hl := Lib.hid hl
  have hlast : 0 ≤ lastI ls ∧ lastI ls ≤ 1000000000000000 := lastI_bounds hl
  clear hl
  go_enter Tryz.func121, Tryz.ntmps121
  go_wp2_with fail
  refine (lengths_any _ xs _ (H1.out _) (by omega)).mono ?_
  rintro e w1 ⟨hb1, hpost⟩
  have hcase : ∃ vv, e = .returned (.tuple #[vv, .bool true]) ∧ Sl IntE w1 w1.heap.size vv ls := by
    rcases hpost with ⟨l2, vv, hl2, he, ho⟩ | ⟨hl2, he⟩
    · have e2 : l2 = ls := by have := Hl.out; rw [hl2] at this; exact Option.some.inj this
      subst e2
      exact ⟨vv, by rw [he]; simp [hn], ho.sl⟩
    · rw [Hl.out] at hl2; cases hl2
  obtain ⟨vv, rfl, hL⟩ := hcase
  have hz1 : w.heap.size < w1.heap.size := by have := hb1.size; simp at this; omega
  have a1 : w1.cell? ⟨w.heap.size, 0, none⟩ = some (.slice A xs.length c) := (hb1.cell (p := ⟨w.heap.size, 0, none⟩) (by simp)).trans (by simp [go_sem])
  have S1 := Lib.hid ((H1.out (Obj.cells #[Value.slice A xs.length c] 30)).up hb1)
  have B1 := Lib.hid (((Below.refl w.heap.size w).alloc (Nat.le_refl _) (Obj.cells #[Value.slice A xs.length c] 30)).trans (hb1.mono (by simp)))
  have HL := Lib.hid hL
  obtain ⟨AL, cL, rfl, _⟩ := hL
  have HLA := Lib.hid (fun (W : World) (hW : Below w1.heap.size w1 W) => last_any _ ls W (HL.out.up hW))
  clear hb1 hpost
  by_cases hlt : i < lastI ls
  · have hw1 : inR i 0 (lastI ls - 1) = true := by simp [inR, h0]; omega
    have HC := Lib.hid (cut_one Hl.out h0 (by omega))
    have HQ := Lib.hid (show scLet xs i = ⟨(cutL (wordG xs) i (i + 1)).toArray⟩ by unfold scLet; rw [HV.out, if_pos hlt])
    clear hlt
    go_wp2_with fail
    refine (HLA.out _ (by repeat (first | exact Below.refl _ _ | (refine Below.alloc ?_ (by first | omega | (simp; done) | (simp; omega)) _) | (refine Below.setCell ?_ (by first | exact Nat.le_refl _ | (show _ ≤ _; omega) | (simp; done) | (simp; omega)) _) | refine below_drewN ?_ _ | refine Below.drew ?_))).mono ?_
    rintro e w' ⟨rfl, rfl⟩
    go_wp2_with fail
    refine (within_yes _ _ _ _ hw1).mono ?_
    rintro e w' ⟨rfl, rfl⟩
    go_wp2_with fail
    refine (unpack_any _ _ xs ls i (i + 1) _ S1.out HL.out Hl.out (by omega) (by rw [HC.out]; omega)).mono ?_
    rintro e w2 ⟨rfl, hb2⟩
    go_wp2_with fail
    go_ret2
    exact ⟨⟨_, _, rfl, by rw [HQ.out]; rfl⟩, B1.out.trans (hb2.mono (by omega))⟩
  · have hw1 : inR i 0 (lastI ls - 1) = false := by rw [← Bool.not_eq_true]; simp [inR]; omega
    have HQ := Lib.hid (show scLet xs i = errB 2 by unfold scLet; rw [HV.out, if_neg hlt])
    clear hlt
    go_wp2_with fail
    refine (HLA.out _ (by repeat (first | exact Below.refl _ _ | (refine Below.alloc ?_ (by first | omega | (simp; done) | (simp; omega)) _) | (refine Below.setCell ?_ (by first | exact Nat.le_refl _ | (show _ ≤ _; omega) | (simp; done) | (simp; omega)) _) | refine below_drewN ?_ _ | refine Below.drew ?_))).mono ?_
    rintro e w' ⟨rfl, rfl⟩
    go_wp2_with fail
    refine (within_no _ _ _ _ hw1).mono ?_
    rintro e w' ⟨rfl, rfl⟩
    go_wp2_with fail
    go_ret2
    exact ⟨⟨_, _, rfl, by rw [HQ.out]; rfl⟩, B1.out⟩
def pcs (t : ByteArray) : List ByteArray := splB 32 t ++ [⟨#[]⟩, ⟨#[]⟩, ⟨#[]⟩, ⟨#[]⟩]
theorem pcs_get (t : ByteArray) (i : Nat) (h : i < 4) : (pcs t)[i]? = some ((splB 32 t).getD i eB) := by
  unfold pcs
  rcases Nat.lt_or_ge i (splB 32 t).length with hl | hl
  · rw [List.getElem?_append_left hl, List.getD_eq_getElem?_getD, List.getElem?_eq_getElem hl]; rfl
  · rw [List.getElem?_append_right hl, List.getD_eq_getElem?_getD, List.getElem?_eq_none hl]
    have : i - (splB 32 t).length < 4 := by omega
    generalize i - (splB 32 t).length = j at this
    have : j = 0 ∨ j = 1 ∨ j = 2 ∨ j = 3 := by omega
    rcases this with rfl | rfl | rfl | rfl <;> rfl
theorem pcs_size (t : ByteArray) (i : Nat) : ((splB 32 t).getD i eB).size ≤ t.size := by
  rw [List.getD_eq_getElem?_getD]
  cases h : (splB 32 t)[i]? with
  | none => exact Nat.zero_le _
  | some x => exact splB_size (List.mem_of_getElem? h)
structure RdF (wP w4 w6 wx : World) (X : ByteArray) (bJ bK b1 b7 : Bool) (e : GEdit) (v : Value) : Prop where
  bel : Below wP.heap.size wP wx
  frm : Blk wx w4.heap.size #[.string X, .bool bJ, .bool bK, .bool b1, .bool b7] 121
  st : RdSt w6 wx e v
theorem RdF.up {wP w4 w6 wx w' : World} {X : ByteArray} {bJ bK b1 b7 : Bool} {e : GEdit} {v : Value} (h : RdF wP w4 w6 wx X bJ bK b1 b7 e v) (hb : Below wx.heap.size wx w') : RdF wP w4 w6 w' X bJ bK b1 b7 e v :=
  ⟨Below.tr h.bel hb, h.frm.up hb, h.st.up hb⟩
theorem RdF.put {wP w4 w6 wx : World} {X : ByteArray} {bJ bK b1 b7 : Bool} {e e' : GEdit} {v v' u : Value} {o : Nat} (h : RdF wP w4 w6 wx X bJ bK b1 b7 e v) (hs : RdSt w6 (wx.setCell ⟨w6.heap.size, o, none⟩ u) e' v') (h1 : wP.heap.size ≤ w6.heap.size) (h2 : w4.heap.size < w6.heap.size) : RdF wP w4 w6 (wx.setCell ⟨w6.heap.size, o, none⟩ u) X bJ bK b1 b7 e' v' :=
  ⟨Below.setCell h.bel h1 _, Blk.other h.frm (p := ⟨w6.heap.size, o, none⟩) (Nat.ne_of_lt h2) _, hs⟩
set_option maxRecDepth 100000 in
set_option maxHeartbeats 8000000 in
theorem implRead_any (t : ByteArray) (w : World) (hs : t.size ≤ 1048576) (hv : RdVars w) :
    Calls Tryz.prog 21 #[.string t] w (RERes (rdOut t) (rdCode t) w) := by
  have HV := Lib.hid hv
  clear hv
  have HV1 := Lib.hid (fun o => HV.out.up ((Below.refl w.heap.size w).alloc (Nat.le_refl _) o))
  go_enter Tryz.func21, Tryz.ntmps21
  go_wp2_with fail
  refine (split_any t _ hs (HV1.out _)).mono ?_
  rintro e w1 ⟨hb1, v, own, rfl⟩
  have KR1 : Blk w1 w.heap.size #[.int .i64 0, .int .i64 0, .int .i64 0, .int .i64 0, .slice none 0 0, .string ⟨#[]⟩] 46 := by have := (Below.unalloc hb1).2; simpa [Blk] using this
  replace hb1 := (Below.unalloc hb1).1
  have hll : (splB 32 t).length ≤ 1099511627776 := by
    have : (splB 32 t).length ≤ 1048577 := by
      rw [← splitB_eq, Lib.splitB_all ⟨#[32]⟩ (by decide) 0 _ t rfl]
      have := Lib.countB_le ⟨#[32]⟩ (by decide) t.size t (Nat.le_refl _); omega
    omega
  have HLL := Lib.hid hll
  have HO1 := Lib.hid own
  have HB1 := Lib.hid hb1
  have HK1 := Lib.hid KR1
  have hz1 : (w.alloc (.cells #[.int .i64 0, .int .i64 0, .int .i64 0, .int .i64 0, .slice none 0 0, .string ⟨#[]⟩] 46)).heap.size ≤ w1.heap.size := by simp; exact KR1.lt
  have HZ1 := Lib.hid hz1
  clear hll own hb1 KR1 hz1
  go_wp2_with (first
    | (at_builtin; refine push_word4 rfl _ _ rfl (by rfl) (by rfl) rfl HO1.out HLL.out HZ1.out ?_; intro v3 w3 own3 hb3; obtain ⟨g, cL, rfl, _, hgl, _⟩ := own_form own3 (by simp)))
  have KR3 : Blk w3 w.heap.size #[.int .i64 0, .int .i64 0, .int .i64 0, .int .i64 0, .slice none 0 0, .string ⟨#[]⟩] 46 := (hb3.block _ (by simp)).trans HK1.out
  have HB3 : Below w.heap.size w w3 := Below.trans HB1.out (Below.mono hb3 (by simp))
  obtain ⟨L, hL⟩ : ∃ L, splB 32 t ++ [⟨#[]⟩, ⟨#[]⟩, ⟨#[]⟩, ⟨#[]⟩] = L := ⟨_, rfl⟩
  rw [hL] at own3
  have eL : (splB 32 t).length + 4 = L.length := by rw [← hL]; simp
  rw [eL]
  have ba := (Below.refl w3.heap.size w3).alloc (Nat.le_refl _) (.cells #[.slice (some ⟨g, 0, none⟩) L.length cL] 77)
  have HPP := Lib.hid (Blk.new w3 #[.slice (some ⟨g, 0, none⟩) L.length cL] 77)
  have HLP := Lib.hid (show OwnW _ _ _ L from ownsRow_below own3 ba)
  have HRP := Lib.hid (KR3.up ba)
  have HBP := Lib.hid (Below.tr HB3 ba)
  have HVP := Lib.hid (HV.out.up HBP.out)
  have hzP : w3.heap.size < (w3.alloc (.cells #[.slice (some ⟨g, 0, none⟩) L.length cL] 77)).heap.size := by simp
  have HL := Lib.hid hL
  clear own3 hb3 KR3 HB3 ba HV HV1 HO1 HB1 HK1 HZ1 HLL eL hL
  revert HPP HLP HRP HBP HVP hzP
  generalize (w3.alloc (.cells #[.slice (some ⟨g, 0, none⟩) L.length cL] 77)) = wP
  intro HPP HLP HRP HBP HVP hzP
  have hgP : g < wP.heap.size := Nat.lt_trans hgl hzP
  obtain ⟨X, hX⟩ : ∃ X, (splB 32 t).getD 0 eB = X := ⟨_, rfl⟩
  have HX := Lib.hid hX
  have hL4 : 4 ≤ L.length := by rw [← HL.out]; simp
  have hget : ∀ i, i < 4 → L[i]? = some ((splB 32 t).getD i eB) := fun i hi => by rw [← HL.out]; exact pcs_get t i hi
  have HG := Lib.hid hget
  have hXh : (splB 32 t).headD eB = X := by rw [← hX]; cases splB 32 t <;> rfl
  have HXH := Lib.hid hXh
  clear hX hget hXh
  go_loopw [6] (fun k wx => ∃ m : Nat, 1 ≤ m ∧ m ≤ 8 ∧ k = .int .i64 m ∧ Hid (Below wP.heap.size wP wx) ∧ Hid (∀ j : Nat, 1 ≤ j → j < m → (⟨(wordE (j : Int)).toArray⟩ : ByteArray) = X → rdTry (j : Int) (splB 32 t) t = none)) (fun k _ => 8 - (intOf k).toNat)
  case atStart => exact ⟨1, Nat.le_refl _, by omega, rfl, Lib.hid (Below.refl _ _), Lib.hid (fun j h1 h2 => by omega)⟩
  case round =>
    obtain ⟨m, hm1, hm8, rfl, HB, HN⟩ := hrel
    by_cases hlt : m < 8
    · have hm7 : (m : Int) ≤ 7 := by omega
      have hk7 : inR (m : Int) 1 7 = true := by simp [inR]; omega
      go_wp2_with fail
      refine (formOf_word (m : Int) _ hk7).mono ?_
      rintro e w4 ⟨rfl, hb4⟩
      obtain ⟨bJ, hbJ⟩ : ∃ b, usesJ (m : Int) = b := ⟨_, rfl⟩
      obtain ⟨bK, hbK⟩ : ∃ b, usesK (m : Int) = b := ⟨_, rfl⟩
      obtain ⟨b1, hb1⟩ : ∃ b, ((m : Int) == 1) = b := ⟨_, rfl⟩
      obtain ⟨b7, hb7⟩ : ∃ b, ((m : Int) == 7) = b := ⟨_, rfl⟩
      rw [hbJ, hbK, hb1, hb7]
      have HFJ := Lib.hid hbJ
      have HFK := Lib.hid hbK
      have HF1 := Lib.hid hb1
      have HF7 := Lib.hid hb7
      clear hbJ hbK hb1 hb7
      have HB4 := Lib.hid (Below.tr HB.out hb4)
      have cP := Blk.cell (i := 0) (v := .slice (some ⟨g, 0, none⟩) L.length cL) (HPP.out.up HB4.out) rfl
      have lP := Blk.lt (HPP.out.up HB4.out)
      have cX := (HB4.out.cell (p := ⟨g, 0, none⟩) hgP).trans (OwnW.at HLP.out (k := 0) (x := X) (by rw [HG.out 0 (by omega), HX.out]))
      have hgw : g < w4.heap.size := Nat.lt_of_lt_of_le hgP HB4.out.size
      clear hb4
      cases hq : (wordE (m : Int) == X.toList) with
      | false =>
        have HN2 : Hid (∀ j : Nat, 1 ≤ j → j < m + 1 → (⟨(wordE (j : Int)).toArray⟩ : ByteArray) = X → rdTry (j : Int) (splB 32 t) t = none) := by
          intro j h1 h2 h3
          rcases Nat.lt_or_ge j m with h | h
          · exact HN.out j h1 h h3
          · have : j = m := by omega
            subst this
            rw [(weq _ _).2 h3] at hq; cases hq
        go_wp2_with fail
        go_quiet (fail)
        go_wp2_with fail
        exact ⟨⟨m + 1, by omega, by omega, by go_num, Lib.hid (below_drewN (Below.alloc HB4.out (Below.size HB4.out) _) nq), HN2⟩, by simp [intOf]; omega⟩
      | true =>
        have hqX := (weq _ _).1 hq
        have HQX := Lib.hid hqX
        obtain ⟨x1, hx1⟩ : ∃ x, (splB 32 t).getD 1 eB = x := ⟨_, rfl⟩
        obtain ⟨x2, hx2⟩ : ∃ x, (splB 32 t).getD 2 eB = x := ⟨_, rfl⟩
        obtain ⟨x3, hx3⟩ : ∃ x, (splB 32 t).getD 3 eB = x := ⟨_, rfl⟩
        have HS1 := Lib.hid (show x1.size ≤ 1048576 by rw [← hx1]; exact Nat.le_trans (pcs_size t 1) hs)
        have HS2 := Lib.hid (show x2.size ≤ 1048576 by rw [← hx2]; exact Nat.le_trans (pcs_size t 2) hs)
        have HS3 := Lib.hid (show x3.size ≤ 1048576 by rw [← hx3]; exact Nat.le_trans (pcs_size t 3) hs)
        have HC1 := Lib.hid (OwnW.at HLP.out (k := 1) (x := x1) (by rw [HG.out 1 (by omega), hx1]))
        have HC2 := Lib.hid (OwnW.at HLP.out (k := 2) (x := x2) (by rw [HG.out 2 (by omega), hx2]))
        have HC3 := Lib.hid (OwnW.at HLP.out (k := 3) (x := x3) (by rw [HG.out 3 (by omega), hx3]))
        have HMK := Lib.hid (show rdMk (m : Int) (splB 32 t) = ⟨(m : Int), pI x1.data.toList, if usesJ (m : Int) then pI x2.data.toList else 0, if usesK (m : Int) then pI x3.data.toList else 0, if (m : Int) == 1 then plainG x2 else [], if (m : Int) == 7 then x3 else eB⟩ by unfold rdMk; rw [hx1, hx2, hx3])
        have HX2 := Lib.hid hx2
        have h1L : (1 : Nat) < L.length := by omega
        have h2L : (2 : Nat) < L.length := by omega
        have h3L : (3 : Nat) < L.length := by omega
        clear hx1 hx2 hx3
        go_wp2_with fail
        go_quiet (fail)
        go_wp2_with fail
        have HB5 := Lib.hid (below_drewN (Below.alloc HB4.out (Below.size HB4.out) (.cells #[.string X, .bool bJ, .bool bK, .bool b1, .bool b7] 121)) nq)
        have KF5 := Lib.hid (show Blk ((w4.alloc (.cells #[.string X, .bool bJ, .bool bK, .bool b1, .bool b7] 121)).drewN nq) w4.heap.size _ _ from Blk.new w4 #[.string X, .bool bJ, .bool bK, .bool b1, .bool b7] 121)
        clear cP lP cX
        revert HB5 KF5
        generalize ((w4.alloc (.cells #[.string X, .bool bJ, .bool bK, .bool b1, .bool b7] 121)).drewN nq) = w5
        intro HB5 KF5
        refine (number_any w3.heap.size g cL 1 L x1 _ (HPP.out.up HB5.out) ((HB5.out.cell (p := ⟨g, 1, none⟩) hgP).trans HC1.out) h1L HS1.out (HVP.out.up HB5.out)).mono ?_
        rintro r w6 ⟨hb6, rfl⟩
        have HB6 := Lib.hid (Below.tr HB5.out hb6)
        have KF6 := Lib.hid (KF5.out.up hb6)
        have h46 : w4.heap.size < w6.heap.size := Blk.lt KF6.out
        have hP6 : wP.heap.size ≤ w6.heap.size := HB6.out.size
        obtain ⟨i1, hi1⟩ : ∃ i, pI x1.data.toList = i := ⟨_, rfl⟩
        rw [hi1] at HMK
        rw [hi1]
        obtain ⟨jj, hjj⟩ : ∃ j, (if usesJ (m : Int) then pI x2.data.toList else 0) = j := ⟨_, rfl⟩
        obtain ⟨kk, hkk⟩ : ∃ j, (if usesK (m : Int) then pI x3.data.toList else 0) = j := ⟨_, rfl⟩
        obtain ⟨pp, hpp⟩ : ∃ j, (if (m : Int) == 1 then plainG x2 else []) = j := ⟨_, rfl⟩
        obtain ⟨mm, hmm⟩ : ∃ j, (if (m : Int) == 7 then x3 else eB) = j := ⟨_, rfl⟩
        rw [hjj, hkk, hpp, hmm] at HMK
        have HJJ := Lib.hid hjj
        have HKK := Lib.hid hkk
        have HPQ := Lib.hid hpp
        have HMM := Lib.hid hmm
        clear hi1 hjj hkk hpp hmm hb6
        have ba := (Below.refl w6.heap.size w6).alloc (Nat.le_refl _) (.cells #[.int .i64 m, .int .i64 i1, .int .i64 0, .int .i64 0, .slice none 0 0, .string ⟨#[]⟩] 46)
        have F7 := Lib.hid (show RdF wP w4 w6 (w6.alloc (.cells #[.int .i64 m, .int .i64 i1, .int .i64 0, .int .i64 0, .slice none 0 0, .string ⟨#[]⟩] 46)) X bJ bK b1 b7 ⟨(m : Int), i1, 0, 0, [], ⟨#[]⟩⟩ (.slice none 0 0) from ⟨Below.tr HB6.out ba, KF6.out.up ba, ⟨ba, Blk.new _ _ _, World.ownsRow_nil _ _ _ _⟩⟩)
        clear ba
        go_upto_region 9 with fail
        revert F7
        generalize (w6.alloc (.cells #[.int .i64 m, .int .i64 i1, .int .i64 0, .int .i64 0, .slice none 0 0, .string ⟨#[]⟩] 46)) = w7
        intro F7
        have f1 := Blk.cell (i := 1) (v := .bool bJ) F7.out.frm rfl
        have lf := Blk.lt F7.out.frm
        go_upto_if 37 with fail
        clear f1 lf
        go_cut [] from 38 to 40 (fun wx => RdF wP w4 w6 wx X bJ bK b1 b7 ⟨(m : Int), i1, jj, 0, [], ⟨#[]⟩⟩ (.slice none 0 0))
        case first =>
          cases bJ with
          | false =>
            have : jj = 0 := by rw [← HJJ.out, HFJ.out]; rfl
            subst this
            go_wp2
            go_meet
            exact F7.out
          | true =>
            have : pI x2.data.toList = jj := by rw [← HJJ.out, HFJ.out]; rfl
            go_wp2_with fail
            refine (number_any w3.heap.size g cL 2 L x2 _ (HPP.out.up F7.out.bel) ((F7.out.bel.cell (p := ⟨g, 2, none⟩) hgP).trans HC2.out) h2L HS2.out (HVP.out.up F7.out.bel)).mono ?_
            rintro r w8 ⟨hb8, rfl⟩
            rw [this]
            have F8 := Lib.hid (F7.out.up hb8)
            have ce := Blk.cell (i := 2) (v := .int .i64 0) F8.out.st.box rfl
            have ze := Blk.frozen F8.out.st.box 2
            have le := Blk.lt F8.out.st.box
            clear hb8
            go_wp2_with fail
            go_meet
            exact F8.out.put (F8.out.st.set2 jj) hP6 h46
        case rest =>
          revert hcut
          generalize wc = w9
          intro hcut
          have F9 := Lib.hid hcut
          clear hcut F7
          have f2 := Blk.cell (i := 2) (v := .bool bK) F9.out.frm rfl
          have lf := Blk.lt F9.out.frm
          go_upto_if 42 with fail
          clear f2 lf
          go_cut [] from 43 to 45 (fun wx => RdF wP w4 w6 wx X bJ bK b1 b7 ⟨(m : Int), i1, jj, kk, [], ⟨#[]⟩⟩ (.slice none 0 0))
          case first =>
            cases bK with
            | false =>
              have : kk = 0 := by rw [← HKK.out, HFK.out]; rfl
              subst this
              go_wp2
              go_meet
              exact F9.out
            | true =>
              have : pI x3.data.toList = kk := by rw [← HKK.out, HFK.out]; rfl
              go_wp2_with fail
              refine (number_any w3.heap.size g cL 3 L x3 _ (HPP.out.up F9.out.bel) ((F9.out.bel.cell (p := ⟨g, 3, none⟩) hgP).trans HC3.out) h3L HS3.out (HVP.out.up F9.out.bel)).mono ?_
              rintro r w10 ⟨hb10, rfl⟩
              rw [this]
              have F10 := Lib.hid (F9.out.up hb10)
              have ce := Blk.cell (i := 3) (v := .int .i64 0) F10.out.st.box rfl
              have ze := Blk.frozen F10.out.st.box 3
              have le := Blk.lt F10.out.st.box
              clear hb10
              go_wp2_with fail
              go_meet
              exact F10.out.put (F10.out.st.set3 kk) hP6 h46
          case rest =>
            revert hcut
            generalize wc = w11
            intro hcut
            have F11 := Lib.hid hcut
            clear hcut F9
            have f3 := Blk.cell (i := 3) (v := .bool b1) F11.out.frm rfl
            have lf := Blk.lt F11.out.frm
            go_upto_if 47 with fail
            clear f3 lf
            go_cut [10, 11] from 48 to 59 (fun _ _ wx => ∃ (AP : Option Addr) (cP : Nat), RdF wP w4 w6 wx X bJ bK b1 b7 ⟨(m : Int), i1, jj, kk, pp, ⟨#[]⟩⟩ (.slice AP pp.length cP) ∧ (b1 = true → pgOk x2 = true))
            case first =>
              cases b1 with
              | false =>
                have : pp = [] := by rw [← HPQ.out, HF1.out]; rfl
                subst this
                go_wp2
                go_meet
                exact ⟨none, 0, F11.out, fun h => by cases h⟩
              | true =>
                have HPE := Lib.hid (show plainG x2 = pp by rw [← HPQ.out, HF1.out]; rfl)
                have cP := Blk.cell (i := 0) (v := .slice (some ⟨g, 0, none⟩) L.length cL) (HPP.out.up F11.out.bel) rfl
                have lP := Blk.lt (HPP.out.up F11.out.bel)
                have c2 := (F11.out.bel.cell (p := ⟨g, 2, none⟩) hgP).trans HC2.out
                have h2I : (2 : Int) < (L.length : Int) := by omega
                go_wp2_with fail
                refine (implPlainG_any x2 _ HS2.out).mono ?_
                rintro r w12 ⟨hb12, v12, own12, rfl⟩
                have F12 := Lib.hid (F11.out.up hb12)
                obtain ⟨A12, c12, rfl, _⟩ := own_nil own12
                have HO12 := Lib.hid own12
                have h612 : w6.heap.size < w11.heap.size := Blk.lt F11.out.st.box
                clear own12 hb12 cP lP c2
                cases hpg : pgOk x2 with
                | false =>
                  have HNO := Lib.hid (show rdSpec t = none by rw [← rd_eq]; unfold rdImp; rw [HXH.out, kf_eq hm1 hlt HQX.out, if_neg (by omega)]; unfold rdTry; rw [HF1.out]; have := HX2.out; rw [this, hpg]; rfl)
                  have hc := pg_no hpg
                  obtain ⟨cd, hcd⟩ : ∃ c, pgCode x2 = c := ⟨_, rfl⟩
                  have hc0 : ¬ cd = 0 := by rw [← hcd]; rcases hc with h | h <;> rw [h] <;> decide
                  rw [hcd]
                  clear hc hcd hpg
                  have ba := Below.alloc (Below.refl w12.heap.size w12) (Nat.le_refl _) (.cells #[.slice A12 (pgOut x2).length c12] 30)
                  have HBA := Lib.hid (Below.tr F12.out.bel ba)
                  clear ba
                  have KR := HRP.out.up HBA.out
                  have hbW := Lib.hid (Below.tr HBP.out HBA.out)
                  have r0 := Blk.cell (i := 0) (v := .int .i64 0) KR rfl
                  have q0 := Blk.frozen KR 0
                  have r1 := Blk.cell (i := 1) (v := .int .i64 0) KR rfl
                  have q1 := Blk.frozen KR 1
                  have r2 := Blk.cell (i := 2) (v := .int .i64 0) KR rfl
                  have q2 := Blk.frozen KR 2
                  have r3 := Blk.cell (i := 3) (v := .int .i64 0) KR rfl
                  have q3 := Blk.frozen KR 3
                  have r4 := Blk.cell (i := 4) (v := .slice none 0 0) KR rfl
                  have q4 := Blk.frozen KR 4
                  have r5 := Blk.cell (i := 5) (v := .string ⟨#[]⟩) KR rfl
                  have q5 := Blk.frozen KR 5
                  have lR := Blk.lt KR
                  have HKX := Lib.hid KR
                  clear KR
                  go_wp2_with fail
                  obtain ⟨⟨hf, _⟩, x0, x1, x2, x3, x4, x5⟩ := fin6 HKX.out hbW.out (.int .i64 0) (.int .i64 0) (.int .i64 0) (.int .i64 0) (.slice none 0 0) (.string ⟨#[]⟩)
                  exact bodyPost_ret (v := .tuple #[.agg #[.int .i64 0, .int .i64 0, .int .i64 0, .int .i64 0, .slice none 0 0, .string ⟨#[]⟩], .int .i64 5]) (by simp [results, Tryz.results21, go_sem, x0, x1, x2, x3, x4, x5]) rfl ⟨hf, .slice none 0 0, by rw [(rd_none HNO.out).1]; exact World.ownsRow_nil _ _ _ _, by rw [(rd_none HNO.out).1, (rd_none HNO.out).2]; rfl⟩
                | true =>
                  have hp := pg_yes hpg
                  have HPY := Lib.hid hpg
                  rw [hp.1]
                  have hpo : pgOut x2 = pp := by rw [hp.2, HPE.out]
                  rw [hpo] at HO12
                  rw [hpo]
                  have ba := Below.alloc (Below.refl w12.heap.size w12) (Nat.le_refl _) (.cells #[.slice A12 pp.length c12] 30)
                  have F13 := Lib.hid (F12.out.up ba)
                  have HO13 := Lib.hid (OwnRules.below HO12.out ba)
                  have KP13 := Lib.hid (Blk.new w12 #[.slice A12 pp.length c12] 30)
                  clear hp hpg hpo ba HO12 F12
                  go_upto_region 15 with fail
                  revert F13 HO13 KP13
                  generalize (w12.alloc (.cells #[.slice A12 pp.length c12] 30)) = w13
                  intro F13 HO13 KP13
                  have cp := Blk.cell (i := 0) (v := .slice A12 pp.length c12) KP13.out rfl
                  have lp := Blk.lt KP13.out
                  have ce := Blk.cell (i := 4) (v := .slice none 0 0) F13.out.st.box rfl
                  have ze := Blk.frozen F13.out.st.box 4
                  have le := Blk.lt F13.out.st.box
                  go_wp2_with fail
                  go_meet
                  exact ⟨A12, c12, F13.out.put (F13.out.st.set4 HO13.out h612) hP6 h46, fun _ => HPY.out⟩
            case rest =>
              revert hcut
              generalize wc = w14
              intro hcut
              obtain ⟨AP, cP, hF, hpg⟩ := hcut
              have F14 := Lib.hid hF
              have HPG := Lib.hid hpg
              clear hF hpg F11
              have f4 := Blk.cell (i := 4) (v := .bool b7) F14.out.frm rfl
              have lf := Blk.lt F14.out.frm
              go_upto_if 61 with fail
              clear f4 lf
              go_cut [] from 62 to 65 (fun wx => RdF wP w4 w6 wx X bJ bK b1 b7 ⟨(m : Int), i1, jj, kk, pp, mm⟩ (.slice AP pp.length cP))
              case first =>
                cases b7 with
                | false =>
                  have : mm = ⟨#[]⟩ := by rw [← HMM.out, HF7.out]; rfl
                  subst this
                  go_wp2
                  go_meet
                  exact F14.out
                | true =>
                  have : x3 = mm := by rw [← HMM.out, HF7.out]; rfl
                  have cPP := Blk.cell (i := 0) (v := .slice (some ⟨g, 0, none⟩) L.length cL) (HPP.out.up F14.out.bel) rfl
                  have lP := Blk.lt (HPP.out.up F14.out.bel)
                  have c3 := (F14.out.bel.cell (p := ⟨g, 3, none⟩) hgP).trans HC3.out
                  have h3I : (3 : Int) < (L.length : Int) := by omega
                  rw [this] at c3
                  have ce := Blk.cell (i := 5) (v := .string ⟨#[]⟩) F14.out.st.box rfl
                  have ze := Blk.frozen F14.out.st.box 5
                  have le := Blk.lt F14.out.st.box
                  clear this
                  go_wp2_with fail
                  go_meet
                  exact F14.out.put (F14.out.st.set5 mm) hP6 h46
              case rest =>
                revert hcut
                generalize wc = w15
                intro hcut
                have F15 := Lib.hid hcut
                clear hcut F14
                have hppl : pp.length ≤ 1048576 := by
                  rw [← HPQ.out]
                  rw [HF1.out]
                  cases hb : b1 with
                  | false => simp
                  | true =>
                    have hp := HPG.out hb
                    simp only [pgOk, Bool.and_eq_true] at hp
                    have := (gram_lens hp.2).1
                    simp only [if_true]
                    omega
                have hmml : mm.size ≤ maxLen := by
                  rw [← HMM.out]
                  split
                  · have := HS3.out; unfold maxLen; omega
                  · exact Nat.zero_le _
                have HC0 := Lib.hid (show ((m : Int) == 1 && !pgOk ((splB 32 t).getD 2 eB)) = false by
                  rw [HF1.out]; have := HX2.out; rw [this]
                  cases hb : b1 with
                  | false => rfl
                  | true => rw [HPG.out hb]; rfl)
                have HTRY := Lib.hid (show rdTry (m : Int) (splB 32 t) t = if editOk ⟨(m : Int), i1, jj, kk, pp, mm⟩ && (etV ⟨(m : Int), i1, jj, kk, pp, mm⟩ == t.data.toList) then some ⟨(m : Int), i1, jj, kk, pp, mm⟩ else none by unfold rdTry; rw [HC0.out, HMK.out]; rfl)
                have HPPL := Lib.hid hppl
                have HMML := Lib.hid hmml
                have HN3 := Lib.hid (fun (hn : rdTry (m : Int) (splB 32 t) t = none) => (show ∀ j : Nat, 1 ≤ j → j < m + 1 → (⟨(wordE (j : Int)).toArray⟩ : ByteArray) = X → rdTry (j : Int) (splB 32 t) t = none from fun j h1 h2 h3 => by
                  rcases Nat.lt_or_ge j m with h | h
                  · exact HN.out j h1 h h3
                  · have : j = m := by omega
                    subst this
                    exact hn))
                clear hppl hmml
                have g0 := Blk.cell (i := 0) (v := .int .i64 (m : Int)) F15.out.st.box rfl
                have g1 := Blk.cell (i := 1) (v := .int .i64 i1) F15.out.st.box rfl
                have g2 := Blk.cell (i := 2) (v := .int .i64 jj) F15.out.st.box rfl
                have g3 := Blk.cell (i := 3) (v := .int .i64 kk) F15.out.st.box rfl
                have g4 := Blk.cell (i := 4) (v := .slice AP pp.length cP) F15.out.st.box rfl
                have g5 := Blk.cell (i := 5) (v := .string mm) F15.out.st.box rfl
                have lE := Blk.lt F15.out.st.box
                go_wp2_with fail
                refine (implValidEdit_any _ ⟨(m : Int), i1, jj, kk, pp, mm⟩ _ ⟨_, rfl, OwnRules.sl F15.out.st.own⟩ (by have := HPPL.out; show pp.length ≤ _; omega) HMML.out).mono ?_
                rintro r w16 ⟨rfl, hb16⟩
                have F16 := Lib.hid (F15.out.up hb16)
                clear hb16 g0 g1 g2 g3 g4 g5 lE
                cases hok : editOk ⟨(m : Int), i1, jj, kk, pp, mm⟩ with
                | false =>
                  have HNN := Lib.hid (HN3.out (by rw [HTRY.out, hok]; rfl))
                  clear hok
                  go_wp2_with fail
                  exact ⟨⟨m + 1, by omega, by omega, by go_num, Lib.hid F16.out.bel, HNN⟩, by simp [intOf]; omega⟩
                | true =>
                  have HOK := Lib.hid hok
                  clear hok
                  have g0 := Blk.cell (i := 0) (v := .int .i64 (m : Int)) F16.out.st.box rfl
                  have g1 := Blk.cell (i := 1) (v := .int .i64 i1) F16.out.st.box rfl
                  have g2 := Blk.cell (i := 2) (v := .int .i64 jj) F16.out.st.box rfl
                  have g3 := Blk.cell (i := 3) (v := .int .i64 kk) F16.out.st.box rfl
                  have g4 := Blk.cell (i := 4) (v := .slice AP pp.length cP) F16.out.st.box rfl
                  have g5 := Blk.cell (i := 5) (v := .string mm) F16.out.st.box rfl
                  have lE := Blk.lt F16.out.st.box
                  go_wp2_with fail
                  refine (implEditText_any _ ⟨(m : Int), i1, jj, kk, pp, mm⟩ _ ⟨_, rfl, OwnRules.sl F16.out.st.own⟩ HPPL.out HMML.out (HVP.out.up F16.out.bel).tab).mono ?_
                  rintro r w17 ⟨rfl, hb17⟩
                  have F17 := Lib.hid (F16.out.up hb17)
                  clear hb17 g0 g1 g2 g3 g4 g5 lE
                  cases hcmp : (etV ⟨(m : Int), i1, jj, kk, pp, mm⟩ == t.toList) with
                  | false =>
                    have HNN := Lib.hid (HN3.out (by rw [HTRY.out, HOK.out, ← ByteArray.toList_eq, hcmp]; rfl))
                    go_wp2_with fail
                    exact ⟨⟨m + 1, by omega, by omega, by go_num, Lib.hid F17.out.bel, HNN⟩, by simp [intOf]; omega⟩
                  | true =>
                    have HYES := Lib.hid (show rdSpec t = some ⟨(m : Int), i1, jj, kk, pp, mm⟩ by rw [← rd_eq]; unfold rdImp; rw [HXH.out, kf_eq hm1 hlt HQX.out, if_neg (by omega), HTRY.out, HOK.out, ← ByteArray.toList_eq, hcmp]; rfl)
                    have KR := HRP.out.up F17.out.bel
                    have hbW := Lib.hid (Below.tr HBP.out F17.out.bel)
                    have r0 := Blk.cell (i := 0) (v := .int .i64 0) KR rfl
                    have q0 := Blk.frozen KR 0
                    have r1 := Blk.cell (i := 1) (v := .int .i64 0) KR rfl
                    have q1 := Blk.frozen KR 1
                    have r2 := Blk.cell (i := 2) (v := .int .i64 0) KR rfl
                    have q2 := Blk.frozen KR 2
                    have r3 := Blk.cell (i := 3) (v := .int .i64 0) KR rfl
                    have q3 := Blk.frozen KR 3
                    have r4 := Blk.cell (i := 4) (v := .slice none 0 0) KR rfl
                    have q4 := Blk.frozen KR 4
                    have r5 := Blk.cell (i := 5) (v := .string ⟨#[]⟩) KR rfl
                    have q5 := Blk.frozen KR 5
                    have g0 := Blk.cell (i := 0) (v := .int .i64 (m : Int)) F17.out.st.box rfl
                    have g1 := Blk.cell (i := 1) (v := .int .i64 i1) F17.out.st.box rfl
                    have g2 := Blk.cell (i := 2) (v := .int .i64 jj) F17.out.st.box rfl
                    have g3 := Blk.cell (i := 3) (v := .int .i64 kk) F17.out.st.box rfl
                    have g4 := Blk.cell (i := 4) (v := .slice AP pp.length cP) F17.out.st.box rfl
                    have g5 := Blk.cell (i := 5) (v := .string mm) F17.out.st.box rfl
                    have lE := Blk.lt F17.out.st.box
                    have lR := Blk.lt KR
                    have HKX := Lib.hid KR
                    have hwE : w.heap.size < w6.heap.size := Nat.lt_of_lt_of_le (Blk.lt HRP.out) hP6
                    clear KR
                    go_wp2_with fail
                    obtain ⟨⟨hf, hh⟩, x0, x1, x2, x3, x4, x5⟩ := fin6 HKX.out hbW.out (.int .i64 (m : Int)) (.int .i64 i1) (.int .i64 jj) (.int .i64 kk) (.slice AP pp.length cP) (.string mm)
                    exact bodyPost_ret (v := .tuple #[.agg #[.int .i64 (m : Int), .int .i64 i1, .int .i64 jj, .int .i64 kk, .slice AP pp.length cP, .string mm], .int .i64 0]) (by simp [results, Tryz.results21, go_sem, x0, x1, x2, x3, x4, x5]) rfl ⟨hf, .slice AP pp.length cP, by rw [(rd_some HYES.out).1]; exact ownsRow_more (own_keep F17.out.st.own (fun g hg => hh g (by have := (World.ownsRow.lt F17.out.st.own g hg).1; omega))) (by omega), by rw [(rd_some HYES.out).1, (rd_some HYES.out).2]⟩
    · have hm : m = 8 := by omega
      subst hm
      have HNO := Lib.hid (show rdSpec t = none by
        rw [← rd_eq]; unfold rdImp; rw [HXH.out]
        split
        · rfl
        · rename_i hk
          obtain ⟨k, h1, h2, h3, h4⟩ := kf_word X 8 hk
          rw [h1]; exact HN.out k h2 h3 h4)
      have KR := HRP.out.up HB.out
      have hbW := Lib.hid (Below.tr HBP.out HB.out)
      have r0 := Blk.cell (i := 0) (v := .int .i64 0) KR rfl
      have q0 := Blk.frozen KR 0
      have r1 := Blk.cell (i := 1) (v := .int .i64 0) KR rfl
      have q1 := Blk.frozen KR 1
      have r2 := Blk.cell (i := 2) (v := .int .i64 0) KR rfl
      have q2 := Blk.frozen KR 2
      have r3 := Blk.cell (i := 3) (v := .int .i64 0) KR rfl
      have q3 := Blk.frozen KR 3
      have r4 := Blk.cell (i := 4) (v := .slice none 0 0) KR rfl
      have q4 := Blk.frozen KR 4
      have r5 := Blk.cell (i := 5) (v := .string ⟨#[]⟩) KR rfl
      have q5 := Blk.frozen KR 5
      have lR := Blk.lt KR
      have HKX := Lib.hid KR
      clear KR
      go_wp2_with fail
      obtain ⟨⟨hf, _⟩, x0, x1, x2, x3, x4, x5⟩ := fin6 HKX.out hbW.out (.int .i64 0) (.int .i64 0) (.int .i64 0) (.int .i64 0) (.slice none 0 0) (.string ⟨#[]⟩)
      exact bodyPost_ret (v := .tuple #[.agg #[.int .i64 0, .int .i64 0, .int .i64 0, .int .i64 0, .slice none 0 0, .string ⟨#[]⟩], .int .i64 5]) (by simp [results, Tryz.results21, go_sem, x0, x1, x2, x3, x4, x5]) rfl ⟨hf, .slice none 0 0, by rw [(rd_none HNO.out).1]; exact World.ownsRow_nil _ _ _ _, by rw [(rd_none HNO.out).1, (rd_none HNO.out).2]; rfl⟩
set_option maxRecDepth 100000 in
theorem topGr2_any (g c k L : Nat) (A : Option Addr) (n m : Nat) (w : World) (hL : L = k + 1) (h : w.cell? ⟨g, k, none⟩ = some (.slice A n m)) (hlt : g < w.heap.size) (hk : k ≤ 1048576) :
    Calls Tryz.prog 65 #[.slice (some ⟨g, 0, none⟩) L c] w fun e w' => e = .returned (.agg #[.slice A n m]) ∧ Below w.heap.size w w' := by
  have hw : IntKind.i64.wrap ((L : Int) - 1) = (k : Int) := by rw [IntWalk.i64_in _ (by omega)]; omega
  have hi : (k : Int) < (L : Int) := by omega
  clear hL
  go_enter Tryz.func65, Tryz.ntmps65
  go_wp2_with fail
  exact bodyPost_ret (v := .agg #[.slice A n m]) (by simp [results, Tryz.results65, go_sem]) rfl ⟨rfl, (by repeat (first | exact Below.refl _ _ | (refine Below.alloc ?_ (by first | omega | (simp; done) | (simp; omega)) _) | (refine Below.setCell ?_ (by first | exact Nat.le_refl _ | (show _ ≤ _; omega) | (simp; done) | (simp; omega)) _) | refine below_drewN ?_ _ | refine Below.drew ?_))⟩
theorem rd_okE {t : ByteArray} (h : rdCode t = 0) : editOk (rdOut t) = true := by
  cases hq : rdSpec t with
  | none => rw [(rd_none hq).2] at h; cases h
  | some e =>
    rw [(rd_some hq).1]
    unfold rdSpec rdK at hq
    split at hq
    · cases hq
    · split at hq
      · cases hq
      · split at hq
        · cases hq
        · split at hq
          · rename_i hok
            cases hq
            exact hok
          · cases hq
theorem str_is (t b : ByteArray) (l : List UInt8) (h : b.data.toList = l) : (t.toList == l) = true ↔ t = b := by
  rw [beq_iff_eq, ByteArray.toList_eq]
  constructor
  · intro e; apply ByteArray.ext; apply Array.toList_inj.1; rw [e, h]
  · rintro rfl; exact h
theorem scAns_edit {s : ScS} {t : ByteArray} (h : rdCode t = 0) : scAns s t = scEdit s (rdOut t) := by unfold scAns; rw [if_pos h]
theorem scAns_rest {s : ScS} {t : ByteArray} (h : rdCode t ≠ 0) : scAns s t = scRest s t := by unfold scAns; rw [if_neg h]
set_option maxRecDepth 100000 in
set_option maxHeartbeats 8000000 in
theorem implAnswer_any (lo P : Nat) (s : ScS) (t : ByteArray) (w : World) (hS : Ses 91 w lo P s) (hok : ScOk s) (ht : t.size ≤ 1048576) (hv : RdVars w) (htab : Lib.TabIs Tryz.prog w "math/bits.deBruijn64tab" .u8 deB64) :
    Calls Tryz.prog 53 #[.pointer (some ⟨P, 0, none⟩), .string t] w (AnsPost 91 lo P (scAns s t) w) := by
  obtain ⟨g, c, KP, hP, hg1, hg2, hgP, hc, hgc, HO⟩ := hS
  have hlen : s.gs.length ≤ 61 := by have := hok.len; have := hok.most; omega
  have hpos := hok.pos
  have hn60 := hok.most
  obtain ⟨x, hx⟩ : ∃ x, rsTop s.gs = x := ⟨_, rfl⟩
  have hxo : gramOk x = true := by rw [← hx]; exact hok.top
  have hxi : s.gs[s.gs.length - 1]? = some x := by
    rw [← hx]; unfold rsTop
    rw [List.getD_eq_getElem?_getD, List.getElem?_eq_getElem (by omega)]; rfl
  obtain ⟨g', c', u, hv', _, _, _, _, hcu, hgu⟩ := HO.at_ hxi
  injection hv' with hv1 hv2 hv3
  injection hv1 with hv1
  injection hv1 with hv1
  subst hv1 hv3
  have hwl : lo ≤ w.heap.size := by omega
  have hsl := hgu.sl hwl
  obtain ⟨_, A, cx, rfl⟩ := hgu.one
  have HX := Lib.hid hx
  have HXO := Lib.hid hxo
  have HOK := Lib.hid hok
  have HV := Lib.hid hv
  have HT := Lib.hid htab
  have HSL := Lib.hid hsl
  have HOG := Lib.hid HO
  have HKP := Lib.hid KP
  have hL1 : s.gs.length = (s.gs.length - 1) + 1 := by omega
  have cp0 := Blk.cell (i := 0) (v := .slice (some ⟨g, 0, none⟩) s.gs.length c) KP rfl
  have lp := Blk.lt KP
  have HTOP := Lib.hid (fun (W : World) (hW : Below w.heap.size w W) => topGr2_any g c (s.gs.length - 1) s.gs.length A x.length cx W hL1 ((hW.cell (p := ⟨g, s.gs.length - 1, none⟩) hg2).trans hcu) (Nat.lt_of_lt_of_le hg2 hW.size) (by omega))
  clear hx hxo hok hv htab hsl HO hgu hxi hcu hL1
  go_enter Tryz.func53, Tryz.ntmps53
  go_wp2_with fail
  refine (HTOP.out _ (by repeat (first | exact Below.refl _ _ | (refine Below.alloc ?_ (by first | omega | (simp; done) | (simp; omega)) _) | (refine Below.setCell ?_ (by first | exact Nat.le_refl _ | (show _ ≤ _; omega) | (simp; done) | (simp; omega)) _) | refine below_drewN ?_ _ | refine Below.drew ?_))).mono ?_
  rintro e w1 ⟨rfl, hb1⟩
  clear HTOP
  have bD := (Below.refl w1.heap.size w1).alloc (Nat.le_refl _) (Obj.cells #[.slice A x.length cx] 30)
  have J : AnsSt 91 w (w1.alloc (Obj.cells #[.slice A x.length cx] 30)) lo P g c s w1.heap.size A cx x :=
    ⟨Below.tr hb1 bD, (HKP.out.up hb1).up bD, (HOG.out.up hb1 hwl).up bD (Nat.le_trans hwl hb1.size), Blk.new _ _ _, (HSL.out.up hb1).up bD, hwl⟩
  clear bD hb1 HKP HOG HSL cp0 lp KP
  go_upto_region 2 with fail
  revert J
  generalize (w1.alloc (Obj.cells #[.slice A x.length cx] 30)) = w2
  generalize w1.heap.size = D
  intro J
  have HJ := Lib.hid J
  clear J
  go_wp2_with fail
  refine (implRead_any t _ ht (HV.out.up HJ.out.bel)).mono ?_
  rintro e w3 ⟨hb3, vE, ownE, rfl⟩
  have HJ3 := Lib.hid (HJ.out.up hb3)
  clear hb3 HJ
  by_cases hcd : rdCode t = 0
  · have HQ := Lib.hid (scAns_edit (s := s) hcd)
    have heok := rd_okE hcd
    rw [hcd]
    obtain ⟨e, he⟩ : ∃ e, rdOut t = e := ⟨_, rfl⟩
    rw [he] at HQ heok ownE ⊢
    have hnum := editOk_nums heok
    have hpl := (gram_lens hnum.2.2.2.2.1).1
    have hml := hnum.2.2.2.2.2
    clear hnum hcd he heok
    obtain ⟨AE, cE, rfl, _⟩ := own_nil ownE
    go_upto_region 4 with fail
    have bE := (Below.refl w3.heap.size w3).alloc (Nat.le_refl _) (Obj.cells #[.int .i64 e.kind, .int .i64 e.i, .int .i64 e.j, .int .i64 e.k, .slice AE e.part.length cE, .string e.map] 46)
    have J4 := Lib.hid (HJ3.out.up bE)
    have KE := Lib.hid (Blk.new w3 #[.int .i64 e.kind, .int .i64 e.i, .int .i64 e.j, .int .i64 e.k, .slice AE e.part.length cE, .string e.map] 46)
    have SE := Lib.hid ((OwnRules.sl ownE).up bE)
    clear bE HJ3 ownE
    revert J4 KE SE
    generalize (w3.alloc (Obj.cells #[.int .i64 e.kind, .int .i64 e.i, .int .i64 e.j, .int .i64 e.k, .slice AE e.part.length cE, .string e.map] 46)) = w4
    generalize w3.heap.size = E
    intro J4 KE SE
    have cp1 := Blk.cell (i := 1) (v := .int .i64 s.n) J4.out.kP rfl
    have lp := Blk.lt J4.out.kP
    by_cases hn : s.n = 60
    · have hnI : (s.n : Int) = 60 := by omega
      have HR := Lib.hid (show scEdit s e = (errB 3, s) by unfold scEdit; rw [if_pos hn])
      clear hn
      go_wp2_with fail
      refine (spoken_any ⟨#[]⟩ 3 _).mono ?_
      rintro r w5 ⟨rfl, hb5⟩
      have HJ5 := Lib.hid (J4.out.up hb5)
      go_wp2_with fail
      refine bodyPost_ret (v := .string (errB 3)) (by simp [results, Tryz.results53, go_sem, spokB]) rfl (HJ5.out.same (by decide) hP ?_)
      rw [HQ.out, HR.out]
    · have hnI : ¬ (s.n : Int) = 60 := by omega
      have HN := Lib.hid hn
      have hw1 : IntKind.i64.wrap ((s.n : Int) + 1) = (s.n : Int) + 1 := IntWalk.i64_in _ (by omega)
      have HW1 := Lib.hid hw1
      clear hn hw1
      have cd0 := Blk.cell (i := 0) (v := .slice A x.length cx) J4.out.kD rfl
      have ld := Blk.lt J4.out.kD
      have ce0 := Blk.cell (i := 0) (v := .int .i64 e.kind) KE.out rfl
      have ce1 := Blk.cell (i := 1) (v := .int .i64 e.i) KE.out rfl
      have ce2 := Blk.cell (i := 2) (v := .int .i64 e.j) KE.out rfl
      have ce3 := Blk.cell (i := 3) (v := .int .i64 e.k) KE.out rfl
      have ce4 := Blk.cell (i := 4) (v := .slice AE e.part.length cE) KE.out rfl
      have ce5 := Blk.cell (i := 5) (v := .string e.map) KE.out rfl
      have le := Blk.lt KE.out
      go_wp2_with fail
      refine (implApply_any _ _ x e _ J4.out.gx ⟨_, rfl, SE.out⟩ (by have := gram_len400 HXO.out; omega) (by omega) (by unfold maxLen; omega) (tabB HT.out J4.out.bel)).mono ?_
      rintro r w5 ⟨hb5, v5, own5, rfl⟩
      have J5 := Lib.hid (J4.out.up hb5)
      have hw4 : lo ≤ w4.heap.size := Nat.le_trans hwl J4.out.bel.size
      clear cp1 lp cd0 ld ce0 ce1 ce2 ce3 ce4 ce5 le J4 KE SE hb5
      obtain ⟨A5, c5, rfl, _⟩ := own_nil own5
      go_upto_region 7 with fail
      have bN := (Below.refl w5.heap.size w5).alloc (Nat.le_refl _) (Obj.cells #[.slice A5 (applyOut x e).length c5] 30)
      have J6 := Lib.hid (J5.out.up bN)
      have KN := Lib.hid (Blk.new w5 #[.slice A5 (applyOut x e).length c5] 30)
      have ON := Lib.hid (OwnRules.below (ownsRow_more own5 (base' := lo) hw4) bN)
      clear bN J5 own5
      revert J6 KN ON
      generalize (w5.alloc (Obj.cells #[.slice A5 (applyOut x e).length c5] 30)) = w6
      generalize w5.heap.size = NB
      intro J6 KN ON
      by_cases hac : applyCode x e = 0
      · have HR := Lib.hid (show scEdit s e = (okB, ⟨s.gs ++ [applyOut x e], s.n + 1⟩) by unfold scEdit; rw [if_neg HN.out, HX.out, if_pos hac])
        rw [hac]
        clear hac hw4 HN
        have hl6 : lo ≤ w6.heap.size := Nat.le_trans hwl J6.out.bel.size
        have cp0 := Blk.cell (i := 0) (v := .slice (some ⟨g, 0, none⟩) s.gs.length c) J6.out.kP rfl
        have zp0 := Blk.frozen J6.out.kP 0
        have lp := Blk.lt J6.out.kP
        have cn0 := Blk.cell (i := 0) (v := .slice A5 (applyOut x e).length c5) KN.out rfl
        have ln := Blk.lt KN.out
        go_upto_region 8 with fail
        go_cut [] (fun wx => ∃ g7 c7 : Nat, Blk wx P #[.slice (some ⟨g7, 0, none⟩) (s.gs.length + 1) c7, .int .i64 s.n] 91 ∧ OGp wx lo (.slice (some ⟨g7, 0, none⟩) (s.gs.length + 1) c7) (s.gs ++ [applyOut x e]) ∧ Below lo w6 wx ∧ TK (SK 91) w6 wx ∧ w6.heap.size ≤ wx.heap.size)
        case first =>
          go_region_law (first
            | (refine step_push_gp (by rfl) _ _ (by rfl) (u := .slice A5 (applyOut x e).length c5) (y := applyOut x e) (lo := lo) (g := g) (c := c) (gs := s.gs) (by rfl) (by first | rfl | simp) (by simp [go_sem]) (J6.out.og.up (by repeat (first | exact Below.refl _ _ | (refine Below.alloc ?_ (by first | omega | (simp; done) | (simp; omega)) _) | (refine Below.setCell ?_ (by first | exact Nat.le_refl _ | (show _ ≤ _; omega) | (simp; done) | (simp; omega)) _) | refine below_drewN ?_ _ | refine Below.drew ?_)) hl6) (by omega) (by simp; omega) (.inr (OwnRules.below ON.out (by repeat (first | exact Below.refl _ _ | (refine Below.alloc ?_ (by first | omega | (simp; done) | (simp; omega)) _) | (refine Below.setCell ?_ (by first | exact Nat.le_refl _ | (show _ ≤ _; omega) | (simp; done) | (simp; omega)) _) | refine below_drewN ?_ _ | refine Below.drew ?_)))) ?_; intro g7 c7 w7 og7 hb7 hk7 hz7; have kP7 : Blk w7 P #[.slice (some ⟨g, 0, none⟩) s.gs.length c, .int .i64 s.n] 91 := TK.blk (J6.out.kP.up (by repeat (first | exact Below.refl _ _ | (refine Below.alloc ?_ (by first | omega | (simp; done) | (simp; omega)) _) | (refine Below.setCell ?_ (by first | exact Nat.le_refl _ | (show _ ≤ _; omega) | (simp; done) | (simp; omega)) _) | refine below_drewN ?_ _ | refine Below.drew ?_))) hk7 (by decide); have cp7 := Blk.cell (i := 0) (v := .slice (some ⟨g, 0, none⟩) s.gs.length c) kP7 rfl; have zp7 := Blk.frozen kP7 0; have lp7 := Blk.lt kP7))
          all_goals
            go_wp2_with fail
            go_meet
            have hz6 := Nat.le_trans (show w6.heap.size ≤ _ from (show Below w6.heap.size w6 _ from (by repeat (first | exact Below.refl _ _ | (refine Below.alloc ?_ (by first | omega | (simp; done) | (simp; omega)) _) | (refine Below.setCell ?_ (by first | exact Nat.le_refl _ | (show _ ≤ _; omega) | (simp; done) | (simp; omega)) _) | refine below_drewN ?_ _ | refine Below.drew ?_))).size) hz7
            refine ⟨g7, c7, kP7.set 0 _, og7.setP kP7 hP (by decide) (by decide), ?_, ?_, ?_⟩
            · exact ((show Below w6.heap.size w6 _ from (by repeat (first | exact Below.refl _ _ | (refine Below.alloc ?_ (by first | omega | (simp; done) | (simp; omega)) _) | (refine Below.setCell ?_ (by first | exact Nat.le_refl _ | (show _ ≤ _; omega) | (simp; done) | (simp; omega)) _) | refine below_drewN ?_ _ | refine Below.drew ?_))).mono hl6).trans (hb7.setCell (p := ⟨P, 0, none⟩) hP _)
            · exact TK.tr (TK.of_below (show Below w6.heap.size w6 _ from (by repeat (first | exact Below.refl _ _ | (refine Below.alloc ?_ (by first | omega | (simp; done) | (simp; omega)) _) | (refine Below.setCell ?_ (by first | exact Nat.le_refl _ | (show _ ≤ _; omega) | (simp; done) | (simp; omega)) _) | refine below_drewN ?_ _ | refine Below.drew ?_)))) (TK.tr (hk7.sub (fun _ h => h.1)) (TK.setCell kP7 (fun _ h => h.2)))
            · simpa using hz6
        case rest =>
          obtain ⟨g7, c7, k7, o7, b7, t7, z7⟩ := hcut
          have K7 := Lib.hid k7
          have O7 := Lib.hid o7
          have B7 := Lib.hid ((J6.out.bel.mono hwl).trans b7)
          have T7 := Lib.hid (TK.tr (TK.of_below (ts := SK 91) J6.out.bel) t7)
          have Z7 : w.heap.size ≤ wc.heap.size := Nat.le_trans J6.out.bel.size z7
          have hw1 := HW1.out
          clear k7 o7 b7 t7 z7 cp0 zp0 lp cn0 ln J6 KN ON
          revert K7 O7 B7 T7 Z7
          generalize wc = w7
          intro K7 O7 B7 T7 Z7
          have cp1 := Blk.cell (i := 1) (v := .int .i64 s.n) K7.out rfl
          have zp1 := Blk.frozen K7.out 1
          have lp := Blk.lt K7.out
          go_wp2_with fail
          refine (spoken_any ⟨#[111, 107]⟩ 0 _).mono ?_
          rintro r w8 ⟨rfl, hb8⟩
          have HB8 := Lib.hid hb8
          clear hb8
          go_wp2_with fail
          refine bodyPost_ret (v := .string okB) (by simp [results, Tryz.results53, go_sem, spokB, okB]) rfl ?_
          rw [HQ.out, HR.out]
          have k8 := (K7.out.set 1 (.int .i64 ((s.n : Int) + 1))).up HB8.out
          have o8 := (O7.out.setP (i := 1) (u := .int .i64 ((s.n : Int) + 1)) K7.out hP (by decide) (by decide)).up HB8.out (by simp; omega)
          refine ⟨rfl, Ses.of (g := g7) (c := c7) (by decide) ?_ hP ?_, ?_, ?_, ?_⟩
          · simpa using k8
          · simpa using o8
          · exact B7.out.trans (((Below.refl lo w7).setCell (p := ⟨P, 1, none⟩) hP _).trans (HB8.out.mono (by simp; omega)))
          · exact TK.tr T7.out (TK.tr (TK.setCell K7.out (fun _ h => h.2)) (TK.of_below HB8.out))
          · exact Nat.le_trans Z7 (by simpa using HB8.out.size)
      · have HR := Lib.hid (show scEdit s e = (errB (applyCode x e), s) by unfold scEdit; rw [if_neg HN.out, HX.out, if_neg hac])
        have hacb : (applyCode x e == 0) = false := by simp [hac]
        have HAC := Lib.hid hac
        clear hac
        go_wp2_with fail
        refine (spoken_any ⟨#[111, 107]⟩ (applyCode x e) _).mono ?_
        rintro r w8 ⟨rfl, hb8⟩
        have HJ8 := Lib.hid (J6.out.up hb8)
        go_wp2_with fail
        refine bodyPost_ret (v := .string (errB (applyCode x e))) (by simp [results, Tryz.results53, go_sem, spokB, HAC.out]) rfl (HJ8.out.same (by decide) hP ?_)
        rw [HQ.out, HR.out]
  · have HQ := Lib.hid (scAns_rest (s := s) hcd)
    have hcb : (rdCode t == 0) = false := by simp [hcd]
    obtain ⟨AE, cE, rfl, _⟩ := own_nil ownE
    obtain ⟨e, he⟩ : ∃ e, rdOut t = e := ⟨_, rfl⟩
    rw [he] at ownE ⊢
    clear hcd he
    go_upto_region 11 with fail
    have bE := (Below.refl w3.heap.size w3).alloc (Nat.le_refl _) (Obj.cells #[.int .i64 e.kind, .int .i64 e.i, .int .i64 e.j, .int .i64 e.k, .slice AE e.part.length cE, .string e.map] 46)
    have J4 := Lib.hid (HJ3.out.up bE)
    clear bE HJ3 ownE
    revert J4
    generalize (w3.alloc (Obj.cells #[.int .i64 e.kind, .int .i64 e.i, .int .i64 e.j, .int .i64 e.k, .slice AE e.part.length cE, .string e.map] 46)) = w4
    generalize w3.heap.size = E
    intro J4
    go_wp2_with fail
    refine (readPlace_any t _ ht (HV.out.up J4.out.bel)).mono ?_
    rintro r w5 ⟨hb5, n, rfl, hpn⟩
    have J5 := Lib.hid (J4.out.up hb5)
    clear hb5 J4
    cases hpl : scPlace t with
    | some i =>
      have HR := Lib.hid (show scRest s t = (scLet x i, s) by unfold scRest; rw [hpl, HX.out])
      obtain rfl := hpn i hpl
      obtain ⟨y, hy1, hy2, hy3, hy4⟩ := place_some hpl
      have hn0 : 0 ≤ n ∧ n ≤ 1000000000000000000 := by
        rw [hy3]
        refine ⟨(rdOk_dec hy2).2, ?_⟩
        have h1 := (rdOk_iff _).1 hy2
        have h2 := numN_lt _ _ rfl h1.2.2.2
        unfold numV
        rw [if_pos hy2]
        have h3 : (10 : Nat) ^ y.data.toList.length ≤ 10 ^ 18 := Nat.pow_le_pow_right (by decide) h1.2.1
        have h4 : (10 : Nat) ^ 18 = 1000000000000000000 := by decide
        omega
      clear hpn hpl hy1 hy2 hy3 hy4
      have cd0 := Blk.cell (i := 0) (v := .slice A x.length cx) J5.out.kD rfl
      have ld := Blk.lt J5.out.kD
      go_wp2_with fail
      refine (letterAt_any _ x n _ J5.out.gx HXO.out hn0.1 hn0.2).mono ?_
      rintro r w6 ⟨⟨sb, sc, rfl, hsp⟩, hb6⟩
      have J6 := Lib.hid (J5.out.up hb6)
      have HSP := Lib.hid hsp
      clear hb6 J5 cd0 ld hsp
      go_wp2_with fail
      refine (spoken_any sb sc _).mono ?_
      rintro r w8 ⟨rfl, hb8⟩
      have HJ8 := Lib.hid (J6.out.up hb8)
      go_wp2_with fail
      refine bodyPost_ret (v := .string (scLet x n)) (by simp [results, Tryz.results53, go_sem, HSP.out]) rfl (HJ8.out.same (by decide) hP ?_)
      rw [HQ.out, HR.out]
    | none =>
      clear hpn
      have HPL := Lib.hid hpl
      clear hpl
      cases h1 : (t.toList == ([117, 110, 100, 111] : List UInt8)) with
      | true =>
        have ht1 : t = undoB := (str_is t undoB [117, 110, 100, 111] rfl).1 h1
        have HR1 := Lib.hid (show scRest s t = (if s.gs.length = 1 then (errB 4, s) else (okB, ⟨s.gs.dropLast, s.n⟩)) by unfold scRest; rw [HPL.out, if_pos ht1])
        clear ht1
        by_cases hl1 : s.gs.length = 1
        · have hl1I : (s.gs.length : Int) = 1 := by omega
          have HR := Lib.hid (show scRest s t = (errB 4, s) by rw [HR1.out, if_pos hl1])
          clear HR1 hl1
          have cp0 := Blk.cell (i := 0) (v := .slice (some ⟨g, 0, none⟩) s.gs.length c) J5.out.kP rfl
          have lp := Blk.lt J5.out.kP
          go_wp2_with fail
          refine (spoken_any ⟨#[]⟩ 4 _).mono ?_
          rintro r w8 ⟨rfl, hb8⟩
          have HJ8 := Lib.hid (J5.out.up hb8)
          go_wp2_with fail
          refine bodyPost_ret (v := .string (errB 4)) (by simp [results, Tryz.results53, go_sem, spokB]) rfl (HJ8.out.same (by decide) hP ?_)
          rw [HQ.out, HR.out]
        · have HR := Lib.hid (show scRest s t = (okB, ⟨s.gs.dropLast, s.n⟩) by rw [HR1.out, if_neg hl1])
          have kP5 := J5.out.kP
          have og5 := OGp.pop J5.out.og (by omega)
          have hdl : s.gs.dropLast.length = s.gs.length - 1 := by simp
          obtain ⟨L, hL⟩ : ∃ L, s.gs.length = L := ⟨_, rfl⟩
          obtain ⟨k, hk⟩ : ∃ k, L - 1 = k := ⟨_, rfl⟩
          rw [hL, hk] at hdl og5
          rw [hL] at kP5 hl1 hgc hlen hpos
          have hw : IntKind.i64.wrap ((L : Int) - 1) = (k : Int) := by rw [IntWalk.i64_in _ (by omega)]; omega
          have hkc : (k : Int) ≤ (c : Int) := by omega
          have hLI : ¬ (L : Int) = 1 := by omega
          have HKP := Lib.hid kP5
          have HOG := Lib.hid og5
          have HDL := Lib.hid hdl
          have hl5 : lo ≤ w5.heap.size := Nat.le_trans hwl J5.out.bel.size
          clear HR1 hl1 hL hk hdl og5
          have cp0 := Blk.cell (i := 0) (v := .slice (some ⟨g, 0, none⟩) L c) kP5 rfl
          have zp0 := Blk.frozen kP5 0
          have lp := Blk.lt kP5
          clear kP5
          go_upto_region 18 with fail
          go_cut [] (fun wx => Blk wx P #[.slice (some ⟨g, 0, none⟩) k c, .int .i64 s.n] 91 ∧ OGp wx lo (.slice (some ⟨g, 0, none⟩) k c) s.gs.dropLast ∧ Below lo w5 wx ∧ TK (SK 91) w5 wx ∧ w5.heap.size ≤ wx.heap.size)
          case first =>
            go_region_law (fail)
            all_goals
              go_wp2_with fail
              go_meet
              refine ⟨HKP.out.set 0 _, HOG.out.setP HKP.out hP (by decide) (by decide), ?_, ?_, ?_⟩
              · exact (Below.drew (Below.refl lo w5)).setCell (p := ⟨P, 0, none⟩) hP _
              · exact TK.setCell (w := w5.drew) HKP.out (fun _ h => h.2)
              · simp
          case rest =>
            obtain ⟨k7, o7, b7, t7, z7⟩ := hcut
            have K7 := Lib.hid k7
            have O7 := Lib.hid o7
            have B7 := Lib.hid ((J5.out.bel.mono hwl).trans b7)
            have T7 := Lib.hid (TK.tr (TK.of_below (ts := SK 91) J5.out.bel) t7)
            have Z7 : w.heap.size ≤ wc.heap.size := Nat.le_trans J5.out.bel.size z7
            clear k7 o7 b7 t7 z7
            go_wp2_with fail
            refine bodyPost_ret (v := .string okB) (by simp [results, Tryz.results53, go_sem, okB]) rfl ?_
            rw [HQ.out, HR.out]
            refine ⟨rfl, Ses.of (g := g) (c := c) (by decide) ?_ hP ?_, B7.out, T7.out, Z7⟩
            · rw [HDL.out]; exact K7.out
            · rw [HDL.out]; exact O7.out
      | false =>
        have ht1 : t ≠ undoB := fun h => by rw [(str_is t undoB [117, 110, 100, 111] rfl).2 h] at h1; cases h1
        cases h2 : (t.toList == ([108, 101, 110, 103, 116, 104] : List UInt8)) with
        | true =>
          have ht2 : t = lengthB := (str_is t lengthB [108, 101, 110, 103, 116, 104] rfl).1 h2
          have HR := Lib.hid (show scRest s t = (⟨(dec (lenV x)).toArray⟩, s) by unfold scRest; rw [HPL.out, if_neg ht1, if_pos ht2, HX.out])
          clear ht1 ht2
          obtain ⟨_, ls, hl⟩ := gram_lens HXO.out
          have hlv : 0 ≤ lenV x ∧ lenV x ≤ 1000000000000000 := by rw [show lenV x = lastI ls by simp [lenV, HXO.out, gramLen_of hl]]; exact lastI_bounds hl
          clear hl
          have cd0 := Blk.cell (i := 0) (v := .slice A x.length cx) J5.out.kD rfl
          have ld := Blk.lt J5.out.kD
          go_wp2_with fail
          refine (LengthOf_any _ x _ J5.out.gx (by have := gram_len400 HXO.out; omega)).mono ?_
          rintro r w6 ⟨rfl, hb6⟩
          have J6 := Lib.hid (J5.out.up hb6)
          clear hb6 J5 cd0 ld
          go_wp2_with fail
          refine (decimal_wide (lenV x) _ ⟨hlv.1, by omega⟩ (HV.out.up J6.out.bel).tab).mono ?_
          rintro r w8 ⟨rfl, hb8⟩
          have HJ8 := Lib.hid (J6.out.up hb8)
          go_wp2_with fail
          refine bodyPost_ret (v := .string ⟨(dec (lenV x)).toArray⟩) (by simp [results, Tryz.results53, go_sem]) rfl (HJ8.out.same (by decide) hP ?_)
          rw [HQ.out, HR.out]
        | false =>
          have ht2 : t ≠ lengthB := fun h => by rw [(str_is t lengthB [108, 101, 110, 103, 116, 104] rfl).2 h] at h2; cases h2
          cases h3 : (t.toList == ([119, 111, 114, 100] : List UInt8)) with
          | true =>
            have ht3 : t = wordB := (str_is t wordB [119, 111, 114, 100] rfl).1 h3
            have HR := Lib.hid (show scRest s t = (spokB ⟨(upV x).toArray⟩ (upC x), s) by unfold scRest; rw [HPL.out, if_neg ht1, if_neg ht2, if_pos ht3, HX.out])
            clear ht1 ht2 ht3
            have cd0 := Blk.cell (i := 0) (v := .slice A x.length cx) J5.out.kD rfl
            have ld := Blk.lt J5.out.kD
            go_wp2_with fail
            refine (unpackWord_any _ x _ J5.out.gx (by have := gram_len400 HXO.out; omega)).mono ?_
            rintro r w6 ⟨rfl, hb6⟩
            have J6 := Lib.hid (J5.out.up hb6)
            clear hb6 J5 cd0 ld
            go_wp2_with fail
            refine (spoken_any ⟨(upV x).toArray⟩ (upC x) _).mono ?_
            rintro r w8 ⟨rfl, hb8⟩
            have HJ8 := Lib.hid (J6.out.up hb8)
            go_wp2_with fail
            refine bodyPost_ret (v := .string (spokB ⟨(upV x).toArray⟩ (upC x))) (by simp [results, Tryz.results53, go_sem]) rfl (HJ8.out.same (by decide) hP ?_)
            rw [HQ.out, HR.out]
          | false =>
            have ht3 : t ≠ wordB := fun h => by rw [(str_is t wordB [119, 111, 114, 100] rfl).2 h] at h3; cases h3
            have HR := Lib.hid (show scRest s t = (whatB, s) by unfold scRest; rw [HPL.out, if_neg ht1, if_neg ht2, if_neg ht3])
            clear ht1 ht2 ht3
            go_wp2_with fail
            refine bodyPost_ret (v := .string whatB) (by simp [results, Tryz.results53, go_sem, whatB]) rfl (J5.out.same (by decide) hP ?_)
            rw [HQ.out, HR.out]
theorem splB_pos (b : UInt8) (t : ByteArray) : 0 < (splB b t).length := by
  unfold splB
  rw [List.length_map]
  exact List.length_pos_iff.2 (spl_pos b _ _)
theorem spl_count (b : UInt8) : ∀ (t cur : List UInt8), (spl b cur t).length ≤ t.length + 1 := by
  intro t
  induction t with
  | nil => intro cur; simp [spl]
  | cons c t ih =>
    intro cur
    rw [spl]
    split
    · have := ih []; simp; omega
    · have := ih (cur ++ [c]); simp; omega
theorem splB_len (b : UInt8) (t : ByteArray) : (splB b t).length ≤ t.size + 1 := by
  unfold splB
  rw [List.length_map]
  have := spl_count b t.data.toList []
  rw [Array.length_toList] at this
  exact this
theorem scLines_size {t x : ByteArray} (h : x ∈ scLines t) : x.size ≤ t.size := by
  unfold scLines at h
  split at h
  · exact splB_size (List.dropLast_subset _ h)
  · exact splB_size h
theorem scLines_last {t x : ByteArray} (h : (splB 10 t)[(splB 10 t).length - 1]? = some x) : (x = ⟨#[]⟩ → scLines t = (splB 10 t).dropLast) ∧ (x ≠ ⟨#[]⟩ → scLines t = splB 10 t) := by
  have hl : (splB 10 t).getLast? = some x := by rw [List.getLast?_eq_getElem?]; exact h
  unfold scLines
  rw [hl]
  refine ⟨fun e => by rw [if_pos (by rw [e])], fun e => by rw [if_neg (fun q => e (Option.some.inj q))]⟩
theorem OwnW.pop {w : World} {base g c : Nat} {l : List ByteArray} (h : OwnW w base (.slice (some ⟨g, 0, none⟩) l.length c) l) (h0 : 0 < l.length) : OwnW w base (.slice (some ⟨g, 0, none⟩) (l.length - 1) c) l.dropLast := by
  unfold OwnW at h ⊢
  have hne : l ≠ [] := List.length_pos_iff.1 h0
  have hl : l.dropLast ++ [l.getLast hne] = l := List.dropLast_concat_getLast hne
  have e1 : l.map Value.string = l.dropLast.map Value.string ++ [Value.string (l.getLast hne)] := by
    conv => lhs; rw [← hl]
    rw [List.map_append]; rfl
  rw [e1, show l.length = (l.length - 1) + 1 by omega] at h
  have := ownsRow_pop (by simp) h
  simpa using this
theorem codeB_size (c : Int) : (errB c).size ≤ 14 := by
  have := codeNm_size c
  unfold errB
  rw [ByteArray.size_append]
  show 6 + _ ≤ 14
  omega
theorem dec_size {n : Int} (h1 : n ≤ 1000000000000000) : (dec n).length ≤ 16 := by
  unfold dec
  rw [Lib.decDigits_length]
  exact nDigits_le 15 n.toNat (by have h4 : (10 : Nat) ^ (15 + 1) = 10000000000000000 := by decide
                                  omega)
theorem arr_size (l : List UInt8) : (⟨l.toArray⟩ : ByteArray).size = l.length := by show l.toArray.size = _; simp
theorem scAns_size {s : ScS} (h : ScOk s) (t : ByteArray) : (scAns s t).1.size ≤ 2000 := by
  have hx := h.top
  obtain ⟨_, ls, hl⟩ := gram_lens hx
  have hlv : 0 ≤ lenV (rsTop s.gs) ∧ lenV (rsTop s.gs) ≤ 1000000000000000 := by rw [show lenV (rsTop s.gs) = lastI ls by simp [lenV, hx, gramLen_of hl]]; exact lastI_bounds hl
  have hok : okB.size ≤ 2000 := by decide
  unfold scAns
  split
  · unfold scEdit
    split
    · exact Nat.le_trans (codeB_size _) (by decide)
    · split
      · exact hok
      · exact Nat.le_trans (codeB_size _) (by decide)
  · unfold scRest
    split
    · unfold scLet
      split
      · rw [arr_size]
        unfold cutL
        rw [List.length_drop, List.length_take]
        omega
      · exact Nat.le_trans (codeB_size _) (by decide)
    · split
      · split
        · exact Nat.le_trans (codeB_size _) (by decide)
        · exact hok
      · split
        · rw [arr_size]
          exact Nat.le_trans (dec_size hlv.2) (by decide)
        · split
          · unfold spokB
            split
            · rw [arr_size]
              unfold upV
              split
              · rename_i h2; simp at h2; exact h2.2
              · simp
            · exact Nat.le_trans (codeB_size _) (by decide)
          · show whatB.size ≤ 2000; decide
theorem scRun_snoc {x : List GRule} {ls : List ByteArray} {k : Nat} {t : ByteArray} (h : ls[k]? = some t) : scRun x (ls.take (k + 1)) = scStep (scRun x (ls.take k)) t := by
  unfold scRun
  rw [List.take_add_one, h]; simp
theorem scRun_ok {x : List GRule} (hx : gramOk x = true) (ls : List ByteArray) (k : Nat) : ScOk (scRun x (ls.take k)).2 := by
  induction k with
  | zero => exact ⟨fun g hg => by simp [scRun] at hg; rw [hg]; exact hx, by simp [scRun], by simp [scRun], by simp [scRun]⟩
  | succ k ih =>
    rcases Nat.lt_or_ge k ls.length with h | h
    · rw [scRun_snoc (List.getElem?_eq_getElem h)]
      exact ih.ans _
    · rw [List.take_of_length_le (by omega)]
      rw [List.take_of_length_le (by omega)] at ih
      exact ih
theorem scStep_len {p : List UInt8 × ScS} (h : ScOk p.2) (t : ByteArray) : (scStep p t).1.length ≤ p.1.length + 2001 := by
  have h1 := scAns_size h t
  have h2 : (scAns p.2 t).1.data.toList.length = (scAns p.2 t).1.size := by rw [Array.length_toList]; rfl
  show (p.1 ++ ((scAns p.2 t).1.data.toList ++ [10])).length ≤ _
  rw [List.length_append, List.length_append, h2]
  show p.1.length + ((scAns p.2 t).1.size + 1) ≤ _
  omega
set_option maxRecDepth 100000 in
theorem scRun_len {x : List GRule} (hx : gramOk x = true) (ls : List ByteArray) (k : Nat) : (scRun x (ls.take k)).1.length ≤ k * 2001 := by
  induction k with
  | zero => exact Nat.zero_le _
  | succ k ih =>
    rcases Nat.lt_or_ge k ls.length with h | h
    · rw [scRun_snoc (List.getElem?_eq_getElem h)]
      have := scStep_len (scRun_ok hx ls k) ls[k]
      omega
    · rw [List.take_of_length_le (by omega)]
      rw [List.take_of_length_le (by omega)] at ih
      omega
theorem BuiltB.tk {B b : Nat} {l : List UInt8} {w w' : World} {ts : TypeId → Prop} (h : BuiltB B b l w) (hk : TK ts w w') (h1 : ts 94) (h2 : ts 5) : BuiltB B b l w' := by
  rcases h with ⟨a1, v, a2, a3, a4⟩ | ⟨a1, v, a2, a3, a4⟩
  · exact .inl ⟨a1, v, hk _ _ _ _ h1 a2, TK.row a3 hk h2, a4⟩
  · exact .inr ⟨a1, v, hk _ _ _ _ h1 a2, TK.row a3 hk h2, a4⟩
theorem BuiltB.typed {B b : Nat} {l : List UInt8} {w : World} (h : BuiltB B b l w) : ∃ c, w.heap[b]? = some (.cells c 94 (0, 0)) := by
  rcases h with ⟨a1, v, a2, a3, a4⟩ | ⟨a1, v, a2, a3, a4⟩ <;> exact ⟨_, a2⟩
theorem sc_bad {x : List GRule} {t : ByteArray} (h : gramOk x = false) : scOut x t = [] ∧ scCode x t = 1 := by
  have : scCode x t = 1 := by unfold scCode; rw [h]; rfl
  exact ⟨by unfold scOut; rw [this]; rfl, this⟩
theorem sc_far {x : List GRule} {t : ByteArray} (h : gramOk x = true) (h2 : ¬ (t.size ≤ 20000 ∧ (scLines t).length ≤ 120)) : scOut x t = [] ∧ scCode x t = 2 := by
  have : scCode x t = 2 := by unfold scCode; rw [h, if_neg h2]; rfl
  exact ⟨by unfold scOut; rw [this]; rfl, this⟩
theorem sc_yes {x : List GRule} {t : ByteArray} (h : gramOk x = true) (h2 : t.size ≤ 20000 ∧ (scLines t).length ≤ 120) : scOut x t = (scRun x (scLines t)).1 ∧ scCode x t = 0 := by
  have : scCode x t = 0 := by unfold scCode; rw [h, if_pos h2]; rfl
  exact ⟨by unfold scOut; rw [this]; rfl, this⟩
end Go.Proofs.YtbifijlenbibmaaGreatDoor
