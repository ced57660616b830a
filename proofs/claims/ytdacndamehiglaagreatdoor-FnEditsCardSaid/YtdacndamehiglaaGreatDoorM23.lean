import Derived.Test.YtdacndamehiglaaGreatDoorM22
import Derived.Lib.RepeatB
import Derived.Deep.DeepFit
set_option maxRecDepth 100000
set_option maxHeartbeats 8000000
namespace Go.Proofs.YtdacndamehiglaaGreatDoor
open Go.RowKit
theorem zo1 {xs : List zaa} {e : zap} {bs : List zap} (ha : zah xs e = 0) (hb : zfy xs (zdi xs) e = some bs) : (∀ b ∈ bs, zaA b = true) /\ bs.length <= 2 := by
 have hE := zb4 ha; obtain ⟨h1, h2, h3⟩ := za2 ha; obtain ⟨_, ls, hl⟩ := zag h1; have hlq : zdi xs = ls := by simp [zdi, hl]
 have hgl := zaq hl; have hwl := zaQ hl; have hxb := zaM xs; obtain ⟨_, lo, hlo⟩ := zag (zcv xs e); have hob := zaM (zaj xs e); rw [zaq hlo, <- zaQ hlo] at hob; obtain ⟨hk, hi, hj, hq, hij, hj0, hgp⟩ := zbh h2; rw [hlq] at hb; rw [hgl] at h3 hxb; unfold zar at h3; unfold EwP at hE; unfold zfy at hb; obtain ⟨_, lp, hlp⟩ := zag hgp; have hpl : zao e.part = (zau e.part).length := by rw [zaq hlp, zaQ hlp]
 generalize hU : zau (zaj xs e) = U at hE hob; generalize hW : zau xs = W at hE hwl; have hcl : ∀ {i j : Int}, 0 <= i -> i <= j -> j <= W.length -> ((zbD W i j).length : Int) = j - i := fun a b c => zcz a b c
 have hpart : ∀ {i j : Int}, 0 <= i -> i < j -> j <= zai ls -> 0 < (zam xs ls i j).length := fun {i j} a b c => by
  obtain ⟨lq, hq1, q⟩ := zdv hl a (Int.le_of_lt b) c; rcases Nat.eq_zero_or_pos (zam xs ls i j).length with h0 | h0
  · exfalso
    have hnil : zam xs ls i j = [] := yn h0; rw [hnil, hW] at q; have := hcl a (Int.le_of_lt b) yO; rw [<- q] at this; simp [zau] at this
    omega
  · exact h0
 have one : ∀ {b : zap}, zaA b = true -> (∀ x ∈ [b], zaA x = true) /\ [b].length <= 2 := fun {b} h => ⟨fun x hx => by simp at hx; subst hx; exact h, by simp⟩
 have two : ∀ {b c : zap}, zaA b = true -> zaA c = true -> (∀ x ∈ [b, c], zaA x = true) /\ [b, c].length <= 2 := fun {b c} h h' => ⟨fun x hx => by simp at hx; rcases hx with rfl | rfl; exact h; exact h', by simp⟩
 have non : (∀ x ∈ ([] : List zap), zaA x = true) /\ ([] : List zap).length <= 2 := ⟨fun x hx => absurd hx yS, by simp⟩
 rcases zdl hk with k1 | k1 | k1 | k1 | k1 | k1 | k1
 · rw [if_pos k1] at h3 hE hb
   have h3 : e.i <= zai ls := by simpa using h3
   cases hb
   have hUl := congrArg List.length hE; rw [List.length_append, List.length_append] at hUl; have := hcl (Int.le_refl 0) hi.1 yO; have := hcl hi.1 (show e.i <= (W.length : Nat) by omega) (Int.le_refl _); exact one (ziV (.inl rfl) ⟨hi.1, by omega, by omega⟩)
 · rw [if_neg yO, if_neg yO, if_neg yO] at h3
   have h3 : e.j <= zai ls := by simpa using h3
   have hij := hij yO; rw [if_neg yO] at hb; by_cases h0 : e.j - e.i = 0
   · rw [if_pos h0] at hb; cases hb; exact non
   · rw [if_neg h0, if_neg yO, if_neg yO, if_neg yO] at hb
     split at hb
     · rename_i hg
       cases hb
       unfold zgY; rw [if_pos k1, List.nil_append]; exact one (znA ⟨hi.1, hi.2⟩ hg (hpart hi.1 yO h3))
     · cases hb
 · rw [if_neg yO, if_neg yO, if_pos k1] at hE
   rw [if_neg yO, if_pos k1] at h3; have h3 : e.j <= zai ls /\ e.k <= zai ls := by simpa using h3
   have hij := hij yO; rw [if_neg yO] at hb; by_cases h0 : e.j - e.i = 0
   · rw [if_pos h0] at hb; cases hb; exact non
   · rw [if_neg h0, if_pos k1] at hb
     cases hb
     have hUl := congrArg List.length hE; rw [List.length_append, List.length_append] at hUl; have := hcl (Int.le_refl 0) hq.1 yO; have := hcl hi.1 hij yO; have := hcl hq.1 (show e.k <= (W.length : Nat) by omega) (Int.le_refl _); exact one (ziV (.inl rfl) ⟨hq.1, by omega, by omega⟩)
 · rw [if_neg yO, if_neg yO, if_pos k1] at h3
   have h3 : e.j <= zai ls /\ (e.k <= e.i \/ (e.j <= e.k /\ e.k <= zai ls)) := by simpa using h3
   have hij := hij yO; rw [if_neg yO] at hb; by_cases h0 : e.j - e.i = 0
   · rw [if_pos h0] at hb; cases hb; exact non
   · rw [if_neg h0, if_neg yO, if_pos k1] at hb
     split at hb
     · cases hb
       exact one (zla (.inr (.inl rfl)) ⟨hq.1, by omega, by omega⟩ ⟨hj.1, hj.2⟩)
     · cases hb
       exact one (zla (.inr (.inl rfl)) ⟨by omega, by omega, hq.2⟩ ⟨hi.1, hi.2⟩)
 all_goals
  rw [if_neg yO, if_neg yO, if_neg yO, if_neg yO] at hE; rw [if_neg yO, if_neg yO, if_neg yO] at h3; have h3 : e.j <= zai ls := by simpa using h3
  have hij := hij yO; obtain ⟨M', hE, t5, t6, t7⟩ := hE; rw [if_neg yO] at hb; by_cases h0 : e.j - e.i = 0
  · rw [if_pos h0] at hb; cases hb; exact non
  rw [if_neg h0, if_neg yO, if_neg yO] at hb
 · rw [if_pos k1] at hb
   cases hb
   exact one (ziV (.inr rfl) ⟨hi.1, hij, hj.2⟩)
 · rw [if_neg yO] at hb
   split at hb
   · rename_i hg
     cases hb
     unfold zgY; rw [if_neg yO, if_pos k1]; have hins := znA ⟨hi.1, hi.2⟩ hg (hpart hi.1 yO h3); by_cases hz : 0 < (e.j - e.i) * e.k
     · rw [if_pos hz, List.singleton_append]
       have hrl : (M'.length : Int) = (e.j - e.i) * e.k := by
        rw [t6 k1, ze7, Int.natCast_mul, hcl hi.1 hij yO, Int.mul_comm]; congr 1
        omega
       have hUl := congrArg List.length hE; rw [List.length_append, List.length_append] at hUl; have := hcl (Int.le_refl 0) hi.1 yO; exact two (ziV (.inl rfl) ⟨hi.1, by omega, by omega⟩) hins
     · rw [if_neg hz, List.nil_append]
       exact one hins
   · cases hb
 · rw [if_neg yO] at hb
   split at hb
   · rename_i hg
     cases hb
     unfold zgY; rw [if_neg yO, if_neg yO, List.singleton_append]; exact two (ziV (.inl rfl) ⟨hi.1, hij, hj.2⟩) (znA ⟨hi.1, hi.2⟩ hg (hpart hi.1 yO h3))
   · cases hb
theorem zkn {xs : List zaa} (h : zaf xs = true) : za5 xs := by
 obtain ⟨_, ls, hl⟩ := zag h; exact fun r hr => Nat.le_trans (zgf (zaz hl) r hr) (by decide)
theorem zor {e : zap} (h : zaA e = true) : e.map.size <= 4 := by
 unfold zaA at h; simp only [Bool.and_eq_true] at h
 have := h.2; split at this
 · simp only [Bool.and_eq_true, beq_iff_eq] at this; omega
 · simp only [beq_iff_eq] at this; omega
theorem znD {xs : List zaa} {e : zap} (ha : zah xs e = 0) : ((zau (zaj xs e)).length : Int) = zax e (zao xs) := by
 have hE := zb4 ha; obtain ⟨h1, h2, h3⟩ := za2 ha; have hwl := zo9 h1; obtain ⟨hk, hi, hj, hq, hij, hj0, hgp⟩ := zbh h2; have hpl := zo9 hgp; rw [hwl] at h3 |-
 unfold zar at h3; unfold EwP at hE; unfold zax; generalize zau (zaj xs e) = U at hE |-
 generalize zau xs = W at hE h3 |-
 have hcl : ∀ {i j : Int}, 0 <= i -> i <= j -> j <= W.length -> ((zbD W i j).length : Int) = j - i := fun a b c => zcz a b c; rcases zdl hk with k1 | k1 | k1 | k1 | k1 | k1 | k1
 · rw [if_pos k1] at h3 hE |-
   have h3 : e.i <= W.length := by simpa using h3
   have hUl := congrArg List.length hE; rw [List.length_append, List.length_append] at hUl; have q1 := hcl (Int.le_refl 0) hi.1 h3; have q2 := hcl hi.1 h3 (Int.le_refl _); omega
 · rw [if_neg yO, if_pos k1] at hE |-
   rw [if_neg yO, if_neg yO, if_neg yO] at h3; have h3 : e.j <= W.length := by simpa using h3
   have hij := hij yO; have hUl := congrArg List.length hE; rw [List.length_append] at hUl; have q1 := hcl (Int.le_refl 0) hi.1 yO; have q2 := hcl hj.1 h3 (Int.le_refl _); omega
 · rw [if_neg yO, if_neg yO, if_pos k1] at hE |-
   rw [if_neg yO, if_pos k1] at h3; have h3 : e.j <= W.length /\ e.k <= W.length := by simpa using h3
   have hij := hij yO; have hUl := congrArg List.length hE; rw [List.length_append, List.length_append] at hUl; have q1 := hcl (Int.le_refl 0) hq.1 h3.2; have q2 := hcl hi.1 hij h3.1; have q3 := hcl hq.1 h3.2 (Int.le_refl _); omega
 · rw [if_neg yO, if_neg yO, if_neg yO, if_pos k1] at hE
   rw [if_neg yO, if_neg yO, if_neg yO, if_neg yO]; rw [if_neg yO, if_neg yO, if_pos k1] at h3; simp only [Bool.and_eq_true, Bool.or_eq_true, decide_eq_true_eq] at h3
   have hij := hij yO; by_cases c : e.k <= e.i
   · rw [if_pos c] at hE
     have hUl := congrArg List.length hE; simp only [List.length_append] at hUl
     have q1 := hcl (Int.le_refl 0) hq.1 yO; have q2 := hcl hi.1 hij yO; have q3 := hcl hq.1 c yO; have q4 := hcl hj.1 (show e.j <= (W.length : Nat) by omega) (Int.le_refl _); omega
   · rw [if_neg c] at hE
     have hUl := congrArg List.length hE; simp only [List.length_append] at hUl
     have q1 := hcl (Int.le_refl 0) hi.1 yO; have q2 := hcl hj.1 (show e.j <= e.k by omega) yO; have q3 := hcl hi.1 hij yO; have q4 := hcl hq.1 (show e.k <= (W.length : Nat) by omega) (Int.le_refl _); omega
 all_goals
  rw [if_neg yO, if_neg yO, if_neg yO, if_neg yO] at hE; rw [if_neg yO, if_neg yO, if_neg yO] at h3; have h3 : e.j <= W.length := by simpa using h3
  have hij := hij yO; obtain ⟨M, hu, m5, m6, m7⟩ := hE; have q5 := hcl hi.1 hij h3; have q1 := hcl (Int.le_refl 0) hi.1 yO; have q2 := hcl hj.1 h3 (Int.le_refl _); have hUl := congrArg List.length hu; rw [List.length_append, List.length_append] at hUl; rw [if_neg yO, if_neg yO, if_neg yO]
 · have hm := congrArg List.length (m5 k1)
   rw [List.length_reverse] at hm; rw [if_neg yO]; omega
 · have hm := congrArg List.length (m6 k1)
   rw [ze7] at hm
   have hm2 : (M.length : Int) = (e.j - e.i) * e.k := by
    rw [hm, Int.natCast_mul, q5, Int.toNat_of_nonneg hq.1, Int.mul_comm]
   rw [if_pos k1]; omega
 · have hm := m7 k1
   rw [if_neg yO]; omega
structure EdA (xs : List zaa) (e : zap) : Prop where
 ok : ∀ b ∈ zbm xs e, zaA b = true
 len : (zbm xs e).length <= 2
 x1 : zbS (zaj xs e) (zbm xs e) = 0
 x2 : zmk (zaj xs e) (zbm xs e) = ((zbm xs e).length : Nat)
 gx : zaf (zcZ (zaj xs e) (zbm xs e)) = true
 w : zau (zcZ (zaj xs e) (zbm xs e)) = zau xs
 up : ∀ s : ByteArray, s.data.toList = zau xs -> epC s e = 0 -> (⟨(upV (zaj xs e)).toArray⟩ : ByteArray) = epV s e
theorem zo2 {xs : List zaa} {e : zap} (hs : zao xs <= 40) : zbq xs e = zah xs e := by
 unfold zbq; by_cases ha : zah xs e = 0
 · obtain ⟨bs, h1, _⟩ := zmu (m := 0) ha hs
   rw [if_pos ha, h1, ha]; rfl
 · rw [if_neg ha]
theorem zo3 {xs : List zaa} {e : zap} (hs : zao xs <= 40) (ha : zah xs e = 0) : EdA xs e := by
 obtain ⟨bs, h1, h2⟩ := zmu (m := 0) ha hs; obtain ⟨k1, k2⟩ := zo1 ha h1; have hI : zbm xs e = bs := by unfold zbm; rw [if_pos ha, h1]; rfl
 have hg := zcv xs e
 have hc : zbS (zaj xs e) bs = 0 := by
  unfold zbS; rw [hg, show bs.all zaA = true from List.all_eq_true.2 k1, if_pos yR, if_neg yO]
 have hO : zcZ (zaj xs e) bs = (bs.foldl zbQ (zaj xs e, 0)).1 := by unfold zcZ; rw [if_pos hc]; rfl
 have hgo := zkj bs hg; rw [<- hI] at k1 k2 hc hO h2; refine ⟨k1, k2, hc, ?_, by rw [hO, hI]; exact hgo, ?_, fun s h3 h4 => ?_⟩
 · unfold zmk; rw [if_pos hc]
   show ((zbm xs e).foldl zbQ (zaj xs e, 0)).2 = _
   omega
 · rw [hO]
   exact znu (m := 0) ha (by rw [hI]; exact h1) rfl h2
 · have hl := znD ha
   have hw := zk8 ha h3
   have hsz : (s.size : Int) = zao xs := by
    rw [zo9 (za2 ha).1, <- h3, zpk]
   have hle : zax e s.size <= 2000 := by
    unfold epC at h4; split at h4
    · split at h4
      · split at h4
        · split at h4
          · assumption
          · cases h4
        · cases h4
      · cases h4
    · cases h4
   obtain ⟨u1, _⟩ := zoq hg (by rw [hsz] at hle; omega); unfold epV; rw [if_pos h4, u1, <- hw]
end Go.Proofs.YtdacndamehiglaaGreatDoor
namespace Go.Proofs
open Go.Shelf
def YtdacndamehiglaaGreatDoor.lays241_ren : Go.Shelf.Ren := ⟨fun | 241 => 150 | 277 => 182 | n => n, fun | 0 => 0 | 3 => 3 | 5 => 5 | 37 => 22 | 70 => 146 | 72 => 148 | n => n, fun | n => n⟩
theorem YtdacndamehiglaaGreatDoor.lays241 : Go.Proofs.Lays.n241 Tryz.prog YtdacndamehiglaaGreatDoor.lays241_ren := {
 mixed := by kernel_rfl
 f241 := Tryz.func150.trans (congrArg some (by kernel_rfl))
 f277 := Tryz.func182.trans (congrArg some (by kernel_rfl))
 t0 := Tryz.underlying0
 a0 := Tryz.isAgg0
 z0 := Tryz.sizeOf0
 v0 := Tryz.zeroValue0
 t3 := Tryz.underlying3
 a3 := Tryz.isAgg3
 z3 := Tryz.sizeOf3
 v3 := Tryz.zeroValue3
 t37 := Tryz.underlying22
 a37 := Tryz.isAgg22
 z37 := Tryz.sizeOf22
 v37 := Tryz.zeroValue22
 t70 := Tryz.underlying146
 a70 := Tryz.isAgg146
 z70 := Tryz.sizeOf146
 v70 := Tryz.zeroValue146
 t72 := Tryz.underlying148
 a72 := Tryz.isAgg148
 z72 := Tryz.sizeOf148
 v72 := Tryz.zeroValue148 }
theorem YtdacndamehiglaaGreatDoor.Builder_Extra_241 : Builder.Extra Tryz.prog YtdacndamehiglaaGreatDoor.lays241_ren := {
 sizeBuilder := by kernel_rfl
 liesBuilder := by kernel_rfl
 t5 := Tryz.underlying5
 a5 := Tryz.isAgg5
 z5 := Tryz.sizeOf5
 v5 := Tryz.zeroValue5
 infoByte := by kernel_rfl
 cellsByte := by kernel_rfl
 sizeByte := by kernel_rfl
 neB5 := by decide }
def YtdacndamehiglaaGreatDoor.lays170_ren : Go.Shelf.Ren := ⟨fun | 170 => 113 | n => n, fun | 0 => 0 | 3 => 3 | 5 => 5 | 37 => 22 | 70 => 146 | 72 => 148 | n => n, fun | n => n⟩
theorem YtdacndamehiglaaGreatDoor.lays170 : Go.Proofs.Lays.n170 Tryz.prog YtdacndamehiglaaGreatDoor.lays170_ren := {
 mixed := by kernel_rfl
 f170 := Tryz.func113.trans (congrArg some (by kernel_rfl))
 t0 := Tryz.underlying0
 a0 := Tryz.isAgg0
 z0 := Tryz.sizeOf0
 v0 := Tryz.zeroValue0
 t3 := Tryz.underlying3
 a3 := Tryz.isAgg3
 z3 := Tryz.sizeOf3
 v3 := Tryz.zeroValue3
 t37 := Tryz.underlying22
 a37 := Tryz.isAgg22
 z37 := Tryz.sizeOf22
 v37 := Tryz.zeroValue22
 t70 := Tryz.underlying146
 a70 := Tryz.isAgg146
 z70 := Tryz.sizeOf146
 v70 := Tryz.zeroValue146
 t72 := Tryz.underlying148
 a72 := Tryz.isAgg148
 z72 := Tryz.sizeOf148
 v72 := Tryz.zeroValue148 }
def YtdacndamehiglaaGreatDoor.lays212_ren : Go.Shelf.Ren := ⟨fun | 212 => 109 | 263 => 146 | 264 => 147 | n => n, fun | 46 => 142 | 51 => 178 | 53 => 113 | 146 => 179 | 148 => 181 | n => n, fun | n => n⟩
theorem YtdacndamehiglaaGreatDoor.lays212 : Go.Proofs.Lays.n212 Tryz.prog YtdacndamehiglaaGreatDoor.lays212_ren := {
 mixed := by kernel_rfl
 f212 := Tryz.func109.trans (congrArg some (by kernel_rfl))
 f263 := Tryz.func146.trans (congrArg some (by kernel_rfl))
 f264 := Tryz.func147.trans (congrArg some (by kernel_rfl))
 t46 := Tryz.underlying142
 a46 := Tryz.isAgg142
 z46 := Tryz.sizeOf142
 v46 := Tryz.zeroValue142
 t51 := Tryz.underlying178
 a51 := Tryz.isAgg178
 z51 := Tryz.sizeOf178
 v51 := Tryz.zeroValue178
 t53 := Tryz.underlying113
 a53 := Tryz.isAgg113
 z53 := Tryz.sizeOf113
 v53 := Tryz.zeroValue113
 t146 := Tryz.underlying179
 a146 := Tryz.isAgg179
 z146 := Tryz.sizeOf179
 v146 := Tryz.zeroValue179
 t148 := Tryz.underlying181
 a148 := Tryz.isAgg181
 z148 := Tryz.sizeOf181
 v148 := Tryz.zeroValue181 }
end Go.Proofs
namespace Go.Proofs.YtdacndamehiglaaGreatDoor
open Go.RowKit
def zeA (B b : Nat) (l : List UInt8) (w : World) : Prop := Lib.IsBuilderF 148 5 B b (Lib.byteCells l) w
theorem zjL (B b : Nat) (bs : List Value) (w : World) (h : Lib.IsBuilderF 148 5 B b bs w) :
  Calls Tryz.prog 149 #[.pointer (some ⟨b, 0, none⟩)] w fun e w' => e = .returned (.tuple #[]) /\ Lib.BuilderAtF 148 5 B b (.pointer (some ⟨b, 0, none⟩)) bs w' /\ Below B w w' := by
 rcases h with h | h
 · refine (zc3 b w h.cell0 h.shape h.frozen0).mono ?_
   rintro e w' ⟨rfl, rfl⟩; exact ⟨rfl, h.used _, (Below.refl B w).setCell (p := ⟨b, 0, none⟩) h.1 _⟩
 · refine (zez b w h.cell0).mono ?_
   rintro e w' ⟨rfl, rfl⟩; exact ⟨rfl, h, Below.refl B _⟩
theorem zfe (B b : Nat) (l : List UInt8) (s : ByteArray) (w : World) (h : zeA B b l w) (hlen : l.length + s.size <= 140737488355328) (hBw : B <= w.heap.size) :
  Calls Tryz.prog 112 #[.pointer (some ⟨b, 0, none⟩), .string s] w fun e w' => e = .returned (.tuple #[.int .i64 s.size, .nilIface]) /\ zeA B b (l ++ s.data.toList) w' /\ Below B w w' := by
 obtain ⟨i0, hi, hz0, hz1, hz2⟩ := info_parts Tryz.infoU8; have hbl : (Lib.byteCells l).length = l.length := by simp [Lib.byteCells]
 go_enter Tryz.func112, Tryz.ntmps112
 go_wp2_with fail
 refine (zjL B b _ _ h).mono ?_
 rintro e w1 ⟨rfl, h1, hb1⟩; obtain ⟨hB, v, hbk, hown, hne⟩ := h1; rw [hbl] at hown; have c0 : w1.cell? ⟨b, 0, none⟩ = some (.pointer (some ⟨b, 0, none⟩)) := by rw [Lib.cell_of_heap hbk]; rfl
 have c1 : w1.cell? ⟨b, 1, none⟩ = some v := by rw [Lib.cell_of_heap hbk]; rfl
 go_wp2_with (at_builtin; refine Lib.wpList_append_own_stringF _ rfl _ _ 22 9 rfl B 5 i0 Tryz.underlying22 Tryz.underlying9 hi hz0 hz1 hz2 v l.length (Lib.byteCells l) rfl hown s rfl ?c3 ?c4 ?c5 ?_)
 case c3 => unfold maxLen; omega
 case c4 => omega
 case c5 => have := hb1.size; omega
 intro v' w2 hown' hgrow _; have hlt : b < w1.heap.size := (Array.getElem?_eq_some_iff.1 hbk).1
 have hb2 : w2.heap[b]? = some (.cells #[.pointer (some ⟨b, 0, none⟩), v] 148 (0, 0)) := by
  rw [hgrow.block b hlt (fun e => hne e.symm)]; exact hbk
 have d0 : w2.cell? ⟨b, 0, none⟩ = some (.pointer (some ⟨b, 0, none⟩)) := by rw [Lib.cell_of_heap hb2]; rfl
 have d1 : w2.cell? ⟨b, 1, none⟩ = some v := by rw [Lib.cell_of_heap hb2]; rfl
 have f1 : w2.frozen? ⟨b, 1, none⟩ = false := Lib.frozen_of_heap hb2 1
 obtain ⟨ao, n', cap, rfl⟩ : ∃ ao n' cap, v' = .slice ao n' cap := by
  rcases hown'.2 with ⟨hv, _⟩ | ⟨g, cap, cur, fz, hv, _⟩
  · exact ⟨_, _, _, hv⟩
  · exact ⟨_, _, _, hv⟩
 go_wp2
 go_ret2
 refine ⟨rfl, .inr ?_, ?_⟩
 · have e : Lib.byteCells (l ++ s.data.toList) = Lib.byteCells l ++ Lib.strCells s := by simp [Lib.byteCells, Lib.strCells]
   rw [e]; exact Lib.BuilderAtF.put hB hb2 (bs' := Lib.byteCells l ++ Lib.strCells s) (by rw [show (Lib.byteCells l ++ Lib.strCells s).length = l.length + s.size by rw [List.length_append, hbl, Lib.strCells_length]]; exact hown') (by decide)
 · exact (hb1.grown hgrow (by have := hb1.size; omega) (fun k hk => (hown.lt k hk).1)).setCell (p := ⟨b, 1, none⟩) hB _
theorem zld (B b n : Nat) (w : World) (hB : B <= b) (hbk : w.heap[b]? = some (.cells #[.pointer none, .slice none 0 0] 148 (0, 0))) (hBw : B <= w.heap.size) (hn : n <= 281474976710656) :
  Calls Tryz.prog 111 #[.pointer (some ⟨b, 0, none⟩), .int .i64 n] w fun e w' => e = .returned (.tuple #[]) /\ zeA B b [] w' /\ Below B w w' := by
 have hbk1 : (w.setCell ⟨b, 0, none⟩ (.pointer (some ⟨b, 0, none⟩))).heap[b]? = some (.cells #[.pointer (some ⟨b, 0, none⟩), .slice none 0 0] 148 (0, 0)) := by
  simp [World.setCell, Array.getElem?_modify, hbk]
 have c1 : (w.setCell ⟨b, 0, none⟩ (.pointer (some ⟨b, 0, none⟩))).cell? ⟨b, 1, none⟩ = some (.slice none 0 0) := by rw [Lib.cell_of_heap hbk1]; rfl
 have hb1 : Below B w (w.setCell ⟨b, 0, none⟩ (.pointer (some ⟨b, 0, none⟩))) := (Below.refl B w).setCell (p := ⟨b, 0, none⟩) hB _; go_enter Tryz.func111, Tryz.ntmps111
 have hU : Lib.BuilderAt 148 5 B b (.pointer (some ⟨b, 0, none⟩)) [] (w.setCell ⟨b, 0, none⟩ (.pointer (some ⟨b, 0, none⟩))) := ⟨hB, .slice none 0 0, hbk1, World.ownsRow_nil _ _ _ _, by simp [Value.ownBlock]⟩
 have c1' : (w.setCell ⟨b, 0, none⟩ (.pointer (some ⟨b, 0, none⟩))).drew.cell? ⟨b, 1, none⟩ = some (.slice none 0 0) := c1; have k0 : w.cell? ⟨b, 0, none⟩ = some (.pointer none) := by rw [Lib.cell_of_heap hbk]; rfl
 have k1 : w.shape? b = some (148, 2) := by simp [World.shape?, hbk]
 have k2 : w.frozen? ⟨b, 0, none⟩ = false := Lib.frozen_of_heap hbk 0; go_wp2_with fail
 refine (zc3 b w k0 k1 k2).mono ?_
 rintro e w' ⟨rfl, rfl⟩; go_wp2_with fail
 have hmix := YtdacndamehiglaaGreatDoor.lays241.mixed; have hBw2 : B <= (w.setCell ⟨b, 0, none⟩ (.pointer (some ⟨b, 0, none⟩))).drew.heap.size := Nat.le_trans hBw hb1.size; have cG : Calls Tryz.prog 150 #[.pointer (some ⟨b, 0, none⟩), .int .i64 n] _ _ := Any.Builder_grow_fresh YtdacndamehiglaaGreatDoor.lays241 YtdacndamehiglaaGreatDoor.Builder_Extra_241 B b n (w.setCell ⟨b, 0, none⟩ (.pointer (some ⟨b, 0, none⟩))).drew hB hbk1 hBw2 hn; go_region_o
 all_goals go_wp2_with fail
 · refine cG.mono ?_
   rintro e w' ⟨rfl, h1, h2⟩; go_wp2_with fail
   go_end0
   exact ⟨rfl, Lib.IsBuilderF.of (Or.inr h1), hb1.drew.trans h2⟩
 · go_end0
   exact ⟨rfl, Lib.IsBuilderF.of (Or.inr hU.drew), hb1.drew⟩
theorem zeA.len {B b : Nat} {l : List UInt8} {w : World} (h : zeA B b l w) : Calls Tryz.prog 113 #[.pointer (some ⟨b, 0, none⟩)] w fun e w' => e = .returned (.int .i64 l.length) /\ w' = w := by
 have := Any.Builder_Len_f YtdacndamehiglaaGreatDoor.lays170 B b _ w h; rw [Lib.byteCells_length] at this; exact this
theorem zeA.string {B b : Nat} {l : List UInt8} {w : World} (h : zeA B b l w) (hBw : B <= w.heap.size) : Calls Tryz.prog 114 #[.pointer (some ⟨b, 0, none⟩)] w fun e w' => e = .returned (.string ⟨l.toArray⟩) /\ zeA B b l w' /\ Below B w w' :=
 Any.Builder_String_any_f YtdacndamehiglaaGreatDoor.lays169 YtdacndamehiglaaGreatDoor.Builder_Extra_169 B b l w h hBw
theorem znE (x y : Nat) (hx : x < 18446744073709551616) (hy : y < 18446744073709551616) (hxy : x * y < 18446744073709551616) (w : World) :
  Calls Tryz.prog 109 #[.int .u64 x, .int .u64 y] w fun e w' => e = .returned (.tuple #[.int .u64 0, .int .u64 ((x * y : Nat) : Int)]) /\ w' = w := by
 have := Any.bits_Mul YtdacndamehiglaaGreatDoor.lays212 x y hx hy w; rw [Nat.div_eq_of_lt hxy, Nat.mod_eq_of_lt hxy] at this; exact this
theorem znF {P : Program} {w : World} (ts : Array TypeId) (t : TypeId) (k k' k'' : IntKind) (x y z : Int) :
  (Builtin.min_ ts t #[.int k x, .int k' y, .int k'' z]).run P w = .ok (.int k (if z < (if y < x then y else x) then z else (if y < x then y else x))) w := by
 simp [Builtin.min_, Builtin.min2]
theorem zfF (l : List UInt8) : ∀ k, Lib.repeatL l k = zfS l k
 | 0 => rfl
 | k + 1 => by rw [Lib.repeatL, zfF l k, zfS, zfS, List.replicate_succ, List.flatten_cons]
theorem zle (l : List UInt8) (q k : Nat) (hk : k <= q) : zfS l q ++ (zfS l q).take (k * l.length) = zfS l (q + k) := by
 rw [<- zfF, <- zfF]; exact Lib.step_ok l q k hk
theorem zjM (s : ByteArray) (c : Nat) (w : World) (hc2 : 2 <= c) (hc : c <= 1000000000000000) (hlen : s.size * c <= 1000000) (h0 : 0 < s.size) (hl : 97 <= s[0].toNat) :
  Calls Tryz.prog 54 #[.string s, .int .i64 c] w fun e w' => e = .returned (.string ⟨(zfS s.data.toList c).toArray⟩) /\ Below w.heap.size w w' := by
 have hsz : s.size <= 1000000 := Nat.le_trans (Nat.le_mul_of_pos_right _ yO) hlen; have hMul := znE s.size c yO yO yO w; obtain ⟨n, hn⟩ : ∃ n, s.size * c = n := ⟨_, rfl⟩
 rw [hn] at hMul hlen; have HN : yh (s.size * c = n) := hn; clear hn
 have hq8 : wrap64 (8192 / (s.size : Int) * (s.size : Int)) = ((8192 / s.size * s.size : Nat) : Int) := by
  have e : (8192 : Int) / (s.size : Int) * (s.size : Int) = ((8192 / s.size * s.size : Nat) : Int) := by
   rw [Int.natCast_mul, Int.natCast_ediv]; rfl
  have hle : 8192 / s.size * s.size <= 8192 := Nat.div_mul_le_self 8192 s.size; rw [e]; unfold wrap64; omega
 go_enter Tryz.func54, Tryz.ntmps54
 go_upto_block 1 with (go_at_call 109; go_fit hMul; rintro e w' ⟨rfl, hw⟩; rw [hw])
 clear hMul; go_cut [] (fun wx => w = wx)
 case first =>
  go_upto_if 43 with fail
  go_cut [43] (fun s43 wx => w = wx /\ s43 = .bool false)
  case first =>
   go_wp2
   all_goals first
    | (exfalso; omega)
    | (go_meet; exact ⟨rfl, by first | rfl | (congr 1; rw [beq_eq_false_iff_ne]; omega)⟩)
  case rest =>
   obtain ⟨rfl, rfl⟩ := hcut; go_wp2
   go_meet
   rfl
 case rest =>
  obtain rfl := hcut; go_upto_if 96 with fail
  go_cut [8] (fun s8 wx => w = wx /\ ∃ m : Nat, 1 <= m /\ s8 = .int .i64 ((m * s.size : Nat) : Int))
  case first =>
   go_wp2
   · go_meet
     exact ⟨rfl, 1, Nat.le_refl _, by rw [Nat.one_mul]⟩
   · go_meet
     refine ⟨rfl, 8192 / s.size, ?_, by rw [hq8]⟩
     rcases Nat.eq_zero_or_pos (8192 / s.size) with hz | hz
     · rename_i hne
       have e0 : (8192 : Int) / (s.size : Int) = ((8192 / s.size : Nat) : Int) := by rw [Int.natCast_ediv]; rfl
       first | rw [hq8, hz] at hne | rw [e0, hz] at hne
       simp at hne
     · exact hz
   · go_meet
     exact ⟨rfl, c, by omega, by rw [Nat.mul_comm, HN.o]⟩
  case rest =>
   obtain ⟨rfl, m, hm1, rfl⟩ := hcut; clear hq8; obtain ⟨CM, hCM⟩ : ∃ CM, m * s.size = CM := ⟨_, rfl⟩
   rw [hCM]; have HCM : yh (m * s.size = CM) := hCM; clear hCM; have b0 : Below w.heap.size w (w.alloc (.cells #[.pointer none, .slice none 0 0] 148)) := (Below.refl _ w).alloc yL _; have cG := zld w.heap.size w.heap.size n (w.alloc (.cells #[.pointer none, .slice none 0 0] 148)) yL (heap_alloc_new w _) b0.size yO; go_wp2_with (go_at_call 111; go_fit cG; rintro e W1 ⟨rfl, h1, b1⟩)
   clear cG; have cW := zfe w.heap.size w.heap.size [] s W1 h1 (by simp; omega) (Nat.le_trans b0.size b1.size); go_wp2_with (go_at_call 112; go_fit cW; rintro e W2 ⟨rfl, h2, b2⟩)
   clear cW h1
   have h2' : zeA w.heap.size w.heap.size (zfS s.data.toList 1) W2 := by
    rw [zgF, ziH]; exact h2
   have b02 : Below w.heap.size w W2 := b0.trans (b1.trans b2); clear h2 b0 b1 b2; go_loopg [] (c - 1) (fun g wx => ∃ q : Nat, 1 <= q /\ q + g = c /\ zeA w.heap.size w.heap.size (zfS s.data.toList q) wx /\ Below w.heap.size w wx)
   case atStart => exact ⟨1, Nat.le_refl _, by omega, h2', b02⟩
   case round =>
    obtain ⟨q, hq1, hqg, hB, hbx⟩ := hrel; obtain ⟨Q, hQ⟩ : ∃ Q, q * s.size = Q := ⟨_, rfl⟩
    have hlq : (zfS s.data.toList q).length = Q := by rw [zes, <- Lib.size_eq, hQ]
    have cLen := hB.len; rw [hlq] at cLen; have hnc : c * s.size = n := by rw [Nat.mul_comm]; exact HN.o
    obtain ⟨S, hS⟩ : ∃ S : ByteArray, (⟨(zfS s.data.toList q).toArray⟩ : ByteArray) = S := ⟨_, rfl⟩
    have hSd : S.data.toList = zfS s.data.toList q := by rw [<- hS]
    have hSz : S.size = Q := by rw [Lib.size_eq, hSd, zes, <- Lib.size_eq, hQ]
    have cStr := hB.string hbx.size; rw [hS] at cStr; cases gk with
    | zero =>
      obtain rfl : q = c := by omega
      have hQn : ¬ ((Q : Int) < (n : Int)) := by omega
      go_wp2_with (first
       | (go_at_call 113; go_fit cLen; rintro e w' ⟨rfl, hw⟩; rw [hw])
       | (go_at_call 114; go_fit cStr; rintro e W3 ⟨rfl, h3, b3⟩))
      go_ret
      exact ⟨by rw [hS] <;> rfl, hbx.trans b3⟩
    | succ g =>
      have hqc : q < c := by omega
      obtain ⟨k, hk1, hkq, hkc, hmin⟩ := Lib.chunk_ok c q m s.size hq1 hqc hm1; rw [hnc, hQ, HCM.o] at hmin; obtain ⟨CH, hCH⟩ : ∃ CH, k * s.size = CH := ⟨_, rfl⟩
      rw [hCH] at hmin
      have hQn : (Q : Int) < (n : Int) := by
       have h1 : (q + 1) * s.size <= c * s.size := Nat.mul_le_mul_right _ hqc; rw [Nat.succ_mul, hQ, hnc] at h1; omega
      have hCHQ : CH <= Q := by rw [<- hCH, <- hQ]; exact Nat.mul_le_mul_right _ hkq
      have hsum : Q + CH <= n := by
       have h1 : (q + k) * s.size <= c * s.size := Nat.mul_le_mul_right _ hkc; rw [Nat.add_mul, hQ, hCH, hnc] at h1; exact h1
      have hmin3 : ∀ (ts : Array TypeId) (t : TypeId) (W : World), (Builtin.min_ ts t #[.int .i64 ((n : Int) - (Q : Int)), .int .i64 (Q : Int), .int .i64 (CM : Int)]).run Tryz.prog W = .ok (.int .i64 (CH : Int)) W := fun ts t W => by
       rw [znF]; congr 2
       rw [<- hmin]; omega
      clear hmin
      go_wp2_with (first
       | (go_at_call 113; go_fit cLen; rintro e w' ⟨rfl, hw⟩; rw [hw])
       | (go_at_call 114; go_fit cStr; rintro e W3 ⟨rfl, h3, b3⟩))
      have cWr := zfe w.heap.size w.heap.size _ (S.extract 0 CH) W3 h3 (by
       rw [hlq, Lib.size_eq, Lib.extract_data, hSd]; simp only [List.drop_zero, Nat.sub_zero, List.length_take, zes]
       omega) (Nat.le_trans hbx.size b3.size)
      go_wp2_with (go_at_call 112; go_fit cWr; rintro e W4 ⟨rfl, h4, b4⟩)
      go_roundg (c - (q + k))
      case measure => omega
      case rel =>
       refine ⟨q + k, by omega, by omega, ?_, hbx.trans (b3.trans b4)⟩
       rw [Lib.extract_data, hSd] at h4; simp only [List.drop_zero, Nat.sub_zero] at h4
       rw [<- hCH, Lib.size_eq, zle _ _ _ hkq] at h4; exact h4
theorem zhp (s : ByteArray) (c : Nat) (w : World) (hc : c <= 1000000000000000) (hlen : s.size * c <= 1000000) (h0 : c = 0 \/ (0 < s.size /\ ∀ (h : 0 < s.size), 97 <= s[0].toNat)) :
  Calls Tryz.prog 54 #[.string s, .int .i64 c] w fun e w' => e = .returned (.string ⟨(zfS s.data.toList c).toArray⟩) /\ Below w.heap.size w w' := by
 match c, hc, hlen, h0 with
 | 0, _, _, _ =>
   go_enter Tryz.func54, Tryz.ntmps54
   go_wp2
   go_ret
   exact ⟨rfl, Below.refl _ _⟩
 | 1, _, _, _ =>
   have e1 : (⟨(zfS s.data.toList 1).toArray⟩ : ByteArray) = s := by rw [zgF, ziH, List.nil_append]
   rw [e1]; go_enter Tryz.func54, Tryz.ntmps54
   go_wp2
   go_ret
   exact ⟨rfl, Below.refl _ _⟩
 | c + 2, hc, hlen, h0 =>
   rcases h0 with h0 | ⟨h0, h1⟩
   · omega
   · exact zjM s (c + 2) w yO hc hlen h0 (h1 h0)
def zos (s mp : ByteArray) (i m t : Nat) : UInt8 := if i <= t /\ t < m then ziJ mp (s.data.toList.getD t 0) else s.data.toList.getD t 0
def zot (s mp : ByteArray) (i m : Nat) : List UInt8 := (List.range s.size).map (zos s mp i m)
theorem zko (s mp : ByteArray) (i m : Nat) : (zot s mp i m).length = s.size := by simp [zot]
theorem znG (f : UInt8 -> UInt8) (l : List UInt8) (i m : Nat) (h1 : i <= m) (h2 : m <= l.length) :
  (List.range l.length).map (fun t => if i <= t /\ t < m then f (l.getD t 0) else l.getD t 0) = l.take i ++ ((l.drop i).take (m - i)).map f ++ l.drop m := by
 apply List.ext_getElem
 · simp; omega
 · intro k hk1 hk2
   have hk : k < l.length := by simpa using hk1
   have hg : l.getD k 0 = l[k] := by simp [yg, ye hk]
   simp only [List.getElem_map, List.getElem_range, hg]
   by_cases c1 : k < i
   · rw [if_neg yO, List.getElem_append_left (by simp; omega), List.getElem_append_left (by simp; omega)]
     simp
   · by_cases c2 : k < m
     · rw [if_pos yO, List.getElem_append_left (by simp; omega), List.getElem_append_right (by simp; omega)]
       simp only [List.getElem_map, List.getElem_take, List.getElem_drop, List.length_take]
       congr 2
       omega
     · rw [if_neg yO, List.getElem_append_right (by simp; omega)]
       simp only [List.getElem_drop, List.length_append, List.length_take, List.length_map, List.length_drop]
       congr 1
       omega
theorem znH (s mp : ByteArray) (i m : Nat) (h1 : i <= m) (h2 : m <= s.size) : (⟨(zot s mp i m).toArray⟩ : ByteArray) = s.extract 0 i ++ ⟨((s.extract i m).data.toList.map (ziJ mp)).toArray⟩ ++ s.extract m s.size := by
 have hl : s.size = s.data.toList.length := Lib.size_eq s; apply ByteArray.ext
 apply Array.toList_inj.1
 simp only [ByteArray.data_append, Array.toList_append, Lib.extract_data]
 have := znG (ziJ mp) s.data.toList i m h1 yO; rw [<- hl] at this; show zot s mp i m = _
 rw [show zot s mp i m = _ from this, List.drop_zero, Nat.sub_zero, List.take_of_length_le (l := s.data.toList.drop m) (by rw [List.length_drop]; omega)]
theorem zlf {wr W W2 : World} (h : Below wr.heap.size wr W) (h2 : Below W.heap.size W W2) : Below wr.heap.size wr W2 := h.trans (h2.mono h.size)
def zmT (w : World) (b : Nat) (s mp : ByteArray) (i m : Nat) : Prop := ∀ t, t < s.size -> w.cell? ⟨b, t, none⟩ = some (.int .u8 ((zos s mp i m t).toNat : Int)) /\ w.frozen? ⟨b, t, none⟩ = false
theorem zmT.drew {w : World} {b : Nat} {s mp : ByteArray} {i m : Nat} (h : zmT w b s mp i m) : zmT w.drew b s mp i m := h
theorem zmT.start {w : World} {b : Nat} {s mp : ByteArray} {i : Nat} (h : ∀ t (ht : t < s.data.toList.length), w.cell? ⟨b, t, none⟩ = some (.int .u8 (s.data.toList[t].toNat : Int)) /\ w.frozen? ⟨b, t, none⟩ = false) : zmT w b s mp i i := by
 intro t ht; have ht' : t < s.data.toList.length := by simpa using ht
 have := h t ht'; rw [zos, if_neg yO, yg, ye ht']; exact this
theorem zmT.step {w : World} {b : Nat} {s mp : ByteArray} {i m d : Nat} (h : zmT w b s mp i m) (hi : i <= m) (hm : m < s.size) (hd : s[m].toNat = 97 + d) (hd4 : d < mp.size) : zmT (w.setCell ⟨b, m, none⟩ (.int .u8 (mp[d].toNat : Int))) b s mp i (m + 1) := by
 have hv : ziJ mp s[m] = mp[d] := by
  unfold ziJ; rw [hd, show 97 + d - 97 = d by omega]; simp [Array.getD, hd4]
  rfl
 intro t ht; obtain ⟨h1, h2⟩ := h t ht; refine ⟨?_, by simpa using h2⟩
 by_cases e : t = m
 · subst e
   rw [zos, if_pos yO, yg, ye (by simpa using hm)]; rw [World.cell?_setCell_same' w ⟨b, t, none⟩ _ (by rw [h1]; rfl)]
   show _ = some (Value.int .u8 ((ziJ mp s[t]).toNat : Int))
   rw [hv]
 · rw [World.cell?_setCell_other w _ _ _ (by intro h; injection h with _ h; omega), h1]
   have e2 : zos s mp i (m + 1) t = zos s mp i m t := by
    simp only [zos]
    by_cases c : i <= t /\ t < m
    · rw [if_pos c, if_pos ⟨c.1, by omega⟩]
    · rw [if_neg c, if_neg yO]
   rw [e2]
theorem zjN (s : ByteArray) (w : World) : Calls Tryz.prog 54 #[.string s, .int .i64 0] w fun e w' => e = .returned (.string ⟨([] : List UInt8).toArray⟩) /\ Below w.heap.size w w' :=
 zhp s 0 w yO yO (.inl rfl)
theorem znI (s : ByteArray) (w : World) : Calls Tryz.prog 49 #[.string s] w fun r w' => r = .returned (.int .i64 s.size) /\ w' = w := by
 go_enter Tryz.func49, Tryz.ntmps49
 go_wp2
 go_ret
 exact ⟨rfl, rfl⟩
theorem zfG (s : ByteArray) (v : Value) (e : zap) (w : World) (h : zdF w w.heap.size v e) (hn : e.part.length <= 1048576) (hm : e.map.size <= maxLen) (hs : s.size <= maxLen) :
  Calls Tryz.prog 13 #[.string s, v] w fun r w' => r = .returned (.tuple #[.string (epV s e), .int .i64 (epC s e)]) /\ Below w.heap.size w w' := by
 have hV := fun o => (h.below ((Below.refl w.heap.size w).alloc yL o)).le (B' := (w.alloc o).heap.size) yS; have HV := yq hV; clear hV; obtain ⟨vR, rfl, hR⟩ := h; obtain ⟨AR, cR, rfl, _⟩ := hR; go_enter Tryz.func13, Tryz.ntmps13
 go_wp2_with fail
 refine (znI s _).mono ?_
 rintro r w' ⟨rfl, rfl⟩; go_wp2_with fail
 refine (zdB s _ hs).mono ?_
 rintro r w' ⟨rfl, rfl⟩; by_cases hw : zay s = true
 · have HW := yq hw
   have g0 : (!zay s) = false := by simp [hw]
   obtain ⟨hs2, hlet⟩ := zhn hw; have HLet := yq hlet; clear hw hlet hs; go_wp2_with fail
   refine (zbY _ e _ (HV.o _) yO hm).mono ?_
   rintro r w1 ⟨rfl, hb1⟩; have z1 : w.heap.size < w1.heap.size := Nat.lt_of_lt_of_le yS hb1.size; have X1 := yq (zmR.new hb1); have V1 := yq ((HV.o _).up hb1); have B1 := yq (((Below.refl w.heap.size w).alloc yL _).trans (hb1.mono yS)); clear hb1 HV g0; obtain ⟨x0, x1, x2, x3, x4, x5⟩ := X1.o; by_cases he : zaA e = true
   · have HE := yq he
     have g0 : (!zaA e) = false := by simp [he]
     have hG := zbh he; have HG := yq hG.1; clear he; go_wp2_with fail
     refine (zj9 _ e s.size _ V1.o hG.1 hG.2.2.2.2.1).mono ?_
     rintro r w2 ⟨rfl, hb2⟩; have z2 : w.heap.size < w2.heap.size := Nat.lt_of_lt_of_le z1 hb2.size; have X2 := yq (X1.o.up hb2 z1); have V2 := yq (V1.o.up hb2); have B2 := yq (B1.o.trans (hb2.mono B1.o.size)); clear hb2 x0 x1 x2 x3 x4 x5 X1 V1 g0; obtain ⟨x0, x1, x2, x3, x4, x5⟩ := X2.o; by_cases c3 : zar e s.size = true
     · have C3 := yq c3
       have g3 : (!zar e s.size) = false := by simp [c3]
       have hF := zfT hG.1 c3; clear c3; have hnn := zex HE.o C3.o (Int.natCast_nonneg s.size); go_wp2_with fail
       refine (zlX _ e s.size _ V2.o HE.o yO (Int.natCast_nonneg _) yO C3.o).mono ?_
       rintro r w3 ⟨out, rfl, hout, hb3⟩; have z3 : w.heap.size < w3.heap.size := Nat.lt_of_lt_of_le z2 hb3.size; have X3 := yq (X2.o.up hb3 z2); have V3 := yq (V2.o.up hb3); have B3 := yq (B2.o.trans (hb3.mono B2.o.size)); clear hb3 x0 x1 x2 x3 x4 x5 X2 V2 g3; obtain ⟨x0, x1, x2, x3, x4, x5⟩ := X3.o; by_cases c4 : zax e s.size <= 2000
       · have C4 := yq c4
         have g4 : decide (zax e s.size <= 1000000000000000) = true := by simp; omega
         have ho := hout yO; have g5 : (s.size : Int) + out = zax e s.size := by omega
         have g6 : decide (2000 < zax e s.size) = false := by simp; omega
         have wn : IntKind.i64.wrap ((s.size : Int) + out) = zax e s.size := by rw [g5]; exact IntWalk.i64_in _ yO
         rw [g4]; clear hout ho g4 g5; obtain ⟨pc, pv⟩ := zoW HW.o HE.o C3.o c4; have PC := yq pc; have PV := yq pv; have HE7 := yq (fun hk => zhm HE.o hk); clear pc pv c4; obtain ⟨ι, hι⟩ := Int.eq_ofNat_of_zero_le hG.2.1.1; obtain ⟨φ, hφ⟩ := Int.eq_ofNat_of_zero_le hG.2.2.1.1; obtain ⟨κ, hκ⟩ := Int.eq_ofNat_of_zero_le hG.2.2.2.1.1; have hij := hG.2.2.2.2.1; have hκ15 := hG.2.2.2.1.2; rw [hκ] at hκ15; have Hκ15 := yq hκ15; obtain ⟨hF1, hF2, hF3, hF4, C3k⟩ := hF; rw [hκ] at C3k; rw [hι] at x1 hij hF1 hF3 hF4; rw [hφ] at x2 hij hF2 hF4; rw [hκ] at x3 hF3 hF4; have Hι := yq hι; have Hφ := yq hφ; have Hκ := yq hκ; clear hG hι hφ hκ hκ15 hnn; go_wp2_with fail
         go_quiet (fail)
         have b4 : Below w.heap.size w (w3.drewN nq) := B3.o.trans ((zat (Below.refl _ _) _).mono B3.o.size); have y0 : (w3.drewN nq).cell? ⟨w.heap.size, 0, none⟩ = some (.int .i64 e.kind) := by simpa using x0
         have y4 : (w3.drewN nq).cell? ⟨w.heap.size, 4, none⟩ = some (.slice AR e.part.length cR) := by simpa using x4
         have y5 : (w3.drewN nq).cell? ⟨w.heap.size, 5, none⟩ = some (.string e.map) := by simpa using x5
         have z4 : w.heap.size < (w3.drewN nq).heap.size := by simpa using z3
         have V4 := yq (V3.o.up (zat (Below.refl _ _) nq)); have B4 := yq b4; clear b4 x0 x1 x2 x3 x4 x5 X3 V3 wn g6; revert y0 y4 y5 z4 V4 B4; generalize w3.drewN nq = w4; intro y0 y4 y5 z4 V4 B4; rcases zdl HG.o with hk | hk | hk | hk | hk | hk | hk
         · have hf := hF1 hk
           have hP := zkd hk Hι.o (s := s); have HP := yq hP; obtain ⟨ls, hls⟩ := (zag (zbh HE.o).2.2.2.2.2.2).2; have hwl := zaQ hls; have hgl : zao e.part = zai ls := zaq hls
           have hlen1 : zai ls <= 2000 := by
            have h := C4.o; rw [zax, if_pos hk, hgl] at h; omega
           have hTl : (zau e.part).length <= 2000 := by omega
           have hg := (zbh HE.o).2.2.2.2.2.2; have hU : upV e.part = zau e.part /\ upC e.part = 0 := by simp [upV, upC, hg, hTl]
           rw [hk] at y0; obtain ⟨vR', ev, hsl⟩ := V4.o; have ev2 : vR' = .slice AR e.part.length cR := by simp at ev; first | exact ev.symm | exact ev
           subst ev2; clear hF1 hF2 hF3 hF4 C3k hij hk hP; have l1 : ι <= s.size := by omega
           have HT := yq (fun W hs => zg1 (.slice AR e.part.length cR) e.part W hs hn); have HSl := yq hsl; rw [hU.1, hU.2] at HT; obtain ⟨T, hT⟩ : ∃ T, zau e.part = T := ⟨_, rfl⟩
           rw [hT] at HT HP hTl; have n1 : ¬ 9223372036854775807 < ι + T.length := by omega
           have n2 : ¬ 9223372036854775807 < ι + T.length + (s.size - ι) := by omega
           clear hT hwl hlen1 hls hgl hg hU hsl ev; go_wp2_with fail
           refine (HT.o _ HSl.o).mono ?_
           rintro r w5 ⟨rfl, hb5⟩; go_wp2_with fail
           go_quiet (fail)
           go_wp2_with fail
           go_ret2
           exact ⟨by rw [PC.o, PV.o, HP.o]; rfl, B4.o.trans ((hb5.trans ((zat (Below.refl _ _) _).mono hb5.size)).mono B4.o.size)⟩
         · have hf := hF2 yO
           have hi := hij yO; have hP := zke hk Hι.o Hφ.o (s := s); have HP := yq hP; rw [hk] at y0; clear hF1 hF2 hF3 hF4 C3k hij hk hP; have l1 : ι <= s.size := by omega
           have l2 : φ <= s.size := by omega
           go_wp2_with fail
           go_quiet (fail)
           go_wp2_with fail
           go_ret2
           exact ⟨by rw [PC.o, PV.o, HP.o]; rfl, B4.o.trans ((zat (Below.refl _ _) _).mono B4.o.size)⟩
         · have hf := hF2 yO
           have hi := hij yO; have hc := hF3 yO; have hP := zkf hk Hι.o Hφ.o Hκ.o (s := s); have HP := yq hP; rw [hk] at y0
           have l0 : κ <= s.size := by
            have := C3k hk; omega
           clear hF1 hF2 hF3 hF4 hij hk hP; have l1 : ι <= s.size := by omega
           have l2 : φ <= s.size := by omega
           have l3 : ι <= φ := by omega
           go_wp2_with fail
           go_quiet (fail)
           go_wp2_with fail
           go_ret2
           exact ⟨by rw [PC.o, PV.o, HP.o]; rfl, B4.o.trans ((zat (Below.refl _ _) _).mono B4.o.size)⟩
         · have hf := hF2 yO
           have hi := hij yO; have hc := hF3 yO; have hd := hF4 yO; rw [hk] at y0; have l1 : ι <= s.size := by omega
           have l2 : φ <= s.size := by omega
           have l3 : ι <= φ := by omega
           by_cases hki : κ <= ι
           · have hP := ziK hk Hι.o Hφ.o Hκ.o hki (s := s)
             have HP := yq hP; have l0 : κ <= s.size := by omega
             clear hF1 hF2 hF3 hF4 hij hk hP hc hd; go_wp2_with fail
             go_quiet (fail)
             go_wp2_with fail
             go_ret2
             exact ⟨by rw [PC.o, PV.o, HP.o]; rfl, B4.o.trans ((zat (Below.refl _ _) _).mono B4.o.size)⟩
           · have hP := ziL hk Hι.o Hφ.o Hκ.o hki (s := s)
             have HP := yq hP; have l0 : κ <= s.size := by omega
             have l4 : φ <= κ := by omega
             clear hF1 hF2 hF3 hF4 hij hk hP hc hd; go_wp2_with fail
             go_quiet (fail)
             go_wp2_with fail
             go_ret2
             exact ⟨by rw [PC.o, PV.o, HP.o]; rfl, B4.o.trans ((zat (Below.refl _ _) _).mono B4.o.size)⟩
         · have hf := hF2 yO
           have hi := hij yO; have hP := zkg hk Hι.o Hφ.o (s := s); have HP := yq hP; rw [hk] at y0; clear hF1 hF2 hF3 hF4 C3k hij hk hP; have l1 : ι <= s.size := by omega
           have l2 : φ <= s.size := by omega
           have l3 : ι <= φ := by omega
           obtain ⟨T, hT⟩ : ∃ T, (s.extract ι φ).data.toList.reverse = T := ⟨_, rfl⟩
           have hTl : T.length <= 2000 := by rw [<- hT]; simp; omega
           have HT := yq (fun W => zk5 (s.extract ι φ) W (by simp; omega)); rw [hT] at HT HP; have n1 : ¬ 9223372036854775807 < ι + T.length := by omega
           have n2 : ¬ 9223372036854775807 < ι + T.length + (s.size - φ) := by omega
           clear hT; go_wp2_with fail
           have KB := zf1 (w := w4)
           go_region_held3 (fun w' => Below w4.heap.size w4 w')
            (first | (with_reducible exact KB) | (with_reducible exact zlf KB hb5))
            (first
              | (go_at_call 53; (with_reducible refine (HT.o _).mono ?_); rintro r w5 ⟨rfl, hb5⟩))
           go_wp2_with fail
           go_ret2
           exact ⟨by rw [PC.o, PV.o, HP.o]; rfl, B4.o.trans ((zlf KB hb5).mono B4.o.size)⟩
         · have hf := hF2 yO
           have hi := hij yO
           have hlen6 : (φ - ι) * κ <= 2000 := by
            have h := C4.o; rw [zax, if_neg yO, if_neg yO, if_neg yO, if_pos hk, Hι.o, Hφ.o, Hκ.o] at h; have e1 : ((φ : Int) - ι) * κ = (((φ - ι) * κ : Nat) : Int) := by rw [Int.natCast_mul, Int.natCast_sub yO]
            rw [e1] at h; omega
           rw [hk] at y0; have l1 : ι <= s.size := by omega
           have l2 : φ <= s.size := by omega
           have l3 : ι <= φ := by omega
           have lκ : κ <= 1000000000000000 := by have := Hκ15.o; omega
           by_cases heq : ι = φ
           · have hP := ziM hk Hι.o Hφ.o heq (s := s)
             have HP := yq hP; have g6 : ((ι : Int) == (φ : Int)) = true := by simp [heq]
             have HT := yq (fun W => zjN (s.extract ι φ) W)
             have hfin : s.extract 0 ι ++ (⟨([] : List UInt8).toArray⟩ : ByteArray) ++ s.extract φ s.size = s := by
              rw [heq]; apply ByteArray.ext
              apply Array.toList_inj.1
              simp only [ByteArray.data_append, Array.toList_append, Lib.extract_data]
              rw [List.drop_zero, Nat.sub_zero, List.take_of_length_le (l := s.data.toList.drop φ) (by rw [List.length_drop, <- Lib.size_eq]; omega)]; simp
             obtain ⟨T, hT⟩ : ∃ T, ([] : List UInt8) = T := ⟨_, rfl⟩
             have hTl : T.length = 0 := by rw [<- hT]; rfl
             rw [hT] at HT hfin; have n1 : ¬ 9223372036854775807 < ι + T.length := by omega
             have n2 : ¬ 9223372036854775807 < ι + T.length + (s.size - φ) := by omega
             have HF := yq hfin; clear hT hTl; clear hF1 hF2 hF3 hF4 C3k hij hk hP heq hlen6 hfin; go_wp2_with fail
             have KB := zf1 (w := w4)
             go_region_held3 (fun w' => Below w4.heap.size w4 w')
              (first | (with_reducible exact KB) | (with_reducible exact zlf KB hb5))
              (first
                | (go_at_call 54; (with_reducible refine (HT.o _).mono ?_); rintro r w5 ⟨rfl, hb5⟩))
             go_wp2_with fail
             go_ret2
             exact ⟨by rw [PC.o, PV.o, HP.o, HF.o]; rfl, B4.o.trans ((zlf KB hb5).mono B4.o.size)⟩
           · have hP := ziN hk Hι.o Hφ.o Hκ.o heq (s := s)
             have HP := yq hP; have g6 : ((ι : Int) == (φ : Int)) = false := by rw [beq_eq_false_iff_ne]; omega
             obtain ⟨T, hT⟩ : ∃ T, zfS (s.extract ι φ).data.toList κ = T := ⟨_, rfl⟩
             have hsz : (s.extract ι φ).size = φ - ι := by simp; omega
             have hTl : T.length <= 2000 := by
              rw [<- hT, zes, <- Lib.size_eq, hsz, Nat.mul_comm]; exact hlen6
             have HT := yq (fun W => zhp (s.extract ι φ) κ W lκ (by rw [hsz]; exact Nat.le_trans hlen6 (by decide)) (.inr ⟨by omega, fun h => (zgG HLet.o 0 h).1⟩)); rw [hT] at HT HP; have n1 : ¬ 9223372036854775807 < ι + T.length := by omega
             have n2 : ¬ 9223372036854775807 < ι + T.length + (s.size - φ) := by omega
             clear hF1 hF2 hF3 hF4 C3k hij hk hP heq hlen6 hT hsz; go_wp2_with fail
             have KB := zf1 (w := w4)
             go_region_held3 (fun w' => Below w4.heap.size w4 w')
              (first | (with_reducible exact KB) | (with_reducible exact zlf KB hb5))
              (first
                | (go_at_call 54; (with_reducible refine (HT.o _).mono ?_); rintro r w5 ⟨rfl, hb5⟩))
             go_wp2_with fail
             go_ret2
             exact ⟨by rw [PC.o, PV.o, HP.o]; rfl, B4.o.trans ((zlf KB hb5).mono B4.o.size)⟩
         · have hf := hF2 yO
           have hi := hij yO; have hP := zkh hk Hι.o Hφ.o (s := s); have hm4 := HE7.o hk; rw [hk] at y0; clear hF1 hF2 hF3 hF4 C3k hij hk; have l1 : ι <= s.size := by omega
           have l2 : φ <= s.size := by omega
           have l3 : ι <= φ := by omega
           rw [<- znH s e.map ι φ l3 l2] at hP; have HP := yq hP; clear hP; go_wp2_with fail
           rw [Lib.run_convert_string_bytes w4 _ _ 5 s Tryz.underlying9 Tryz.underlying22 Tryz.underlying5]; simp only [Result.andThen]
           rw [Oper.upon_value]; have hb5 : Below w4.heap.size w4 (Lib.bytesWorld w4 5 s) := ⟨rfl, rfl, rfl, by rw [Lib.bytesWorld_size]; omega, fun j hj => Lib.bytesWorld_at_old w4 5 s j hj⟩
           have hc5 : ∀ t (ht : t < s.data.toList.length), (Lib.bytesWorld w4 5 s).cell? ⟨w4.heap.size, t, none⟩ = some (.int .u8 (s.data.toList[t].toNat : Int)) /\ (Lib.bytesWorld w4 5 s).frozen? ⟨w4.heap.size, t, none⟩ = false := by
            intro t ht; have ht' : t < s.size := by simpa using ht
            refine ⟨?_, ?_⟩
            · rw [Lib.bytesWorld_cell w4 _ s t ht', yg, ye ht]; rfl
            · have hz : t < (Lib.bytesCells w4 5 s).size := by simp [Lib.bytesCells]; omega
              simp [World.frozen?, Lib.bytesWorld_at_new]
              omega
           have HR5 := yq (zmT.start (mp := e.map) (i := ι) hc5); have hz5 : w4.heap.size < (Lib.bytesWorld w4 5 s).heap.size := by rw [Lib.bytesWorld_size]; omega
           have u5 := (hb5.cell (p := ⟨w.heap.size, 5, none⟩) z4).trans y5; have B5 := yq (B4.o.trans (hb5.mono B4.o.size)); clear hb5 hc5 y0 y4 y5; revert HR5 hz5 u5 B5; generalize Lib.bytesWorld w4 5 s = w5; generalize grownCap w4 s.size 0 5 = cp; intro HR5 hz5 u5 B5; go_wp2_with fail
           go_loopw [15] (fun a wx => ∃ m : Nat, ι <= m /\ m <= φ /\ a = .int .i64 (m : Int) /\ zmT wx w4.heap.size s e.map ι m /\ wx.cell? ⟨w.heap.size, 5, none⟩ = some (.string e.map) /\ Below w.heap.size w wx) (fun a _ => (φ - intOf a).toNat)
           case atStart => exact ⟨ι, Nat.le_refl _, l3, rfl, HR5.o, u5, B5.o⟩
           case round =>
            obtain ⟨m, hm1, hm2, rfl, hrow, v5, hbw⟩ := hrel; have Hrow := yq hrow; have Hbw := yq hbw; by_cases hlt : m < φ
            · have hlt2 : m < s.size := by omega
              obtain ⟨h97, h100⟩ := HLet.o m hlt2; obtain ⟨d, hd⟩ : ∃ d, s[m].toNat = 97 + d := ⟨s[m].toNat - 97, by omega⟩
              have hd4 : d < e.map.size := by omega
              have hd5 : (d : Int) < 4 := by omega
              have hw8 : IntKind.u8.wrap (d : Int) = (d : Int) := IntWalk.u8_in _ yO; have e1 : ((s[m].toNat : Nat) : Int) - 97 = (d : Int) := by omega
              have e2 : (d : Int) < 256 := by omega
              obtain ⟨hcm, hfm⟩ := hrow m hlt2; have Hd := yq hd; clear hd h97 h100 hrow hbw; go_wp2_with fail
              go_region
              go_wp2_with fail
              refine ⟨⟨m + 1, by omega, by omega, rfl, (Hrow.o.drew).step hm1 hlt2 Hd.o hd4, ?_, ?_⟩, by simp [intOf]; omega⟩
              · exact (World.cell?_setCell_far _ ⟨w4.heap.size, m, none⟩ ⟨w.heap.size, 5, none⟩ _ (by show w4.heap.size ≠ w.heap.size; omega)).trans v5
              · exact Hbw.o.drew.setCell (p := ⟨w4.heap.size, m, none⟩) (Nat.le_of_lt z4) _
            · have hmn : m = φ := by omega
              subst hmn
              have hcv := zkI (zot s e.map ι m) w4.heap.size 0 s.size cp wr (by rw [zko]) (fun t ht => by
               have ht' : t < s.size := by rw [zko] at ht; exact ht
               rw [Nat.zero_add, (hrow t ht').1]
               simp [zot])
              clear hrow hbw; go_wp2_with fail
              go_ret2
              exact ⟨by rw [PC.o, PV.o, HP.o]; rfl, Hbw.o⟩
       · have g0 : zax e s.size < 0 \/ 0 <= zax e s.size := by omega
         obtain ⟨pc, pv⟩ := zoV HW.o HE.o C3.o c4; have PC := yq pc; have PV := yq pv; clear pc pv; by_cases c5 : zax e s.size <= 1000000000000000
         · have g4 : decide (zax e s.size <= 1000000000000000) = true := by simp; omega
           have ho := hout yO; have g5 : (s.size : Int) + out = zax e s.size := by omega
           have g6 : decide (2000 < zax e s.size) = true := by simp; omega
           have wn : IntKind.i64.wrap ((s.size : Int) + out) = zax e s.size := by rw [g5]; exact IntWalk.i64_in _ yO
           rw [g4]; clear hout ho g4 g5 g0 hF hG hnn c4 c5; go_wp2_with fail
           go_ret2
           exact ⟨by rw [PC.o, PV.o]; rfl, B3.o⟩
         · have g4 : decide (zax e s.size <= 1000000000000000) = false := by simp; omega
           rw [g4]; clear hout g4 g0 hF hG hnn c4 c5; go_wp2_with fail
           go_ret2
           exact ⟨by rw [PC.o, PV.o]; rfl, B3.o⟩
     · have c3' : zar e s.size = false := by simpa using c3
       have g3 : (!zar e s.size) = true := by simp [c3']
       obtain ⟨pc, pv⟩ := zoU HW.o HE.o c3'; have PC := yq pc; have PV := yq pv; clear pc pv c3 c3'; go_wp2_with fail
       go_ret2
       exact ⟨by rw [PC.o, PV.o]; rfl, B2.o⟩
   · have he' : zaA e = false := by simpa using he
     have g0 : (!zaA e) = true := by simp [he']
     obtain ⟨pc, pv⟩ := znm (s := s) (e := e) (.inr he'); have PC := yq pc; have PV := yq pv; clear pc pv he he'; go_wp2_with fail
     go_ret2
     exact ⟨by rw [PC.o, PV.o]; rfl, B1.o⟩
 · have hw' : zay s = false := by simpa using hw
   have g0 : (!zay s) = true := by simp [hw']
   obtain ⟨pc, pv⟩ := znm (s := s) (e := e) (.inl hw'); have PC := yq pc; have PV := yq pv; clear pc pv hw hw' hs; go_wp2_with fail
   go_ret2
   exact ⟨by rw [PC.o, PV.o]; rfl, yb⟩
theorem zlg (v v' : Value) (l l' : List UInt8) (w : World) (h : Sl zfB w w.heap.size v l) (h' : Sl zfB w w.heap.size v' l') :
  Calls Tryz.prog 6 #[v, v'] w fun e w' => e = .returned (.bool (decide ((3000 : Int) < l.length) || decide ((3000 : Int) < l'.length))) /\ w = w' := by
 obtain ⟨A, c, rfl, _⟩ := h; obtain ⟨A', c', rfl, _⟩ := h'; by_cases h1 : (3000 : Int) < (l.length : Int)
 · go_enter Tryz.func6, Tryz.ntmps6
   go_wp2_with fail
   go_ret
   exact ⟨zak (by simp [h1]), rfl⟩
 · have e1 : decide ((3000 : Int) < (l.length : Int)) = false := by simp; omega
   go_enter Tryz.func6, Tryz.ntmps6
   go_wp2_with fail
   go_ret
   exact ⟨zak (by first | rfl | (simp [e1]; done) | simp), rfl⟩
theorem zhZ (v : Value) (l : List UInt8) (most : Int) (w : World) (h : Sl zfB w w.heap.size v l) :
  Calls Tryz.prog 7 #[v, .int .i64 most] w fun e w' => ∃ u xs, e = .returned (.agg #[u]) /\ Sl zas w' w'.heap.size u xs /\ zfC most xs /\ xs.length <= 14 /\ Below w.heap.size w w' := by
 have HL := yq h; obtain ⟨A, c, rfl, _⟩ := h; go_enter Tryz.func7, Tryz.ntmps7
 go_wp2_with fail
 have ba := (Below.refl _ w).alloc yL (.cells #[.slice none 0 0] 26); refine (zkk _ l _ (HL.o.up ba)).mono ?_
 rintro r w1 ⟨b, rfl, hb, hs, hb1⟩; have KR1 := yq (Blk.up (Blk.new w #[.slice none 0 0] 26) hb1); have hbz : w.heap.size < b := by simp at hb; omega
 have HS := yq hs; have HB := yq (ba.trans (hb1.mono ba.size)); have hz1 : w.heap.size < w1.heap.size := KR1.o.lt; clear hs hb1 ba hb; go_wp2_with fail
 refine (zfU b 0 most _ HS.o yO).mono ?_
 rintro r w2 ⟨u, xs, rfl, hsl, hok, hl, _, hb2⟩; have KR2 := KR1.o.but hb2 yO; have cR := Blk.cell (i := 0) (v := .slice none 0 0) KR2 rfl; have zR := Blk.frozen KR2 0; have hz2 := hb2.size; have HB2 := yq (HB.o.trans (hb2.below (B := w.heap.size) yO yO)); have HSL := yq hsl; clear hsl hb2 KR2; obtain ⟨AX, cX, rfl, _⟩ := HSL.o; go_wp2_with fail
 exact bodyPost_ret (v := .agg #[.slice AX xs.length cX]) (by simp [results, Tryz.results7, go_sem, cR]) rfl
  ⟨_, xs, rfl, (HSL.o.keep fun k hk => Below.heap_setCell w2 ⟨w.heap.size, 0, none⟩ _ k (by show k ≠ w.heap.size; omega)).more fun k hk => by simpa using hk.2, hok, hl, HB2.o.setCell (p := ⟨w.heap.size, 0, none⟩) yL _⟩
theorem six {wx : World} {R : Nat} {a0 a1 a2 a3 a4 a5 : Value} (h : Blk wx R #[a0, a1, a2, a3, a4, a5] 30) (v0 v1 v2 v3 v4 v5 : Value) :
  let W := (((((wx.setCell ⟨R, 0, none⟩ v0).setCell ⟨R, 1, none⟩ v1).setCell ⟨R, 2, none⟩ v2).setCell ⟨R, 3, none⟩ v3).setCell ⟨R, 4, none⟩ v4).setCell ⟨R, 5, none⟩ v5
  Blk W R #[v0, v1, v2, v3, v4, v5] 30 /\ (∀ k, k ≠ R -> W.heap[k]? = wx.heap[k]?) /\ Below R wx W := by
 intro W
 exact ⟨(((((h.set 0 v0).set 1 v1).set 2 v2).set 3 v3).set 4 v4).set 5 v5,
  fun k hk => (Below.heap_setCell _ ⟨R, 5, none⟩ v5 k hk).trans ((Below.heap_setCell _ ⟨R, 4, none⟩ v4 k hk).trans ((Below.heap_setCell _ ⟨R, 3, none⟩ v3 k hk).trans ((Below.heap_setCell _ ⟨R, 2, none⟩ v2 k hk).trans ((Below.heap_setCell _ ⟨R, 1, none⟩ v1 k hk).trans (Below.heap_setCell _ ⟨R, 0, none⟩ v0 k hk))))),
  ((((((Below.refl _ wx).setCell (p := ⟨R, 0, none⟩) yL v0).setCell (p := ⟨R, 1, none⟩) yL v1).setCell (p := ⟨R, 2, none⟩) yL v2).setCell (p := ⟨R, 3, none⟩) yL v3).setCell (p := ⟨R, 4, none⟩) yL v4).setCell (p := ⟨R, 5, none⟩) yL v5⟩
theorem zlh (v : Value) (l : List UInt8) (n : Int) (w : World) (h : Sl zfB w w.heap.size v l) (hn : 0 <= n /\ n <= 2000000000000000) :
  Calls Tryz.prog 9 #[v, .int .i64 n] w fun r w' => ∃ u e, r = .returned u /\ zdF w' w'.heap.size u e /\ e.part.length <= 14 /\ za5 e.part /\ zaA e = true /\ e.map.size <= 4 /\ Below w.heap.size w w' := by
 have HL := yq h; obtain ⟨A, c, rfl, _⟩ := h; go_enter Tryz.func9, Tryz.ntmps9
 go_wp2_with fail
 have ba := (Below.refl _ w).alloc yL (.cells #[.int .i64 0, .int .i64 0, .int .i64 0, .int .i64 0, .slice none 0 0, .string ⟨#[]⟩] 30); refine (zkk _ l _ (HL.o.up ba)).mono ?_
 rintro r w1 ⟨b, rfl, hb, hs, hb1⟩; have KR1 := yq (Blk.up (Blk.new w #[.int .i64 0, .int .i64 0, .int .i64 0, .int .i64 0, .slice none 0 0, .string ⟨#[]⟩] 30) hb1); have hbz : w.heap.size < b := by simp at hb; omega
 have HS := yq hs; have HB := yq (ba.trans (hb1.mono ba.size)); have hz1 : w.heap.size < w1.heap.size := KR1.o.lt; clear hs hb1 ba hb; go_wp2_with fail
 refine (ziW b 0 n _ HS.o yO hn).mono ?_
 rintro r w2 ⟨u, vR, e, rfl, rfl, hsl, h14, hsm, hok, hm, _, hb2⟩; have KR2 := KR1.o.but hb2 yO; have cR0 := Blk.cell (i := 0) (v := .int .i64 0) KR2 rfl; have cR1 := Blk.cell (i := 1) (v := .int .i64 0) KR2 rfl; have cR2 := Blk.cell (i := 2) (v := .int .i64 0) KR2 rfl; have cR3 := Blk.cell (i := 3) (v := .int .i64 0) KR2 rfl; have cR4 := Blk.cell (i := 4) (v := .slice none 0 0) KR2 rfl; have cR5 := Blk.cell (i := 5) (v := .string ⟨#[]⟩) KR2 rfl; have zR0 := Blk.frozen KR2 0; have zR1 := Blk.frozen KR2 1; have zR2 := Blk.frozen KR2 2; have zR3 := Blk.frozen KR2 3; have zR4 := Blk.frozen KR2 4; have zR5 := Blk.frozen KR2 5; have hz2 := hb2.size; have HB2 := yq (HB.o.trans (hb2.below (B := w.heap.size) yO yO)); have HSL := yq hsl; have HOK := yq (And.intro hsm hok); have HK2 := yq KR2; clear hsl hb2 hsm hok KR2; obtain ⟨AX, cX, rfl, _⟩ := HSL.o; go_wp2_with fail
 obtain ⟨s1, s2, s3⟩ := six HK2.o (.int .i64 e.kind) (.int .i64 e.i) (.int .i64 e.j) (.int .i64 e.k) (.slice AX e.part.length cX) (.string e.map); have HB3 := HB2.o.trans s3; clear cR0 cR1 cR2 cR3 cR4 cR5 zR0 zR1 zR2 zR3 zR4 zR5; revert s1 s2 s3 HB3; generalize (((((w2.setCell ⟨w.heap.size, 0, none⟩ (.int .i64 e.kind)).setCell ⟨w.heap.size, 1, none⟩ (.int .i64 e.i)).setCell ⟨w.heap.size, 2, none⟩ (.int .i64 e.j)).setCell ⟨w.heap.size, 3, none⟩ (.int .i64 e.k)).setCell ⟨w.heap.size, 4, none⟩ (.slice AX e.part.length cX)).setCell ⟨w.heap.size, 5, none⟩ (.string e.map) = W; intro s1 s2 s3 HB3; have x0 := Blk.cell (i := 0) (v := .int .i64 e.kind) s1 rfl; have x1 := Blk.cell (i := 1) (v := .int .i64 e.i) s1 rfl; have x2 := Blk.cell (i := 2) (v := .int .i64 e.j) s1 rfl; have x3 := Blk.cell (i := 3) (v := .int .i64 e.k) s1 rfl; have x4 := Blk.cell (i := 4) (v := .slice AX e.part.length cX) s1 rfl; have x5 := Blk.cell (i := 5) (v := .string e.map) s1 rfl
 exact bodyPost_ret (v := .agg #[.int .i64 e.kind, .int .i64 e.i, .int .i64 e.j, .int .i64 e.k, .slice AX e.part.length cX, .string e.map]) (by simp [results, Tryz.results9, go_sem, x0, x1, x2, x3, x4, x5]) rfl
  ⟨_, e, rfl, ⟨_, rfl, (HSL.o.keep fun k hk => s2 k yO).more fun k hk => Nat.lt_of_lt_of_le hk.2.2 s3.size⟩, h14.1, HOK.o.1, HOK.o.2, hm, HB3⟩
theorem zo4 {most : Int} {xs : List zaa} (h : zfC most xs) (h1 : 1 <= most) (h2 : most <= 2000) : upV xs = zau xs /\ upC xs = 0 /\ ((zau xs).length : Int) = zao xs /\ ((zau xs).length : Int) <= most := by
 obtain ⟨hg, h0, hm, _⟩ := h; obtain ⟨h4, ls, hl⟩ := zag hg; have hw := zaQ hl; have hgl := zaq hl; have := hm h1; obtain ⟨k1, k2⟩ := zoq hg yO; exact ⟨k1, k2, by omega, by omega⟩
end Go.Proofs.YtdacndamehiglaaGreatDoor
