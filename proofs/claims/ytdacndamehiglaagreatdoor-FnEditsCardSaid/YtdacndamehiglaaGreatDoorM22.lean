import Derived.Test.YtdacndamehiglaaGreatDoorM21
import Derived.Shelf.Strings.Builder1
import Derived.Shelf.Strings.Builder2
import Derived.Shelf.Strings.BuilderF
import Derived.Shelf.Strings.BuilderK
import Derived.Shelf.Strconv.ParseIntEmpty
import Derived.Shelf.Strconv.Clone
import Derived.Shelf.Strconv.SyntaxError
import Derived.Shelf.LaysC
import Derived.Shelf.Strconv.ToError
import Derived.Shelf.Strconv.Lower
import Derived.Shelf.Strconv.ParseUint10
import Derived.Shelf.Strconv.ParseUint10Empty
import Derived.Shelf.Strconv.ParseUint10Any
import Derived.Shelf.Strconv.ParseInt10
import Derived.Shelf.Strconv.RangeError
import Derived.Shelf.Strconv.ToErrorRange
import Derived.Shelf.Strconv.ParseUintEmpty
import Derived.Shelf.Strconv.ParseUint10b64
import Derived.Shelf.Strconv.ParseUint10b32
import Derived.Shelf.Strconv.ParseUint10b16
import Derived.Shelf.Strconv.ParseUint10b8
import Derived.Shelf.Strconv.ParseUint10At
import Derived.Shelf.Strconv.ParseInt10At64
import Derived.Shelf.Strconv.ParseInt10At32
import Derived.Shelf.Strconv.ParseInt10At16
import Derived.Shelf.Strconv.ParseInt10At8
import Derived.Shelf.Strconv.ParseInt10All
import Derived.Shelf.Strconv.ParseIntPublic10
import Derived.Shelf.Strconv.ErrVarParseInt
import Derived.Shelf.Unicode.Decode
import Derived.Shelf.Bits.Mul64
import Derived.Shelf.Unicode.DecodeSlow
import Derived.Shelf.Unicode.DecodeAny
import Derived.Lib.ParseIntB
import Derived.Lib.ItoaNum
import Derived.Lib.CountLaws
import Derived.Lib.SplitLaws
set_option maxRecDepth 100000
set_option maxHeartbeats 8000000
namespace Go.Proofs.YtdacndamehiglaaGreatDoor
open Go.RowKit
def zey (s : Option (List zaa)) (b : Nat) (L : Int) : Prop := ∃ o, s = some o /\ zaf o = true /\ o.length <= b /\ zao o <= L
theorem zey.add {s g : Option (List zaa)} {b c : Nat} {L M : Int} (h : zey s b L) (h2 : zey g c M) (hb : b + c + 1 <= 400) (hL : L + M <= 1000000000000000) : zey (zbu s g) (b + c + 1) (L + M) := by
 obtain ⟨o, rfl, h3, h4, h5⟩ := h; obtain ⟨x, rfl, k3, k4, k5⟩ := h2; obtain ⟨_, lo, hlo⟩ := zag h3; obtain ⟨_, lx, hlx⟩ := zag k3; have e1 := zaq hlo; have e2 := zaq hlx; obtain ⟨l, hl, hs⟩ := zhk hlo hlx (by unfold zdQ; omega); have hlen := zkY o x
 have ok : zaf (za8 o x) = true := by
  simp only [zaf, Bool.and_eq_true, decide_eq_true_eq]
  exact ⟨by omega, by rw [hl]; rfl⟩
 refine ⟨za8 o x, by show (if zaf (za8 o x) then some (za8 o x) else none) = _; rw [if_pos ok], ok, by omega, ?_⟩
 rw [zaq hl, hs]; omega
theorem zey.nil : zey (some []) 0 0 := ⟨[], rfl, rfl, Nat.le_refl _, by simp [zao, zaX, zai]⟩
theorem zey.part {xs : List zaa} {ls : List Int} (h : zaX xs = some ls) {i j : Int} (hi : 0 <= i) (hij : i <= j) (hj : j <= zai ls) (hs : j - i <= 100) : zey (zbj (zam xs ls i j)) (2 * (j - i)).toNat (j - i) := by
 have hok := zdP h hi hij hj yO; have hfew := zgH h hi hij hj; refine ⟨_, by unfold zbj; rw [if_pos hok], hok, by omega, ?_⟩
 rw [zcj h hi hij hj]; omega
theorem zey.turned {s : Option (List zaa)} {b : Nat} {L : Int} {e : zap} (h : zey s b L) (hk : e.kind = 5) : zey (s.bind (zc8 e)) b L := by
 obtain ⟨o, rfl, h1, h2, h3⟩ := h; refine ⟨o.map zb6, by show zc8 e o = _; unfold zc8; rw [if_pos hk], zdK h1, by rw [List.length_map]; exact h2, ?_⟩
 unfold zao at h3 |-
 rw [zin]; exact h3
theorem zey.is {s : Option (List zaa)} {b : Nat} {L : Int} (h : zey s b L) : ∃ o, s = some o := by
 obtain ⟨o, h1, _⟩ := h; exact ⟨o, h1⟩
theorem ziX {xs : List zaa} {e : zap} (hg : zaf xs = true) (he : zaA e = true) (hf : zar e (zao xs) = true) (h : ∃ o, zco xs e = some o) : zah xs e = 0 := by
 obtain ⟨o, h1⟩ := h; unfold zah; rw [hg, he, hf, h1]; rfl
theorem zfE {xs : List zaa} {ls : List Int} (hl : zaX xs = some ls) : zdi xs = ls := by simp [zdi, hl]
theorem zon {h p : List zaa} {i : Int} (hg : zaf h = true) (hi : 0 <= i /\ i <= zao h) (hs : zao h <= 60) (hp : 0 < p.length) (hgp : zaf p = true) (hpl : p.length <= 130) (hpL : zao p <= 1000000) : zah h (zf8 i p) = 0 := by
 obtain ⟨_, ls, hl⟩ := zag hg; have e1 := zaq hl; have p1 := zey.part hl (Int.le_refl 0) hi.1 yO yO; have p3 := zey.part hl hi.1 (show i <= zai ls by omega) (Int.le_refl _) yO; have H := ((zey.nil.add p1 yO yO).add ⟨p, rfl, hgp, hpl, hpL⟩ yO yO).add p3 yO yO; refine ziX hg (zoj ⟨hi.1, by omega⟩ hp hgp) (znv hi.2) ?_
 unfold zco zaT; rw [zfE hl, if_pos (show (zf8 i p).kind = 1 from rfl)]; exact H.is
theorem zjJ {h : List zaa} {i j : Int} (hg : zaf h = true) (hi : 0 <= i /\ i <= j /\ j <= zao h) (hs : i + (zao h - j) <= 60) : zah h (zeP i j) = 0 := by
 obtain ⟨_, ls, hl⟩ := zag hg; have e1 := zaq hl; have hb := zaM h; have p1 := zey.part hl (Int.le_refl 0) hi.1 yO yO; have p3 := zey.part hl (show 0 <= j by omega) (show j <= zai ls by omega) (Int.le_refl _) yO; have H := (zey.nil.add p1 yO yO).add p3 yO yO; refine ziX hg (zok ⟨hi.1, hi.2.1, by omega⟩) (znw hi.2.2) ?_
 unfold zco zaT; rw [zfE hl, if_neg (by show ¬ (2 : Int) = 1; omega), if_pos (show (zeP i j).kind = 2 from rfl)]; exact H.is
theorem zms {h : List zaa} {i j k : Int} (hg : zaf h = true) (hi : 0 <= i /\ i <= j /\ j <= zao h) (hk : 0 <= k /\ k <= zao h) (hkk : k <= i \/ j <= k) (hs : zao h <= 60) : zah h (zgQ i j k) = 0 := by
 obtain ⟨_, ls, hl⟩ := zag hg; have e1 := zaq hl
 have hfit : zar (zgQ i j k) (zao h) = true := by
  unfold zar zgQ; rw [if_neg (by show ¬ (4 : Int) = 1; omega), if_neg (by show ¬ (4 : Int) = 3; omega), if_pos rfl]; simp only [Bool.and_eq_true, Bool.or_eq_true, decide_eq_true_eq]
  omega
 have hok : zaA (zgQ i j k) = true := zla (.inr (.inl rfl)) ⟨hi.1, hi.2.1, by omega⟩ ⟨hk.1, by omega⟩; have p0 := zey.part hl hi.1 hi.2.1 (show j <= zai ls by omega) yO; by_cases c : k <= i
 · have p1 := zey.part hl (Int.le_refl 0) hk.1 yO yO
   have p2 := zey.part hl hk.1 c yO yO; have p3 := zey.part hl (show 0 <= j by omega) (show j <= zai ls by omega) (Int.le_refl _) yO; have H := (((zey.nil.add p1 yO yO).add p0 yO yO).add p2 yO yO).add p3 yO yO; refine ziX hg hok hfit ?_
   unfold zco zaT; rw [zfE hl, if_neg (by show ¬ (4 : Int) = 1; omega), if_neg (by show ¬ (4 : Int) = 2; omega), if_neg (by show ¬ (4 : Int) = 3; omega), if_pos (show (zgQ i j k).kind = 4 from rfl), if_pos (show (zgQ i j k).k <= (zgQ i j k).i from c)]; exact H.is
 · have p1 := zey.part hl (Int.le_refl 0) hi.1 yO yO
   have p2 := zey.part hl (show 0 <= j by omega) (show j <= k by omega) yO yO; have p3 := zey.part hl hk.1 (show k <= zai ls by omega) (Int.le_refl _) yO; have H := (((zey.nil.add p1 yO yO).add p2 yO yO).add p0 yO yO).add p3 yO yO; refine ziX hg hok hfit ?_
   unfold zco zaT; rw [zfE hl, if_neg (by show ¬ (4 : Int) = 1; omega), if_neg (by show ¬ (4 : Int) = 2; omega), if_neg (by show ¬ (4 : Int) = 3; omega), if_pos (show (zgQ i j k).kind = 4 from rfl), if_neg (show ¬ (zgQ i j k).k <= (zgQ i j k).i from c)]; exact H.is
theorem zoo {h : List zaa} {i j : Int} (hg : zaf h = true) (hi : 0 <= i /\ i <= j /\ j <= zao h) (hs : zao h <= 60) : zah h (zhP i j) = 0 := by
 obtain ⟨_, ls, hl⟩ := zag hg; have e1 := zaq hl
 have hfit : zar (zhP i j) (zao h) = true := by
  unfold zar zhP; rw [if_neg (by show ¬ (5 : Int) = 1; omega), if_neg (by show ¬ (5 : Int) = 3; omega), if_neg (by show ¬ (5 : Int) = 4; omega)]; simp only [decide_eq_true_eq]; omega
 have p0 := (zey.part hl hi.1 hi.2.1 (show j <= zai ls by omega) yO).turned (e := zhP i j) rfl; have p1 := zey.part hl (Int.le_refl 0) hi.1 yO yO; have p3 := zey.part hl (show 0 <= j by omega) (show j <= zai ls by omega) (Int.le_refl _) yO; have H := ((zey.nil.add p1 yO yO).add p0 yO yO).add p3 yO yO; refine ziX hg (ziV (.inr rfl) ⟨hi.1, hi.2.1, by omega⟩) hfit ?_
 unfold zco zaT; rw [zfE hl, if_neg (by show ¬ (5 : Int) = 1; omega), if_neg (by show ¬ (5 : Int) = 2; omega), if_neg (by show ¬ (5 : Int) = 3; omega), if_neg (by show ¬ (5 : Int) = 4; omega)]; exact H.is
theorem zeN {h : List zaa} {b : zap} {m : Int} (hc : zah h b = 0) : ([b].foldl zbQ (h, m)).2 = m + ([b].length : Nat) := by
 show (zbQ (h, m) b).2 = _
 unfold zbQ; rw [if_pos hc]; rfl
theorem zmt {h : List zaa} {b c : zap} {m : Int} (hb : zah h b = 0) (hc : zah (zaj h b) c = 0) : ([b, c].foldl zbQ (h, m)).2 = m + ([b, c].length : Nat) := by
 show (zbQ (zbQ (h, m) b) c).2 = _
 unfold zbQ; rw [if_pos hb, if_pos hc]; show m + 1 + 1 = m + 2
 omega
theorem zo9 {h : List zaa} (hg : zaf h = true) : zao h = ((zau h).length : Nat) := by
 obtain ⟨_, l, hl⟩ := zag hg; rw [zaq hl, zaQ hl]
theorem zmu {xs : List zaa} {e : zap} {m : Int} (ha : zah xs e = 0) (hs : zao xs <= 40) : ∃ bs, zfy xs (zdi xs) e = some bs /\ (bs.foldl zbQ (zaj xs e, m)).2 = m + (bs.length : Nat) := by
 have hE := zb4 ha; obtain ⟨h1, h2, h3⟩ := za2 ha; obtain ⟨_, ls, hl⟩ := zag h1; have hgl := zaq hl; have hwl := zaQ hl; have hho := zcv xs e; obtain ⟨_, lo, hlo⟩ := zag hho; have hol := zaQ hlo; rw [<- zaq hlo] at hol; obtain ⟨hk, hi, hj, hq, hij, hj0, hgp⟩ := zbh h2; rw [hgl] at h3 hs; unfold zar at h3; unfold EwP at hE; unfold zfy; rw [zfE hl]; obtain ⟨_, lp, hlp⟩ := zag hgp; have hpl : zao e.part = (zau e.part).length := by rw [zaq hlp, zaQ hlp]
 have hpb := zaM e.part; generalize hU : zau (zaj xs e) = U at hE hol; generalize hW : zau xs = W at hE hwl; have hcl : ∀ {i j : Int}, 0 <= i -> i <= j -> j <= W.length -> ((zbD W i j).length : Int) = j - i := fun a b c => zcz a b c
 have ins2 : ∀ {h : List zaa} {n : Int}, zaf h = true -> zao h = n -> e.i <= e.j -> e.i < e.j -> e.j <= zai ls -> n = zai ls - (e.j - e.i) -> zaf (zam xs ls e.i e.j) = true -> zah h (zf8 e.i (zam xs ls e.i e.j)) = 0 := by
  intro h n hg hn a b c d f; have hf := zgH hl hi.1 a c; have hpg := zcj hl hi.1 a c
  have hp0 : 0 < (zam xs ls e.i e.j).length := by
   rcases Nat.eq_zero_or_pos (zam xs ls e.i e.j).length with h0 | h0
   · exfalso
     have hnil : zam xs ls e.i e.j = [] := yn h0; rw [hnil] at hpg; simp [zao, zaX, zai] at hpg
     omega
   · exact h0
  exact zon hg ⟨hi.1, by omega⟩ yO hp0 f yO yO
 have rep : ∀ {y : Int} {M : List UInt8}, e.i <= e.j -> e.i < e.j -> e.j <= zai ls -> zaf (zam xs ls e.i e.j) = true -> U = zbD W 0 e.i ++ M ++ zbD W e.j W.length -> (M.length : Int) = y -> 0 < y -> zah (zaj xs e) (zeP e.i (e.i + y)) = 0 /\ zah (zaj (zaj xs e) (zeP e.i (e.i + y))) (zf8 e.i (zam xs ls e.i e.j)) = 0 := by
  intro y M a b c f hu hm hy; have q1 := hcl (Int.le_refl 0) hi.1 yO; have q2 := hcl (show 0 <= e.j by omega) (show e.j <= (W.length : Nat) by omega) (Int.le_refl _); have hUl := congrArg List.length hu; rw [List.length_append, List.length_append] at hUl; have d1 : zah (zaj xs e) (zeP e.i (e.i + y)) = 0 := zjJ hho ⟨hi.1, by omega, by omega⟩ yO; have hw := zfb (A := zbD W 0 e.i) (M := M) (B := zbD W e.j W.length) d1 (by rw [hU, hu, List.append_assoc]) yO yO; have hg2 := zcv (zaj xs e) (zeP e.i (e.i + y)); have hl2 := zo9 hg2; rw [hw, List.length_append] at hl2; exact ⟨d1, ins2 hg2 rfl a b c yO f⟩
 rcases zdl hk with k1 | k1 | k1 | k1 | k1 | k1 | k1
 · rw [if_pos k1] at h3 hE
   rw [if_pos k1]; have h3 : e.i <= zai ls := by simpa using h3
   have hUl := congrArg List.length hE; rw [List.length_append, List.length_append] at hUl; have q1 := hcl (Int.le_refl 0) hi.1 yO; have q2 := hcl hi.1 (show e.i <= (W.length : Nat) by omega) (Int.le_refl _); exact ⟨_, rfl, zeN (zjJ hho ⟨hi.1, by omega, by omega⟩ yO)⟩
 · rw [if_neg yO, if_pos k1] at hE
   rw [if_neg yO, if_neg yO, if_neg yO] at h3; have h3 : e.j <= zai ls := by simpa using h3
   have hij := hij yO; rw [if_neg yO]; by_cases h0 : e.j - e.i = 0
   · rw [if_pos h0]; exact ⟨[], rfl, by simp⟩
   · have hpr := zdP hl hi.1 hij h3 yO
     rw [if_neg h0, if_neg yO, if_neg yO, if_neg yO, if_pos hpr]; refine ⟨_, rfl, ?_⟩
     unfold zgY; rw [if_pos k1, List.nil_append]; have hUl := congrArg List.length hE; rw [List.length_append] at hUl; have q1 := hcl (Int.le_refl 0) hi.1 yO; have q2 := hcl (show 0 <= e.j by omega) (show e.j <= (W.length : Nat) by omega) (Int.le_refl _); exact zeN (ins2 hho rfl hij yO h3 yO hpr)
 · rw [if_neg yO, if_neg yO, if_pos k1] at hE
   rw [if_neg yO, if_pos k1] at h3; have h3 : e.j <= zai ls /\ e.k <= zai ls := by simpa using h3
   have hij := hij yO; rw [if_neg yO]; by_cases h0 : e.j - e.i = 0
   · rw [if_pos h0]; exact ⟨[], rfl, by simp⟩
   · rw [if_neg h0, if_pos k1]
     have hUl := congrArg List.length hE; rw [List.length_append, List.length_append] at hUl; have q1 := hcl (Int.le_refl 0) hq.1 yO; have q2 := hcl hi.1 hij yO; have q3 := hcl hq.1 (show e.k <= (W.length : Nat) by omega) (Int.le_refl _); exact ⟨_, rfl, zeN (zjJ hho ⟨hq.1, by omega, by omega⟩ yO)⟩
 · rw [if_neg yO, if_neg yO, if_neg yO, if_pos k1] at hE
   rw [if_neg yO, if_neg yO, if_pos k1] at h3; simp only [Bool.and_eq_true, Bool.or_eq_true, decide_eq_true_eq] at h3
   have hij := hij yO; rw [if_neg yO]; by_cases h0 : e.j - e.i = 0
   · rw [if_pos h0]; exact ⟨[], rfl, by simp⟩
   · rw [if_neg h0, if_neg yO, if_pos k1]
     by_cases c : e.k <= e.i
     · rw [if_pos c] at hE |-
       have hUl := congrArg List.length hE; simp only [List.length_append] at hUl
       have q1 := hcl (Int.le_refl 0) hq.1 yO; have q2 := hcl hi.1 hij yO; have q3 := hcl hq.1 c yO; have q4 := hcl (show 0 <= e.j by omega) (show e.j <= (W.length : Nat) by omega) (Int.le_refl _); exact ⟨_, rfl, zeN (zms hho ⟨hq.1, by omega, by omega⟩ ⟨by omega, by omega⟩ (.inr yO) yO)⟩
     · rw [if_neg c] at hE |-
       have hUl := congrArg List.length hE; simp only [List.length_append] at hUl
       have q1 := hcl (Int.le_refl 0) hi.1 yO; have q2 := hcl (show 0 <= e.j by omega) (show e.j <= e.k by omega) yO; have q3 := hcl hi.1 hij yO; have q4 := hcl hq.1 (show e.k <= (W.length : Nat) by omega) (Int.le_refl _); exact ⟨_, rfl, zeN (zms hho ⟨by omega, by omega, by omega⟩ ⟨by omega, by omega⟩ (.inl yO) yO)⟩
 all_goals
  rw [if_neg yO, if_neg yO, if_neg yO, if_neg yO] at hE; rw [if_neg yO, if_neg yO, if_neg yO] at h3; have h3 : e.j <= zai ls := by simpa using h3
  have hij := hij yO; obtain ⟨M, hu, m5, m6, m7⟩ := hE; have q5 := hcl hi.1 hij yO; rw [if_neg yO]; by_cases h0 : e.j - e.i = 0
  · rw [if_pos h0]; exact ⟨[], rfl, by simp⟩
  have q1 := hcl (Int.le_refl 0) hi.1 yO; have q2 := hcl (show 0 <= e.j by omega) (show e.j <= (W.length : Nat) by omega) (Int.le_refl _); have hUl := congrArg List.length hu; rw [List.length_append, List.length_append] at hUl
 · have hm := congrArg List.length (m5 k1)
   rw [List.length_reverse] at hm; rw [if_neg h0, if_neg yO, if_neg yO, if_pos k1]; exact ⟨_, rfl, zeN (zoo hho ⟨hi.1, hij, by omega⟩ yO)⟩
 · have hpr := zdP hl hi.1 hij h3 yO
   rw [if_neg h0, if_neg yO, if_neg yO, if_neg yO, if_pos hpr]; refine ⟨_, rfl, ?_⟩
   have hm := congrArg List.length (m6 k1); rw [ze7] at hm
   have hm2 : (M.length : Int) = (e.j - e.i) * e.k := by
    rw [hm, Int.natCast_mul, q5, Int.toNat_of_nonneg hq.1, Int.mul_comm]
   unfold zgY; rw [if_neg yO, if_pos k1]; by_cases hz : 0 < (e.j - e.i) * e.k
   · rw [if_pos hz]
     obtain ⟨r1, r2⟩ := rep hij yO h3 hpr hu hm2 hz; exact zmt r1 r2
   · rw [if_neg hz, List.nil_append]
     exact zeN (ins2 hho rfl hij yO h3 yO hpr)
 · have hpr := zdP hl hi.1 hij h3 yO
   rw [if_neg h0, if_neg yO, if_neg yO, if_neg yO, if_pos hpr]; refine ⟨_, rfl, ?_⟩
   have hm := m7 k1; unfold zgY; rw [if_neg yO, if_neg yO]; have hjj : e.i + (e.j - e.i) = e.j := by omega
   obtain ⟨r1, r2⟩ := rep hij yO h3 hpr hu (show (M.length : Int) = e.j - e.i by omega) yO; rw [hjj] at r1 r2; exact zmt r1 r2
end Go.Proofs.YtdacndamehiglaaGreatDoor
namespace Go.Proofs
open Go.Shelf Go.RowKit
def Tryz.laysM146_ren : Go.Shelf.Ren := ⟨fun | 146 => 74 | 221 => 124 | 268 => 161 | 138 => 162 | 143 => 163 | 195 => 188 | 197 => 189 | 218 => 190 | 219 => 191 | 260 => 205 | 217 => 197 | 225 => 206 | 224 => 207 | 267 => 208 | 266 => 210 | 314 => 216 | n => n, fun | 9 => 9 | 31 => 97 | 3 => 3 | 4 => 4 | 0 => 0 | 105 => 220 | 21 => 21 | 5 => 5 | 46 => 142 | 119 => 242 | 139 => 245 | 138 => 244 | 146 => 179 | 51 => 178 | n => n, fun | 1 => 2 | 3 => 4 | 4 => 5 | n => n⟩
theorem Tryz.laysM146 : Go.Proofs.LaysM.n146 Tryz.prog Tryz.laysM146_ren := {
 mixed := by kernel_rfl
 f138 := Tryz.func162.trans (congrArg some (by kernel_rfl))
 f143 := Tryz.func163.trans (congrArg some (by kernel_rfl))
 f146 := Tryz.func74.trans (congrArg some (by kernel_rfl))
 f195 := Tryz.func188.trans (congrArg some (by kernel_rfl))
 f197 := Tryz.func189.trans (congrArg some (by kernel_rfl))
 f217 := Tryz.func197.trans (congrArg some (by kernel_rfl))
 f218 := Tryz.func190.trans (congrArg some (by kernel_rfl))
 f219 := Tryz.func191.trans (congrArg some (by kernel_rfl))
 f221 := Tryz.func124.trans (congrArg some (by kernel_rfl))
 f224 := Tryz.func207.trans (congrArg some (by kernel_rfl))
 f225 := Tryz.func206.trans (congrArg some (by kernel_rfl))
 f260 := Tryz.func205.trans (congrArg some (by kernel_rfl))
 f266 := Tryz.func210.trans (congrArg some (by kernel_rfl))
 f267 := Tryz.func208.trans (congrArg some (by kernel_rfl))
 f268 := Tryz.func161.trans (congrArg some (by kernel_rfl))
 f314 := Tryz.func216.trans (congrArg some (by kernel_rfl))
 t0 := Tryz.underlying0
 a0 := Tryz.isAgg0
 z0 := Tryz.sizeOf0
 v0 := Tryz.zeroValue0
 t3 := Tryz.underlying3
 a3 := Tryz.isAgg3
 z3 := Tryz.sizeOf3
 v3 := Tryz.zeroValue3
 t4 := Tryz.underlying4
 a4 := Tryz.isAgg4
 z4 := Tryz.sizeOf4
 v4 := Tryz.zeroValue4
 t5 := Tryz.underlying5
 a5 := Tryz.isAgg5
 z5 := Tryz.sizeOf5
 v5 := Tryz.zeroValue5
 t9 := Tryz.underlying9
 a9 := Tryz.isAgg9
 z9 := Tryz.sizeOf9
 v9 := Tryz.zeroValue9
 t21 := Tryz.underlying21
 a21 := Tryz.isAgg21
 z21 := Tryz.sizeOf21
 v21 := Tryz.zeroValue21
 t31 := Tryz.underlying97
 a31 := Tryz.isAgg97
 z31 := Tryz.sizeOf97
 v31 := Tryz.zeroValue97
 t46 := Tryz.underlying142
 a46 := Tryz.isAgg142
 z46 := Tryz.sizeOf142
 v46 := Tryz.zeroValue142
 t51 := Tryz.underlying178
 a51 := Tryz.isAgg178
 z51 := Tryz.sizeOf178
 v51 := Tryz.zeroValue178
 t105 := Tryz.underlying220
 a105 := Tryz.isAgg220
 z105 := Tryz.sizeOf220
 v105 := Tryz.zeroValue220
 t119 := Tryz.underlying242
 a119 := Tryz.isAgg242
 z119 := Tryz.sizeOf242
 t138 := Tryz.underlying244
 a138 := Tryz.isAgg244
 z138 := Tryz.sizeOf244
 v138 := Tryz.zeroValue244
 t139 := Tryz.underlying245
 a139 := Tryz.isAgg245
 z139 := Tryz.sizeOf245
 v139 := Tryz.zeroValue245
 t146 := Tryz.underlying179
 a146 := Tryz.isAgg179
 z146 := Tryz.sizeOf179
 v146 := Tryz.zeroValue179
 g1 := by kernel_rfl
 g3 := by kernel_rfl
 g4 := by kernel_rfl
 i0 := by kernel_rfl
 i3 := by kernel_rfl
 i4 := by kernel_rfl
 i5 := by kernel_rfl
 i9 := by kernel_rfl
 i21 := by kernel_rfl
 i31 := by kernel_rfl
 i46 := by kernel_rfl
 i51 := by kernel_rfl
 i105 := by kernel_rfl
 i138 := by kernel_rfl
 i139 := by kernel_rfl
 i146 := by kernel_rfl
 m1 := by kernel_rfl
 s1_3 := fun w h => Go.Proofs.cell_of_shapedOpen_int (zero := #[.int .i64 0]) (t := 3) h (of_decide_eq_true (by kernel_rfl)) (by kernel_rfl) rfl (by kernel_rfl) (by kernel_rfl) Tryz.underlying3
 m3 := by kernel_rfl
 m4 := by kernel_rfl }
open Go.RowKit Go.Lib in
theorem Tryz.strings_Split_shaped (s sep : ByteArray) (w : World) (h : w.ShapedOpen Tryz.prog) (hs : s.size < 4294967281) (h1 : 1 ≤ sep.size) :
  Calls Tryz.prog 74 #[.string s, .string sep] w fun e w' =>
   e = .returned (.slice (some ⟨w.heap.size, 0, none⟩) (Lib.countB s sep + 1) (Lib.countB s sep + 1)) ∧ w' = w.alloc (.cells ((Lib.splitB sep 0 (Lib.countB s sep) s).map Value.string).toArray 9) := Any.strings_Split_shaped Tryz.laysM146 s sep w h hs h1
end Go.Proofs
namespace Go.Proofs.YtdacndamehiglaaGreatDoor
open Go.RowKit
end Go.Proofs.YtdacndamehiglaaGreatDoor
namespace Go.Proofs
open Go.Shelf
def YtdacndamehiglaaGreatDoor.lays169_ren : Go.Shelf.Ren := ⟨fun | 169 => 114 | n => n, fun | 70 => 146 | 9 => 9 | 0 => 0 | 72 => 148 | 37 => 22 | 127 => 183 | 3 => 3 | 5 => 5 | n => n, fun | n => n⟩
theorem YtdacndamehiglaaGreatDoor.lays169 : Go.Proofs.Lays.n169 Tryz.prog YtdacndamehiglaaGreatDoor.lays169_ren := {
 mixed := by kernel_rfl
 f169 := Tryz.func114.trans (congrArg some (by kernel_rfl))
 t0 := Tryz.underlying0
 a0 := Tryz.isAgg0
 z0 := Tryz.sizeOf0
 v0 := Tryz.zeroValue0
 t3 := Tryz.underlying3
 a3 := Tryz.isAgg3
 z3 := Tryz.sizeOf3
 v3 := Tryz.zeroValue3
 t9 := Tryz.underlying9
 a9 := Tryz.isAgg9
 z9 := Tryz.sizeOf9
 v9 := Tryz.zeroValue9
 t37 := Tryz.underlying22
 a37 := Tryz.isAgg22
 z37 := Tryz.sizeOf22
 v37 := Tryz.zeroValue22
 t70 := Tryz.underlying146
 a70 := Tryz.isAgg146
 z70 := Tryz.sizeOf146
 v70 := Tryz.zeroValue146
 t72 := Tryz.underlying148
 a72 := Tryz.isAgg148
 z72 := Tryz.sizeOf148
 v72 := Tryz.zeroValue148
 t127 := Tryz.underlying183
 a127 := Tryz.isAgg183
 z127 := Tryz.sizeOf183
 v127 := Tryz.zeroValue183 }
theorem YtdacndamehiglaaGreatDoor.Builder_Extra_169 : Builder.Extra Tryz.prog YtdacndamehiglaaGreatDoor.lays169_ren := {
 sizeBuilder := by kernel_rfl
 liesBuilder := by kernel_rfl
 t5 := Tryz.underlying5
 a5 := Tryz.isAgg5
 z5 := Tryz.sizeOf5
 v5 := Tryz.zeroValue5
 infoByte := by kernel_rfl
 cellsByte := by kernel_rfl
 sizeByte := by kernel_rfl
 neB5 := by decide }
end Go.Proofs
namespace Go.Proofs.YtdacndamehiglaaGreatDoor
open Go.RowKit
def zec (B b : Nat) (l : List UInt8) (w : World) : Prop := Lib.IsBuilder 148 5 B b (Lib.byteCells l) w
theorem zec.string {B b : Nat} {l : List UInt8} {w : World} (h : zec B b l w) (hBw : B <= w.heap.size) :
  Calls Tryz.prog 114 #[.pointer (some ⟨b, 0, none⟩)] w fun e w' => e = .returned (.string ⟨l.toArray⟩) /\ Below B w w' := Any.Builder_String_any YtdacndamehiglaaGreatDoor.lays169 YtdacndamehiglaaGreatDoor.Builder_Extra_169 B b l w h hBw
theorem Tryz.infoBu : (Tryz.prog.info? 148).map (·.size) = some 2 := by kernel_rfl
theorem Tryz.liesBu : liesAt Tryz.prog Tryz.prog.depth 148 (2 / Tryz.prog.cellsOf 148) 0 148 1 = true := by kernel_rfl
theorem Tryz.infoU8 : (Tryz.prog.info? 5).map (fun i => (i.zero, i.size, i.bytes)) = some (some (.int .u8 0), 1, 1) := by kernel_rfl
theorem zez (b : Nat) (w : World) (h0 : w.cell? ⟨b, 0, none⟩ = some (.pointer (some ⟨b, 0, none⟩))) :
  Calls Tryz.prog 149 #[.pointer (some ⟨b, 0, none⟩)] w fun e w' => e = .returned (.tuple #[]) /\ w' = w := by
 obtain ⟨j, hj, _⟩ := Option.map_eq_some_iff.1 Tryz.infoBu; go_enter Tryz.func149, Tryz.ntmps149
 go_wp2
 rw [Lib.run_neq_ptr_same w _ Tryz.underlying146 hj]; go_wp2
 go_end0
 exact ⟨rfl, rfl⟩
theorem zc3 (b : Nat) (w : World) (h0 : w.cell? ⟨b, 0, none⟩ = some (.pointer none)) (hsh : w.shape? b = some (148, 2)) (hfz : w.frozen? ⟨b, 0, none⟩ = false) :
  Calls Tryz.prog 149 #[.pointer (some ⟨b, 0, none⟩)] w fun e w' => e = .returned (.tuple #[]) /\ w' = w.setCell ⟨b, 0, none⟩ (.pointer (some ⟨b, 0, none⟩)) := by
 obtain ⟨j, hj, hjs⟩ := Option.map_eq_some_iff.1 Tryz.infoBu; go_enter Tryz.func149, Tryz.ntmps149
 go_wp2
 rw [Lib.run_to_unsafe w ⟨b, 0, none⟩ Tryz.underlying146 Tryz.underlying214 hj (by rw [hjs]; decide) hsh (Nat.zero_lt_succ 1)]; simp only [Result.andThen]
 rw [Oper.upon_value]; go_wp2
 rw [run_callFunc_extern Tryz.func181 yk yk yk (e := Extern.AbiNoEscape.same) yk]; rw [Lib.run_noEscape]; simp only [Result.andThen]
 rw [Oper.upon_value]; go_wp2
 rw [Lib.run_from_unsafe w ⟨b, 0, none⟩ Tryz.underlying214 Tryz.underlying146 hj hsh Tryz.liesBu]; simp only [Result.andThen]
 rw [Oper.upon_value]; go_wp2
 go_end0
 exact ⟨rfl, rfl⟩
theorem zjK (B b : Nat) (l : List UInt8) (w : World) (h : zec B b l w) :
  Calls Tryz.prog 149 #[.pointer (some ⟨b, 0, none⟩)] w fun e w' => e = .returned (.tuple #[]) /\ Lib.BuilderAt 148 5 B b (.pointer (some ⟨b, 0, none⟩)) (Lib.byteCells l) w' /\ Below B w w' /\ Lib.OthersKept 5 (some b) w w' := by
 rcases h with h | h
 · refine (zc3 b w h.cell0 h.shape h.frozen0).mono ?_
   rintro e w' ⟨rfl, rfl⟩; exact ⟨rfl, h.used _, (Below.refl B w).setCell (p := ⟨b, 0, none⟩) h.1 _, (Lib.OthersKept.refl _ _ w).setCell ⟨b, 0, none⟩ rfl _⟩
 · refine (zez b w h.cell0).mono ?_
   rintro e w' ⟨rfl, rfl⟩; exact ⟨rfl, h, Below.refl B _, Lib.OthersKept.refl _ _ _⟩
theorem zgK (B b : Nat) (l : List UInt8) (s : ByteArray) (w : World) (h : zec B b l w) (hlen : l.length + s.size <= 140737488355328) (hBw : B <= w.heap.size) :
  Calls Tryz.prog 112 #[.pointer (some ⟨b, 0, none⟩), .string s] w fun e w' => e = .returned (.tuple #[.int .i64 s.size, .nilIface]) /\ zec B b (l ++ s.data.toList) w' /\ Below B w w' /\ Lib.OthersKept 5 (some b) w w' := by
 obtain ⟨i0, hi, hz0, hz1, hz2⟩ := info_parts Tryz.infoU8; have hbl : (Lib.byteCells l).length = l.length := by simp [Lib.byteCells]
 go_enter Tryz.func112, Tryz.ntmps112
 go_wp2_with fail
 refine (zjK B b l _ h).mono ?_
 rintro e w1 ⟨rfl, h1, hb1, hk1⟩; obtain ⟨hB, v, hbk, hown, hne⟩ := h1; rw [hbl] at hown; have c0 : w1.cell? ⟨b, 0, none⟩ = some (.pointer (some ⟨b, 0, none⟩)) := by simp [World.cell?, hbk]
 have c1 : w1.cell? ⟨b, 1, none⟩ = some v := by simp [World.cell?, hbk]
 go_wp2_with (at_builtin; refine Lib.wpList_append_own_string _ rfl _ _ 22 9 rfl B 5 i0 Tryz.underlying22 Tryz.underlying9 hi hz0 hz1 hz2 v l.length (Lib.byteCells l) rfl hown s rfl ?c3 ?c4 ?c5 ?_)
 case c3 => unfold maxLen; omega
 case c4 => omega
 case c5 => have := hb1.size; omega
 intro v' w2 hown' hgrow _; have hlt : b < w1.heap.size := (Array.getElem?_eq_some_iff.1 hbk).1
 have hb2 : w2.heap[b]? = some (.cells #[.pointer (some ⟨b, 0, none⟩), v] 148 (0, 0)) := by
  rw [hgrow.block b hlt (fun e => hne e.symm)]; exact hbk
 have d0 : w2.cell? ⟨b, 0, none⟩ = some (.pointer (some ⟨b, 0, none⟩)) := by simp [World.cell?, hb2]
 have d1 : w2.cell? ⟨b, 1, none⟩ = some v := by simp [World.cell?, hb2]
 have f1 : w2.frozen? ⟨b, 1, none⟩ = false := by simp [World.frozen?, hb2]
 obtain ⟨ao, cap, rfl, _⟩ := zae hown'; go_wp2
 go_ret2
 refine ⟨rfl, .inr ?_, ?_, (hk1.grown hgrow ?_).setCell ⟨b, 1, none⟩ rfl _⟩
 · have e : Lib.byteCells (l ++ s.data.toList) = Lib.byteCells l ++ Lib.strCells s := by simp [Lib.byteCells, Lib.strCells]
   rw [e]; exact Lib.BuilderAt.put hB hb2 (bs' := Lib.byteCells l ++ Lib.strCells s) (by rw [show (Lib.byteCells l ++ Lib.strCells s).length = l.length + s.size by rw [List.length_append, hbl, Lib.strCells_length]]; exact hown') (by decide)
 · exact (hb1.grown hgrow (by have := hb1.size; omega) (fun k hk => (World.ownsRow.lt hown k hk).1)).setCell (p := ⟨b, 1, none⟩) hB _
 · intro g hg
   rcases hown.2 with ⟨rfl, _⟩ | ⟨g', cap', cur, rfl, _, hb', _⟩
   · cases hg
   · have : g' = g := by simpa [Value.ownBlock] using hg
     subst this; exact ⟨cur, _, hb'⟩
structure BJ (xs : List zaa) (vR : Value) (bg bs b B : Nat) (C : Nat -> Prop) (s : List UInt8) (w : World) : Prop where
 bld : zec B b s w
 hB : B <= w.heap.size
 nb : ¬ C b
 no : ∀ k, C k -> B <= k -> ∀ c fz, w.heap[k]? ≠ some (.cells c 5 fz)
 mg : C bg
 ms : C bs
 cg : w.cell? ⟨bg, 0, none⟩ = some vR
 cs : w.cell? ⟨bs, 0, none⟩ = some (.func (.func 180) #[] #[.pointer (some ⟨bg, 0, none⟩), .pointer (some ⟨bs, 0, none⟩), .pointer (some ⟨b, 0, none⟩)])
 sl : SlS zas w C vR xs
theorem zec.lt {B b : Nat} {l : List UInt8} {w : World} (h : zec B b l w) : b < w.heap.size := by
 rcases h with h | h
 · exact h.lt
 · exact h.lt
theorem zlb {B b : Nat} {l : List UInt8} {w w' : World} (h : zec B b l w) (hb : Below w.heap.size w w') : zec B b l w' := by
 rcases h with ⟨h1, v, h2, h3, h4⟩ | ⟨h1, v, h2, h3, h4⟩
 · exact .inl ⟨h1, v, (hb.block b (Array.getElem?_eq_some_iff.1 h2).1).trans h2, zaI h3 hb, h4⟩
 · exact .inr ⟨h1, v, (hb.block b (Array.getElem?_eq_some_iff.1 h2).1).trans h2, zaI h3 hb, h4⟩
section
variable {xs : List zaa} {vR : Value} {bg bs b B : Nat}
theorem BJ.ext : ∀ (C : Nat -> Prop) (s : List UInt8) (w w' : World), BJ xs vR bg bs b B C s w -> Below w.heap.size w w' -> zc4 w.heap.size w' -> (∀ k, C k -> k < w.heap.size) -> BJ xs vR bg bs b B (ext C w.heap.size w'.heap.size) s w' := by
 intro C s w w' h hb hn hC; refine ⟨zlb h.bld hb, Nat.le_trans h.hB hb.size, ?_, ?_, .inl h.mg, .inl h.ms, (hb.cell (p := ⟨bg, 0, none⟩) (hC _ h.mg)).trans h.cg, (hb.cell (p := ⟨bs, 0, none⟩) (hC _ h.ms)).trans h.cs, (h.sl.keep fun k hk => hb.block k (hC k hk)).more fun k hk => .inl hk⟩
 · rintro (h1 | h1)
   · exact h.nb h1
   · have := h.bld.lt; omega
 · rintro k (h1 | h1) hk c fz
   · rw [hb.block k (hC k h1)]; exact h.no k h1 hk c fz
   · exact hn k h1.1 c fz
theorem BJ.written {C : Nat -> Prop} {s s' : List UInt8} {w w' : World} (h : BJ xs vR bg bs b B C s w) (hbl : zec B b s' w') (hb : Below B w w') (hk : Lib.OthersKept 5 (some b) w w') (hC : ∀ k, C k -> k < w.heap.size) : BJ xs vR bg bs b B C s' w' /\ Wk C w w' := by
 have hblk : ∀ k, C k -> w'.heap[k]? = w.heap[k]? := fun k hk' => by
  rcases Nat.lt_or_ge k B with hkB | hkB
  · exact hb.block k hkB
  obtain ⟨o, ho⟩ : ∃ o, w.heap[k]? = some o := ⟨_, Array.getElem?_eq_getElem (hC k hk')⟩
  rw [ho]; exact hk k o ho (fun e => h.nb (by have : k = b := Option.some.inj e; rw [<- this]; exact hk')) (fun c fz e => h.no k hk' hkB c fz (by rw [ho, e]))
 have hw : Wk C w w' := ⟨hb.os, hb.tape, hb.output, hb.size, hblk⟩
 exact ⟨⟨hbl, Nat.le_trans h.hB hb.size, h.nb, fun k hk' hkB c fz => by rw [hblk k hk']; exact h.no k hk' hkB c fz, h.mg, h.ms, hw.cell h.mg h.cg, hw.cell h.ms h.cs, h.sl.keep hw.keep⟩, hw⟩
theorem zmv (ls : List Int) (hl : zaX xs = some ls) : ∀ (r : Nat) (s : List UInt8) (C : Nat -> Prop) (w : World), r < xs.length -> BJ xs vR bg bs b B C s w -> (∀ k, C k -> k < w.heap.size) -> s.length + (W1 xs r).length <= 1099511627776 ->
  Calls Tryz.prog 180 #[.int .i64 r, .pointer (some ⟨bg, 0, none⟩), .pointer (some ⟨bs, 0, none⟩), .pointer (some ⟨b, 0, none⟩)] w (zdC (BJ xs vR bg bs b B) C (s ++ W1 xs r) w) := by
 intro r
 induction r using Nat.strongRecOn with
 | _ r ih =>
   intro s C w hr hJ hC hlen; have HJ := yq hJ; have HC := yq hC; have Ih := yq ih; have hcg := hJ.cg; have hcs := hJ.cs; obtain ⟨AR, cR, rfl, _, _, hrowR⟩ := hJ.sl; obtain ⟨b2, o2, rfl, hb2, hcellR⟩ := hrowR.rule hr; obtain ⟨k0, k1, k2⟩ := hcellR r _ (zcf hr); have hrx : (r : Int) < (xs.length : Int) := by omega
   have lbg : bg < w.heap.size := hC _ hJ.mg; have lbs : bs < w.heap.size := hC _ hJ.ms; have lb2 : b2 < w.heap.size := hC _ hb2; have eg : ∀ args w, (callFunc 180 args).run Tryz.prog w = .ok (.enter 180 args) w := enters_of Tryz.func180 yk rfl; obtain ⟨R, hR⟩ : ∃ R, zav xs r = R := ⟨_, rfl⟩
   rw [hR] at k0 k1 k2; have HR := yq hR; have Hlen := yq hlen; clear ih hJ hC hrowR hcellR hb2 hR hlen; have hBA : ∀ o o', Below w.heap.size w ((w.alloc o).alloc o') := fun o o' => ((Below.refl _ _).alloc yL _).alloc yS _; have HBA := yq hBA; clear hBA; go_enter Tryz.func180, Tryz.ntmps180
   go_wp2_with fail
   refine (zbw _ _ _ _).mono ?_
   rintro e w1 ⟨rfl, rfl⟩; have hN : zc4 w.heap.size ((w.alloc (Obj.cells #[Value.string R.letter, Value.int IntKind.i64 R.left, Value.int IntKind.i64 R.right] 112)).alloc (Obj.cells #[Value.string R.letter, Value.int IntKind.i64 R.left, Value.int IntKind.i64 R.right] 112)) := ((zc4.same w).alloc (NoB.cells (by decide))).alloc (NoB.cells (by decide)); have hB2 := HBA.o (Obj.cells #[Value.string R.letter, Value.int IntKind.i64 R.left, Value.int IntKind.i64 R.right] 112) (Obj.cells #[Value.string R.letter, Value.int IntKind.i64 R.left, Value.int IntKind.i64 R.right] 112); have e0 : ((w.alloc (Obj.cells #[Value.string R.letter, Value.int IntKind.i64 R.left, Value.int IntKind.i64 R.right] 112)).alloc (Obj.cells #[Value.string R.letter, Value.int IntKind.i64 R.left, Value.int IntKind.i64 R.right] 112)).heap[w.heap.size]? = some (Obj.cells #[Value.string R.letter, Value.int IntKind.i64 R.left, Value.int IntKind.i64 R.right] 112 (0, 0)) := ((Below.refl _ _).alloc yL _).block w.heap.size yS |>.trans (heap_alloc_new _ _)
   generalize (w.alloc (Obj.cells #[Value.string R.letter, Value.int IntKind.i64 R.left, Value.int IntKind.i64 R.right] 112)).alloc (Obj.cells #[Value.string R.letter, Value.int IntKind.i64 R.left, Value.int IntKind.i64 R.right] 112) = W2 at *; have l0 : w.heap.size < W2.heap.size := (Array.getElem?_eq_some_iff.1 e0).1
   have d0 : W2.cell? ⟨w.heap.size, 0, none⟩ = some (.string R.letter) := by simp [World.cell?, e0]
   have d1 : W2.cell? ⟨w.heap.size, 1, none⟩ = some (.int .i64 R.left) := by simp [World.cell?, e0]
   have d2 : W2.cell? ⟨w.heap.size, 2, none⟩ = some (.int .i64 R.right) := by simp [World.cell?, e0]
   have J2 := BJ.ext C s w W2 HJ.o hB2 hN HC.o
   have hCx : ∀ k, ext C w.heap.size W2.heap.size k -> k < W2.heap.size := fun k hk => by
    rcases hk with hk | hk
    · have := HC.o k hk; omega
    · exact hk.2
   have HJ2 := yq J2; have HCx := yq hCx; have HB2 := yq hB2; have hcg2 := J2.cg; have hcs2 := J2.cs; clear hN hB2 e0 J2 hCx hcg hcs k0 k1 k2; by_cases hp : R.letter.toList.isEmpty = true
   · rw [hp]
     have hpr : (zav xs r).pair = true := by rw [HR.o]; rw [zan] at hp; exact hp
     obtain ⟨q1, q2, q3, q4, q5⟩ := zbg hl hr hpr; have hW := zd4 hl hr hpr; rw [HR.o] at q1 q2 q3 q4 hW; obtain ⟨la, hla⟩ := Int.eq_ofNat_of_zero_le q1; obtain ⟨ra, hra⟩ := Int.eq_ofNat_of_zero_le q3; rw [hla] at q2 d1; rw [hra] at q4 d2; rw [hla, hra] at hW; simp only [Int.toNat_natCast] at q2 q4 hW
     have HW := yq hW; have hlenA : s.length + (W1 xs la).length <= 1099511627776 := by have := Hlen.o; rw [hW, List.length_append] at this; omega
     have hlenB : (s ++ W1 xs la).length + (W1 xs ra).length <= 1099511627776 := by have := Hlen.o; rw [hW, List.length_append] at this; rw [List.length_append]; omega
     have HlA := yq hlenA; have HlB := yq hlenB; clear hpr hp q5 hW q1 q3 hla hra hlenA hlenB; go_wp2_with fail
     refine (Ih.o la q2 s _ W2 yO HJ2.o HCx.o HlA.o).mono ?_
     rintro e w3 ⟨rfl, C3, g1, g2, g3, g4⟩; have d2' : w3.cell? ⟨w.heap.size, 2, none⟩ = some (.int .i64 ra) := g4.cell (Or.inr ⟨Nat.le_refl _, l0⟩) d2; have hcs3 := g3.cs; have HJ3 := yq g3; have G1 := yq g1; have G2 := yq g2; have G4 := yq g4; clear g1 g2 g3 g4 hcs2 hcg2 d1 d2 d0; go_wp2_with fail
     refine (Ih.o ra q4 (s ++ W1 xs la) _ w3 yO HJ3.o G2.o HlB.o).mono ?_
     rintro e w4 ⟨rfl, C4, k1, k2, k3, k4⟩; go_wp2_with fail
     go_end0
     refine ⟨rfl, C4, fun k hk => k1 _ (G1.o _ (.inl hk)), k2, ?_, ?_⟩
     · rw [HW.o, <- List.append_assoc]; exact k3
     · exact ((Wk.of_below HB2.o HC.o).trans (G4.o.mono fun k hk => .inl hk)).trans (k4.mono fun k hk => G1.o _ (.inl hk))
   · have hp2 : R.letter.toList.isEmpty = false := by simpa using hp
     have hpr : (zav xs r).pair = false := by rw [HR.o]; rw [zan] at hp2; exact hp2
     have hW := zcH hpr; have hsz := zcQ (zcP hl hr hpr); rw [HR.o] at hW hsz; have HW := yq hW
     have hlenA : s.length + R.letter.size <= 140737488355328 := by
      have := Hlen.o; omega
     rw [hp2]; clear hp hpr hW hp2 hcs2 hcg2; have W := yq (zgK B b s R.letter W2 HJ2.o.bld hlenA HJ2.o.hB); go_wp2_with fail
     refine W.o.mono ?_
     rintro e w3 ⟨rfl, hb3, hbl3, ho3⟩; obtain ⟨J3, hw3⟩ := HJ2.o.written hb3 hbl3 ho3 HCx.o; go_wp2_with fail
     go_end0
     refine ⟨rfl, _, fun k hk => .inl hk, fun k hk => Nat.lt_of_lt_of_le (HCx.o k hk) hw3.size, ?_, (Wk.of_below HB2.o HC.o).trans (hw3.mono fun k hk => .inl hk)⟩
     rw [HW.o]; exact J3
end
theorem zho (f : Nat -> List UInt8) (l : List Nat) (s : List UInt8) : l.foldl (fun s r => s ++ f r) s = s ++ l.flatMap f := by
 induction l generalizing s with
 | nil => simp
 | cons a l ih => rw [List.foldl_cons, ih]; simp
theorem zlc (vR vL : Value) (xs : List zaa) (ls : List Int) (i j : Int) (w : World) (hR : Sl zas w w.heap.size vR xs) (hL : Sl zfZ w w.heap.size vL ls) (hl : zaX xs = some ls) (hn : xs.length <= 1099511627776)
  (hlen : (zbD (zau xs) i j).length <= 1099511627776) :
  Calls Tryz.prog 145 #[.agg #[vR], vL, .int .i64 i, .int .i64 j] w fun e w' => e = .returned (.string ⟨(zbD (zau xs) i j).toArray⟩) /\ Below w.heap.size w w' := by
 have HR := yq hR; have HL := yq hL; obtain ⟨AR, cR, rfl, _⟩ := hR; obtain ⟨AL, cL, rfl, _⟩ := hL; have hword := zeE hl (i := i) (j := j); have Hword := yq hword; have Hl := yq hl; clear hword hl; go_enter Tryz.func145, Tryz.ntmps145
 go_wp2_with fail
 have hz0 : (((w.alloc (Obj.cells #[Value.slice AR xs.length cR] 26)).alloc (Obj.cells #[Value.pointer none, Value.slice none 0 0] 148)).alloc (Obj.cells #[Value.func (Fn.func 180) #[] #[Value.pointer (some ⟨w.heap.size, 0, none⟩), Value.pointer (some ⟨w.heap.size + 1 + 1, 0, none⟩), Value.pointer (some ⟨w.heap.size + 1, 0, none⟩)]] 185)).heap.size = w.heap.size + 3 := by simp
 have hB0 : Below w.heap.size w (((w.alloc (Obj.cells #[Value.slice AR xs.length cR] 26)).alloc (Obj.cells #[Value.pointer none, Value.slice none 0 0] 148)).alloc (Obj.cells #[Value.func (Fn.func 180) #[] #[Value.pointer (some ⟨w.heap.size, 0, none⟩), Value.pointer (some ⟨w.heap.size + 1 + 1, 0, none⟩), Value.pointer (some ⟨w.heap.size + 1, 0, none⟩)]] 185)) := yb; have hx0 : (((w.alloc (Obj.cells #[Value.slice AR xs.length cR] 26)).alloc (Obj.cells #[Value.pointer none, Value.slice none 0 0] 148)).alloc (Obj.cells #[Value.func (Fn.func 180) #[] #[Value.pointer (some ⟨w.heap.size, 0, none⟩), Value.pointer (some ⟨w.heap.size + 1 + 1, 0, none⟩), Value.pointer (some ⟨w.heap.size + 1, 0, none⟩)]] 185)).cell? ⟨w.heap.size, 0, none⟩ = some (.slice AR xs.length cR) := by simp [go_sem]
 have hx2 : (((w.alloc (Obj.cells #[Value.slice AR xs.length cR] 26)).alloc (Obj.cells #[Value.pointer none, Value.slice none 0 0] 148)).alloc (Obj.cells #[Value.func (Fn.func 180) #[] #[Value.pointer (some ⟨w.heap.size, 0, none⟩), Value.pointer (some ⟨w.heap.size + 1 + 1, 0, none⟩), Value.pointer (some ⟨w.heap.size + 1, 0, none⟩)]] 185)).cell? ⟨w.heap.size + 2, 0, none⟩ = some (.func (.func 180) #[] #[.pointer (some ⟨w.heap.size, 0, none⟩), .pointer (some ⟨w.heap.size + 2, 0, none⟩), .pointer (some ⟨w.heap.size + 1, 0, none⟩)]) := by simp [go_sem]
 have hx1 : (((w.alloc (Obj.cells #[Value.slice AR xs.length cR] 26)).alloc (Obj.cells #[Value.pointer none, Value.slice none 0 0] 148)).alloc (Obj.cells #[Value.func (Fn.func 180) #[] #[Value.pointer (some ⟨w.heap.size, 0, none⟩), Value.pointer (some ⟨w.heap.size + 1 + 1, 0, none⟩), Value.pointer (some ⟨w.heap.size + 1, 0, none⟩)]] 185)).heap[w.heap.size + 1]? = some (.cells #[.pointer none, .slice none 0 0] 148 (0, 0)) := by
  have h1 : ((w.alloc (Obj.cells #[Value.slice AR xs.length cR] 26)).alloc (Obj.cells #[Value.pointer none, Value.slice none 0 0] 148)).heap[w.heap.size + 1]? = some (.cells #[.pointer none, .slice none 0 0] 148 (0, 0)) := by
   have := heap_alloc_new (w.alloc (Obj.cells #[Value.slice AR xs.length cR] 26)) (Obj.cells #[Value.pointer none, Value.slice none 0 0] 148); rwa [show (w.alloc (Obj.cells #[Value.slice AR xs.length cR] 26)).heap.size = w.heap.size + 1 by simp] at this
  exact (Below.heap_alloc _ _ _ yS).trans h1
 have hnb : ∀ c fz, (((w.alloc (Obj.cells #[Value.slice AR xs.length cR] 26)).alloc (Obj.cells #[Value.pointer none, Value.slice none 0 0] 148)).alloc (Obj.cells #[Value.func (Fn.func 180) #[] #[Value.pointer (some ⟨w.heap.size, 0, none⟩), Value.pointer (some ⟨w.heap.size + 1 + 1, 0, none⟩), Value.pointer (some ⟨w.heap.size + 1, 0, none⟩)]] 185)).heap[w.heap.size + 2]? ≠ some (.cells c 5 fz) := fun c fz => (((((zc4.same w).alloc (NoB.cells (by decide))).alloc (NoB.cells (by decide))).alloc (NoB.cells (by decide)))) (w.heap.size + 2) yO c fz; generalize ((w.alloc (Obj.cells #[Value.slice AR xs.length cR] 26)).alloc (Obj.cells #[Value.pointer none, Value.slice none 0 0] 148)).alloc (Obj.cells #[Value.func (Fn.func 180) #[] #[Value.pointer (some ⟨w.heap.size, 0, none⟩), Value.pointer (some ⟨w.heap.size + 1 + 1, 0, none⟩), Value.pointer (some ⟨w.heap.size + 1, 0, none⟩)]] 185) = w0 at *
 have hJ : BJ xs (.slice AR xs.length cR) w.heap.size (w.heap.size + 2) (w.heap.size + 1) (w.heap.size + 1) (fun k => k < w.heap.size + 1 \/ k = w.heap.size + 2) [] w0 := by
  refine ⟨.inl ⟨Nat.le_refl _, _, hx1, World.ownsRow_nil _ _ _ _, by simp [Value.ownBlock]⟩, by omega, by omega, ?_, .inl yO, .inr rfl, hx0, hx2, ?_⟩
  · rintro k (h | h) hk c fz
    · omega
    · subst h; exact hnb c fz
  · exact (HR.o.below hB0).more fun k hk => .inl yO
 have HB0 := yq hB0; have HJ := yq hJ; have HZ0 := yq hz0; clear hz0 hB0 hx0 hx1 hx2 hnb hJ; have hcnt : ∀ l : List Nat, (l.foldl (fun s r => s ++ W1 xs r) []).length = (l.flatMap (W1 xs)).length := fun l => by rw [zho]; simp
 refine (zfl (BJ xs (.slice AR xs.length cR) w.heap.size (w.heap.size + 2) (w.heap.size + 1) (w.heap.size + 1)) (fun s r => s ++ W1 xs r) (fun s r => s.length + (W1 xs r).length <= 1099511627776) 180 #[.pointer (some ⟨w.heap.size, 0, none⟩), .pointer (some ⟨w.heap.size + 2, 0, none⟩), .pointer (some ⟨w.heap.size + 1, 0, none⟩)] xs ls i j Hl.o hn (enters_of Tryz.func180 yk rfl) BJ.ext
  (fun C s r w' hJ hok hr hC => zmv ls Hl.o r s C w' hr hJ hC hok) (.slice AL ls.length cL) (.slice AR xs.length cR) [] (fun k => k < w.heap.size + 1 \/ k = w.heap.size + 2) w0 HJ.o ?_ ?_ ?_ HJ.o.sl).mono ?_
 · intro l1 r l2 e
   rw [hcnt]; have := congrArg (fun l => (l.flatMap (W1 xs)).length) e; simp only [Hword.o, List.flatMap_append, List.flatMap_cons, List.length_append] at this
   omega
 · intro k hk
   have := HZ0.o; omega
 · exact (HL.o.below HB0.o).more fun k hk => .inl yO
 rintro e w2 ⟨rfl, C2, g1, g2, g3, g4⟩; rw [zho, List.nil_append, Hword.o] at g3; have hb2 : Below (w.heap.size + 1) w0 w2 := g4.below fun k hk => .inl hk; have HB2 := yq (HB0.o.trans (hb2.mono yO)); have S := yq (g3.bld.string g3.hB); have hs2 : w.heap.size <= w2.heap.size := by have := g3.hB; omega
 clear g1 g2 g3 g4 hb2 hcnt; go_wp2_with fail
 refine S.o.mono ?_
 rintro e w3 ⟨rfl, hb3⟩; go_wp2_with fail
 go_ret
 exact ⟨rfl, HB2.o.trans (hb3.mono yO)⟩
theorem zg0 (v : Value) (xs : List zaa) (ls : List Int) (i j : Int) (w : World) (h : Sl zas w w.heap.size v xs) (hn : xs.length <= 400) (hl : zaX xs = some ls) (hij : 0 <= i /\ i <= j /\ j <= zai ls) :
  Calls Tryz.prog 107 #[.agg #[v], .int .i64 i, .int .i64 j] w fun e w' => e = .returned (.tuple #[.string (if j - i > 2000 then ⟨#[]⟩ else ⟨(zbD (zau xs) i j).toArray⟩), .int .i64 (if j - i > 2000 then 3 else 0)]) /\ Below w.heap.size w w' := by
 have h1 := fun o => (h.below ((Below.refl w.heap.size w).alloc yL o)).le (B' := (w.alloc o).heap.size) yS; have H1 := yq h1; clear h1; obtain ⟨A, c, rfl, _⟩ := h; have Hl := yq hl
 have hcl : (zbD (zau xs) i j).length = (j - i).toNat := by
  have hw := zaQ hl; have := zcz (l := zau xs) hij.1 hij.2.1 yO; omega
 have Hcl := yq hcl
 have hlast : zai ls <= 1000000000000000 := by
  by_cases h0 : 0 < xs.length
  · rw [zj0 hl h0]; exact (zaP hl yO).2
  · have : ls = [] := yn (by rw [zaF hl]; omega)
    subst this; decide
 clear hl hcl; go_enter Tryz.func107, Tryz.ntmps107
 go_wp2_with fail
 refine (zcp _ xs _ (H1.o _) yO).mono ?_
 rintro e w1 ⟨hb1, hpost⟩
 have hcase : ∃ vv, e = .returned (.tuple #[vv, .bool true]) /\ Sl zfZ w1 w1.heap.size vv ls := by
  rcases hpost with ⟨l2, vv, hl2, he, ho⟩ | ⟨hl2, he⟩
  · have e2 : l2 = ls := by have := Hl.o; rw [hl2] at this; exact Option.some.inj this
    subst e2; exact ⟨vv, by rw [he]; simp [hn], ho.sl⟩
  · rw [Hl.o] at hl2; cases hl2
 obtain ⟨vv, rfl, hL⟩ := hcase; have hz1 : w.heap.size < w1.heap.size := by have := hb1.size; simp at this; omega
 have a1 : w1.cell? ⟨w.heap.size, 0, none⟩ = some (.slice A xs.length c) := (hb1.cell (p := ⟨w.heap.size, 0, none⟩) yS).trans (by simp [go_sem]); have S1 := yq ((H1.o (Obj.cells #[Value.slice A xs.length c] 26)).up hb1); have B1 := yq (((Below.refl w.heap.size w).alloc yL (Obj.cells #[Value.slice A xs.length c] 26)).trans (hb1.mono yS)); have HL := yq hL; obtain ⟨AL, cL, rfl, _⟩ := hL; obtain ⟨i1, i2, i3⟩ := hij; have hw1 : inR i 0 j = true := by simp [inR, i1, i2]
 have hgt : ¬ (j > zai ls) := by omega
 clear hb1 hpost; go_wp2_with fail
 refine (zcN _ _ _ _ hw1).mono ?_
 rintro e w' ⟨rfl, rfl⟩; go_wp2_with fail
 refine (zdE _ ls _ HL.o).mono ?_
 rintro e w' ⟨rfl, rfl⟩; by_cases hbig : j - i > 2000
 · go_wp2_with fail
   go_ret2
   exact ⟨by first | rfl | (simp only [if_pos hbig]; rfl), B1.o⟩
 · go_wp2_with fail
   refine (zlc _ _ xs ls i j _ S1.o HL.o Hl.o yO (by rw [Hcl.o]; omega)).mono ?_
   rintro e w2 ⟨rfl, hb2⟩; go_wp2_with fail
   go_ret2
   exact ⟨by first | rfl | (simp only [if_neg (show ¬ j - i > 2000 by omega)]; rfl), B1.o.trans (hb2.mono yO)⟩
def upV (xs : List zaa) : List UInt8 := if zaf xs && decide ((zau xs).length <= 2000) then zau xs else []
def upC (xs : List zaa) : Int := if zaf xs then (if (zau xs).length <= 2000 then 0 else 3) else 1
theorem zg1 (v : Value) (xs : List zaa) (w : World) (h : Sl zas w w.heap.size v xs) (hn : xs.length <= 1048576) :
  Calls Tryz.prog 52 #[.agg #[v]] w fun e w' => e = .returned (.tuple #[.string ⟨(upV xs).toArray⟩, .int .i64 (upC xs)]) /\ Below w.heap.size w w' := by
 have h1 := fun o => (h.below ((Below.refl w.heap.size w).alloc yL o)).le (B' := (w.alloc o).heap.size) yS; have H1 := yq h1; clear h1; obtain ⟨A, c, rfl, _⟩ := h; go_enter Tryz.func52, Tryz.ntmps52
 go_wp2_with fail
 refine (zc5 _ xs _ (H1.o _) yO).mono ?_
 rintro e w1 ⟨rfl, hb1⟩; have hz1 : w.heap.size < w1.heap.size := by have := hb1.size; simp at this; omega
 have a1 : w1.cell? ⟨w.heap.size, 0, none⟩ = some (.slice A xs.length c) := (hb1.cell (p := ⟨w.heap.size, 0, none⟩) yS).trans (by simp [go_sem]); have S1 := yq ((H1.o (Obj.cells #[Value.slice A xs.length c] 26)).up hb1); have B1 := yq (((Below.refl w.heap.size w).alloc yL (Obj.cells #[Value.slice A xs.length c] 26)).trans (hb1.mono yS)); clear hb1; by_cases hok : zaf xs = true
 · obtain ⟨h4, ls, hl⟩ := zag hok
   have hV : zjW xs = zai ls := by simp [zjW, hok, zaq hl]
   have hC : zlq xs = 0 := by simp [zlq, hok]
   have hw := zaQ hl; have Hl := yq hl; have Hw := yq hw; have Hok := yq hok; rw [hV, hC]; clear hV hC hl hw hok; go_wp2_with fail
   have hp0 : 0 <= zai ls := by have := Hw.o; omega
   have hw := Hw.o; have hcut : zbD (zau xs) 0 (zai ls) = zau xs := zf4 (Int.le_refl _) yO; have U := zg0 _ xs ls 0 (zai ls) _ S1.o h4 Hl.o ⟨Int.le_refl _, hp0, Int.le_refl _⟩; rw [hcut] at U; by_cases hb : (zau xs).length <= 2000
   · have e1 : upV xs = zau xs := by simp [upV, Hok.o, hb]
     have e2 : upC xs = 0 := by simp [upC, Hok.o, hb]
     have e3 : ¬ (zai ls - 0 > 2000) := by omega
     rw [if_neg e3, if_neg e3] at U; have HU := yq U; have E1 := yq e1; have E2 := yq e2; clear e1 e2 e3 U hcut hw hb hp0; refine HU.o.mono ?_
     rintro e w2 ⟨rfl, hb2⟩; go_wp2_with fail
     go_ret2
     exact ⟨by rw [E1.o, E2.o]; rfl, B1.o.trans (hb2.mono yO)⟩
   · have e1 : upV xs = [] := by simp [upV, hb]
     have e2 : upC xs = 3 := by simp [upC, Hok.o, hb]
     have e3 : zai ls - 0 > 2000 := by omega
     rw [if_pos e3, if_pos e3] at U; have HU := yq U; have E1 := yq e1; have E2 := yq e2; clear e1 e2 e3 U hcut hw hb hp0; refine HU.o.mono ?_
     rintro e w2 ⟨rfl, hb2⟩; go_wp2_with fail
     go_ret2
     exact ⟨by rw [E1.o, E2.o]; rfl, B1.o.trans (hb2.mono yO)⟩
 · have hV : zjW xs = 0 := by simp [zjW, hok]
   have hC : zlq xs = 1 := by simp [zlq, hok]
   have e1 : upV xs = [] := by simp [upV, hok]
   have e2 : upC xs = 1 := by simp [upC, hok]
   have E1 := yq e1; have E2 := yq e2; rw [hV, hC]; clear hV hC e1 e2 hok; go_wp2_with fail
   go_ret2
   exact ⟨by rw [E1.o, E2.o]; rfl, B1.o⟩
section
variable {wE wx : World} {e : zap} {v : Value}
end
theorem zkX.at {w : World} {base g cap : Nat} {l : List ByteArray} (h : zkX w base (.slice (some ⟨g, 0, none⟩) l.length cap) l) {k : Nat} {x : ByteArray} (hk : l[k]? = some x) : w.cell? ⟨g, k, none⟩ = some (.string x) := by
 have hlt : k < l.length := (List.getElem?_eq_some_iff.1 hk).1
 have := World.ownsRow.cellAt h k yO; rw [this, List.getElem?_map, hk]; rfl
section
variable {κ : Int} {x1 x2 x3 : ByteArray} {e : zap}
end
theorem zo0 {xs : List zaa} (h : zaf xs = false) : upV xs = [] /\ upC xs = 1 := by simp [upV, upC, h]
theorem zop {xs : List zaa} (h : zaf xs = true) (hl : ¬ (zau xs).length <= 2000) : upV xs = [] /\ upC xs = 3 := by
 unfold upV upC; rw [h, decide_eq_false hl]; simp [hl]
theorem zoq {xs : List zaa} (h : zaf xs = true) (hl : (zau xs).length <= 2000) : upV xs = zau xs /\ upC xs = 0 := by
 unfold upV upC; rw [h, decide_eq_true hl]; simp [hl]
theorem zfd (v : Value) (xs : List zaa) (w : World) (h : Sl zas w w.heap.size v xs) (hsm : za5 xs) :
  Calls Tryz.prog 33 #[.agg #[v]] w fun e w' => e = .returned (.tuple #[.string ⟨(upV xs).toArray⟩, .int .i64 (upC xs)]) /\ Below w.heap.size w w' := by
 have HG := yq h; obtain ⟨A, c, rfl, _⟩ := h; have b1 := (Below.refl w.heap.size w).alloc yL (Obj.cells #[.slice A xs.length c] 26); have KP := Blk.new w #[.slice A xs.length c] 26; go_enter Tryz.func33, Tryz.ntmps33
 go_upto_region 1 with fail
 generalize (w.alloc (Obj.cells #[.slice A xs.length c] 26)) = w0 at *; have KB := yq b1; clear b1; have cP0_1 := Blk.cell (i := 0) (v := .slice A xs.length c) KP rfl; have lP_2 := Blk.lt KP; go_wp2_with fail
 refine (zbf w.heap.size 0 _ xs _ cP0_1 (Blk.lt KP) (HG.o.up KB.o) hsm).mono ?_
 rintro e w1 ⟨rfl, hb_3⟩; have z_w1 : w0.heap.size <= w1.heap.size := hb_3.size; have KB_4 := yq (Below.tr KB.o hb_3); have KP_5 := Blk.up KP hb_3; clear cP0_1 lP_2 KB KP; cases hg : zaf xs with
 | false =>
   have HQ := yq (zo0 hg); clear hg; go_wp2_with fail
   go_ret2
   exact ⟨by rw [HQ.o.1, HQ.o.2]; rfl, KB_4.o⟩
 | true =>
   obtain ⟨h4, ls, hl⟩ := zag hg; have HGG := yq hg; have HL := yq hl; have hwl := zaQ hl; have hlb := zd0 hl; clear hg hl; have cP0_6 := Blk.cell (i := 0) (v := .slice A xs.length c) KP_5 rfl; have lP_7 := Blk.lt KP_5; go_wp2_with fail
   refine (zbn w.heap.size 0 _ xs ls _ HL.o cP0_6 (Blk.lt KP_5) (HG.o.up KB_4.o) hsm yO).mono ?_
   rintro e w2 ⟨rfl, hb_8⟩; have z_w2 : w1.heap.size <= w2.heap.size := hb_8.size; have KB_9 := yq (Below.tr KB_4.o hb_8); have KP_10 := Blk.up KP_5 hb_8; clear hb_3 cP0_6 lP_7 KB_4 KP_5; by_cases hbig : (2000 : Int) < zai ls
   · have HQ := yq (zop HGG.o yO)
     go_wp2_with fail
     go_ret2
     exact ⟨by rw [HQ.o.1, HQ.o.2]; rfl, KB_9.o⟩
   · have HQ := yq (zoq HGG.o yO)
     have hcut : zbD (zau xs) 0 (zai ls) = zau xs := zf4 (Int.le_refl _) yO; have HC := yq hcut; clear hcut; have cP0_11 := Blk.cell (i := 0) (v := .slice A xs.length c) KP_10 rfl; have lP_12 := Blk.lt KP_10; go_wp2_with fail
     refine (zfa w.heap.size 0 _ xs ls 0 (zai ls) _ cP0_11 (Blk.lt KP_10) (HG.o.up KB_9.o) hsm HL.o h4 yO yO yO yO).mono ?_
     rintro e w3 ⟨rfl, hb_13⟩; have z_w3 : w2.heap.size <= w3.heap.size := hb_13.size; have KB_14 := yq (Below.tr KB_9.o hb_13); have KP_15 := Blk.up KP_10 hb_13; clear hb_8 cP0_11 lP_12 KB_9 KP_10; go_wp2_with fail
     go_ret2
     exact ⟨by rw [HQ.o.1, HQ.o.2, HC.o]; rfl, KB_14.o⟩
theorem zfV (v : Value) (xs : List zaa) (w : World) (h : Sl zas w w.heap.size v xs) (hsm : za5 xs) :
  Calls Tryz.prog 8 #[.agg #[v]] w fun e w' => e = .returned (.string ⟨(upV xs).toArray⟩) /\ Below w.heap.size w w' := by
 have HG := yq h; obtain ⟨A, c, rfl, _⟩ := h; go_enter Tryz.func8, Tryz.ntmps8
 go_wp2_with fail
 refine (zfd _ xs _ (HG.o.up yb) hsm).mono ?_
 rintro e w1 ⟨rfl, hb⟩; go_wp2_with fail
 go_ret
 exact ⟨rfl, (Below.unalloc hb).1⟩
section
variable {ts ts' : TypeId -> Prop} {w w' w'' : World}
end
end Go.Proofs.YtdacndamehiglaaGreatDoor
