import Derived.Test.YtdacndamehiglaaGreatDoorM7
import Derived.Deep.RegionWith
import Derived.Shelf.Small.Strs
import Derived.Shelf.Utf8.RuneCount
import Derived.Shelf.LaysM
import Derived.Shelf.Strings.Search1
import Derived.Shelf.Strings.Search2
import Derived.Shelf.Strings.Search3
import Derived.Shelf.Strings.Count
import Derived.Shelf.Strings.Shaped
import Derived.Shelf.Strings.Split
import Derived.Shelf.Strings.SplitShaped
import Derived.Shelf.Strings.RuneCount
import Derived.Shelf.Strings.Explode
import Derived.Test.YtdacndamehiglaaGreatDoorProg
import Derived.Lib.UnsafeStr
import Derived.Laws.IdiomStrings
set_option maxRecDepth 100000
set_option maxHeartbeats 8000000
namespace Go.Proofs.YtdacndamehiglaaGreatDoor
theorem zdp {xs : List zaa} (h : zaS xs) {r : Nat} (hx : r < xs.length) (hp : (zav xs r).pair = true) :
  0 <= (zav xs r).left /\ (zav xs r).left.toNat < r /\ 0 <= (zav xs r).right /\ (zav xs r).right.toNat < r := zbk (h r _ (zcf hx)) hp
theorem zgo {xs : List zaa} (h : zaS xs) : ∀ (f r : Nat), r < f -> r < xs.length -> zcJ xs f r = W1 xs r := by
 intro f
 induction f using Nat.strongRecOn with
 | _ f ih =>
   intro r hr hx; obtain ⟨g, rfl⟩ : ∃ g, f = g + 1 := ⟨f - 1, by omega⟩
   unfold W1; rw [zcJ, zcJ]; cases hp : (zav xs r).pair with
   | false => rfl
   | true =>
     obtain ⟨q1, q2, q3, q4⟩ := zdp h hx hp; rw [if_pos rfl, if_pos rfl, ih g yO _ yO yO, ih g yO _ yO yO]; by_cases e : r = g
     · subst e
       rw [ih r yO _ yO yO, ih r yO _ yO yO]
     · rw [ih r yO _ q2 yO, ih r yO _ q4 yO]
theorem zbM {xs : List zaa} (h : zaS xs) {r : Nat} (hx : r < xs.length) (hp : (zav xs r).pair = true) : W1 xs r = W1 xs (zav xs r).left.toNat ++ W1 xs (zav xs r).right.toNat := by
 obtain ⟨q1, q2, q3, q4⟩ := zdp h hx hp; rw [W1, zcJ, if_pos hp, zgo h r _ q2 yO, zgo h r _ q4 yO]
theorem zjk {xs : List zaa} (h : zaS xs) {i j : Nat} (hi : i < xs.length) (hj : j < xs.length) (e : zav xs i = zav xs j) : W1 xs i = W1 xs j := by
 cases hp : (zav xs i).pair with
 | true => rw [zbM h hi hp, zbM h hj (by rw [<- e]; exact hp), e]
 | false => rw [zcH hp, zcH (by rw [<- e]; exact hp), e]
theorem zdq {xs ys : List zaa} (h : zaS xs) (h' : zaS (xs ++ ys)) : ∀ (r : Nat), r < xs.length -> W1 (xs ++ ys) r = W1 xs r := by
 intro r
 induction r using Nat.strongRecOn with
 | _ r ih =>
   intro hx; have e : zav (xs ++ ys) r = zav xs r := zbW hx; cases hp : (zav xs r).pair with
   | true =>
     obtain ⟨q1, q2, q3, q4⟩ := zdp h hx hp; rw [zbM h hx hp, zbM h' (by simp; omega) (by rw [e]; exact hp), e, ih _ q2 yO, ih _ q4 yO]
   | false => rw [zcH hp, zcH (by rw [e]; exact hp), e]
theorem zfo {xs : List zaa} (h : zaS xs) {r : Nat} (hx : r < xs.length) (hp : (zav xs r).pair = false) : (W1 xs r).length = 1 := by
 rw [zcH hp]; have := (zb9 (h r _ (zcf hx)) hp).1; rw [Array.length_toList]; exact this
theorem zhw {xs : List zaa} (h : zaS xs) (hm : ∀ r, r < xs.length -> ((W1 xs r).length : Int) <= zdQ) : ∃ ls, zaX xs = some ls := by
 suffices H : ∀ k, k <= xs.length -> ∃ out, zaX (xs.take k) = some out /\ out.length = k /\ ∀ r, r < k -> out.getD r 0 = ((W1 xs r).length : Int) by
  obtain ⟨out, h1, _⟩ := H xs.length yL; rw [List.take_length] at h1; exact ⟨out, h1⟩
 intro k
 induction k with
 | zero => intro _; exact ⟨[], rfl, rfl, fun r hr => absurd hr yO⟩
 | succ k ih =>
   intro hk; obtain ⟨out, h1, h2, h3⟩ := ih yO; have hr := zcf (xs := xs) (r := k) yO; have hok := h k _ hr
   have hlen : zaV out (zav xs k) = ((W1 xs k).length : Int) := by
    unfold zaV; cases hp : (zav xs k).pair with
    | true =>
      obtain ⟨q1, q2, q3, q4⟩ := zdp h yO hp; rw [if_pos rfl, h3 _ q2, h3 _ q4, zbM h yO hp, List.length_append]; omega
    | false => rw [if_neg yS, zfo h yO hp]; rfl
   have := hm k yO; refine ⟨_, zdW h1 hr (by rw [h2]; exact hok) (by rw [hlen]; exact this), by simp [h2], fun r hr => ?_⟩
   rcases Nat.lt_or_ge r k with hlt | hge
   · rw [zbB yO]; exact h3 r hlt
   · have : r = out.length := by omega
     subst this; rw [zcE, hlen, h2]
theorem zjl {xs : List zaa} {ls : List Int} (h : zaX xs = some ls) {r : Nat} (hx : r < xs.length) : ((W1 xs r).length : Int) <= zdQ := by
 rw [zd5 h r hx, yg, ye (by rw [zaF h]; exact hx)]; exact (zf2 h _ (List.getElem_mem _)).2
theorem zkF {S : List Int} {x : Int} {r : zaa} (h : r.pair = true -> r.left.toNat < S.length /\ r.right.toNat < S.length) : zcg (S ++ [x]) r = zcg S r := by
 cases hp : r.pair with
 | true => rw [zbR hp, zbR hp, zbB (h hp).1, zbB (h hp).2]
 | false => rw [zb1 hp, zb1 hp]
theorem zlL {xs : List zaa} (h : zaS xs) : ∀ k, k <= xs.length -> ∀ i, i < k -> zav (zbG (xs.take k)).1 i = zcg (zbG (xs.take k)).2 (zav xs i) := by
 intro k
 induction k with
 | zero => intro _ i hi; omega
 | succ k ih =>
   intro hk i hi; have H := ih yO; have C := zeT h k yO; have hr := zcf (xs := xs) (r := k) yO; rw [zej hr]; obtain ⟨K, S, hp⟩ : ∃ K S, zbG (xs.take k) = (K, S) := ⟨_, _, rfl⟩
   rw [hp] at H C |-
   have l1 : K.length = k := C.l1; have l2 : S.length = k := C.l2; show zav (K ++ [zcg S (zav xs k)]) i = zcg (S ++ [((K.idxOf (zcg S (zav xs k)) : Nat) : Int)]) (zav xs i)
   rw [zkF (fun hpr => by
    obtain ⟨q1, q2, q3, q4⟩ := zdp h (show i < xs.length by omega) hpr
    omega)]
   rcases Nat.lt_or_ge i k with hlt | hge
   · rw [zbW yO]; exact H i hlt
   · have : i = K.length := by omega
     subst this; rw [zcD, l1]
theorem zhe {xs : List zaa} (h : zaS xs) : ∀ i, i < xs.length -> W1 (zbG xs).1 i = W1 xs i := by
 have C := zcS h; have G := zlL h xs.length yL; rw [List.take_length] at G; obtain ⟨K, S, hp⟩ : ∃ K S, zbG xs = (K, S) := ⟨_, _, rfl⟩
 rw [hp] at C G |-
 have l1 : K.length = xs.length := C.l1; have cok : zaS K := C.ok; intro i
 induction i using Nat.strongRecOn with
 | _ i ih =>
   intro hi; show W1 K i = W1 xs i
   have e : zav K i = zcg S (zav xs i) := G i hi; cases hpr : (zav xs i).pair with
   | true =>
     obtain ⟨q1, q2, q3, q4⟩ := zdp h hi hpr; rw [zbR hpr] at e
     have key : ∀ j, j < i -> (S.getD j 0).toNat < K.length /\ W1 K (S.getD j 0).toNat = W1 xs j := by
      intro j hj; have h1 : S.getD j 0 = ((K.idxOf (zav K j) : Nat) : Int) := C.idx j yO; have hm : zav K j ∈ K := zeS yO; have hlt : K.idxOf (zav K j) < K.length := List.idxOf_lt_length_iff.2 hm; rw [h1, Int.toNat_natCast]; refine ⟨hlt, ?_⟩
      rw [<- ih j hj yO]; refine zjk cok hlt yO ?_
      exact (zby (ye hlt)).trans (List.getElem_idxOf hlt)
     have hpk : (zav K i).pair = true := by rw [e]; rfl
     rw [zbM cok yO hpk, zbM h hi hpr, e]; show W1 K (S.getD (zav xs i).left.toNat 0).toNat ++ W1 K (S.getD (zav xs i).right.toNat 0).toNat = _
     rw [(key _ q2).2, (key _ q4).2]
   | false =>
     rw [zb1 hpr] at e; rw [zcH (by rw [e]; exact hpr), zcH hpr, e]
theorem zhx {l : List Bool} {i x : Nat} (h : l.getD x false = true) : (l.set i true).getD x false = true := by
 rw [yg, List.getElem?_set]
 split
 · split
   · rfl
   · rename_i h1 h2; subst h1
     rw [yg, List.getElem?_eq_none yO] at h; simp at h
 · rw [<- yg]; exact h
theorem zlM {l : List Bool} {i : Nat} (h : i < l.length) : (l.set i true).getD i false = true := by
 rw [yg, List.getElem?_set, if_pos rfl, if_pos h]; rfl
theorem zfO {α : Type} {l : List α} {i x : Nat} {v d : α} (h : i ≠ x) : (l.set i v).getD x d = l.getD x d := by
 rw [yg, List.getElem?_set, if_neg h, <- yg]
theorem zhy {ks : List zaa} {l : List Bool} {i x : Nat} (h : l.getD x false = true) : (za1 ks l i).getD x false = true := by
 unfold za1; split
 · exact zhx (zhx h)
 · exact h
theorem zcK {ks : List zaa} : ∀ (i : Nat) {l : List Bool} {x : Nat}, l.getD x false = true -> (zaL ks i l).getD x false = true
 | 0, _, _, h => h
 | i + 1, _, _, h => zcK i (zhy h)
theorem zde {ks : List zaa} (hk : zaS ks) {l : List Bool} {i x : Nat} (hi : i < ks.length) (h : i <= x) : (za1 ks l i).getD x false = l.getD x false := by
 unfold za1; split
 · rename_i c
   simp only [Bool.and_eq_true] at c
   obtain ⟨q1, q2, q3, q4⟩ := zdp hk hi c.2; rw [zfO yO, zfO yO]
 · rfl
theorem zdf {ks : List zaa} (hk : zaS ks) : ∀ (i : Nat) {l : List Bool} {x : Nat}, i <= ks.length -> i <= x -> (zaL ks i l).getD x false = l.getD x false
 | 0, _, _, _, _ => rfl
 | i + 1, l, x, hi, h => by rw [zaL, zdf hk i yO yO, zde hk yO yO]
theorem zd6 {ks : List zaa} (hk : zaS ks) : ∀ (i : Nat) {l : List Bool} {x : Nat}, i <= ks.length -> l.length = ks.length -> x < i -> (zaL ks i l).getD x false = true -> (zav ks x).pair = true ->
  (zaL ks i l).getD (zav ks x).left.toNat false = true /\ (zaL ks i l).getD (zav ks x).right.toNat false = true
 | 0, _, _, _, _, hx, _, _ => by omega
 | i + 1, l, x, hi, hl, hx, h, hp => by
   rw [zaL] at h |-
   rcases Nat.lt_or_ge x i with hlt | hge
   · exact zd6 hk i yO (by rw [zfL]; exact hl) hlt h hp
   · have : x = i := by omega
     subst this; rw [zdf hk x yO yL, zde hk yO yL] at h; obtain ⟨q1, q2, q3, q4⟩ := zdp hk yO hp
     have e : za1 ks l x = (l.set (zav ks x).left.toNat true).set (zav ks x).right.toNat true := by
      unfold za1; rw [if_pos (by rw [h, hp]; rfl)]
     rw [e]; exact ⟨zcK _ (zhx (zlM yO)), zcK _ (zlM (by simp; omega))⟩
theorem ze0 {ks : List zaa} (hk : zaS ks) {m : Nat} : ∀ (i : Nat) {l : List Bool}, i <= ks.length -> (∀ x, l.getD x false = true -> x <= m) -> ∀ x, (zaL ks i l).getD x false = true -> x <= m
 | 0, _, _, h, x, hx => h x hx
 | i + 1, l, hi, h, x, hx => by
   rw [zaL] at hx; refine ze0 hk i yO (fun y hy => ?_) x hx
   unfold za1 at hy; split at hy
   · rename_i c
     simp only [Bool.and_eq_true] at c
     obtain ⟨q1, q2, q3, q4⟩ := zdp hk (show i < ks.length by omega) c.2; have hm := h i c.1; by_cases e1 : (zav ks i).right.toNat = y
     · omega
     · rw [zfO e1] at hy
       by_cases e2 : (zav ks i).left.toNat = y
       · omega
       · rw [zfO e2] at hy; exact h y hy
   · exact h y hy
structure zoH (xs ks : List zaa) (need : List Bool) (k : Nat) (p : List zaa × List Int) : Prop where
 l2 : p.2.length = xs.length
 pos : ∀ i, i < k -> need.getD i false = true -> 0 <= p.2.getD i 0 /\ (p.2.getD i 0).toNat < p.1.length
 ok : zaS p.1
 word : ∀ i, i < k -> need.getD i false = true -> W1 p.1 (p.2.getD i 0).toNat = W1 ks i
 from_ : ∀ a, a < p.1.length -> ∃ i, i < k /\ need.getD i false = true /\ (p.2.getD i 0).toNat = a
theorem zoI {xs : List zaa} (h : zaS xs) (hcl : ∀ x, x < xs.length -> (zbT xs).getD x false = true -> (zav (zbG xs).1 x).pair = true -> (zbT xs).getD (zav (zbG xs).1 x).left.toNat false = true /\ (zbT xs).getD (zav (zbG xs).1 x).right.toNat false = true) :
  ∀ k, k <= xs.length -> zoH xs (zbG xs).1 (zbT xs) k (zbs xs k) := by
 have C := zcS h; obtain ⟨K, hK⟩ : ∃ K, (zbG xs).1 = K := ⟨_, rfl⟩
 have cok : zaS K := hK ▸ C.ok; have cl1 : K.length = xs.length := hK ▸ C.l1; rw [hK] at hcl |-
 intro k
 induction k with
 | zero => intro _; exact ⟨by simp [zbs], fun i hi => absurd hi yO, fun k r hk => by simp [zbs] at hk, fun i hi => absurd hi yO, fun a ha => by simp [zbs] at ha⟩
 | succ k ih =>
   intro hk; have H := ih yO; rw [zca, hK]; obtain ⟨O, M, hp⟩ : ∃ O M, zbs xs k = (O, M) := ⟨_, _, rfl⟩
   rw [hp] at H |-
   have l2 : M.length = xs.length := H.l2; unfold zch; by_cases hn : (zbT xs).getD k false = true
   · rw [if_pos hn]
     obtain ⟨X, hX⟩ : ∃ X, zcg M (zav K k) = X := ⟨_, rfl⟩
     show zoH xs K (zbT xs) (k + 1) (O ++ [zcg M (zav K k)], M.set k (O.length : Int))
     have hkk : k < K.length := by omega
     have hXok : zaD O.length X = true := by
      rw [<- hX]; cases hpr : (zav K k).pair with
      | true =>
        obtain ⟨q1, q2, q3, q4⟩ := zdp cok hkk hpr; obtain ⟨c1, c2⟩ := hcl k yO hn hpr; obtain ⟨a1, a2⟩ := H.pos _ q2 c1; obtain ⟨a3, a4⟩ := H.pos _ q4 c2; rw [zbR hpr]; have a1' : 0 <= M.getD (zav K k).left.toNat 0 := a1; have a2' : (M.getD (zav K k).left.toNat 0).toNat < O.length := a2; have a3' : 0 <= M.getD (zav K k).right.toNat 0 := a3; have a4' : (M.getD (zav K k).right.toNat 0).toNat < O.length := a4; exact zbV ⟨a1', by omega⟩ ⟨a3', by omega⟩
      | false =>
        rw [zb1 hpr]; have h1 := cok k _ (zcf hkk); unfold zaD at h1 |-
        rw [if_neg (by simp [hpr])] at h1 |-
        exact h1
     rw [hX]; have hO : zaS O := H.ok; have hO2 : zaS (O ++ [X]) := hO.snoc hXok; have hold : ∀ i, i < k -> (M.set k (O.length : Int)).getD i 0 = M.getD i 0 := fun i hi => zfO yO
     have hnew : (M.set k (O.length : Int)).getD k 0 = (O.length : Int) := by
      rw [yg, List.getElem?_set, if_pos rfl, if_pos yO]; rfl
     refine ⟨by simp [l2], ?_, hO2, ?_, ?_⟩
     · intro i hi hni
       show 0 <= (M.set k (O.length : Int)).getD i 0 /\ ((M.set k (O.length : Int)).getD i 0).toNat < (O ++ [X]).length
       rcases Nat.lt_or_ge i k with hlt | hge
       · rw [hold i hlt, List.length_append]
         have := H.pos i hlt hni; exact ⟨this.1, Nat.lt_of_lt_of_le this.2 (Nat.le_add_right _ _)⟩
       · have : i = k := by omega
         subst this; rw [hnew]; simp
     · intro i hi hni
       show W1 (O ++ [X]) ((M.set k (O.length : Int)).getD i 0).toNat = W1 K i
       rcases Nat.lt_or_ge i k with hlt | hge
       · rw [hold i hlt, zdq hO hO2 _ (H.pos i hlt hni).2]
         exact H.word i hlt hni
       · have : i = k := by omega
         subst this; rw [hnew, Int.toNat_natCast]; have eX : zav (O ++ [X]) O.length = X := zcD _ _; cases hpr : (zav K i).pair with
         | true =>
           obtain ⟨q1, q2, q3, q4⟩ := zdp cok hkk hpr; obtain ⟨c1, c2⟩ := hcl i yO hn hpr; have hXp : X = zaK (M.getD (zav K i).left.toNat 0) (M.getD (zav K i).right.toNat 0) := by rw [<- hX, zbR hpr]
           rw [zbM hO2 yS (by rw [eX, hXp]; rfl), eX, hXp]; show W1 _ (M.getD (zav K i).left.toNat 0).toNat ++ W1 _ (M.getD (zav K i).right.toNat 0).toNat = _
           rw [<- hXp, zdq hO hO2 _ (H.pos _ q2 c1).2, zdq hO hO2 _ (H.pos _ q4 c2).2, zbM cok hkk hpr]; have w1 := H.word _ q2 c1; have w2 := H.word _ q4 c2; show W1 O _ ++ W1 O _ = _
           rw [<- w1, <- w2]
         | false =>
           have hXl : X = zav K i := by rw [<- hX, zb1 hpr]
           rw [zcH (by rw [eX, hXl]; exact hpr), eX, hXl, zcH hpr]
     · intro a ha
       rcases Nat.lt_or_ge a O.length with hlt | hge
       · obtain ⟨i, h1, h2, h3⟩ := H.from_ a hlt
         exact ⟨i, by omega, h2, by show ((M.set k (O.length : Int)).getD i 0).toNat = a; rw [hold i h1]; exact h3⟩
       · have ha' : a < (O ++ [X]).length := ha
         rw [List.length_append] at ha'; have : a = O.length := by simp at ha'; omega
         subst this; exact ⟨k, by omega, hn, by show ((M.set k (O.length : Int)).getD k 0).toNat = O.length; rw [hnew]; simp⟩
   · rw [if_neg hn]
     refine ⟨l2, ?_, H.ok, ?_, ?_⟩
     · intro i hi hni
       rcases Nat.lt_or_ge i k with hlt | hge
       · exact H.pos i hlt hni
       · have : i = k := by omega
         subst this; exact absurd hni hn
     · intro i hi hni
       rcases Nat.lt_or_ge i k with hlt | hge
       · exact H.word i hlt hni
       · have : i = k := by omega
         subst this; exact absurd hni hn
     · intro a ha
       obtain ⟨i, h1, h2, h3⟩ := H.from_ a ha; exact ⟨i, by omega, h2, h3⟩
theorem zdr {xs : List zaa} {ls : List Int} (hl : zaX xs = some ls) : ∃ ls', zaX (zaO xs) = some ls' /\ zau (zaO xs) = zau xs /\ (0 < xs.length -> 0 < (zaO xs).length) := by
 by_cases h0 : 0 < xs.length
 · have h := zaz hl
   have C := zcS h; obtain ⟨K, S, hp⟩ : ∃ K S, zbG xs = (K, S) := ⟨_, _, rfl⟩
   rw [hp] at C; have l1 : K.length = xs.length := C.l1; have cok : zaS K := C.ok; have hroot : 0 <= S.getD (xs.length - 1) 0 /\ S.getD (xs.length - 1) 0 <= ((xs.length - 1 : Nat) : Int) := C.low (xs.length - 1) yO; obtain ⟨R, hR⟩ : ∃ R, (S.getD (xs.length - 1) 0).toNat = R := ⟨_, rfl⟩
   have hRl : R < xs.length := by omega
   have eN : zbT xs = zaL K xs.length ((List.replicate xs.length false).set R true) := by
    unfold zbT zeD; rw [hp]; show zaL K _ ((List.replicate xs.length false).set (S.getD (xs.length - 1) 0).toNat true) = _; rw [hR]
   have hbl : ((List.replicate xs.length false).set R true).length = K.length := by simp [l1]
   have hNR : (zbT xs).getD R false = true := by rw [eN]; exact zcK _ (zlM (by simp; omega))
   have hmost : ∀ x, (zbT xs).getD x false = true -> x <= R := by
    rw [eN]; refine ze0 cok _ yO (fun x hx => ?_)
    by_cases e : R = x
    · omega
    · rw [zfO e] at hx
      rw [yg, List.getElem?_replicate] at hx
      split at hx <;> simp at hx
   have hcl : ∀ x, x < xs.length -> (zbT xs).getD x false = true -> (zav (zbG xs).1 x).pair = true -> (zbT xs).getD (zav (zbG xs).1 x).left.toNat false = true /\ (zbT xs).getD (zav (zbG xs).1 x).right.toNat false = true := by
    rw [hp, eN]; intro x hx h1 h2; exact zd6 cok _ yO hbl hx h1 h2
   have H := zoI h hcl xs.length yL; rw [hp] at H; have hw := zhe h; rw [hp] at hw
   -- the last rule is that of the root
   have hlast : ∀ k, R < k -> k <= xs.length -> (zbs xs k).1.length = (zbs xs (R + 1)).1.length /\ (zbs xs k).2.getD R 0 = (zbs xs (R + 1)).2.getD R 0 := by
    intro k
    induction k with
    | zero => intro h; omega
    | succ k ih =>
      intro h1 h2; rcases Nat.lt_or_ge R k with hlt | hge
      · have hnk : ¬ (zbT xs).getD k false = true := fun e => by have := hmost k e; omega
        rw [zca]; unfold zch; rw [if_neg hnk]; exact ih hlt yO
      · have : k = R := by omega
        subst this; exact ⟨rfl, rfl⟩
   obtain ⟨e1, e2⟩ := hlast xs.length hRl yL
   have e3 : (zbs xs (R + 1)).1.length = (zbs xs R).1.length + 1 /\ (zbs xs (R + 1)).2.getD R 0 = ((zbs xs R).1.length : Int) := by
    rw [zca]; unfold zch; rw [if_pos hNR]; refine ⟨by simp, ?_⟩
    show ((zbs xs R).2.set R _).getD R 0 = _
    rw [yg, List.getElem?_set, if_pos rfl, if_pos (by rw [(zdk xs R).1]; exact hRl)]; rfl
   have hlen : (zaO xs).length = (zbs xs R).1.length + 1 := by rw [zaO, e1, e3.1]
   have hnum : ((zbs xs xs.length).2.getD R 0).toNat = (zaO xs).length - 1 := by rw [e2, e3.2, hlen]; simp
   have hword : W1 (zaO xs) ((zaO xs).length - 1) = W1 xs (xs.length - 1) := by
    rw [<- hnum]; have h1 : W1 (zaO xs) ((zbs xs xs.length).2.getD R 0).toNat = W1 K R := H.word R hRl hNR; rw [h1]
    have h2 : W1 K R = W1 K (xs.length - 1) := by
     have hi : S.getD (xs.length - 1) 0 = ((K.idxOf (zav K (xs.length - 1)) : Nat) : Int) := C.idx _ yO; have hm : zav K (xs.length - 1) ∈ K := zeS yO; have hlt : K.idxOf (zav K (xs.length - 1)) < K.length := List.idxOf_lt_length_iff.2 hm; have hRe : R = K.idxOf (zav K (xs.length - 1)) := by rw [<- hR, hi]; simp
     refine zjk cok yO yO ?_
     rw [hRe]; exact (zby (ye hlt)).trans (List.getElem_idxOf hlt)
    rw [h2]; exact hw _ yO
   have hmax : ∀ r, r < (zaO xs).length -> ((W1 (zaO xs) r).length : Int) <= zdQ := by
    intro r hr; obtain ⟨i, h1, h2, h3⟩ := H.from_ r hr; have h4 : W1 (zaO xs) ((zbs xs xs.length).2.getD i 0).toNat = W1 K i := H.word i h1 h2; have h5 : W1 K i = W1 xs i := hw i h1; rw [show r = ((zbs xs xs.length).2.getD i 0).toNat from h3.symm, h4, h5]; exact zjl hl h1
   obtain ⟨ls', hl'⟩ := zhw H.ok hmax; refine ⟨ls', hl', ?_, fun _ => by omega⟩
   rw [za7 yO, za7 h0]; exact hword
 · have hx : xs = [] := yn yO
   subst hx; exact ⟨[], rfl, rfl, fun h => absurd h yS⟩
theorem zjm {xs : List zaa} (h : zaf xs = true) : zaf (zaO xs) = true := by
 obtain ⟨h4, ls, hl⟩ := zag h; obtain ⟨ls', hl', _⟩ := zdr hl; have := zeU xs; simp only [zaf, Bool.and_eq_true, decide_eq_true_eq]
 exact ⟨by omega, by rw [hl']; rfl⟩
open Go.RowKit
def zbu (s g : Option (List zaa)) : Option (List zaa) := match s, g with
 | some o, some x => if zaf (za8 o x) then some (za8 o x) else none
 | _, _ => none
def zbj (xs : List zaa) : Option (List zaa) := if zaf xs then some xs else none
def zev (s : Option (List zaa)) (out : List zaa) (c : Int) : Prop := (s = some out /\ c = 0 /\ zaf out = true) \/ (s = none /\ c = 3)
theorem zcR (xs : List zaa) : zev (zbj xs) (zaH xs) (zaB xs) := by
 unfold zev zbj zaH zaB; cases h : zaf xs with
 | true => exact .inl ⟨rfl, rfl, by simpa using h⟩
 | false => exact .inr ⟨rfl, rfl⟩
theorem zkG : zaf [] = true := rfl
theorem zgp (xs : List zaa) : zaf (zaH xs) = true := by
 unfold zaH; cases h : zaf xs with
 | true => simpa using h
 | false => rfl
def Asm (w : World) (b : Nat) (xs : List zaa) (ls : List Int) (s : Option (List zaa)) : Prop :=
 ∃ vG vL vO out c, Blk w b #[vG, vL, vO, .int .i64 c] 131 /\ Sl zas w b vG xs /\ Sl zfZ w b vL ls /\ zab w (b + 1) vO out /\ zev s out c /\ zaf out = true
theorem Asm.lt {w : World} {b : Nat} {xs : List zaa} {ls : List Int} {s : Option (List zaa)} (h : Asm w b xs ls s) : b < w.heap.size := by
 obtain ⟨_, _, _, _, _, h, _⟩ := h; exact h.lt
theorem Asm.up {w w' : World} {b : Nat} {xs : List zaa} {ls : List Int} {s : Option (List zaa)} (h : Asm w b xs ls s) (hb : Below w.heap.size w w') : Asm w' b xs ls s := by
 have hlt := h.lt; obtain ⟨vG, vL, vO, out, c, h1, h2, h3, h4, h5, h6⟩ := h; exact ⟨vG, vL, vO, out, c, h1.up hb, h2.below (hb.mono yO), h3.below (hb.mono yO), zab.below h4 hb, h5, h6⟩
theorem zpd {α : Type} {E : Enc α} {w w' : World} {N : Nat} {v : Value} {xs : List α} (h : Sl E w N v xs) (hN : N <= w.heap.size) (hb : Below w.heap.size w w') : Sl E w' w'.heap.size v xs := (h.le hN).up hb
theorem zpe {wr W : World} {p q a : Addr} {v u x : Value} (h : Below wr.heap.size wr W /\ W.cell? p = some v /\ W.cell? q = some u) (ha : wr.heap.size <= a.block) (hp : p.block < wr.heap.size) (hq : q.block < wr.heap.size) :
  Below wr.heap.size wr (W.setCell a x) /\ (W.setCell a x).cell? p = some v /\ (W.setCell a x).cell? q = some u :=
 ⟨h.1.setCell ha x, (World.cell?_of_block (Below.heap_setCell _ _ _ _ yO)).trans h.2.1, (World.cell?_of_block (Below.heap_setCell _ _ _ _ yO)).trans h.2.2⟩
theorem zn8 {w w' : World} {a : Array Value} {t : TypeId} (hb : Below (w.alloc (.cells a t)).heap.size (w.alloc (.cells a t)) w') : Below w.heap.size w w' /\ Blk w' w.heap.size a t := Below.unalloc hb
theorem zgq (b : Nat) (xs : List zaa) (ls : List Int) (s : Option (List zaa)) (i j : Int) (w : World) (h : Asm w b xs ls s) (hl : zaX xs = some ls) (hn : xs.length <= 1048576) :
  Calls Tryz.prog 95 #[.pointer (some ⟨b, 0, none⟩), .int .i64 i, .int .i64 j] w (zlp (zaH (zam xs ls i j)) (zaB (zam xs ls i j)) w) := by
 obtain ⟨vG, vL, vO, out, c, hB, hG, hL, hO, hs, hok⟩ := h; have hlt := hB.lt; have HG := yq (hG.le (Nat.le_of_lt hlt)); have HL := yq (hL.le (Nat.le_of_lt hlt)); have Hl := yq hl; have hpl := zig hl i j; obtain ⟨AG, cG, rfl, _⟩ := hG; obtain ⟨AL, cL, rfl, _⟩ := hL; clear hO hs hl; have cA0_1 := Blk.cell (i := 0) (v := .slice AG xs.length cG) hB rfl; have cA1_2 := Blk.cell (i := 1) (v := .slice AL ls.length cL) hB rfl; have lA_3 := Blk.lt hB; clear hB hok; go_enter Tryz.func95, Tryz.ntmps95
 go_wp2_with fail
 have hcA : (w.alloc (Obj.cells #[Value.slice none 0 0] 26)).drew.cell? ⟨b, 0, none⟩ = some (.slice AG xs.length cG) := by simp [go_sem, cA0_1, hlt]
 have hcL : (w.alloc (Obj.cells #[Value.slice none 0 0] 26)).drew.cell? ⟨b, 1, none⟩ = some (.slice AL ls.length cL) := by simp [go_sem, cA1_2, hlt]
 have KB := And.intro (show Below w.heap.size w (w.alloc (Obj.cells #[Value.slice none 0 0] 26)).drew from yb) (And.intro hcA hcL)
 go_region_held3 (fun w' => Below w.heap.size w w' /\ w'.cell? ⟨b, 0, none⟩ = some (.slice AG xs.length cG) /\ w'.cell? ⟨b, 1, none⟩ = some (.slice AL ls.length cL))
  (first | (with_reducible exact KB) | (with_reducible exact zeR KB hb1 hlt hlt) | (with_reducible exact zeR (zeR KB hb1 hlt hlt) hb2 hlt hlt) | (with_reducible exact zpe (zeR (zeR KB hb1 hlt hlt) hb2 hlt hlt) yL hlt hlt))
  (first
    | (go_at_call 116; (refine (zjY _ _ xs ls i j _ (HG.o.up yb) (HL.o.up yb) Hl.o hn).mono ?_); rintro e w1 ⟨hb1, v1, own1, rfl⟩)
    | (go_at_call 115; (refine (zcT _ _ _ _ own1 yO).mono ?_); rintro e w2 ⟨hb2, v2, own2, rfl⟩; obtain ⟨A2, k2, rfl, _⟩ := zae own2; obtain ⟨hbz, KR⟩ := zn8 (Below.tr (Below.undrew hb1) hb2); have cR := KR.cell (i := 0) (v := .slice none 0 0) rfl; have fR := KR.frozen 0; have lR := KR.lt))
 have HO2 := yq own2; have HB := yq hbz; have HK := yq KR; clear KB hb1 hb2 own1 own2 hbz KR hcA hcL; go_wp2
 refine bodyPost_ret (v := .tuple #[.agg #[.slice A2 (zaH (zam xs ls i j)).length k2], .int .i64 (zaB (zam xs ls i j))]) (by simp [results, Tryz.results95, go_sem, cR]) rfl ⟨HB.o.setCell yL _, _, ?_, rfl⟩
 exact zac (ownsRow_setCell_below HO2.o (a := ⟨w.heap.size, 0, none⟩) (by simp [World.drew]) _) (by simp [World.drew])
abbrev zkH (e : Ending) : Prop := e = .returned (.tuple #[])
theorem zcU {s g : Option (List zaa)} (h : s = none \/ g = none) : zbu s g = none := by
 rcases h with rfl | rfl
 · rfl
 · cases s <;> rfl
theorem zj1 (o x : List zaa) : zbu (some o) (some x) = zbj (za8 o x) := rfl
theorem zeo (b : Nat) (xs : List zaa) (ls : List Int) (s g : Option (List zaa)) (vN : Value) (ys : List zaa) (cN : Int) (w : World) (h : Asm w b xs ls s) (hN : SlS zas w (fun k => k ≠ b /\ k < w.heap.size) vN ys) (hg : zev g ys cN) :
  Calls Tryz.prog 96 #[.pointer (some ⟨b, 0, none⟩), .agg #[vN], .int .i64 cN] w fun e w' => zkH e /\ But b w w' /\ Asm w' b xs ls (zbu s g) := by
 obtain ⟨vG, vL, vO, out, c, hB, hG, hL, hO, hs, hok⟩ := h; have hlt := hB.lt; have HB0 := yq hB; have HG := yq hG; have HL := yq hL; have HO := yq hO; have HN := yq hN; have HK := yq hok; obtain ⟨AN, kN, rfl, _⟩ := hN; obtain ⟨AO, kO, rfl, _⟩ := zae hO; clear hG hL hO; have hB1 : Blk (w.alloc (Obj.cells #[Value.slice AN ys.length kN] 26)) b _ _ := hB.alloc _; rcases hs with ⟨rfl, rfl, _⟩ | ⟨rfl, rfl⟩
 · rcases hg with ⟨rfl, rfl, hgy⟩ | ⟨rfl, rfl⟩
   · have c2 := hB.cell (i := 2) (v := .slice AO out.length kO) rfl
     have c3 := hB.cell (i := 3) (v := .int .i64 0) rfl; have f2 := hB.frozen 2; have f3 := hB.frozen 3; have HGY := yq hgy; have hy : ys.length <= 1048576 := by have := (zag hgy).1; omega
     clear hB hB1 hgy; go_enter Tryz.func96, Tryz.ntmps96
     go_wp2_with fail
     have KA : Blk ((w.setCell ⟨b, 3, none⟩ (.int .i64 0)).alloc (Obj.cells #[Value.slice AN ys.length kN] 26)) b #[vG, vL, .slice AO out.length kO, .int .i64 0] 131 := (HB0.o.set 3 _).alloc _
     have KN : Blk ((w.setCell ⟨b, 3, none⟩ (.int .i64 0)).alloc (Obj.cells #[Value.slice AN ys.length kN] 26)) w.heap.size #[.slice AN ys.length kN] 26 := by
      have := Blk.new (w.setCell ⟨b, 3, none⟩ (.int .i64 0)) #[Value.slice AN ys.length kN] 26; simpa using this
     have hbW : But b w ((w.setCell ⟨b, 3, none⟩ (.int .i64 0)).alloc (Obj.cells #[Value.slice AN ys.length kN] 26)) := ((But.refl b w).setCell _).alloc _
     have NW : SlS zas ((w.setCell ⟨b, 3, none⟩ (.int .i64 0)).alloc (Obj.cells #[Value.slice AN ys.length kN] 26)) (fun k => k ≠ b /\ k < w.heap.size) (.slice AN ys.length kN) ys :=
      HN.o.keep fun k hk => (Below.heap_alloc _ _ _ (by simpa using hk.2)).trans (Below.heap_setCell _ _ _ _ hk.1)
     have OW : zab ((w.setCell ⟨b, 3, none⟩ (.int .i64 0)).alloc (Obj.cells #[Value.slice AN ys.length kN] 26)) (b + 1) (.slice AO out.length kO) out := World.ownsRow.alloc (ownsRow_setCell_below HO.o (by show b < b + 1; omega) _) _; have zW : ((w.setCell ⟨b, 3, none⟩ (.int .i64 0)).alloc (Obj.cells #[Value.slice AN ys.length kN] 26)).heap.size = w.heap.size + 1 := by simp
     clear c2 c3 f2 f3; generalize (w.setCell ⟨b, 3, none⟩ (.int .i64 0)).alloc (Obj.cells #[Value.slice AN ys.length kN] 26) = W at *; have HKA := yq KA; have HNW := yq (NW.more (S' := (· < W.heap.size)) fun k hk => by have := hk.2; omega); have HOW := yq OW; have HBW := yq hbW; have c2 := KA.cell (i := 2) (v := .slice AO out.length kO) rfl; have cN := KN.cell (i := 0) (v := .slice AN ys.length kN) rfl; have lN := KN.lt; have lA := KA.lt; have l1 : out.length <= 1048576 := by have := (zag HK.o).1; omega
     have l2 : (za8 out ys).length <= 1099511627776 := by have := zlG (zag HK.o).1 (zag HGY.o).1; omega
     clear KA NW OW hbW zW KN
     go_region_law (first
      | (go_simp; go_at_call 137; (refine (zmZ _ _ out ys _ (HOW.o.sl.up yb) (HNW.o.up yb) l1 hy (zgh HGY.o)).mono ?_); rintro e w1 ⟨hb1, v1, own1, rfl⟩)
      | (go_simp; go_at_call 115; (refine (zcT _ _ _ _ own1 l2).mono ?_); rintro e w2 ⟨hb2, v2, own2, rfl⟩; obtain ⟨A2, k2, rfl, _⟩ := zae own2; have KR := HKA.o.up (Below.tr (Below.undrew hb1) hb2); have d2 := KR.frozen 2; have d3 := KR.frozen 3; have d4 := KR.lt; have e2 := KR.cell (i := 2) (v := .slice AO out.length kO) rfl; have e3 := KR.cell (i := 3) (v := .int .i64 0) rfl))
     all_goals
      have hb3 : But b w w2 := HBW.o.tr (Below.tr (Below.undrew hb1) hb2); have HB3 := yq hb3; have HO2 := yq (zac own2 (base' := b + 1) (by show b + 1 <= W.heap.size; omega)); have HKR := yq KR; clear hb1 hb2 own1 own2 KR hb3 cN; go_wp2
      go_end0
      have hz : ∀ o o' v v', But b w ((w2.setCell ⟨b, o, none⟩ v).setCell ⟨b, o', none⟩ v') := fun o o' v v' => (HB3.o.setCell _).setCell _; have hzb : ∀ o o' v v', Below b w ((w2.setCell ⟨b, o, none⟩ v).setCell ⟨b, o', none⟩ v') := fun o o' v v' => (hz o o' v v').below yL (Nat.le_of_lt hlt)
      have hz2 : ∀ o o' v v', zab ((w2.setCell ⟨b, o, none⟩ v).setCell ⟨b, o', none⟩ v') (b + 1) (.slice A2 (zaH (za8 out ys)).length k2) (zaH (za8 out ys)) :=
       fun o o' v v' => ownsRow_setCell_below (ownsRow_setCell_below HO2.o (by show b < b + 1; omega) _) (by show b < b + 1; omega) _
      refine ⟨rfl, hz _ _ _ _, vG, vL, .slice A2 (zaH (za8 out ys)).length k2, zaH (za8 out ys), zaB (za8 out ys), ?_, HG.o.below (hzb _ _ _ _), HL.o.below (hzb _ _ _ _), hz2 _ _ _ _, zcR _, zgp _⟩
      first
       | exact (HKR.o.set 2 _).set 3 _
       | exact (HKR.o.set 3 _).set 2 _
   · have c3 := hB.cell (i := 3) (v := .int .i64 0) rfl
     have f3 := hB.frozen 3; clear hB hB1; rw [zcU (.inr rfl)]; go_enter Tryz.func96, Tryz.ntmps96
     go_wp2
     go_end0
     have hbb : But b w ((w.setCell ⟨b, 3, none⟩ (.int .i64 3)).alloc (Obj.cells #[Value.slice AN ys.length kN] 26)) := ((But.refl b w).setCell _).alloc _; have hbz := hbb.below yL (Nat.le_of_lt hlt); refine ⟨rfl, hbb, _, _, _, out, 3, ((HB0.o.set 3 _).alloc _), HG.o.below hbz, HL.o.below hbz, World.ownsRow.alloc (ownsRow_setCell_below HO.o (by show b < b + 1; omega) _) _, .inr ⟨rfl, rfl⟩, HK.o⟩
 · rw [zcU (.inl rfl)]
   have c3 := hB.cell (i := 3) rfl; clear hB hB1 hg; go_enter Tryz.func96, Tryz.ntmps96
   go_wp2
   go_end0
   refine ⟨rfl, But.of yb, ?_⟩
   exact Asm.up ⟨_, _, _, _, _, HB0.o, HG.o, HL.o, HO.o, .inr ⟨rfl, rfl⟩, HK.o⟩ yb
theorem zeF {w : World} {b N : Nat} {v : Value} {l : List zaa} (h : zab w N v l) (hb : b < N) : SlS zas w (fun k => k ≠ b /\ k < w.heap.size) v l :=
 h.slS fun g hg => by have := World.ownsRow.lt h g hg; omega
theorem zoJ {α : Type} {E : Enc α} {w : World} {b N : Nat} {v : Value} {xs : List α} (h : Sl E w N v xs) (hN : N <= b) (hb : b < w.heap.size) : SlS E w (fun k => k ≠ b /\ k < w.heap.size) v xs :=
 h.more fun k hk => by omega
theorem zhf (xs : List zaa) : (zaH xs).length <= 400 := (zag (zgp xs)).1
theorem zaN (b : Nat) (xs : List zaa) (ls : List Int) (s : Option (List zaa)) (i j : Int) (w : World) (h : Asm w b xs ls s) (hl : zaX xs = some ls) (hn : xs.length <= 1048576) :
  Calls Tryz.prog 97 #[.pointer (some ⟨b, 0, none⟩), .int .i64 i, .int .i64 j] w fun e w' => zkH e /\ But b w w' /\ Asm w' b xs ls (zbu s (zbj (zam xs ls i j))) := by
 have hlt := h.lt; have HA := yq h; have Hl := yq hl; clear h hl; go_enter Tryz.func97, Tryz.ntmps97
 go_wp2_with fail
 refine (zgq b xs ls s i j _ HA.o Hl.o hn).mono ?_
 rintro e w1 ⟨hb1, v1, own1, rfl⟩; have HO := yq own1; obtain ⟨A1, k1, rfl, _⟩ := zae own1; have hlim := zhf (zam xs ls i j); have HB := yq hb1; clear own1 hb1; go_wp2_with fail
 refine (zeo b xs ls s _ _ _ _ _ (HA.o.up HB.o) (zeF HO.o hlt) (zcR (zam xs ls i j))).mono ?_
 rintro e w2 ⟨rfl, hb2, ha2⟩; go_wp2
 go_end0
 exact ⟨rfl, (But.of HB.o).trans hb2, ha2⟩
def ltr (k : Nat) : UInt8 := UInt8.ofNat (97 + k)
def zcA (c : UInt8) : zaa := ⟨⟨#[c]⟩, 0, 0⟩
def zij (w : ByteArray) (c : UInt8) : Bool := w.data.toList.contains c
def zbH (w : ByteArray) (k : Nat) : List zaa := ((List.range k).filter (fun j => zij w (ltr j))).map fun j => zcA (ltr j)
def zj2 (w : ByteArray) (c : UInt8) : Nat := (zbH w 4).idxOf (zcA c)
def zfP (w : ByteArray) (i : Nat) : zaa :=
 zaK (if i = 0 then (zj2 w (w.data.getD 0 0) : Nat) else (((zbH w 4).length + i - 1 : Nat) : Int)) (zj2 w (w.data.getD (i + 1) 0) : Nat)
def zb2 (w : ByteArray) (m : Nat) : List zaa := zbH w 4 ++ (List.range m).map (zfP w)
def zcn (w : ByteArray) : List zaa := zb2 w (w.size - 1)
theorem zhg (w : ByteArray) (k : Nat) : zbH w (k + 1) = if zij w (ltr k) then zbH w k ++ [zcA (ltr k)] else zbH w k := by
 unfold zbH; rw [List.range_succ, List.filter_append, List.map_append]; by_cases h : zij w (ltr k) = true
 · rw [if_pos h]; simp [h]
 · rw [if_neg h]; simp [h]
theorem zd7 (w : ByteArray) (k : Nat) : (zbH w k).length <= k := by
 unfold zbH; rw [List.length_map]; exact Nat.le_trans (List.length_filter_le _ _) yS
theorem zgr {c : UInt8} (h : zb5 c = true) : ∃ k, k < 4 /\ c = ltr k := by
 simp [zb5] at h
 refine ⟨c.toNat - 97, by omega, ?_⟩
 unfold ltr; rw [show 97 + (c.toNat - 97) = c.toNat by omega]; simp
theorem zlN {w : ByteArray} {c : UInt8} (h : zb5 c = true) (hw : zij w c = true) : zcA c ∈ zbH w 4 := by
 obtain ⟨k, hk, rfl⟩ := zgr h; unfold zbH; exact List.mem_map.2 ⟨k, List.mem_filter.2 ⟨List.mem_range.2 hk, hw⟩, rfl⟩
theorem zlO {w : ByteArray} {i : Nat} (h : i < w.size) : zij w w[i] = true := by
 unfold zij; rw [List.contains_iff_mem]; exact List.mem_of_getElem? (za4 w i h)
theorem zhz {w : ByteArray} (hw : zay w = true) {i : Nat} (h : i < w.size) : zb5 w[i] = true := by
 unfold zay at hw; simp only [Bool.and_eq_true] at hw
 exact List.all_eq_true.1 hw.2 _ (List.mem_of_getElem? (za4 w i h))
theorem zfp {w : ByteArray} (hw : zay w = true) {i : Nat} (h : i < w.size) : zj2 w w[i] < (zbH w 4).length :=
 List.idxOf_lt_length_iff.2 (zlN (zhz hw h) (zlO h))
theorem zbJ {w : ByteArray} {i : Nat} (h : i < w.size) : w.data.getD i 0 = w[i] := by
 show w.data.getD i 0 = w.data[i]
 simp [Array.getD, h]
theorem zep (w : ByteArray) (m : Nat) : (zb2 w m).length = (zbH w 4).length + m := by simp [zb2]
theorem zfq (w : ByteArray) : (zcn w).length <= 4 + w.size := by
 rw [zcn, zep]; have := zd7 w 4; omega
theorem zeG (w : ByteArray) (m : Nat) : zb2 w (m + 1) = zb2 w m ++ [zfP w m] := by
 unfold zb2; rw [List.range_succ, List.map_append, List.append_assoc]; rfl
theorem zeH (w : ByteArray) : zb2 w 0 = zbH w 4 := by simp [zb2]
theorem zm7 (w : ByteArray) : ∀ r ∈ zbH w 4, ∃ k, k < 4 /\ r = zcA (ltr k) := by
 intro r hr; unfold zbH at hr; obtain ⟨k, h1, h2⟩ := List.mem_map.1 hr; exact ⟨k, List.mem_range.1 (List.mem_filter.1 h1).1, h2.symm⟩
theorem zjn {k i : Nat} (h : k < 4) : zaD i (zcA (ltr k)) = true := by
 have : k = 0 \/ k = 1 \/ k = 2 \/ k = 3 := by omega
 rcases this with rfl | rfl | rfl | rfl <;> rfl
theorem zjo (w : ByteArray) : zaS (zbH w 4) := by
 intro i r hi; obtain ⟨k, hk, rfl⟩ := zm7 w r (List.mem_of_getElem? hi); exact zjn hk
theorem zik {w : ByteArray} (hw : zay w = true) : ∀ m, m + 1 <= w.size \/ m = 0 -> zaS (zb2 w m) := by
 intro m
 induction m with
 | zero => intro _; rw [zeH]; exact zjo w
 | succ m ih =>
   intro h; have hm : m + 1 < w.size := by omega
   rw [zeG]; refine (ih yO).snoc ?_
   rw [zep]; have h0 := zfp hw (i := 0) yO; have h1 := zfp hw (i := m + 1) hm; unfold zfP; rw [zbJ hm, zbJ (show 0 < w.size by omega)]; refine zbV ?_ yO
   split <;> omega
theorem zcF {w : ByteArray} (hw : zay w = true) : zaS (zcn w) := zik hw _ yO
def zgT (xs : List zaa) (k : Nat) : Bool := xs.contains (zcA (ltr k))
def zbI (xs : List zaa) (ws : List ByteArray) (p : List zaa × List Int) (k : Nat) : List zaa × List Int :=
 if (ws.getD k ⟨#[]⟩).size ≠ 0 /\ zgT xs k = true then (p.1 ++ (zcn (ws.getD k ⟨#[]⟩)).map (zaC p.1.length), p.2.set k (((p.1.length + (zcn (ws.getD k ⟨#[]⟩)).length : Nat) : Int) - 1)) else p
def za9 (xs : List zaa) (ws : List ByteArray) (k : Nat) : List zaa × List Int := (List.range k).foldl (zbI xs ws) ([], [-1, -1, -1, -1])
def zaY (starts : List Int) (p : List zaa × List Int) (r : zaa) : List zaa × List Int :=
 if r.pair then
  if p.2.getD r.left.toNat 0 < 0 then (p.1, p.2 ++ [p.2.getD r.right.toNat 0])
  else if p.2.getD r.right.toNat 0 < 0 then (p.1, p.2 ++ [p.2.getD r.left.toNat 0])
  else (p.1 ++ [zaK (p.2.getD r.left.toNat 0) (p.2.getD r.right.toNat 0)], p.2 ++ [(p.1.length : Int)])
 else (p.1, p.2 ++ [starts.getD ((r.letter.data.getD 0 0).toNat - 97) 0])
def zbE (xs : List zaa) (ws : List ByteArray) (k : Nat) : List zaa × List Int := (xs.take k).foldl (zaY (za9 xs ws 4).2) ((za9 xs ws 4).1, [])
def zf5 (xs : List zaa) (ws : List ByteArray) : List zaa × List Int := zbE xs ws xs.length
end Go.Proofs.YtdacndamehiglaaGreatDoor
namespace Go.Proofs
open Go.Shelf Go.RowKit
def Tryz.lays137_ren : Go.Shelf.Ren := ⟨fun | 137 => 169 | 217 => 197 | 266 => 210 | n => n, fun | 9 => 9 | 5 => 5 | 3 => 3 | n => n, fun | n => n⟩
theorem Tryz.lays137 : Go.Proofs.Lays.n137 Tryz.prog Tryz.lays137_ren := {
 mixed := by kernel_rfl
 f137 := Tryz.func169.trans (congrArg some (by kernel_rfl))
 f217 := Tryz.func197.trans (congrArg some (by kernel_rfl))
 f266 := Tryz.func210.trans (congrArg some (by kernel_rfl))
 t3 := Tryz.underlying3
 a3 := Tryz.isAgg3
 z3 := Tryz.sizeOf3
 v3 := Tryz.zeroValue3
 t5 := Tryz.underlying5
 a5 := Tryz.isAgg5
 z5 := Tryz.sizeOf5
 v5 := Tryz.zeroValue5
 t9 := Tryz.underlying9
 a9 := Tryz.isAgg9
 z9 := Tryz.sizeOf9
 v9 := Tryz.zeroValue9 }
theorem Tryz.strings_IndexByte (s : ByteArray) (c : Int) (w : World) :
  Calls Tryz.prog 169 #[.string s, .int .u8 c] w fun e w' => e = .returned (.int .i64 (Lib.indexByte s.data.toList c.toNat.toUInt8)) ∧ w' = w := Any.strings_IndexByte Tryz.lays137 s c w
def Tryz.lays146_ren : Go.Shelf.Ren := ⟨fun | 146 => 74 | 221 => 124 | 268 => 161 | 138 => 162 | 143 => 163 | 195 => 188 | 197 => 189 | 218 => 190 | 219 => 191 | 260 => 205 | 217 => 197 | 225 => 206 | 224 => 207 | 267 => 208 | 266 => 210 | 314 => 216 | n => n, fun | 9 => 9 | 31 => 97 | 3 => 3 | 4 => 4 | 0 => 0 | 105 => 220 | 21 => 21 | 5 => 5 | 46 => 142 | 119 => 242 | 139 => 245 | 138 => 244 | 146 => 179 | 51 => 178 | n => n, fun | 1 => 2 | 3 => 4 | 4 => 5 | n => n⟩
theorem Tryz.lays146 : Go.Proofs.Lays.n146 Tryz.prog Tryz.lays146_ren := {
 mixed := by kernel_rfl
 f138 := Tryz.func162.trans (congrArg some (by kernel_rfl))
 f143 := Tryz.func163.trans (congrArg some (by kernel_rfl))
 f146 := Tryz.func74.trans (congrArg some (by kernel_rfl))
 f195 := Tryz.func188.trans (congrArg some (by kernel_rfl))
 f197 := Tryz.func189.trans (congrArg some (by kernel_rfl))
 f217 := Tryz.func197.trans (congrArg some (by kernel_rfl))
 f218 := Tryz.func190.trans (congrArg some (by kernel_rfl))
 f219 := Tryz.func191.trans (congrArg some (by kernel_rfl))
 f221 := Tryz.func124.trans (congrArg some (by kernel_rfl))
 f224 := Tryz.func207.trans (congrArg some (by kernel_rfl))
 f225 := Tryz.func206.trans (congrArg some (by kernel_rfl))
 f260 := Tryz.func205.trans (congrArg some (by kernel_rfl))
 f266 := Tryz.func210.trans (congrArg some (by kernel_rfl))
 f267 := Tryz.func208.trans (congrArg some (by kernel_rfl))
 f268 := Tryz.func161.trans (congrArg some (by kernel_rfl))
 f314 := Tryz.func216.trans (congrArg some (by kernel_rfl))
 t0 := Tryz.underlying0
 a0 := Tryz.isAgg0
 z0 := Tryz.sizeOf0
 v0 := Tryz.zeroValue0
 t3 := Tryz.underlying3
 a3 := Tryz.isAgg3
 z3 := Tryz.sizeOf3
 v3 := Tryz.zeroValue3
 t4 := Tryz.underlying4
 a4 := Tryz.isAgg4
 z4 := Tryz.sizeOf4
 v4 := Tryz.zeroValue4
 t5 := Tryz.underlying5
 a5 := Tryz.isAgg5
 z5 := Tryz.sizeOf5
 v5 := Tryz.zeroValue5
 t9 := Tryz.underlying9
 a9 := Tryz.isAgg9
 z9 := Tryz.sizeOf9
 v9 := Tryz.zeroValue9
 t21 := Tryz.underlying21
 a21 := Tryz.isAgg21
 z21 := Tryz.sizeOf21
 v21 := Tryz.zeroValue21
 t31 := Tryz.underlying97
 a31 := Tryz.isAgg97
 z31 := Tryz.sizeOf97
 v31 := Tryz.zeroValue97
 t46 := Tryz.underlying142
 a46 := Tryz.isAgg142
 z46 := Tryz.sizeOf142
 v46 := Tryz.zeroValue142
 t51 := Tryz.underlying178
 a51 := Tryz.isAgg178
 z51 := Tryz.sizeOf178
 v51 := Tryz.zeroValue178
 t105 := Tryz.underlying220
 a105 := Tryz.isAgg220
 z105 := Tryz.sizeOf220
 v105 := Tryz.zeroValue220
 t119 := Tryz.underlying242
 a119 := Tryz.isAgg242
 z119 := Tryz.sizeOf242
 t138 := Tryz.underlying244
 a138 := Tryz.isAgg244
 z138 := Tryz.sizeOf244
 v138 := Tryz.zeroValue244
 t139 := Tryz.underlying245
 a139 := Tryz.isAgg245
 z139 := Tryz.sizeOf245
 v139 := Tryz.zeroValue245
 t146 := Tryz.underlying179
 a146 := Tryz.isAgg179
 z146 := Tryz.sizeOf179
 v146 := Tryz.zeroValue179
 g1 := by kernel_rfl
 g3 := by kernel_rfl
 g4 := by kernel_rfl }
open Go.RowKit Go.Lib in
theorem Tryz.strings_Split_chars (s sep : ByteArray) (w : World) (h0 : sep.size = 0) (hs : s.size < 4294967281) (hascii : ∀ (j : Nat) b, s.data.toList[j]? = some b → b.toNat < 128) :
  Calls Tryz.prog 74 #[.string s, .string sep] w fun e w' =>
   e = .returned (.slice (some ⟨(w.iter s s.size).heap.size, 0, none⟩) s.size s.size) ∧ w' = (w.iter s s.size).alloc (.cells ((Lib.charsB s).map Value.string).toArray 9) := Any.strings_Split_chars Tryz.lays146 (by kernel_rfl) s sep w h0 hs hascii
end Go.Proofs
namespace Go.Proofs.YtdacndamehiglaaGreatDoor
open Go.RowKit
theorem Tryz.infoBy : (Tryz.prog.info? 5).map (fun i => (i.zero, i.size, i.bytes)) = some (some (.int .u8 0), 1, 1) := by kernel_rfl
def zd8 (w : World) (base : Nat) (v : Value) (l : List UInt8) : Prop := w.ownsRow base 5 1 v l.length (Lib.byteCells l)
theorem zgU (l : List UInt8) (x : UInt8) : Lib.byteCells (l ++ [x]) = Lib.byteCells l ++ [.int .u8 (x.toNat : Int)] := by simp [Lib.byteCells]
theorem zd8.alloc {w : World} {base : Nat} {v : Value} {l : List UInt8} (h : zd8 w base v l) (o : Obj) : zd8 (w.alloc o) base v l := World.ownsRow.alloc h o
theorem zd8.drew {w : World} {base : Nat} {v : Value} {l : List UInt8} (h : zd8 w base v l) : zd8 w.drew base v l := h
theorem zd8.below {w w' : World} {base : Nat} {v : Value} {l : List UInt8} (h : zd8 w base v l) (hb : Below w.heap.size w w') : zd8 w' base v l := zaI h hb
theorem zd8.empty {w : World} {base N : Nat} (hN : N = w.heap.size) (hb : base <= w.heap.size) : zd8 (w.alloc (Obj.cells #[] 5)) base (Value.slice (some ⟨N, 0, none⟩) 0 0) [] := by
 subst hN; exact World.ownsRow_lit w #[] 0 hb (Nat.zero_le _) rfl
theorem zd8.at_ {w : World} {base : Nat} {v : Value} {l : List UInt8} (h : zd8 w base v l) (h0 : 0 < l.length) : ∃ g cap, v = .slice (some ⟨g, 0, none⟩) l.length cap /\ l.length <= cap /\ g < w.heap.size /\ ∀ t (ht : t < l.length), w.cell? ⟨g, t, none⟩ = some (.int .u8 (l[t].toNat : Int)) := by
 obtain ⟨g, cap, hv, hb, hlt, hc, hcell⟩ := zcx h h0; exact ⟨g, cap, hv, hc.1, hlt, fun t ht => hcell t _ (by simp [Lib.byteCells, ye ht])⟩
theorem zkI (L : List UInt8) (b p n c : Nat) (W : World) (hn : n = L.length) (h : ∀ t (ht : t < L.length), W.cell? ⟨b, p + t, none⟩ = some (.int .u8 (L[t].toNat : Int))) :
  (convert 22 9 (.slice (some ⟨b, p, none⟩) n c)).run Tryz.prog W = .ok (.string ⟨L.toArray⟩) W := by
 subst hn
 exact run_convert_bytes_back (P := Tryz.prog) W 22 9 5 ⟨b, p, none⟩ c L Tryz.underlying22 Tryz.underlying5 Tryz.underlying9 (fun j hj => by
  have e : (⟨b, p, none⟩ : Addr).add j = ⟨b, p + j, none⟩ := by unfold Addr.add; split <;> simp_all
  rw [e]; exact h j hj)
theorem zd8.string {w : World} {base n : Nat} {g : Nat} {c : Nat} {l : List UInt8} (h : zd8 w base (.slice (some ⟨g, 0, none⟩) n c) l) :
  (convert 22 9 (.slice (some ⟨g, 0, none⟩) n c)).run Tryz.prog w = .ok (.string ⟨l.toArray⟩) w := by
 have hn : n = l.length := by
  obtain ⟨A', c', hv, _⟩ := zae h; injection hv
 refine zkI l g 0 n c w hn fun t ht => ?_
 obtain ⟨g', cap, hv, _, _, hc⟩ := h.at_ yO; injection hv with e1 e2 e3; injection e1 with e1; injection e1 with e1; subst e1; rw [Nat.zero_add]; exact hc t ht
theorem zd8.some_ {w : World} {base : Nat} {v : Value} {l : List UInt8} (h : zd8 w base v l) (h0 : 0 < l.length) : ∃ g c, v = .slice (some ⟨g, 0, none⟩) l.length c := by
 obtain ⟨g, c, hv, _⟩ := h.at_ h0; exact ⟨g, c, hv⟩
theorem zgs {W : World} {ops : Array Oper} {rest : List Oper} {o : Oper} {a : Act} {Q : Exit -> Act -> World -> Prop} (hgd : o.guard = none) (s x : Operand)
  (ho : o.op = .call { callee := .builtin .append, args := #[s, x], argTypes := #[22, 22] }) {y : UInt8} {base : Nat} {v : Value} {l : List UInt8}
  (hs : a.eval s = v) {N : Nat} (hx : a.eval x = .slice (some ⟨N, 0, none⟩) 1 1) (hN : N = W.heap.size) (hown : zd8 W base v l) (hlen : l.length <= 1099511627776) (hbase : base <= W.heap.size)
  (h : ∀ v' w', zd8 w' base v' (l ++ [y]) -> (W.alloc (.cells #[.int .u8 (y.toNat : Int)] 5)).grownBy w' v.ownBlock -> Below base W w' -> wpList Tryz.prog ops Q rest (a.put o.dst v') w') :
  wpList Tryz.prog ops Q (o :: rest) a (W.alloc (.cells #[.int .u8 (y.toNat : Int)] 5)) := by
 subst hN; obtain ⟨i0, hi0, hz0, hz1, hz2⟩ := info_parts Tryz.infoBy; refine zdA hgd s x 22 ho i0 (.int .u8 0) 1 1 Tryz.underlying22 hi0 hz0 hz1 hz2 rfl (by decide) hs hx rfl (by simp [Value.oneCell']) hown yO yO hbase ?_
 intro v' w' h1 h2 h3; refine h v' w' ?_ h2 h3
 unfold zd8; rw [zgU]; simpa using h1
theorem zn9 (W : World) (N : Nat) (hN : N = W.heap.size) (c : UInt8) : (convert 22 9 (.slice (some ⟨N, 0, none⟩) 1 1)).run Tryz.prog (W.alloc (.cells #[.int .u8 (c.toNat : Int)] 5)) = .ok (.string (zcA c).letter) (W.alloc (.cells #[.int .u8 (c.toNat : Int)] 5)) := by
 subst hN
 rw [run_convert_bytes_arg (W.alloc (.cells #[.int .u8 (c.toNat : Int)] 5)) 22 5 Tryz.underlying22 Tryz.underlying5 W.heap.size 0 1 1 [(c.toNat : Int)] rfl
  (fun i hi => by
    have : i = 0 := by omega
    subst this
    simp [go_sem]) 9 Tryz.underlying9]
 have : strOfNums [(c.toNat : Int)] = (zcA c).letter := by
  simp only [strOfNums, zcA, List.map_cons, List.map_nil]
  simp
 rw [this]
theorem zfr (c : UInt8) (w : World) : Calls Tryz.prog 170 #[.int .u8 (c.toNat : Int)] w fun e w' => e = .returned (.agg #[.string (zcA c).letter, .int .i64 (zcA c).left, .int .i64 (zcA c).right]) /\ Below w.heap.size w w' := by
 have hcv := zn9 (w.alloc (Obj.cells #[.string ⟨#[]⟩, .int .i64 0, .int .i64 0] 112)) (w.heap.size + 1) yS c; go_enter Tryz.func170, Tryz.ntmps170
 go_wp2
 refine bodyPost_ret (v := .agg #[.string (zcA c).letter, .int .i64 0, .int .i64 0]) (by simp [results, Tryz.results170, go_sem]) rfl ⟨rfl, ?_⟩
 exact yb
def zoa (xs : List zaa) (X : zaa) : Int := if xs.idxOf X < xs.length then (xs.idxOf X : Int) else -1
theorem zm8 (xs : List zaa) (X : zaa) : decide (0 <= zoa xs X) = xs.contains X := by
 unfold zoa; by_cases h : X ∈ xs
 · rw [if_pos (List.idxOf_lt_length_iff.2 h)]; simp [h]
 · rw [if_neg (fun e => h (List.idxOf_lt_length_iff.1 e))]; simp [h]
theorem zj3 {K : List zaa} {X : zaa} {k : Nat} (h : ∀ j y, j < k -> K[j]? = some y -> X ≠ y) (hk : k <= K.length) : k <= K.idxOf X := by
 rcases Nat.lt_or_ge (K.idxOf X) k with hlt | hge
 · have hm : X ∈ K := List.idxOf_lt_length_iff.1 yO
   exact absurd rfl (h _ _ hlt (zjZ hm))
 · exact hge
theorem zew (v : Value) (xs : List zaa) (X : zaa) (w : World) (h : Sl zas w w.heap.size v xs) :
  Calls Tryz.prog 172 #[v, .agg #[.string X.letter, .int .i64 X.left, .int .i64 X.right]] w fun e w' => e = .returned (.int .i64 (zoa xs X)) /\ Below w.heap.size w w' := by
 obtain ⟨A, c, rfl, hc, hm, hrow⟩ := h; unfold maxLen at hm; go_enter Tryz.func172, Tryz.ntmps172
 go_wp2_with fail
 have KX := Blk.new w #[.string X.letter, .int .i64 X.left, .int .i64 X.right] 112; have hB := yq ((Below.refl w.heap.size w).alloc yL (Obj.cells #[.string X.letter, .int .i64 X.left, .int .i64 X.right] 112)); generalize w.alloc (Obj.cells #[.string X.letter, .int .i64 X.left, .int .i64 X.right] 112) = W at *; have HKX := yq KX; clear KX; go_loopw [8] (fun i wr => ∃ k : Nat, k <= xs.length /\ i = .int .i64 k /\ (∃ m, wr = W.drewN m) /\ yh (∀ j y, j < k -> xs[j]? = some y -> X ≠ y)) (fun i _ => xs.length - (intOf i).toNat)
 case atStart => exact ⟨0, Nat.zero_le _, rfl, ⟨0, rfl⟩, fun j y hj => absurd hj yO⟩
 case round =>
  obtain ⟨k, hk, rfl, ⟨m, rfl⟩, Hno⟩ := hrel; by_cases hlt : k < xs.length
  · obtain ⟨b, o, rfl, hbl, hcell⟩ := hrow.rule hlt
    obtain ⟨y, hy⟩ : ∃ y, xs[k]? = some y := ⟨_, ye hlt⟩
    obtain ⟨g0, g1, g2⟩ := hcell k y hy; have d0 := (hB.o.cell (p := ⟨b, o + k * 3, none⟩) hbl).trans g0; have d1 := (hB.o.cell (p := ⟨b, o + k * 3 + 1, none⟩) hbl).trans g1; have d2 := (hB.o.cell (p := ⟨b, o + k * 3 + 2, none⟩) hbl).trans g2; have x0 := HKX.o.cell (i := 0) (v := .string X.letter) rfl; have x1 := HKX.o.cell (i := 1) (v := .int .i64 X.left) rfl; have x2 := HKX.o.cell (i := 2) (v := .int .i64 X.right) rfl; have Hy := yq hy; have hki : (k : Int) < (xs.length : Int) := by omega
    clear hcell hy g0 g1 g2
    have hno' : X ≠ y -> yh (∀ j z, j < k + 1 -> xs[j]? = some z -> X ≠ z) := fun hne j z hj hz => by
     by_cases e : j = k
     · subst e
       rw [Hy.o] at hz; injection hz with hz; rw [<- hz]; exact hne
     · exact Hno.o j z yO hz
    have Hno' := yq hno'; clear hno'; by_cases e2 : X = y
    · subst e2
      have he := yq (show xs.idxOf X = k from Nat.le_antisymm (zgm Hy.o) (zj3 Hno.o hk)); go_wp2_with fail
      go_quiet (fail)
      go_wp2_with fail
      go_ret
      exact ⟨zbz (by rw [zoa, he.o, if_pos hlt]), zat (zat hB.o _) _⟩
    · have HNE := yq e2
      rcases zlI e2 with f1 | ⟨f1, f2⟩ | ⟨f1, f2, f3⟩
      · clear e2
        go_wp2_with fail
        go_quiet (fail)
        go_wp2_with fail
        go_roundw
        case rel => exact ⟨k + 1, by omega, by go_num, ⟨_, rfl⟩, Hno'.o HNE.o⟩
        case measure => simp [intOf]; omega
      · rw [f1] at x0
        clear e2 f1; go_wp2_with fail
        go_quiet (fail)
        go_wp2_with fail
        go_roundw
        case rel => exact ⟨k + 1, by omega, by go_num, ⟨_, rfl⟩, Hno'.o HNE.o⟩
        case measure => simp [intOf]; omega
      · rw [f1] at x0
        rw [f2] at x1; clear e2 f1 f2; go_wp2_with fail
        go_quiet (fail)
        go_wp2_with fail
        go_roundw
        case rel => exact ⟨k + 1, by omega, by go_num, ⟨_, rfl⟩, Hno'.o HNE.o⟩
        case measure => simp [intOf]; omega
  · have hkn : k = xs.length := by omega
    have hge := zj3 Hno.o hk; go_wp2
    go_ret
    exact ⟨zbz (by rw [zoa, if_neg yO]), zat hB.o _⟩
theorem zfs (v : Value) (xs : List zaa) (X : zaa) (w : World) (h : Sl zas w w.heap.size v xs) :
  Calls Tryz.prog 179 #[v, .agg #[.string X.letter, .int .i64 X.left, .int .i64 X.right]] w fun e w' => e = .returned (.bool (xs.contains X)) /\ Below w.heap.size w w' := by
 have HS := yq h; obtain ⟨A, c, rfl, _⟩ := h; go_enter Tryz.func179, Tryz.ntmps179
 go_wp2_with fail
 refine (zew _ xs X _ (HS.o.up yb)).mono ?_
 rintro e w2 ⟨rfl, hb2⟩; go_wp2
 go_ret
 exact ⟨zak (zm8 xs X), (Below.unalloc hb2).1⟩
theorem zhA (v : Value) (xs : List zaa) (k : Nat) (w : World) (h : Sl zas w w.heap.size v xs) (hk : k < 4) :
  Calls Tryz.prog 141 #[.agg #[v], .int .u8 (97 + k : Int)] w fun e w' => e = .returned (.bool (zgT xs k)) /\ Below w.heap.size w w' := by
 have HS := yq h
 have hc : (97 + k : Int) = ((ltr k).toNat : Int) := by
  have : k = 0 \/ k = 1 \/ k = 2 \/ k = 3 := by omega
  rcases this with rfl | rfl | rfl | rfl <;> rfl
 obtain ⟨A, c, rfl, _⟩ := h; rw [hc]; clear hc; go_enter Tryz.func141, Tryz.ntmps141
 go_wp2_with fail
 have hcA : (w.alloc (Obj.cells #[Value.slice A xs.length c] 26)).drew.cell? ⟨w.heap.size, 0, none⟩ = some (.slice A xs.length c) := by simp [go_sem]
 have KB := And.intro (show Below (w.alloc (Obj.cells #[Value.slice A xs.length c] 26)).heap.size (w.alloc (Obj.cells #[Value.slice A xs.length c] 26)) (w.alloc (Obj.cells #[Value.slice A xs.length c] 26)).drew from Below.drew (Below.refl _ _)) hcA; have hlt : w.heap.size < (w.alloc (Obj.cells #[Value.slice A xs.length c] 26)).heap.size := by simp
 go_region_held3 (fun w' => Below (w.alloc (Obj.cells #[Value.slice A xs.length c] 26)).heap.size (w.alloc (Obj.cells #[Value.slice A xs.length c] 26)) w' /\ w'.cell? ⟨w.heap.size, 0, none⟩ = some (.slice A xs.length c))
  (first | (with_reducible exact KB) | (with_reducible exact zlx KB hb1 hlt) | (with_reducible exact zlx (zlx KB hb1 hlt) hb2 hlt))
  (first
    | (go_at_call 170; (refine (zfr _ _).mono ?_); rintro e w1 ⟨rfl, hb1⟩)
    | (go_at_call 179; (refine (zfs _ xs (zcA (ltr k)) _ ((HS.o.up yb).up hb1)).mono ?_); rintro e w2 ⟨rfl, hb2⟩))
 have hz := (Below.unalloc (zlx (zlx KB hb1 hlt) hb2 hlt).1).1; have HZ := yq hz; clear KB hb1 hb2 hz hcA; go_wp2
 go_ret
 exact ⟨zak (by simp [zgT]), HZ.o⟩
end Go.Proofs.YtdacndamehiglaaGreatDoor
