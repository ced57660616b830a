import Derived.Test.YtejgbfgocaggfaaGreatDoorM7
import Derived.Deep.RegionWith
import Derived.Shelf.Small.Strs
import Derived.Shelf.Utf8.RuneCount
import Derived.Shelf.LaysM
import Derived.Shelf.Strings.Search1
import Derived.Shelf.Strings.Search2
import Derived.Shelf.Strings.Search3
import Derived.Shelf.Strings.Count
import Derived.Shelf.Strings.Shaped
import Derived.Shelf.Strings.Split
import Derived.Shelf.Strings.SplitShaped
import Derived.Shelf.Strings.RuneCount
import Derived.Shelf.Strings.Explode
import Derived.Test.YtejgbfgocaggfaaGreatDoorProg
import Derived.Lib.UnsafeStr
import Derived.Laws.IdiomStrings
set_option maxRecDepth 100000
set_option maxHeartbeats 8000000
namespace Go.Proofs.YtejgbfgocaggfaaGreatDoor
theorem zet {xs : List zaa} (h : za2 xs) {r : Nat} (hx : r < xs.length) (hp : (zaA xs r).pair = true) :
  0 <= (zaA xs r).left /\ (zaA xs r).left.toNat < r /\ 0 <= (zaA xs r).right /\ (zaA xs r).right.toNat < r := zbs (h r _ (zcm hx)) hp
theorem zgS {xs : List zaa} (h : za2 xs) : ∀ (f r : Nat), r < f -> r < xs.length -> zcD xs f r = W1 xs r := by
 intro f
 induction f using Nat.strongRecOn with
 | _ f ih =>
   intro r hr hx; obtain ⟨g, rfl⟩ : ∃ g, f = g + 1 := ⟨f - 1, by omega⟩
   unfold W1; rw [zcD, zcD]; cases hp : (zaA xs r).pair with
   | false => rfl
   | true =>
     obtain ⟨q1, q2, q3, q4⟩ := zet h hx hp; rw [if_pos rfl, if_pos rfl, ih g yO _ yO yO, ih g yO _ yO yO]; by_cases e : r = g
     · subst e
       rw [ih r yO _ yO yO, ih r yO _ yO yO]
     · rw [ih r yO _ q2 yO, ih r yO _ q4 yO]
theorem zcz {xs : List zaa} (h : za2 xs) {r : Nat} (hx : r < xs.length) (hp : (zaA xs r).pair = true) : W1 xs r = W1 xs (zaA xs r).left.toNat ++ W1 xs (zaA xs r).right.toNat := by
 obtain ⟨q1, q2, q3, q4⟩ := zet h hx hp; rw [W1, zcD, if_pos hp, zgS h r _ q2 yO, zgS h r _ q4 yO]
theorem zmt {xs : List zaa} (h : za2 xs) {i j : Nat} (hi : i < xs.length) (hj : j < xs.length) (e : zaA xs i = zaA xs j) : W1 xs i = W1 xs j := by
 cases hp : (zaA xs i).pair with
 | true => rw [zcz h hi hp, zcz h hj (by rw [<- e]; exact hp), e]
 | false => rw [zda hp, zda (by rw [<- e]; exact hp), e]
theorem zge {xs ys : List zaa} (h : za2 xs) (h' : za2 (xs ++ ys)) : ∀ (r : Nat), r < xs.length -> W1 (xs ++ ys) r = W1 xs r := by
 intro r
 induction r using Nat.strongRecOn with
 | _ r ih =>
   intro hx; have e : zaA (xs ++ ys) r = zaA xs r := zc9 hx; cases hp : (zaA xs r).pair with
   | true =>
     obtain ⟨q1, q2, q3, q4⟩ := zet h hx hp; rw [zcz h hx hp, zcz h' (by simp; omega) (by rw [e]; exact hp), e, ih _ q2 yO, ih _ q4 yO]
   | false => rw [zda hp, zda (by rw [e]; exact hp), e]
theorem zii {xs : List zaa} (h : za2 xs) {r : Nat} (hx : r < xs.length) (hp : (zaA xs r).pair = false) : (W1 xs r).length = 1 := by
 rw [zda hp]; have := (zce (h r _ (zcm hx)) hp).1; rw [Array.length_toList]; exact this
theorem zij {xs : List zaa} (h : za2 xs) (hm : ∀ r, r < xs.length -> ((W1 xs r).length : Int) <= ze2) : ∃ ls, zaW xs = some ls := by
 suffices H : ∀ k, k <= xs.length -> ∃ out, zaW (xs.take k) = some out /\ out.length = k /\ ∀ r, r < k -> out.getD r 0 = ((W1 xs r).length : Int) by
  obtain ⟨out, h1, _⟩ := H xs.length yL; rw [List.take_length] at h1; exact ⟨out, h1⟩
 intro k
 induction k with
 | zero => intro _; exact ⟨[], rfl, rfl, fun r hr => absurd hr yO⟩
 | succ k ih =>
   intro hk; obtain ⟨out, h1, h2, h3⟩ := ih yO; have hr := zcm (xs := xs) (r := k) yO; have hok := h k _ hr
   have hlen : zaU out (zaA xs k) = ((W1 xs k).length : Int) := by
    unfold zaU; cases hp : (zaA xs k).pair with
    | true =>
      obtain ⟨q1, q2, q3, q4⟩ := zet h yO hp; rw [if_pos rfl, h3 _ q2, h3 _ q4, zcz h yO hp, List.length_append]; omega
    | false => rw [if_neg yS, zii h yO hp]; rfl
   have := hm k yO; refine ⟨_, zei h1 hr (by rw [h2]; exact hok) (by rw [hlen]; exact this), by simp [h2], fun r hr => ?_⟩
   rcases Nat.lt_or_ge r k with hlt | hge
   · rw [zb6 yO]; exact h3 r hlt
   · have : r = out.length := by omega
     subst this; rw [zdG, hlen, h2]
theorem zmu {xs : List zaa} {ls : List Int} (h : zaW xs = some ls) {r : Nat} (hx : r < xs.length) : ((W1 xs r).length : Int) <= ze2 := by
 rw [zeb h r hx, yg, ye (by rw [zaG h]; exact hx)]; exact (zgx h _ (List.getElem_mem _)).2
theorem zlp {S : List Int} {x : Int} {r : zaa} (h : r.pair = true -> r.left.toNat < S.length /\ r.right.toNat < S.length) : zcx (S ++ [x]) r = zcx S r := by
 cases hp : r.pair with
 | true => rw [zbY hp, zbY hp, zb6 (h hp).1, zb6 (h hp).2]
 | false => rw [zcj hp, zcj hp]
theorem zmv {xs : List zaa} (h : za2 xs) : ∀ k, k <= xs.length -> ∀ i, i < k -> zaA (zbP (xs.take k)).1 i = zcx (zbP (xs.take k)).2 (zaA xs i) := by
 intro k
 induction k with
 | zero => intro _ i hi; omega
 | succ k ih =>
   intro hk i hi; have H := ih yO; have C := zfr h k yO; have hr := zcm (xs := xs) (r := k) yO; rw [zeM hr]; obtain ⟨K, S, hp⟩ : ∃ K S, zbP (xs.take k) = (K, S) := ⟨_, _, rfl⟩
   rw [hp] at H C |-
   have l1 : K.length = k := C.l1; have l2 : S.length = k := C.l2; show zaA (K ++ [zcx S (zaA xs k)]) i = zcx (S ++ [((K.idxOf (zcx S (zaA xs k)) : Nat) : Int)]) (zaA xs i)
   rw [zlp (fun hpr => by
    obtain ⟨q1, q2, q3, q4⟩ := zet h (show i < xs.length by omega) hpr
    omega)]
   rcases Nat.lt_or_ge i k with hlt | hge
   · rw [zc9 yO]; exact H i hlt
   · have : i = K.length := by omega
     subst this; rw [zel, l1]
theorem zlq {xs : List zaa} (h : za2 xs) : ∀ i, i < xs.length -> W1 (zbP xs).1 i = W1 xs i := by
 have C := zdI h; have G := zmv h xs.length yL; rw [List.take_length] at G; obtain ⟨K, S, hp⟩ : ∃ K S, zbP xs = (K, S) := ⟨_, _, rfl⟩
 rw [hp] at C G |-
 have l1 : K.length = xs.length := C.l1; have cok : za2 K := C.ok; intro i
 induction i using Nat.strongRecOn with
 | _ i ih =>
   intro hi; show W1 K i = W1 xs i
   have e : zaA K i = zcx S (zaA xs i) := G i hi; cases hpr : (zaA xs i).pair with
   | true =>
     obtain ⟨q1, q2, q3, q4⟩ := zet h hi hpr; rw [zbY hpr] at e
     have key : ∀ j, j < i -> (S.getD j 0).toNat < K.length /\ W1 K (S.getD j 0).toNat = W1 xs j := by
      intro j hj; have h1 : S.getD j 0 = ((K.idxOf (zaA K j) : Nat) : Int) := C.idx j yO; have hm : zaA K j ∈ K := zgz yO; have hlt : K.idxOf (zaA K j) < K.length := List.idxOf_lt_length_iff.2 hm; rw [h1, Int.toNat_natCast]; refine ⟨hlt, ?_⟩
      rw [<- ih j hj yO]; refine zmt cok hlt yO ?_
      exact (zbW (ye hlt)).trans (List.getElem_idxOf hlt)
     have hpk : (zaA K i).pair = true := by rw [e]; rfl
     rw [zcz cok yO hpk, zcz h hi hpr, e]; show W1 K (S.getD (zaA xs i).left.toNat 0).toNat ++ W1 K (S.getD (zaA xs i).right.toNat 0).toNat = _
     rw [(key _ q2).2, (key _ q4).2]
   | false =>
     rw [zcj hpr] at e; rw [zda (by rw [e]; exact hpr), zda hpr, e]
theorem zik {l : List Bool} {i x : Nat} (h : l.getD x false = true) : (l.set i true).getD x false = true := by
 rw [yg, List.getElem?_set]
 split
 · split
   · rfl
   · rename_i h1 h2; subst h1
     rw [yg, List.getElem?_eq_none yO] at h; simp at h
 · rw [<- yg]; exact h
theorem zmw {l : List Bool} {i : Nat} (h : i < l.length) : (l.set i true).getD i false = true := by
 rw [yg, List.getElem?_set, if_pos rfl, if_pos h]; rfl
theorem zgT {α : Type} {l : List α} {i x : Nat} {v d : α} (h : i ≠ x) : (l.set i v).getD x d = l.getD x d := by
 rw [yg, List.getElem?_set, if_neg h, <- yg]
theorem zil {ks : List zaa} {l : List Bool} {i x : Nat} (h : l.getD x false = true) : (zbA ks l i).getD x false = true := by
 unfold zbA; split
 · exact zik (zik h)
 · exact h
theorem zc3 {ks : List zaa} : ∀ (i : Nat) {l : List Bool} {x : Nat}, l.getD x false = true -> (zaV ks i l).getD x false = true
 | 0, _, _, h => h
 | i + 1, _, _, h => zc3 i (zil h)
theorem ze3 {ks : List zaa} (hk : za2 ks) {l : List Bool} {i x : Nat} (hi : i < ks.length) (h : i <= x) : (zbA ks l i).getD x false = l.getD x false := by
 unfold zbA; split
 · rename_i c
   simp only [Bool.and_eq_true] at c
   obtain ⟨q1, q2, q3, q4⟩ := zet hk hi c.2; rw [zgT yO, zgT yO]
 · rfl
theorem ze4 {ks : List zaa} (hk : za2 ks) : ∀ (i : Nat) {l : List Bool} {x : Nat}, i <= ks.length -> i <= x -> (zaV ks i l).getD x false = l.getD x false
 | 0, _, _, _, _ => rfl
 | i + 1, l, x, hi, h => by rw [zaV, ze4 hk i yO yO, ze3 hk yO yO]
theorem zeu {ks : List zaa} (hk : za2 ks) : ∀ (i : Nat) {l : List Bool} {x : Nat}, i <= ks.length -> l.length = ks.length -> x < i -> (zaV ks i l).getD x false = true -> (zaA ks x).pair = true ->
  (zaV ks i l).getD (zaA ks x).left.toNat false = true /\ (zaV ks i l).getD (zaA ks x).right.toNat false = true
 | 0, _, _, _, _, hx, _, _ => by omega
 | i + 1, l, x, hi, hl, hx, h, hp => by
   rw [zaV] at h |-
   rcases Nat.lt_or_ge x i with hlt | hge
   · exact zeu hk i yO (by rw [zgb]; exact hl) hlt h hp
   · have : x = i := by omega
     subst this; rw [ze4 hk x yO yL, ze3 hk yO yL] at h; obtain ⟨q1, q2, q3, q4⟩ := zet hk yO hp
     have e : zbA ks l x = (l.set (zaA ks x).left.toNat true).set (zaA ks x).right.toNat true := by
      unfold zbA; rw [if_pos (by rw [h, hp]; rfl)]
     rw [e]; exact ⟨zc3 _ (zik (zmw yO)), zc3 _ (zmw (by simp; omega))⟩
theorem zfy {ks : List zaa} (hk : za2 ks) {m : Nat} : ∀ (i : Nat) {l : List Bool}, i <= ks.length -> (∀ x, l.getD x false = true -> x <= m) -> ∀ x, (zaV ks i l).getD x false = true -> x <= m
 | 0, _, _, h, x, hx => h x hx
 | i + 1, l, hi, h, x, hx => by
   rw [zaV] at hx; refine zfy hk i yO (fun y hy => ?_) x hx
   unfold zbA at hy; split at hy
   · rename_i c
     simp only [Bool.and_eq_true] at c
     obtain ⟨q1, q2, q3, q4⟩ := zet hk (show i < ks.length by omega) c.2; have hm := h i c.1; by_cases e1 : (zaA ks i).right.toNat = y
     · omega
     · rw [zgT e1] at hy
       by_cases e2 : (zaA ks i).left.toNat = y
       · omega
       · rw [zgT e2] at hy; exact h y hy
   · exact h y hy
structure zpy (xs ks : List zaa) (need : List Bool) (k : Nat) (p : List zaa × List Int) : Prop where
 l2 : p.2.length = xs.length
 pos : ∀ i, i < k -> need.getD i false = true -> 0 <= p.2.getD i 0 /\ (p.2.getD i 0).toNat < p.1.length
 ok : za2 p.1
 word : ∀ i, i < k -> need.getD i false = true -> W1 p.1 (p.2.getD i 0).toNat = W1 ks i
 from_ : ∀ a, a < p.1.length -> ∃ i, i < k /\ need.getD i false = true /\ (p.2.getD i 0).toNat = a
theorem zpz {xs : List zaa} (h : za2 xs) (hcl : ∀ x, x < xs.length -> (zcn xs).getD x false = true -> (zaA (zbP xs).1 x).pair = true -> (zcn xs).getD (zaA (zbP xs).1 x).left.toNat false = true /\ (zcn xs).getD (zaA (zbP xs).1 x).right.toNat false = true) :
  ∀ k, k <= xs.length -> zpy xs (zbP xs).1 (zcn xs) k (zby xs k) := by
 have C := zdI h; obtain ⟨K, hK⟩ : ∃ K, (zbP xs).1 = K := ⟨_, rfl⟩
 have cok : za2 K := hK ▸ C.ok; have cl1 : K.length = xs.length := hK ▸ C.l1; rw [hK] at hcl |-
 intro k
 induction k with
 | zero => intro _; exact ⟨by simp [zby], fun i hi => absurd hi yO, fun k r hk => by simp [zby] at hk, fun i hi => absurd hi yO, fun a ha => by simp [zby] at ha⟩
 | succ k ih =>
   intro hk; have H := ih yO; rw [zcH, hK]; obtain ⟨O, M, hp⟩ : ∃ O M, zby xs k = (O, M) := ⟨_, _, rfl⟩
   rw [hp] at H |-
   have l2 : M.length = xs.length := H.l2; unfold zcG; by_cases hn : (zcn xs).getD k false = true
   · rw [if_pos hn]
     obtain ⟨X, hX⟩ : ∃ X, zcx M (zaA K k) = X := ⟨_, rfl⟩
     show zpy xs K (zcn xs) (k + 1) (O ++ [zcx M (zaA K k)], M.set k (O.length : Int))
     have hkk : k < K.length := by omega
     have hXok : zaC O.length X = true := by
      rw [<- hX]; cases hpr : (zaA K k).pair with
      | true =>
        obtain ⟨q1, q2, q3, q4⟩ := zet cok hkk hpr; obtain ⟨c1, c2⟩ := hcl k yO hn hpr; obtain ⟨a1, a2⟩ := H.pos _ q2 c1; obtain ⟨a3, a4⟩ := H.pos _ q4 c2; rw [zbY hpr]; have a1' : 0 <= M.getD (zaA K k).left.toNat 0 := a1; have a2' : (M.getD (zaA K k).left.toNat 0).toNat < O.length := a2; have a3' : 0 <= M.getD (zaA K k).right.toNat 0 := a3; have a4' : (M.getD (zaA K k).right.toNat 0).toNat < O.length := a4; exact zco ⟨a1', by omega⟩ ⟨a3', by omega⟩
      | false =>
        rw [zcj hpr]; have h1 := cok k _ (zcm hkk); unfold zaC at h1 |-
        rw [if_neg (by simp [hpr])] at h1 |-
        exact h1
     rw [hX]; have hO : za2 O := H.ok; have hO2 : za2 (O ++ [X]) := hO.snoc hXok; have hold : ∀ i, i < k -> (M.set k (O.length : Int)).getD i 0 = M.getD i 0 := fun i hi => zgT yO
     have hnew : (M.set k (O.length : Int)).getD k 0 = (O.length : Int) := by
      rw [yg, List.getElem?_set, if_pos rfl, if_pos yO]; rfl
     refine ⟨by simp [l2], ?_, hO2, ?_, ?_⟩
     · intro i hi hni
       show 0 <= (M.set k (O.length : Int)).getD i 0 /\ ((M.set k (O.length : Int)).getD i 0).toNat < (O ++ [X]).length
       rcases Nat.lt_or_ge i k with hlt | hge
       · rw [hold i hlt, List.length_append]
         have := H.pos i hlt hni; exact ⟨this.1, Nat.lt_of_lt_of_le this.2 (Nat.le_add_right _ _)⟩
       · have : i = k := by omega
         subst this; rw [hnew]; simp
     · intro i hi hni
       show W1 (O ++ [X]) ((M.set k (O.length : Int)).getD i 0).toNat = W1 K i
       rcases Nat.lt_or_ge i k with hlt | hge
       · rw [hold i hlt, zge hO hO2 _ (H.pos i hlt hni).2]
         exact H.word i hlt hni
       · have : i = k := by omega
         subst this; rw [hnew, Int.toNat_natCast]; have eX : zaA (O ++ [X]) O.length = X := zel _ _; cases hpr : (zaA K i).pair with
         | true =>
           obtain ⟨q1, q2, q3, q4⟩ := zet cok hkk hpr; obtain ⟨c1, c2⟩ := hcl i yO hn hpr; have hXp : X = zaP (M.getD (zaA K i).left.toNat 0) (M.getD (zaA K i).right.toNat 0) := by rw [<- hX, zbY hpr]
           rw [zcz hO2 yS (by rw [eX, hXp]; rfl), eX, hXp]; show W1 _ (M.getD (zaA K i).left.toNat 0).toNat ++ W1 _ (M.getD (zaA K i).right.toNat 0).toNat = _
           rw [<- hXp, zge hO hO2 _ (H.pos _ q2 c1).2, zge hO hO2 _ (H.pos _ q4 c2).2, zcz cok hkk hpr]; have w1 := H.word _ q2 c1; have w2 := H.word _ q4 c2; show W1 O _ ++ W1 O _ = _
           rw [<- w1, <- w2]
         | false =>
           have hXl : X = zaA K i := by rw [<- hX, zcj hpr]
           rw [zda (by rw [eX, hXl]; exact hpr), eX, hXl, zda hpr]
     · intro a ha
       rcases Nat.lt_or_ge a O.length with hlt | hge
       · obtain ⟨i, h1, h2, h3⟩ := H.from_ a hlt
         exact ⟨i, by omega, h2, by show ((M.set k (O.length : Int)).getD i 0).toNat = a; rw [hold i h1]; exact h3⟩
       · have ha' : a < (O ++ [X]).length := ha
         rw [List.length_append] at ha'; have : a = O.length := by simp at ha'; omega
         subst this; exact ⟨k, by omega, hn, by show ((M.set k (O.length : Int)).getD k 0).toNat = O.length; rw [hnew]; simp⟩
   · rw [if_neg hn]
     refine ⟨l2, ?_, H.ok, ?_, ?_⟩
     · intro i hi hni
       rcases Nat.lt_or_ge i k with hlt | hge
       · exact H.pos i hlt hni
       · have : i = k := by omega
         subst this; exact absurd hni hn
     · intro i hi hni
       rcases Nat.lt_or_ge i k with hlt | hge
       · exact H.word i hlt hni
       · have : i = k := by omega
         subst this; exact absurd hni hn
     · intro a ha
       obtain ⟨i, h1, h2, h3⟩ := H.from_ a ha; exact ⟨i, by omega, h2, h3⟩
theorem zfz {xs : List zaa} {ls : List Int} (hl : zaW xs = some ls) : ∃ ls', zaW (zaQ xs) = some ls' /\ zau (zaQ xs) = zau xs /\ (0 < xs.length -> 0 < (zaQ xs).length) := by
 by_cases h0 : 0 < xs.length
 · have h := zaz hl
   have C := zdI h; obtain ⟨K, S, hp⟩ : ∃ K S, zbP xs = (K, S) := ⟨_, _, rfl⟩
   rw [hp] at C; have l1 : K.length = xs.length := C.l1; have cok : za2 K := C.ok; have hroot : 0 <= S.getD (xs.length - 1) 0 /\ S.getD (xs.length - 1) 0 <= ((xs.length - 1 : Nat) : Int) := C.low (xs.length - 1) yO; obtain ⟨R, hR⟩ : ∃ R, (S.getD (xs.length - 1) 0).toNat = R := ⟨_, rfl⟩
   have hRl : R < xs.length := by omega
   have eN : zcn xs = zaV K xs.length ((List.replicate xs.length false).set R true) := by
    unfold zcn zfq; rw [hp]; show zaV K _ ((List.replicate xs.length false).set (S.getD (xs.length - 1) 0).toNat true) = _; rw [hR]
   have hbl : ((List.replicate xs.length false).set R true).length = K.length := by simp [l1]
   have hNR : (zcn xs).getD R false = true := by rw [eN]; exact zc3 _ (zmw (by simp; omega))
   have hmost : ∀ x, (zcn xs).getD x false = true -> x <= R := by
    rw [eN]; refine zfy cok _ yO (fun x hx => ?_)
    by_cases e : R = x
    · omega
    · rw [zgT e] at hx
      rw [yg, List.getElem?_replicate] at hx
      split at hx <;> simp at hx
   have hcl : ∀ x, x < xs.length -> (zcn xs).getD x false = true -> (zaA (zbP xs).1 x).pair = true -> (zcn xs).getD (zaA (zbP xs).1 x).left.toNat false = true /\ (zcn xs).getD (zaA (zbP xs).1 x).right.toNat false = true := by
    rw [hp, eN]; intro x hx h1 h2; exact zeu cok _ yO hbl hx h1 h2
   have H := zpz h hcl xs.length yL; rw [hp] at H; have hw := zlq h; rw [hp] at hw
   -- the last rule is that of the root
   have hlast : ∀ k, R < k -> k <= xs.length -> (zby xs k).1.length = (zby xs (R + 1)).1.length /\ (zby xs k).2.getD R 0 = (zby xs (R + 1)).2.getD R 0 := by
    intro k
    induction k with
    | zero => intro h; omega
    | succ k ih =>
      intro h1 h2; rcases Nat.lt_or_ge R k with hlt | hge
      · have hnk : ¬ (zcn xs).getD k false = true := fun e => by have := hmost k e; omega
        rw [zcH]; unfold zcG; rw [if_neg hnk]; exact ih hlt yO
      · have : k = R := by omega
        subst this; exact ⟨rfl, rfl⟩
   obtain ⟨e1, e2⟩ := hlast xs.length hRl yL
   have e3 : (zby xs (R + 1)).1.length = (zby xs R).1.length + 1 /\ (zby xs (R + 1)).2.getD R 0 = ((zby xs R).1.length : Int) := by
    rw [zcH]; unfold zcG; rw [if_pos hNR]; refine ⟨by simp, ?_⟩
    show ((zby xs R).2.set R _).getD R 0 = _
    rw [yg, List.getElem?_set, if_pos rfl, if_pos (by rw [(zdH xs R).1]; exact hRl)]; rfl
   have hlen : (zaQ xs).length = (zby xs R).1.length + 1 := by rw [zaQ, e1, e3.1]
   have hnum : ((zby xs xs.length).2.getD R 0).toNat = (zaQ xs).length - 1 := by rw [e2, e3.2, hlen]; simp
   have hword : W1 (zaQ xs) ((zaQ xs).length - 1) = W1 xs (xs.length - 1) := by
    rw [<- hnum]; have h1 : W1 (zaQ xs) ((zby xs xs.length).2.getD R 0).toNat = W1 K R := H.word R hRl hNR; rw [h1]
    have h2 : W1 K R = W1 K (xs.length - 1) := by
     have hi : S.getD (xs.length - 1) 0 = ((K.idxOf (zaA K (xs.length - 1)) : Nat) : Int) := C.idx _ yO; have hm : zaA K (xs.length - 1) ∈ K := zgz yO; have hlt : K.idxOf (zaA K (xs.length - 1)) < K.length := List.idxOf_lt_length_iff.2 hm; have hRe : R = K.idxOf (zaA K (xs.length - 1)) := by rw [<- hR, hi]; simp
     refine zmt cok yO yO ?_
     rw [hRe]; exact (zbW (ye hlt)).trans (List.getElem_idxOf hlt)
    rw [h2]; exact hw _ yO
   have hmax : ∀ r, r < (zaQ xs).length -> ((W1 (zaQ xs) r).length : Int) <= ze2 := by
    intro r hr; obtain ⟨i, h1, h2, h3⟩ := H.from_ r hr; have h4 : W1 (zaQ xs) ((zby xs xs.length).2.getD i 0).toNat = W1 K i := H.word i h1 h2; have h5 : W1 K i = W1 xs i := hw i h1; rw [show r = ((zby xs xs.length).2.getD i 0).toNat from h3.symm, h4, h5]; exact zmu hl h1
   obtain ⟨ls', hl'⟩ := zij H.ok hmax; refine ⟨ls', hl', ?_, fun _ => by omega⟩
   rw [za6 yO, za6 h0]; exact hword
 · have hx : xs = [] := yn yO
   subst hx; exact ⟨[], rfl, rfl, fun h => absurd h yS⟩
theorem zj7 {xs : List zaa} (h : zag xs = true) : zag (zaQ xs) = true := by
 obtain ⟨h4, ls, hl⟩ := zai h; obtain ⟨ls', hl', _⟩ := zfz hl; have := zfs xs; simp only [zag, Bool.and_eq_true, decide_eq_true_eq]
 exact ⟨by omega, by rw [hl']; rfl⟩
open Go.RowKit
def zbC (s g : Option (List zaa)) : Option (List zaa) := match s, g with
 | some o, some x => if zag (zbh o x) then some (zbh o x) else none
 | _, _ => none
def zbt (xs : List zaa) : Option (List zaa) := if zag xs then some xs else none
def ze5 (s : Option (List zaa)) (out : List zaa) (c : Int) : Prop := (s = some out /\ c = 0 /\ zag out = true) \/ (s = none /\ c = 3)
theorem zc8 (xs : List zaa) : ze5 (zbt xs) (zav xs) (zas xs) := by
 unfold ze5 zbt zav zas; cases h : zag xs with
 | true => exact .inl ⟨rfl, rfl, by simpa using h⟩
 | false => exact .inr ⟨rfl, rfl⟩
theorem zgU (xs : List zaa) : zag (zav xs) = true := by
 unfold zav; cases h : zag xs with
 | true => simpa using h
 | false => rfl
def Asm (w : World) (b : Nat) (xs : List zaa) (ls : List Int) (s : Option (List zaa)) : Prop :=
 ∃ vG vL vO out c, Blk w b #[vG, vL, vO, .int .i64 c] 137 /\ Sl zar w b vG xs /\ Sl zgt w b vL ls /\ zac w (b + 1) vO out /\ ze5 s out c /\ zag out = true
theorem Asm.lt {w : World} {b : Nat} {xs : List zaa} {ls : List Int} {s : Option (List zaa)} (h : Asm w b xs ls s) : b < w.heap.size := by
 obtain ⟨_, _, _, _, _, h, _⟩ := h; exact h.lt
theorem Asm.up {w w' : World} {b : Nat} {xs : List zaa} {ls : List Int} {s : Option (List zaa)} (h : Asm w b xs ls s) (hb : Below w.heap.size w w') : Asm w' b xs ls s := by
 have hlt := h.lt; obtain ⟨vG, vL, vO, out, c, h1, h2, h3, h4, h5, h6⟩ := h; exact ⟨vG, vL, vO, out, c, h1.up hb, h2.below (hb.mono yO), h3.below (hb.mono yO), zac.below h4 hb, h5, h6⟩
theorem zp2 {α : Type} {E : Enc α} {w w' : World} {N : Nat} {v : Value} {xs : List α} (h : Sl E w N v xs) (hN : N <= w.heap.size) (hb : Below w.heap.size w w') : Sl E w' w'.heap.size v xs := (h.le hN).up hb
theorem zp3 {wr W : World} {p q a : Addr} {v u x : Value} (h : Below wr.heap.size wr W /\ W.cell? p = some v /\ W.cell? q = some u) (ha : wr.heap.size <= a.block) (hp : p.block < wr.heap.size) (hq : q.block < wr.heap.size) :
  Below wr.heap.size wr (W.setCell a x) /\ (W.setCell a x).cell? p = some v /\ (W.setCell a x).cell? q = some u :=
 ⟨h.1.setCell ha x, (World.cell?_of_block (Below.heap_setCell _ _ _ _ yO)).trans h.2.1, (World.cell?_of_block (Below.heap_setCell _ _ _ _ yO)).trans h.2.2⟩
theorem zoV {w w' : World} {a : Array Value} {t : TypeId} (hb : Below (w.alloc (.cells a t)).heap.size (w.alloc (.cells a t)) w') : Below w.heap.size w w' /\ Blk w' w.heap.size a t := Below.unalloc hb
theorem zgV (b : Nat) (xs : List zaa) (ls : List Int) (s : Option (List zaa)) (i j : Int) (w : World) (h : Asm w b xs ls s) (hl : zaW xs = some ls) (hn : xs.length <= 1048576) :
  Calls Tryz.prog 98 #[.pointer (some ⟨b, 0, none⟩), .int .i64 i, .int .i64 j] w (zl8 (zav (zap xs ls i j)) (zas (zap xs ls i j)) w) := by
 obtain ⟨vG, vL, vO, out, c, hB, hG, hL, hO, hs, hok⟩ := h; have hlt := hB.lt; have HG := yq (hG.le (Nat.le_of_lt hlt)); have HL := yq (hL.le (Nat.le_of_lt hlt)); have Hl := yq hl; have hpl := zjc hl i j; obtain ⟨AG, cG, rfl, _⟩ := hG; obtain ⟨AL, cL, rfl, _⟩ := hL; clear hO hs hl; have cA0_1 := Blk.cell (i := 0) (v := .slice AG xs.length cG) hB rfl; have cA1_2 := Blk.cell (i := 1) (v := .slice AL ls.length cL) hB rfl; have lA_3 := Blk.lt hB; clear hB hok; go_enter Tryz.func98, Tryz.ntmps98
 go_wp2_with fail
 have hcA : (w.alloc (Obj.cells #[Value.slice none 0 0] 26)).drew.cell? ⟨b, 0, none⟩ = some (.slice AG xs.length cG) := by simp [go_sem, cA0_1, hlt]
 have hcL : (w.alloc (Obj.cells #[Value.slice none 0 0] 26)).drew.cell? ⟨b, 1, none⟩ = some (.slice AL ls.length cL) := by simp [go_sem, cA1_2, hlt]
 have KB := And.intro (show Below w.heap.size w (w.alloc (Obj.cells #[Value.slice none 0 0] 26)).drew from yb) (And.intro hcA hcL)
 go_region_held3 (fun w' => Below w.heap.size w w' /\ w'.cell? ⟨b, 0, none⟩ = some (.slice AG xs.length cG) /\ w'.cell? ⟨b, 1, none⟩ = some (.slice AL ls.length cL))
  (first | (with_reducible exact KB) | (with_reducible exact zhv KB hb1 hlt hlt) | (with_reducible exact zhv (zhv KB hb1 hlt hlt) hb2 hlt hlt) | (with_reducible exact zp3 (zhv (zhv KB hb1 hlt hlt) hb2 hlt hlt) yL hlt hlt))
  (first
    | (go_at_call 107; (refine (zkM _ _ xs ls i j _ (HG.o.up yb) (HL.o.up yb) Hl.o hn).mono ?_); rintro e w1 ⟨hb1, v1, own1, rfl⟩)
    | (go_at_call 75; (refine (zcJ _ _ _ _ own1 yO).mono ?_); rintro e w2 ⟨hb2, v2, own2, rfl⟩; obtain ⟨A2, k2, rfl, _⟩ := zae own2; obtain ⟨hbz, KR⟩ := zoV (Below.tr (Below.undrew hb1) hb2); have cR := KR.cell (i := 0) (v := .slice none 0 0) rfl; have fR := KR.frozen 0; have lR := KR.lt))
 have HO2 := yq own2; have HB := yq hbz; have HK := yq KR; clear KB hb1 hb2 own1 own2 hbz KR hcA hcL; go_wp2
 refine bodyPost_ret (v := .tuple #[.agg #[.slice A2 (zav (zap xs ls i j)).length k2], .int .i64 (zas (zap xs ls i j))]) (by simp [results, Tryz.results98, go_sem, cR]) rfl ⟨HB.o.setCell yL _, _, ?_, rfl⟩
 exact zad (ownsRow_setCell_below HO2.o (a := ⟨w.heap.size, 0, none⟩) (by simp [World.drew]) _) (by simp [World.drew])
abbrev zlr (e : Ending) : Prop := e = .returned (.tuple #[])
theorem zdb {s g : Option (List zaa)} (h : s = none \/ g = none) : zbC s g = none := by
 rcases h with rfl | rfl
 · rfl
 · cases s <;> rfl
theorem zkP (o x : List zaa) : zbC (some o) (some x) = zbt (zbh o x) := rfl
theorem zeT (b : Nat) (xs : List zaa) (ls : List Int) (s g : Option (List zaa)) (vN : Value) (ys : List zaa) (cN : Int) (w : World) (h : Asm w b xs ls s) (hN : SlS zar w (fun k => k ≠ b /\ k < w.heap.size) vN ys) (hg : ze5 g ys cN) :
  Calls Tryz.prog 99 #[.pointer (some ⟨b, 0, none⟩), .agg #[vN], .int .i64 cN] w fun e w' => zlr e /\ But b w w' /\ Asm w' b xs ls (zbC s g) := by
 obtain ⟨vG, vL, vO, out, c, hB, hG, hL, hO, hs, hok⟩ := h; have hlt := hB.lt; have HB0 := yq hB; have HG := yq hG; have HL := yq hL; have HO := yq hO; have HN := yq hN; have HK := yq hok; obtain ⟨AN, kN, rfl, _⟩ := hN; obtain ⟨AO, kO, rfl, _⟩ := zae hO; clear hG hL hO; have hB1 : Blk (w.alloc (Obj.cells #[Value.slice AN ys.length kN] 26)) b _ _ := hB.alloc _; rcases hs with ⟨rfl, rfl, _⟩ | ⟨rfl, rfl⟩
 · rcases hg with ⟨rfl, rfl, hgy⟩ | ⟨rfl, rfl⟩
   · have c2 := hB.cell (i := 2) (v := .slice AO out.length kO) rfl
     have c3 := hB.cell (i := 3) (v := .int .i64 0) rfl; have f2 := hB.frozen 2; have f3 := hB.frozen 3; have HGY := yq hgy; have hy : ys.length <= 1048576 := by have := (zai hgy).1; omega
     clear hB hB1 hgy; go_enter Tryz.func99, Tryz.ntmps99
     go_wp2_with fail
     have KA : Blk ((w.setCell ⟨b, 3, none⟩ (.int .i64 0)).alloc (Obj.cells #[Value.slice AN ys.length kN] 26)) b #[vG, vL, .slice AO out.length kO, .int .i64 0] 137 := (HB0.o.set 3 _).alloc _
     have KN : Blk ((w.setCell ⟨b, 3, none⟩ (.int .i64 0)).alloc (Obj.cells #[Value.slice AN ys.length kN] 26)) w.heap.size #[.slice AN ys.length kN] 26 := by
      have := Blk.new (w.setCell ⟨b, 3, none⟩ (.int .i64 0)) #[Value.slice AN ys.length kN] 26; simpa using this
     have hbW : But b w ((w.setCell ⟨b, 3, none⟩ (.int .i64 0)).alloc (Obj.cells #[Value.slice AN ys.length kN] 26)) := ((But.refl b w).setCell _).alloc _
     have NW : SlS zar ((w.setCell ⟨b, 3, none⟩ (.int .i64 0)).alloc (Obj.cells #[Value.slice AN ys.length kN] 26)) (fun k => k ≠ b /\ k < w.heap.size) (.slice AN ys.length kN) ys :=
      HN.o.keep fun k hk => (Below.heap_alloc _ _ _ (by simpa using hk.2)).trans (Below.heap_setCell _ _ _ _ hk.1)
     have OW : zac ((w.setCell ⟨b, 3, none⟩ (.int .i64 0)).alloc (Obj.cells #[Value.slice AN ys.length kN] 26)) (b + 1) (.slice AO out.length kO) out := World.ownsRow.alloc (ownsRow_setCell_below HO.o (by show b < b + 1; omega) _) _; have zW : ((w.setCell ⟨b, 3, none⟩ (.int .i64 0)).alloc (Obj.cells #[Value.slice AN ys.length kN] 26)).heap.size = w.heap.size + 1 := by simp
     clear c2 c3 f2 f3; generalize (w.setCell ⟨b, 3, none⟩ (.int .i64 0)).alloc (Obj.cells #[Value.slice AN ys.length kN] 26) = W at *; have HKA := yq KA; have HNW := yq (NW.more (S' := (· < W.heap.size)) fun k hk => by have := hk.2; omega); have HOW := yq OW; have HBW := yq hbW; have c2 := KA.cell (i := 2) (v := .slice AO out.length kO) rfl; have cN := KN.cell (i := 0) (v := .slice AN ys.length kN) rfl; have lN := KN.lt; have lA := KA.lt; have l1 : out.length <= 1048576 := by have := (zai HK.o).1; omega
     have l2 : (zbh out ys).length <= 1099511627776 := by have := zmo (zai HK.o).1 (zai HGY.o).1; omega
     clear KA NW OW hbW zW KN
     go_region_law (first
      | (go_simp; go_at_call 132; (refine (znP _ _ out ys _ (HOW.o.sl.up yb) (HNW.o.up yb) l1 hy (zgK HGY.o)).mono ?_); rintro e w1 ⟨hb1, v1, own1, rfl⟩)
      | (go_simp; go_at_call 75; (refine (zcJ _ _ _ _ own1 l2).mono ?_); rintro e w2 ⟨hb2, v2, own2, rfl⟩; obtain ⟨A2, k2, rfl, _⟩ := zae own2; have KR := HKA.o.up (Below.tr (Below.undrew hb1) hb2); have d2 := KR.frozen 2; have d3 := KR.frozen 3; have d4 := KR.lt; have e2 := KR.cell (i := 2) (v := .slice AO out.length kO) rfl; have e3 := KR.cell (i := 3) (v := .int .i64 0) rfl))
     all_goals
      have hb3 : But b w w2 := HBW.o.tr (Below.tr (Below.undrew hb1) hb2); have HB3 := yq hb3; have HO2 := yq (zad own2 (base' := b + 1) (by show b + 1 <= W.heap.size; omega)); have HKR := yq KR; clear hb1 hb2 own1 own2 KR hb3 cN; go_wp2
      go_end0
      have hz : ∀ o o' v v', But b w ((w2.setCell ⟨b, o, none⟩ v).setCell ⟨b, o', none⟩ v') := fun o o' v v' => (HB3.o.setCell _).setCell _; have hzb : ∀ o o' v v', Below b w ((w2.setCell ⟨b, o, none⟩ v).setCell ⟨b, o', none⟩ v') := fun o o' v v' => (hz o o' v v').below yL (Nat.le_of_lt hlt)
      have hz2 : ∀ o o' v v', zac ((w2.setCell ⟨b, o, none⟩ v).setCell ⟨b, o', none⟩ v') (b + 1) (.slice A2 (zav (zbh out ys)).length k2) (zav (zbh out ys)) :=
       fun o o' v v' => ownsRow_setCell_below (ownsRow_setCell_below HO2.o (by show b < b + 1; omega) _) (by show b < b + 1; omega) _
      refine ⟨rfl, hz _ _ _ _, vG, vL, .slice A2 (zav (zbh out ys)).length k2, zav (zbh out ys), zas (zbh out ys), ?_, HG.o.below (hzb _ _ _ _), HL.o.below (hzb _ _ _ _), hz2 _ _ _ _, zc8 _, zgU _⟩
      first
       | exact (HKR.o.set 2 _).set 3 _
       | exact (HKR.o.set 3 _).set 2 _
   · have c3 := hB.cell (i := 3) (v := .int .i64 0) rfl
     have f3 := hB.frozen 3; clear hB hB1; rw [zdb (.inr rfl)]; go_enter Tryz.func99, Tryz.ntmps99
     go_wp2
     go_end0
     have hbb : But b w ((w.setCell ⟨b, 3, none⟩ (.int .i64 3)).alloc (Obj.cells #[Value.slice AN ys.length kN] 26)) := ((But.refl b w).setCell _).alloc _; have hbz := hbb.below yL (Nat.le_of_lt hlt); refine ⟨rfl, hbb, _, _, _, out, 3, ((HB0.o.set 3 _).alloc _), HG.o.below hbz, HL.o.below hbz, World.ownsRow.alloc (ownsRow_setCell_below HO.o (by show b < b + 1; omega) _) _, .inr ⟨rfl, rfl⟩, HK.o⟩
 · rw [zdb (.inl rfl)]
   have c3 := hB.cell (i := 3) rfl; clear hB hB1 hg; go_enter Tryz.func99, Tryz.ntmps99
   go_wp2
   go_end0
   refine ⟨rfl, But.of yb, ?_⟩
   exact Asm.up ⟨_, _, _, _, _, HB0.o, HG.o, HL.o, HO.o, .inr ⟨rfl, rfl⟩, HK.o⟩ yb
theorem zfa {w : World} {b N : Nat} {v : Value} {l : List zaa} (h : zac w N v l) (hb : b < N) : SlS zar w (fun k => k ≠ b /\ k < w.heap.size) v l :=
 h.slS fun g hg => by have := World.ownsRow.lt h g hg; omega
theorem zpA {α : Type} {E : Enc α} {w : World} {b N : Nat} {v : Value} {xs : List α} (h : Sl E w N v xs) (hN : N <= b) (hb : b < w.heap.size) : SlS E w (fun k => k ≠ b /\ k < w.heap.size) v xs :=
 h.more fun k hk => by omega
theorem zhV (xs : List zaa) : (zav xs).length <= 400 := (zai (zgU xs)).1
theorem zaN (b : Nat) (xs : List zaa) (ls : List Int) (s : Option (List zaa)) (i j : Int) (w : World) (h : Asm w b xs ls s) (hl : zaW xs = some ls) (hn : xs.length <= 1048576) :
  Calls Tryz.prog 100 #[.pointer (some ⟨b, 0, none⟩), .int .i64 i, .int .i64 j] w fun e w' => zlr e /\ But b w w' /\ Asm w' b xs ls (zbC s (zbt (zap xs ls i j))) := by
 have hlt := h.lt; have HA := yq h; have Hl := yq hl; clear h hl; go_enter Tryz.func100, Tryz.ntmps100
 go_wp2_with fail
 refine (zgV b xs ls s i j _ HA.o Hl.o hn).mono ?_
 rintro e w1 ⟨hb1, v1, own1, rfl⟩; have HO := yq own1; obtain ⟨A1, k1, rfl, _⟩ := zae own1; have hlim := zhV (zap xs ls i j); have HB := yq hb1; clear own1 hb1; go_wp2_with fail
 refine (zeT b xs ls s _ _ _ _ _ (HA.o.up HB.o) (zfa HO.o hlt) (zc8 (zap xs ls i j))).mono ?_
 rintro e w2 ⟨rfl, hb2, ha2⟩; go_wp2
 go_end0
 exact ⟨rfl, (But.of HB.o).trans hb2, ha2⟩
def ltr (k : Nat) : UInt8 := UInt8.ofNat (97 + k)
def zdn (c : UInt8) : zaa := ⟨⟨#[c]⟩, 0, 0⟩
def zhW (w : ByteArray) (c : UInt8) : Bool := w.data.toList.contains c
def zbb (w : ByteArray) (k : Nat) : List zaa := ((List.range k).filter (fun j => zhW w (ltr j))).map fun j => zdn (ltr j)
def zhw (w : ByteArray) (c : UInt8) : Nat := (zbb w 4).idxOf (zdn c)
def zev (w : ByteArray) (i : Nat) : zaa :=
 zaP (if i = 0 then (zhw w (w.data.getD 0 0) : Nat) else (((zbb w 4).length + i - 1 : Nat) : Int)) (zhw w (w.data.getD (i + 1) 0) : Nat)
def zbJ (w : ByteArray) (m : Nat) : List zaa := zbb w 4 ++ (List.range m).map (zev w)
def zaM (w : ByteArray) : List zaa := zbJ w (w.size - 1)
theorem zhX (w : ByteArray) (k : Nat) : zbb w (k + 1) = if zhW w (ltr k) then zbb w k ++ [zdn (ltr k)] else zbb w k := by
 unfold zbb; rw [List.range_succ, List.filter_append, List.map_append]; by_cases h : zhW w (ltr k) = true
 · rw [if_pos h]; simp [h]
 · rw [if_neg h]; simp [h]
theorem zew (w : ByteArray) (k : Nat) : (zbb w k).length <= k := by
 unfold zbb; rw [List.length_map]; exact Nat.le_trans (List.length_filter_le _ _) yS
theorem zj8 {c : UInt8} (h : zci c = true) : ∃ k, k < 4 /\ c = ltr k := by
 simp [zci] at h
 refine ⟨c.toNat - 97, by omega, ?_⟩
 unfold ltr; rw [show 97 + (c.toNat - 97) = c.toNat by omega]; simp
theorem zmx {w : ByteArray} {c : UInt8} (h : zci c = true) (hw : zhW w c = true) : zdn c ∈ zbb w 4 := by
 obtain ⟨k, hk, rfl⟩ := zj8 h; unfold zbb; exact List.mem_map.2 ⟨k, List.mem_filter.2 ⟨List.mem_range.2 hk, hw⟩, rfl⟩
theorem zmy {w : ByteArray} {i : Nat} (h : i < w.size) : zhW w w[i] = true := by
 unfold zhW; rw [List.contains_iff_mem]; exact List.mem_of_getElem? (zbd w i h)
theorem zim {w : ByteArray} (hw : zaB w = true) {i : Nat} (h : i < w.size) : zci w[i] = true := by
 unfold zaB at hw; simp only [Bool.and_eq_true] at hw
 exact List.all_eq_true.1 hw.2 _ (List.mem_of_getElem? (zbd w i h))
theorem zdc {w : ByteArray} (hw : zaB w = true) {i : Nat} (h : i < w.size) : zhw w w[i] < (zbb w 4).length :=
 List.idxOf_lt_length_iff.2 (zmx (zim hw h) (zmy h))
theorem zbQ {w : ByteArray} {i : Nat} (h : i < w.size) : w.data.getD i 0 = w[i] := by
 show w.data.getD i 0 = w.data[i]
 simp [Array.getD, h]
theorem zcM (w : ByteArray) (m : Nat) : (zbJ w m).length = (zbb w 4).length + m := by simp [zbJ]
theorem zdM (w : ByteArray) : (zaM w).length <= 4 + w.size := by
 rw [zaM, zcM]; have := zew w 4; omega
theorem zd0 (w : ByteArray) (m : Nat) : zbJ w (m + 1) = zbJ w m ++ [zev w m] := by
 unfold zbJ; rw [List.range_succ, List.map_append, List.append_assoc]; rfl
theorem zcp (w : ByteArray) : zbJ w 0 = zbb w 4 := by simp [zbJ]
theorem zkQ (w : ByteArray) : ∀ r ∈ zbb w 4, ∃ k, k < 4 /\ r = zdn (ltr k) := by
 intro r hr; unfold zbb at hr; obtain ⟨k, h1, h2⟩ := List.mem_map.1 hr; exact ⟨k, List.mem_range.1 (List.mem_filter.1 h1).1, h2.symm⟩
theorem zj9 {k i : Nat} (h : k < 4) : zaC i (zdn (ltr k)) = true := by
 have : k = 0 \/ k = 1 \/ k = 2 \/ k = 3 := by omega
 rcases this with rfl | rfl | rfl | rfl <;> rfl
theorem zka (w : ByteArray) : za2 (zbb w 4) := by
 intro i r hi; obtain ⟨k, hk, rfl⟩ := zkQ w r (List.mem_of_getElem? hi); exact zj9 hk
theorem zjf {w : ByteArray} (hw : zaB w = true) : ∀ m, m + 1 <= w.size \/ m = 0 -> za2 (zbJ w m) := by
 intro m
 induction m with
 | zero => intro _; rw [zcp]; exact zka w
 | succ m ih =>
   intro h; have hm : m + 1 < w.size := by omega
   rw [zd0]; refine (ih yO).snoc ?_
   rw [zcM]; have h0 := zdc hw (i := 0) yO; have h1 := zdc hw (i := m + 1) hm; unfold zev; rw [zbQ hm, zbQ (show 0 < w.size by omega)]; refine zco ?_ yO
   split <;> omega
theorem zcW {w : ByteArray} (hw : zaB w = true) : za2 (zaM w) := zjf hw _ yO
def zkb (xs : List zaa) (k : Nat) : Bool := xs.contains (zdn (ltr k))
def zbV (xs : List zaa) (ws : List ByteArray) (p : List zaa × List Int) (k : Nat) : List zaa × List Int :=
 if (ws.getD k ⟨#[]⟩).size ≠ 0 /\ zkb xs k = true then (p.1 ++ (zaM (ws.getD k ⟨#[]⟩)).map (zaH p.1.length), p.2.set k (((p.1.length + (zaM (ws.getD k ⟨#[]⟩)).length : Nat) : Int) - 1)) else p
def zbO (xs : List zaa) (ws : List ByteArray) (k : Nat) : List zaa × List Int := (List.range k).foldl (zbV xs ws) ([], [-1, -1, -1, -1])
def zbj (starts : List Int) (p : List zaa × List Int) (r : zaa) : List zaa × List Int :=
 if r.pair then
  if p.2.getD r.left.toNat 0 < 0 then (p.1, p.2 ++ [p.2.getD r.right.toNat 0])
  else if p.2.getD r.right.toNat 0 < 0 then (p.1, p.2 ++ [p.2.getD r.left.toNat 0])
  else (p.1 ++ [zaP (p.2.getD r.left.toNat 0) (p.2.getD r.right.toNat 0)], p.2 ++ [(p.1.length : Int)])
 else (p.1, p.2 ++ [starts.getD ((r.letter.data.getD 0 0).toNat - 97) 0])
def zb7 (xs : List zaa) (ws : List ByteArray) (k : Nat) : List zaa × List Int := (xs.take k).foldl (zbj (zbO xs ws 4).2) ((zbO xs ws 4).1, [])
def zin (xs : List zaa) (ws : List ByteArray) : List zaa × List Int := zb7 xs ws xs.length
end Go.Proofs.YtejgbfgocaggfaaGreatDoor
namespace Go.Proofs
open Go.Shelf Go.RowKit
def Tryz.lays137_ren : Go.Shelf.Ren := ⟨fun | 137 => 117 | 217 => 150 | 266 => 172 | n => n, fun | 9 => 9 | 5 => 5 | 3 => 3 | n => n, fun | n => n⟩
theorem Tryz.lays137 : Go.Proofs.Lays.n137 Tryz.prog Tryz.lays137_ren := {
 mixed := by kernel_rfl
 f137 := Tryz.func117.trans (congrArg some (by kernel_rfl))
 f217 := Tryz.func150.trans (congrArg some (by kernel_rfl))
 f266 := Tryz.func172.trans (congrArg some (by kernel_rfl))
 t3 := Tryz.underlying3
 a3 := Tryz.isAgg3
 z3 := Tryz.sizeOf3
 v3 := Tryz.zeroValue3
 t5 := Tryz.underlying5
 a5 := Tryz.isAgg5
 z5 := Tryz.sizeOf5
 v5 := Tryz.zeroValue5
 t9 := Tryz.underlying9
 a9 := Tryz.isAgg9
 z9 := Tryz.sizeOf9
 v9 := Tryz.zeroValue9 }
theorem Tryz.strings_IndexByte (s : ByteArray) (c : Int) (w : World) :
  Calls Tryz.prog 117 #[.string s, .int .u8 c] w fun e w' => e = .returned (.int .i64 (Lib.indexByte s.data.toList c.toNat.toUInt8)) ∧ w' = w := Any.strings_IndexByte Tryz.lays137 s c w
def Tryz.lays146_ren : Go.Shelf.Ren := ⟨fun | 146 => 39 | 221 => 71 | 268 => 109 | 138 => 110 | 143 => 111 | 195 => 141 | 197 => 142 | 218 => 143 | 219 => 144 | 260 => 167 | 217 => 150 | 225 => 168 | 224 => 169 | 267 => 170 | 266 => 172 | 314 => 180 | n => n, fun | 9 => 9 | 31 => 62 | 3 => 3 | 4 => 4 | 0 => 0 | 105 => 181 | 21 => 21 | 5 => 5 | 46 => 149 | 119 => 217 | 139 => 220 | 138 => 219 | 146 => 221 | 51 => 211 | n => n, fun | 1 => 2 | 3 => 4 | 4 => 5 | n => n⟩
theorem Tryz.lays146 : Go.Proofs.Lays.n146 Tryz.prog Tryz.lays146_ren := {
 mixed := by kernel_rfl
 f138 := Tryz.func110.trans (congrArg some (by kernel_rfl))
 f143 := Tryz.func111.trans (congrArg some (by kernel_rfl))
 f146 := Tryz.func39.trans (congrArg some (by kernel_rfl))
 f195 := Tryz.func141.trans (congrArg some (by kernel_rfl))
 f197 := Tryz.func142.trans (congrArg some (by kernel_rfl))
 f217 := Tryz.func150.trans (congrArg some (by kernel_rfl))
 f218 := Tryz.func143.trans (congrArg some (by kernel_rfl))
 f219 := Tryz.func144.trans (congrArg some (by kernel_rfl))
 f221 := Tryz.func71.trans (congrArg some (by kernel_rfl))
 f224 := Tryz.func169.trans (congrArg some (by kernel_rfl))
 f225 := Tryz.func168.trans (congrArg some (by kernel_rfl))
 f260 := Tryz.func167.trans (congrArg some (by kernel_rfl))
 f266 := Tryz.func172.trans (congrArg some (by kernel_rfl))
 f267 := Tryz.func170.trans (congrArg some (by kernel_rfl))
 f268 := Tryz.func109.trans (congrArg some (by kernel_rfl))
 f314 := Tryz.func180.trans (congrArg some (by kernel_rfl))
 t0 := Tryz.underlying0
 a0 := Tryz.isAgg0
 z0 := Tryz.sizeOf0
 v0 := Tryz.zeroValue0
 t3 := Tryz.underlying3
 a3 := Tryz.isAgg3
 z3 := Tryz.sizeOf3
 v3 := Tryz.zeroValue3
 t4 := Tryz.underlying4
 a4 := Tryz.isAgg4
 z4 := Tryz.sizeOf4
 v4 := Tryz.zeroValue4
 t5 := Tryz.underlying5
 a5 := Tryz.isAgg5
 z5 := Tryz.sizeOf5
 v5 := Tryz.zeroValue5
 t9 := Tryz.underlying9
 a9 := Tryz.isAgg9
 z9 := Tryz.sizeOf9
 v9 := Tryz.zeroValue9
 t21 := Tryz.underlying21
 a21 := Tryz.isAgg21
 z21 := Tryz.sizeOf21
 v21 := Tryz.zeroValue21
 t31 := Tryz.underlying62
 a31 := Tryz.isAgg62
 z31 := Tryz.sizeOf62
 v31 := Tryz.zeroValue62
 t46 := Tryz.underlying149
 a46 := Tryz.isAgg149
 z46 := Tryz.sizeOf149
 v46 := Tryz.zeroValue149
 t51 := Tryz.underlying211
 a51 := Tryz.isAgg211
 z51 := Tryz.sizeOf211
 v51 := Tryz.zeroValue211
 t105 := Tryz.underlying181
 a105 := Tryz.isAgg181
 z105 := Tryz.sizeOf181
 v105 := Tryz.zeroValue181
 t119 := Tryz.underlying217
 a119 := Tryz.isAgg217
 z119 := Tryz.sizeOf217
 t138 := Tryz.underlying219
 a138 := Tryz.isAgg219
 z138 := Tryz.sizeOf219
 v138 := Tryz.zeroValue219
 t139 := Tryz.underlying220
 a139 := Tryz.isAgg220
 z139 := Tryz.sizeOf220
 v139 := Tryz.zeroValue220
 t146 := Tryz.underlying221
 a146 := Tryz.isAgg221
 z146 := Tryz.sizeOf221
 v146 := Tryz.zeroValue221
 g1 := by kernel_rfl
 g3 := by kernel_rfl
 g4 := by kernel_rfl }
open Go.RowKit Go.Lib in
theorem Tryz.strings_Split_chars (s sep : ByteArray) (w : World) (h0 : sep.size = 0) (hs : s.size < 4294967281) (hascii : ∀ (j : Nat) b, s.data.toList[j]? = some b → b.toNat < 128) :
  Calls Tryz.prog 39 #[.string s, .string sep] w fun e w' =>
   e = .returned (.slice (some ⟨(w.iter s s.size).heap.size, 0, none⟩) s.size s.size) ∧ w' = (w.iter s s.size).alloc (.cells ((Lib.charsB s).map Value.string).toArray 9) := Any.strings_Split_chars Tryz.lays146 (by kernel_rfl) s sep w h0 hs hascii
end Go.Proofs
namespace Go.Proofs.YtejgbfgocaggfaaGreatDoor
open Go.RowKit
theorem Tryz.infoBy : (Tryz.prog.info? 5).map (fun i => (i.zero, i.size, i.bytes)) = some (some (.int .u8 0), 1, 1) := by kernel_rfl
def zkR (w : World) (base : Nat) (v : Value) (l : List UInt8) : Prop := w.ownsRow base 5 1 v l.length (Lib.byteCells l)
theorem zhx (l : List UInt8) (x : UInt8) : Lib.byteCells (l ++ [x]) = Lib.byteCells l ++ [.int .u8 (x.toNat : Int)] := by simp [Lib.byteCells]
theorem zkR.empty {w : World} {base N : Nat} (hN : N = w.heap.size) (hb : base <= w.heap.size) : zkR (w.alloc (Obj.cells #[] 5)) base (Value.slice (some ⟨N, 0, none⟩) 0 0) [] := by
 subst hN; exact World.ownsRow_lit w #[] 0 hb (Nat.zero_le _) rfl
theorem zkR.at_ {w : World} {base : Nat} {v : Value} {l : List UInt8} (h : zkR w base v l) (h0 : 0 < l.length) : ∃ g cap, v = .slice (some ⟨g, 0, none⟩) l.length cap /\ l.length <= cap /\ g < w.heap.size /\ ∀ t (ht : t < l.length), w.cell? ⟨g, t, none⟩ = some (.int .u8 (l[t].toNat : Int)) := by
 obtain ⟨g, cap, hv, hb, hlt, hc, hcell⟩ := zbI h h0; exact ⟨g, cap, hv, hc.1, hlt, fun t ht => hcell t _ (by simp [Lib.byteCells, ye ht])⟩
theorem znY (L : List UInt8) (b p n c : Nat) (W : World) (hn : n = L.length) (h : ∀ t (ht : t < L.length), W.cell? ⟨b, p + t, none⟩ = some (.int .u8 (L[t].toNat : Int))) :
  (convert 22 9 (.slice (some ⟨b, p, none⟩) n c)).run Tryz.prog W = .ok (.string ⟨L.toArray⟩) W := by
 subst hn
 exact run_convert_bytes_back (P := Tryz.prog) W 22 9 5 ⟨b, p, none⟩ c L Tryz.underlying22 Tryz.underlying5 Tryz.underlying9 (fun j hj => by
  have e : (⟨b, p, none⟩ : Addr).add j = ⟨b, p + j, none⟩ := by unfold Addr.add; split <;> simp_all
  rw [e]; exact h j hj)
theorem zkR.string {w : World} {base n : Nat} {g : Nat} {c : Nat} {l : List UInt8} (h : zkR w base (.slice (some ⟨g, 0, none⟩) n c) l) :
  (convert 22 9 (.slice (some ⟨g, 0, none⟩) n c)).run Tryz.prog w = .ok (.string ⟨l.toArray⟩) w := by
 have hn : n = l.length := by
  obtain ⟨A', c', hv, _⟩ := zae h; injection hv
 refine znY l g 0 n c w hn fun t ht => ?_
 obtain ⟨g', cap, hv, _, _, hc⟩ := h.at_ yO; injection hv with e1 e2 e3; injection e1 with e1; injection e1 with e1; subst e1; rw [Nat.zero_add]; exact hc t ht
theorem zkR.some_ {w : World} {base : Nat} {v : Value} {l : List UInt8} (h : zkR w base v l) (h0 : 0 < l.length) : ∃ g c, v = .slice (some ⟨g, 0, none⟩) l.length c := by
 obtain ⟨g, c, hv, _⟩ := h.at_ h0; exact ⟨g, c, hv⟩
theorem zmz {W : World} {ops : Array Oper} {rest : List Oper} {o : Oper} {a : Act} {Q : Exit -> Act -> World -> Prop} (hgd : o.guard = none) (s x : Operand)
  (ho : o.op = .call { callee := .builtin .append, args := #[s, x], argTypes := #[22, 22] }) {y : UInt8} {base : Nat} {v : Value} {l : List UInt8}
  (hs : a.eval s = v) {N : Nat} (hx : a.eval x = .slice (some ⟨N, 0, none⟩) 1 1) (hN : N = W.heap.size) (hown : zkR W base v l) (hlen : l.length <= 1099511627776) (hbase : base <= W.heap.size)
  (h : ∀ v' w', zkR w' base v' (l ++ [y]) -> (W.alloc (.cells #[.int .u8 (y.toNat : Int)] 5)).grownBy w' v.ownBlock -> Below base W w' -> wpList Tryz.prog ops Q rest (a.put o.dst v') w') :
  wpList Tryz.prog ops Q (o :: rest) a (W.alloc (.cells #[.int .u8 (y.toNat : Int)] 5)) := by
 subst hN; obtain ⟨i0, hi0, hz0, hz1, hz2⟩ := info_parts Tryz.infoBy; refine zdU hgd s x 22 ho i0 (.int .u8 0) 1 1 Tryz.underlying22 hi0 hz0 hz1 hz2 rfl (by decide) hs hx rfl (by simp [Value.oneCell']) hown yO yO hbase ?_
 intro v' w' h1 h2 h3; refine h v' w' ?_ h2 h3
 unfold zkR; rw [zhx]; simpa using h1
theorem zoW (W : World) (N : Nat) (hN : N = W.heap.size) (c : UInt8) : (convert 22 9 (.slice (some ⟨N, 0, none⟩) 1 1)).run Tryz.prog (W.alloc (.cells #[.int .u8 (c.toNat : Int)] 5)) = .ok (.string (zdn c).letter) (W.alloc (.cells #[.int .u8 (c.toNat : Int)] 5)) := by
 subst hN
 rw [run_convert_bytes_arg (W.alloc (.cells #[.int .u8 (c.toNat : Int)] 5)) 22 5 Tryz.underlying22 Tryz.underlying5 W.heap.size 0 1 1 [(c.toNat : Int)] rfl
  (fun i hi => by
    have : i = 0 := by omega
    subst this
    simp [go_sem]) 9 Tryz.underlying9]
 have : strOfNums [(c.toNat : Int)] = (zdn c).letter := by
  simp only [strOfNums, zdn, List.map_cons, List.map_nil]
  simp
 rw [this]
theorem zfX (c : UInt8) (w : World) : Calls Tryz.prog 118 #[.int .u8 (c.toNat : Int)] w fun e w' => e = .returned (.agg #[.string (zdn c).letter, .int .i64 (zdn c).left, .int .i64 (zdn c).right]) /\ Below w.heap.size w w' := by
 have hcv := zoW (w.alloc (Obj.cells #[.string ⟨#[]⟩, .int .i64 0, .int .i64 0] 88)) (w.heap.size + 1) yS c; go_enter Tryz.func118, Tryz.ntmps118
 go_wp2
 refine bodyPost_ret (v := .agg #[.string (zdn c).letter, .int .i64 0, .int .i64 0]) (by simp [results, Tryz.results118, go_sem]) rfl ⟨rfl, ?_⟩
 exact yb
def zoX (xs : List zaa) (X : zaa) : Int := if xs.idxOf X < xs.length then (xs.idxOf X : Int) else -1
theorem znZ (xs : List zaa) (X : zaa) : decide (0 <= zoX xs X) = xs.contains X := by
 unfold zoX; by_cases h : X ∈ xs
 · rw [if_pos (List.idxOf_lt_length_iff.2 h)]; simp [h]
 · rw [if_neg (fun e => h (List.idxOf_lt_length_iff.1 e))]; simp [h]
theorem zkS {K : List zaa} {X : zaa} {k : Nat} (h : ∀ j y, j < k -> K[j]? = some y -> X ≠ y) (hk : k <= K.length) : k <= K.idxOf X := by
 rcases Nat.lt_or_ge (K.idxOf X) k with hlt | hge
 · have hm : X ∈ K := List.idxOf_lt_length_iff.1 yO
   exact absurd rfl (h _ _ hlt (zkN hm))
 · exact hge
theorem ze6 (v : Value) (xs : List zaa) (X : zaa) (w : World) (h : Sl zar w w.heap.size v xs) :
  Calls Tryz.prog 120 #[v, .agg #[.string X.letter, .int .i64 X.left, .int .i64 X.right]] w fun e w' => e = .returned (.int .i64 (zoX xs X)) /\ Below w.heap.size w w' := by
 obtain ⟨A, c, rfl, hc, hm, hrow⟩ := h; unfold maxLen at hm; go_enter Tryz.func120, Tryz.ntmps120
 go_wp2_with fail
 have KX := Blk.new w #[.string X.letter, .int .i64 X.left, .int .i64 X.right] 88; have hB := yq ((Below.refl w.heap.size w).alloc yL (Obj.cells #[.string X.letter, .int .i64 X.left, .int .i64 X.right] 88)); generalize w.alloc (Obj.cells #[.string X.letter, .int .i64 X.left, .int .i64 X.right] 88) = W at *; have HKX := yq KX; clear KX; go_loopw [8] (fun i wr => ∃ k : Nat, k <= xs.length /\ i = .int .i64 k /\ (∃ m, wr = W.drewN m) /\ yh (∀ j y, j < k -> xs[j]? = some y -> X ≠ y)) (fun i _ => xs.length - (intOf i).toNat)
 case atStart => exact ⟨0, Nat.zero_le _, rfl, ⟨0, rfl⟩, fun j y hj => absurd hj yO⟩
 case round =>
  obtain ⟨k, hk, rfl, ⟨m, rfl⟩, Hno⟩ := hrel; by_cases hlt : k < xs.length
  · obtain ⟨b, o, rfl, hbl, hcell⟩ := hrow.rule hlt
    obtain ⟨y, hy⟩ : ∃ y, xs[k]? = some y := ⟨_, ye hlt⟩
    obtain ⟨g0, g1, g2⟩ := hcell k y hy; have d0 := (hB.o.cell (p := ⟨b, o + k * 3, none⟩) hbl).trans g0; have d1 := (hB.o.cell (p := ⟨b, o + k * 3 + 1, none⟩) hbl).trans g1; have d2 := (hB.o.cell (p := ⟨b, o + k * 3 + 2, none⟩) hbl).trans g2; have x0 := HKX.o.cell (i := 0) (v := .string X.letter) rfl; have x1 := HKX.o.cell (i := 1) (v := .int .i64 X.left) rfl; have x2 := HKX.o.cell (i := 2) (v := .int .i64 X.right) rfl; have Hy := yq hy; have hki : (k : Int) < (xs.length : Int) := by omega
    clear hcell hy g0 g1 g2
    have hno' : X ≠ y -> yh (∀ j z, j < k + 1 -> xs[j]? = some z -> X ≠ z) := fun hne j z hj hz => by
     by_cases e : j = k
     · subst e
       rw [Hy.o] at hz; injection hz with hz; rw [<- hz]; exact hne
     · exact Hno.o j z yO hz
    have Hno' := yq hno'; clear hno'; by_cases e2 : X = y
    · subst e2
      have he := yq (show xs.idxOf X = k from Nat.le_antisymm (zgP Hy.o) (zkS Hno.o hk)); go_wp2_with fail
      go_quiet (fail)
      go_wp2_with fail
      go_ret
      exact ⟨zdt (by rw [zoX, he.o, if_pos hlt]), zal (zal hB.o _) _⟩
    · have HNE := yq e2
      rcases zmq e2 with f1 | ⟨f1, f2⟩ | ⟨f1, f2, f3⟩
      · clear e2
        go_wp2_with fail
        go_quiet (fail)
        go_wp2_with fail
        go_roundw
        case rel => exact ⟨k + 1, by omega, by go_num, ⟨_, rfl⟩, Hno'.o HNE.o⟩
        case measure => simp [intOf]; omega
      · rw [f1] at x0
        clear e2 f1; go_wp2_with fail
        go_quiet (fail)
        go_wp2_with fail
        go_roundw
        case rel => exact ⟨k + 1, by omega, by go_num, ⟨_, rfl⟩, Hno'.o HNE.o⟩
        case measure => simp [intOf]; omega
      · rw [f1] at x0
        rw [f2] at x1; clear e2 f1 f2; go_wp2_with fail
        go_quiet (fail)
        go_wp2_with fail
        go_roundw
        case rel => exact ⟨k + 1, by omega, by go_num, ⟨_, rfl⟩, Hno'.o HNE.o⟩
        case measure => simp [intOf]; omega
  · have hkn : k = xs.length := by omega
    have hge := zkS Hno.o hk; go_wp2
    go_ret
    exact ⟨zdt (by rw [zoX, if_neg yO]), zal hB.o _⟩
theorem zfY (v : Value) (xs : List zaa) (X : zaa) (w : World) (h : Sl zar w w.heap.size v xs) :
  Calls Tryz.prog 165 #[v, .agg #[.string X.letter, .int .i64 X.left, .int .i64 X.right]] w fun e w' => e = .returned (.bool (xs.contains X)) /\ Below w.heap.size w w' := by
 have HS := yq h; obtain ⟨A, c, rfl, _⟩ := h; go_enter Tryz.func165, Tryz.ntmps165
 go_wp2_with fail
 refine (ze6 _ xs X _ (HS.o.up yb)).mono ?_
 rintro e w2 ⟨rfl, hb2⟩; go_wp2
 go_ret
 exact ⟨zaf (znZ xs X), (Below.unalloc hb2).1⟩
theorem zio (v : Value) (xs : List zaa) (k : Nat) (w : World) (h : Sl zar w w.heap.size v xs) (hk : k < 4) :
  Calls Tryz.prog 136 #[.agg #[v], .int .u8 (97 + k : Int)] w fun e w' => e = .returned (.bool (zkb xs k)) /\ Below w.heap.size w w' := by
 have HS := yq h
 have hc : (97 + k : Int) = ((ltr k).toNat : Int) := by
  have : k = 0 \/ k = 1 \/ k = 2 \/ k = 3 := by omega
  rcases this with rfl | rfl | rfl | rfl <;> rfl
 obtain ⟨A, c, rfl, _⟩ := h; rw [hc]; clear hc; go_enter Tryz.func136, Tryz.ntmps136
 go_wp2_with fail
 have hcA : (w.alloc (Obj.cells #[Value.slice A xs.length c] 26)).drew.cell? ⟨w.heap.size, 0, none⟩ = some (.slice A xs.length c) := by simp [go_sem]
 have KB := And.intro (show Below (w.alloc (Obj.cells #[Value.slice A xs.length c] 26)).heap.size (w.alloc (Obj.cells #[Value.slice A xs.length c] 26)) (w.alloc (Obj.cells #[Value.slice A xs.length c] 26)).drew from Below.drew (Below.refl _ _)) hcA; have hlt : w.heap.size < (w.alloc (Obj.cells #[Value.slice A xs.length c] 26)).heap.size := by simp
 go_region_held3 (fun w' => Below (w.alloc (Obj.cells #[Value.slice A xs.length c] 26)).heap.size (w.alloc (Obj.cells #[Value.slice A xs.length c] 26)) w' /\ w'.cell? ⟨w.heap.size, 0, none⟩ = some (.slice A xs.length c))
  (first | (with_reducible exact KB) | (with_reducible exact zmg KB hb1 hlt) | (with_reducible exact zmg (zmg KB hb1 hlt) hb2 hlt))
  (first
    | (go_at_call 118; (refine (zfX _ _).mono ?_); rintro e w1 ⟨rfl, hb1⟩)
    | (go_at_call 165; (refine (zfY _ xs (zdn (ltr k)) _ ((HS.o.up yb).up hb1)).mono ?_); rintro e w2 ⟨rfl, hb2⟩))
 have hz := (Below.unalloc (zmg (zmg KB hb1 hlt) hb2 hlt).1).1; have HZ := yq hz; clear KB hb1 hb2 hz hcA; go_wp2
 go_ret
 exact ⟨zaf (by simp [zkb]), HZ.o⟩
end Go.Proofs.YtejgbfgocaggfaaGreatDoor
