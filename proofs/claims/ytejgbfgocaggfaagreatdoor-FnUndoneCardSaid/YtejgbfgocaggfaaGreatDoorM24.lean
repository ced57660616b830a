import Derived.Test.YtejgbfgocaggfaaGreatDoorM23
set_option maxRecDepth 100000
set_option maxHeartbeats 8000000
namespace Go.Proofs.YtejgbfgocaggfaaGreatDoor
theorem zlV {xs ys : List zaa} {n r : Nat} (hr : r < ys.length) : zaA (xs ++ ys.map (zaH n)) (xs.length + r) = zaH n (zaA ys r) := by
 unfold zaA; rw [yg, List.getElem?_append_right yO, yg]
 rw [show xs.length + r - xs.length = r by omega, List.getElem?_map, ye hr]
 rfl
theorem znn {xs : List zaa} {r : Nat} (hr : r < xs.length) : zaA (xs.map zcu) r = zcu (zaA xs r) := by
 unfold zaA; rw [yg, yg, List.getElem?_map, ye hr]
 rfl
theorem zlW (n : Nat) (r : zaa) : (zaH n r).pair = r.pair := by
 unfold zaH; split <;> rfl
theorem zkA {xs ys : List zaa} {ly : List Int} (hy : zaW ys = some ly) : ∀ (f r : Nat), r < ys.length -> zcD (xs ++ ys.map (zaH xs.length)) f (xs.length + r) = zcD ys f r := by
 intro f
 induction f with
 | zero => intro r _; rfl
 | succ f ih =>
   intro r hr; rw [zcD, zcD, zlV hr, zlW]; cases hp : (zaA ys r).pair with
   | false => simp [zaH, hp]
   | true =>
     obtain ⟨q1, q2, q3, q4, q5⟩ := zbi hy hr hp; rw [if_pos rfl, if_pos rfl, <- ih _ (show (zaA ys r).left.toNat < ys.length by omega), <- ih _ (show (zaA ys r).right.toNat < ys.length by omega)]; have e1 : (zaH xs.length (zaA ys r)).left.toNat = xs.length + (zaA ys r).left.toNat := by simp only [zaH, hp, if_true]; omega
     have e2 : (zaH xs.length (zaA ys r)).right.toNat = xs.length + (zaA ys r).right.toNat := by simp only [zaH, hp, if_true]; omega
     rw [e1, e2]
theorem zlX {xs : List zaa} {ls : List Int} (h : zaW xs = some ls) : ∀ (f r : Nat), r < xs.length -> zcD (xs.map zcu) f r = (zcD xs f r).reverse := by
 intro f
 induction f with
 | zero => intro r _; rfl
 | succ f ih =>
   intro r hr; rw [zcD, zcD, znn hr, show (zcu (zaA xs r)).pair = (zaA xs r).pair from rfl]; cases hp : (zaA xs r).pair with
   | false =>
     have h1 := zc7 (zc6 h hr hp); have h2 : (zaA xs r).letter.data.toList.length = 1 := by rw [Array.length_toList]; exact h1
     obtain ⟨x, hx⟩ := List.length_eq_one_iff.1 h2; simp [zcu, hx]
   | true =>
     obtain ⟨q1, q2, q3, q4, q5⟩ := zbi h hr hp; simp only [if_true]
     rw [List.reverse_append, <- ih _ (show (zaA xs r).left.toNat < xs.length by omega), <- ih _ (show (zaA xs r).right.toNat < xs.length by omega)]; rfl
theorem zlY {xs : List zaa} {ls : List Int} (h : zaW xs = some ls) : zau (xs.map zcu) = (zau xs).reverse := by
 by_cases h0 : xs.length = 0
 · have : xs = [] := yn h0
   subst this; rfl
 · rw [za6 (by simp; omega), za6 yO, List.length_map]
   exact zlX h _ _ yO
theorem zlZ {xs ys : List zaa} {lx ly : List Int} (h1 : zaW xs = some lx) (h2 : zaW ys = some ly) (hm : zao lx + zao ly <= ze2) : zau (zbh xs ys) = zau xs ++ zau ys := by
 obtain ⟨l, hl, _⟩ := zlU h1 h2 hm; unfold zbh at hl |-
 by_cases c1 : xs.length = 0
 · have : xs = [] := yn c1
   subst this; simp [zau]
 · rw [if_neg c1] at hl |-
   by_cases c2 : ys.length = 0
   · have : ys = [] := yn c2
     subst this; simp [zau]
   · rw [if_neg c2] at hl |-
     have hr := zf3 h1 h2; have hlen : (xs ++ ys.map (zaH xs.length)).length = xs.length + ys.length := by simp
     have e1 : ((xs.length : Int) - 1) = ((xs.length - 1 : Nat) : Int) := by omega
     have e2 : ((xs.length : Int) + ys.length - 1) = ((xs.length + (ys.length - 1) : Nat) : Int) := by omega
     rw [e1, e2] at hl |-
     rw [zf2, zf1 hl yO yO, zeA h1 yO, za6 yO, za6 (show 0 < ys.length by omega)]; congr 1
     have hw := zeR hr (xs.length + (ys.length - 1) + 1) (xs.length + (ys.length - 1)) yO yO; rw [<- hw, zkA h2 _ _ yO]; exact zeR h2 _ _ yO yO
open Go.RowKit
section
variable {α : Type}
theorem zdR {A M B : List α} {i j : Int} (hi : i = A.length) (hj : j = A.length + M.length) : zb4 (A ++ (M ++ B)) i j = M := by
 subst hi hj; unfold zb4; have e1 : ((A.length : Int) + (M.length : Int)).toNat = A.length + M.length := by omega
 rw [e1, Int.toNat_natCast, <- List.append_assoc, List.take_append_of_le_length yS, List.take_of_length_le yS, List.drop_append_of_le_length yL, List.drop_length, List.nil_append]
theorem zdf {A R : List α} {j : Int} (hj : j = A.length) : zb4 (A ++ R) 0 j = A := by
 have := zdR (A := ([] : List α)) (M := A) (B := R) (i := 0) (j := j) rfl (by simp [hj]); simpa using this
theorem zcB {A B : List α} {i j : Int} (hi : i = A.length) (hj : j = A.length + B.length) : zb4 (A ++ B) i j = B := by
 have := zdR (A := A) (M := B) (B := ([] : List α)) hi hj; simpa using this
theorem zjJ (w : List α) {i : Int} (h0 : 0 <= i) (hn : i <= w.length) : ∃ A B, w = A ++ B /\ (A.length : Int) = i := by
 refine ⟨w.take i.toNat, w.drop i.toNat, (List.take_append_drop _ _).symm, ?_⟩
 rw [List.length_take]; omega
theorem zno (w : List α) {i j : Int} (h0 : 0 <= i) (hij : i <= j) (hn : j <= w.length) : ∃ A M B, w = A ++ (M ++ B) /\ (A.length : Int) = i /\ (M.length : Int) = j - i := by
 obtain ⟨A, R, rfl, hA⟩ := zjJ w h0 yO; rw [List.length_append] at hn; obtain ⟨M, B, rfl, hM⟩ := zjJ R (i := j - i) yO yO; exact ⟨A, M, B, rfl, hA, hM⟩
theorem zoJ (w : List α) {i j k : Int} (h0 : 0 <= i) (hij : i <= j) (hjk : j <= k) (hn : k <= w.length) : ∃ A M Q B, w = A ++ (M ++ (Q ++ B)) /\ (A.length : Int) = i /\ (M.length : Int) = j - i /\ (Q.length : Int) = k - j := by
 obtain ⟨A, M, R, rfl, hA, hM⟩ := zno w h0 hij yO; simp only [List.length_append] at hn
 obtain ⟨Q, B, rfl, hQ⟩ := zjJ R (i := k - j) yO yO; exact ⟨A, M, Q, B, rfl, hA, hM, hQ⟩
end
theorem znp {x : ByteArray} (hw : zaB x = true) (h1 : x.size = 1) : ∃ k, k < 4 /\ zaM x = [zdn (ltr k)] := by
 obtain ⟨⟨l⟩⟩ := x; have hl : l.length = 1 := h1; obtain ⟨c, rfl⟩ := List.length_eq_one_iff.1 hl
 have hc : zci c = true := by
  unfold zaB at hw; simp only [Bool.and_eq_true] at hw
  simpa using hw.2
 obtain ⟨k, hk, rfl⟩ := zj8 hc; refine ⟨k, hk, ?_⟩
 have : k = 0 \/ k = 1 \/ k = 2 \/ k = 3 := by omega
 rcases this with rfl | rfl | rfl | rfl <;> decide
theorem znq (c : UInt8) : (zdn c).pair = false := rfl
theorem zl0 (n : Nat) (c : UInt8) : zaH n (zdn c) = zdn c := by
 unfold zaH; rw [if_neg (by rw [znq]; simp)]
structure zqb (xs : List zaa) (k : Nat) (p : List zaa × List Int) : Prop where
 ok : za2 p.1
 l4 : p.2.length = 4
 at_ : ∀ i, i < k -> zkb xs i = true -> 0 <= p.2.getD i 0 /\ p.2.getD i 0 < p.1.length
 np : ∀ r, r < p.1.length -> (zaA p.1 r).pair = false
theorem zpP (xs : List zaa) (ws : List ByteArray) (hw : ∀ s ∈ ws, zaB s = true /\ s.size = 1) (hl : ws.length = 4) : ∀ k, k <= 4 -> zqb xs k (zbO xs ws k) := by
 intro k
 induction k with
 | zero => intro _; exact ⟨zji, rfl, fun i hi => absurd hi yO, fun r hr => absurd hr (by simp [zbO])⟩
 | succ k ih =>
   intro hk; have H := ih yO; rw [zeU]; obtain ⟨O, S, hp⟩ : ∃ O S, zbO xs ws k = (O, S) := ⟨_, _, rfl⟩
   rw [hp] at H |-
   have hO : za2 O := H.ok; have hS : S.length = 4 := H.l4; have hat : ∀ i, i < k -> zkb xs i = true -> 0 <= S.getD i 0 /\ S.getD i 0 < (O.length : Int) := H.at_; have hnp : ∀ r, r < O.length -> (zaA O r).pair = false := H.np; obtain ⟨hwk, h1k⟩ := hw (ws.getD k ⟨#[]⟩) (by rw [yg, ye yO]; exact List.getElem_mem _); obtain ⟨c, hc, hpl⟩ := znp hwk h1k; unfold zbV; rw [hpl]; split
   · rename_i hcond
     have e1 : ([zdn (ltr c)].map (zaH O.length)) = [zdn (ltr c)] := by rw [List.map_singleton, zl0]
     refine ⟨?_, by simp [hS], ?_, ?_⟩
     · show za2 (O ++ [zdn (ltr c)].map (zaH O.length))
       exact zgZ hO (by rw [<- hpl]; exact zcW hwk)
     · intro i hi hh
       show 0 <= (S.set k _).getD i 0 /\ (S.set k _).getD i 0 < ((O ++ [zdn (ltr c)].map (zaH O.length)).length : Int)
       rw [ziq yO, e1, List.length_append, List.length_singleton]; by_cases hik : k = i
       · rw [if_pos hik]
         have e0 : ((O, S) : List zaa × List Int).fst.length = O.length := rfl; omega
       · rw [if_neg hik]
         have := hat i yO hh; omega
     · intro r hr
       show (zaA (O ++ [zdn (ltr c)].map (zaH O.length)) r).pair = false
       rw [e1]
       have hr' : r < O.length + 1 := by
        have : r < (O ++ [zdn (ltr c)].map (zaH O.length)).length := hr; rw [e1, List.length_append, List.length_singleton] at this; exact this
       by_cases hro : r < O.length
       · rw [zc9 hro]; exact hnp r hro
       · have : r = O.length := by omega
         subst this; rw [zel]; exact znq _
   · rename_i hcond
     refine ⟨hO, hS, ?_, hnp⟩
     intro i hi hh; by_cases hik : i < k
     · exact hat i hik hh
     · have : i = k := by omega
       subst this; exact absurd ⟨by omega, hh⟩ hcond
theorem zph {r : zaa} {k : Nat} (h : zaC k r = true) (hp : r.pair = false) : ∃ c, c < 4 /\ r = zdn (ltr c) /\ (r.letter.data.getD 0 0).toNat - 97 = c := by
 obtain ⟨h1, h2, h3⟩ := zce h hp; obtain ⟨⟨⟨l⟩⟩, a, b⟩ := r; have hl : l.length = 1 := h1; obtain ⟨x, rfl⟩ := List.length_eq_one_iff.1 hl; have hi := zeV h hp; have hx : 97 <= x.toNat /\ x.toNat <= 100 := by simpa using hi
 have h2' : a = 0 := h2; have h3' : b = 0 := h3; subst h2' h3'; refine ⟨x.toNat - 97, by omega, ?_, by simp⟩
 unfold zdn ltr; rw [show 97 + (x.toNat - 97) = x.toNat by omega]; simp
structure zpQ (xs : List zaa) (k : Nat) (p : List zaa × List Int) : Prop where
 ok : za2 p.1
 ls : p.2.length = k
 at_ : ∀ i, i < k -> 0 <= p.2.getD i 0 /\ p.2.getD i 0 < p.1.length /\ (W1 p.1 (p.2.getD i 0).toNat).length = (W1 xs i).length
 most : ∀ r, r < p.1.length -> ((W1 p.1 r).length : Int) <= ze2
theorem znr {xs : List zaa} {lsx : List Int} (ws : List ByteArray) (hw : ∀ s ∈ ws, zaB s = true /\ s.size = 1) (hl : ws.length = 4) (hx : zaW xs = some lsx) : ∀ k, k <= xs.length -> zpQ xs k (zb7 xs ws k) := by
 have HB := zpP xs ws hw hl 4 yL; have hA := zaz hx; intro k
 induction k with
 | zero =>
   intro _; refine ⟨HB.ok, rfl, fun i hi => absurd hi yO, fun r hr => ?_⟩
   have := zii HB.ok hr (HB.np r hr); show ((W1 (zbO xs ws 4).1 r).length : Int) <= ze2
   rw [this]; decide
 | succ k ih =>
   intro hk; have H := ih yO; obtain ⟨r, hr⟩ : ∃ r, xs[k]? = some r := ⟨_, ye yO⟩
   have hor := hA k r hr; have hgr := zbW hr
   have hpre : ∃ t, (zb7 xs ws k).1 = (zbO xs ws 4).1 ++ t := by
    clear H hor; unfold zb7
    suffices G : ∀ (l : List zaa) (p : List zaa × List Int), ∃ t, (l.foldl (zbj (zbO xs ws 4).2) p).1 = p.1 ++ t by exact G (xs.take k) ((zbO xs ws 4).1, [])
    intro l
    induction l with
    | nil => intro p; exact ⟨[], by simp⟩
    | cons a l ih2 =>
      intro p; obtain ⟨t, ht⟩ := ih2 (zbj (zbO xs ws 4).2 p a)
      have : ∃ u, (zbj (zbO xs ws 4).2 p a).1 = p.1 ++ u := by
       unfold zbj; split
       · split
         · exact ⟨[], by simp⟩
         · split
           · exact ⟨[], by simp⟩
           · exact ⟨_, rfl⟩
       · exact ⟨[], by simp⟩
      obtain ⟨u, hu⟩ := this; exact ⟨u ++ t, by rw [List.foldl_cons, ht, hu, List.append_assoc]⟩
   rw [zd1 hr]; obtain ⟨O, S, hp⟩ : ∃ O S, zb7 xs ws k = (O, S) := ⟨_, _, rfl⟩
   rw [hp] at H hpre |-
   obtain ⟨t, hpre⟩ := hpre; have hO : za2 O := H.ok; have hS : S.length = k := H.ls; have hat : ∀ i, i < k -> 0 <= S.getD i 0 /\ S.getD i 0 < (O.length : Int) /\ (W1 O (S.getD i 0).toNat).length = (W1 xs i).length := H.at_; have hmost : ∀ r, r < O.length -> ((W1 O r).length : Int) <= ze2 := H.most; have hpre : O = (zbO xs ws 4).1 ++ t := hpre; unfold zbj; cases hpr : r.pair with
   | true =>
     obtain ⟨q1, q2, q3, q4⟩ := zbs hor hpr; obtain ⟨a1, a2, a3⟩ := hat _ q2; obtain ⟨b1, b2, b3⟩ := hat _ q4; rw [if_pos rfl, if_neg (show ¬ S.getD r.left.toNat 0 < 0 by omega), if_neg (show ¬ S.getD r.right.toNat 0 < 0 by omega)]; have hO2 : za2 (O ++ [zaP (S.getD r.left.toNat 0) (S.getD r.right.toNat 0)]) := hO.snoc (zco ⟨a1, a2⟩ ⟨b1, b2⟩)
     have hW2 : W1 (O ++ [zaP (S.getD r.left.toNat 0) (S.getD r.right.toNat 0)]) O.length = W1 O (S.getD r.left.toNat 0).toNat ++ W1 O (S.getD r.right.toNat 0).toNat := by
      have hg := zel O (zaP (S.getD r.left.toNat 0) (S.getD r.right.toNat 0)); rw [zcz hO2 yS (by rw [hg]; rfl), hg]; show W1 _ (S.getD r.left.toNat 0).toNat ++ W1 _ (S.getD r.right.toNat 0).toNat = _
      rw [zge hO hO2 _ yO, zge hO hO2 _ yO]
     have hWx : W1 xs k = W1 xs r.left.toNat ++ W1 xs r.right.toNat := by
      have := zcz hA (r := k) yO (by rw [hgr]; exact hpr); rw [hgr] at this; exact this
     have hlen : (W1 (O ++ [zaP (S.getD r.left.toNat 0) (S.getD r.right.toNat 0)]) O.length).length = (W1 xs k).length := by
      rw [hW2, hWx, List.length_append, List.length_append, a3, b3]
     refine ⟨hO2, by simp [hS], ?_, ?_⟩
     · intro i hi
       show 0 <= (S ++ [(O.length : Int)]).getD i 0 /\ (S ++ [(O.length : Int)]).getD i 0 < (((O ++ [zaP (S.getD r.left.toNat 0) (S.getD r.right.toNat 0)]).length : Nat) : Int) /\ _
       by_cases hik : i < k
       · have h0 : (S ++ [(O.length : Int)]).getD i 0 = S.getD i 0 := zb6 yO
         obtain ⟨c1, c2, c3⟩ := hat i hik; show 0 <= (S ++ [(O.length : Int)]).getD i 0 /\ _ /\ (W1 (O ++ [zaP (S.getD r.left.toNat 0) (S.getD r.right.toNat 0)]) ((S ++ [(O.length : Int)]).getD i 0).toNat).length = _
         rw [h0]; exact ⟨c1, by rw [List.length_append]; omega, by rw [zge hO hO2 _ yO]; exact c3⟩
       · have hik2 : i = S.length := by omega
         subst hik2; show 0 <= (S ++ [(O.length : Int)]).getD S.length 0 /\ _ /\ (W1 (O ++ [zaP (S.getD r.left.toNat 0) (S.getD r.right.toNat 0)]) ((S ++ [(O.length : Int)]).getD S.length 0).toNat).length = _
         rw [zdG, Int.toNat_natCast]; exact ⟨by omega, by rw [List.length_append, List.length_singleton]; omega, by rw [hlen, hS]⟩
     · intro y hy
       have hy' : y < O.length + 1 := by
        have : y < (O ++ [zaP (S.getD r.left.toNat 0) (S.getD r.right.toNat 0)]).length := hy; rw [List.length_append, List.length_singleton] at this; exact this
       show ((W1 (O ++ [zaP (S.getD r.left.toNat 0) (S.getD r.right.toNat 0)]) y).length : Int) <= ze2
       by_cases hyo : y < O.length
       · rw [zge hO hO2 _ hyo]; exact hmost y hyo
       · have : y = O.length := by omega
         subst this; rw [hlen]; exact zmu hx yO
   | false =>
     rw [if_neg yS]; obtain ⟨c, hc4, hrc, hidx⟩ := zph hor hpr; rw [hidx]
     have hhas : zkb xs c = true := by
      unfold zkb; rw [List.contains_iff_mem, <- hrc]; exact List.mem_of_getElem? hr
     obtain ⟨d1, d2⟩ := HB.at_ c hc4 hhas; have hOl : (zbO xs ws 4).1.length <= O.length := by rw [hpre, List.length_append]; omega
     have hgO : zaA O ((zbO xs ws 4).2.getD c 0).toNat = zaA (zbO xs ws 4).1 ((zbO xs ws 4).2.getD c 0).toNat := by rw [hpre]; exact zc9 yO
     have h1 : (W1 O ((zbO xs ws 4).2.getD c 0).toNat).length = 1 := zii hO yO (by rw [hgO]; exact HB.np _ yO); have hx1 : (W1 xs k).length = 1 := zii hA yO (by rw [hgr]; exact hpr); refine ⟨hO, by simp [hS], ?_, hmost⟩
     intro i hi; show 0 <= (S ++ [(zbO xs ws 4).2.getD c 0]).getD i 0 /\ (S ++ [(zbO xs ws 4).2.getD c 0]).getD i 0 < (O.length : Int) /\ (W1 O ((S ++ [(zbO xs ws 4).2.getD c 0]).getD i 0).toNat).length = _
     by_cases hik : i < k
     · rw [zb6 yO]; exact hat i hik
     · have hik2 : i = S.length := by omega
       subst hik2; rw [zdG, hS, hx1]; exact ⟨d1, by omega, h1⟩
theorem zoj {xs q : List zaa} {ws : List ByteArray} (hw : ∀ s ∈ ws, zaB s = true /\ s.size = 1) (hl : ws.length = 4) (hx : zag xs = true) (h : zo2 xs ws = some q) : zag q = true /\ (zau q).length = (zau xs).length := by
 obtain ⟨_, lsx, hlx⟩ := zai hx; unfold zo2 at h; split at h
 · cases h
 · split at h
   · rename_i hc
     cases h
     refine ⟨rfl, ?_⟩
     by_cases h0 : xs.length = 0
     · have : xs = [] := yn h0
       rw [this]
     · exfalso
       have H := znr ws hw hl hlx xs.length yL; have h1 := (H.at_ (xs.length - 1) yO).1
       have h2 : zao (zin xs ws).2 = (zin xs ws).2.getD (xs.length - 1) 0 := by
        unfold zao; rw [show (zin xs ws).2.length = xs.length from H.ls]
       have h3 : 0 <= (zin xs ws).2.getD (xs.length - 1) 0 := h1; omega
   · rename_i hc
     have h0 : xs.length ≠ 0 := fun e => hc (.inl e); have H := znr ws hw hl hlx xs.length yL; obtain ⟨O, S, hp⟩ : ∃ O S, zin xs ws = (O, S) := ⟨_, _, rfl⟩
     have hp' : zb7 xs ws xs.length = (O, S) := hp; rw [hp'] at H; have hO : za2 O := H.ok; have hS : S.length = xs.length := H.ls; have hmost : ∀ r, r < O.length -> ((W1 O r).length : Int) <= ze2 := H.most; obtain ⟨a1, a2, a3⟩ := H.at_ (xs.length - 1) yO; have a1 : 0 <= S.getD (xs.length - 1) 0 := a1; have a2 : S.getD (xs.length - 1) 0 < (O.length : Int) := a2; have a3 : (W1 O (S.getD (xs.length - 1) 0).toNat).length = (W1 xs (xs.length - 1)).length := a3; rw [hp] at h; have hla : zao S = S.getD (xs.length - 1) 0 := by unfold zao; rw [hS]
     have h : zbt (zaQ (O.take ((zao S).toNat + 1))) = some q := h; rw [hla] at h; generalize hm : (S.getD (xs.length - 1) 0).toNat = m at h a3; have hmO : m < O.length := by omega
     obtain ⟨rfl, hq⟩ := zhi h; refine ⟨hq, ?_⟩
     have htd : O = O.take (m + 1) ++ O.drop (m + 1) := (List.take_append_drop _ _).symm
     have hOt : za2 (O.take (m + 1)) := fun k r hk => by
      rw [List.getElem?_take] at hk
      split at hk
      · exact hO k r hk
      · cases hk
     have hlt : (O.take (m + 1)).length = m + 1 := by rw [List.length_take]; omega
     have hWt : ∀ r, r < m + 1 -> W1 (O.take (m + 1)) r = W1 O r := fun r hr => by
      have := zge (ys := O.drop (m + 1)) hOt (by rw [<- htd]; exact hO) r yO; rw [<- htd] at this; exact this.symm
     obtain ⟨lt, hlens⟩ := zij hOt fun r hr => by rw [hWt r yO]; exact hmost r yO
     obtain ⟨_, _, h4, _⟩ := zfz hlens; rw [h4, za6 yO, za6 yO, hlt, Nat.add_sub_cancel, hWt m yO, a3]
theorem zok {t : ByteArray} (hw : zaB t = true) (h4 : t.size = 4) : ∀ s ∈ zgg t, zaB s = true /\ s.size = 1 := by
 intro s hs; refine ⟨(zex hw h4).2 s hs, ?_⟩
 unfold zgg Lib.charsB Lib.charsUpTo at hs; obtain ⟨k, hk, rfl⟩ := List.mem_map.1 hs; have hk4 : k < t.size := by rw [List.mem_range] at hk; exact hk
 rw [ByteArray.size_extract]; omega
def EwP (e : zam) (w u : List UInt8) : Prop :=
 if e.kind = 1 then u = zb4 w 0 e.i ++ zau e.part ++ zb4 w e.i w.length
 else if e.kind = 2 then u = zb4 w 0 e.i ++ zb4 w e.j w.length
 else if e.kind = 3 then u = zb4 w 0 e.k ++ zb4 w e.i e.j ++ zb4 w e.k w.length
 else if e.kind = 4 then
  if e.k <= e.i then u = zb4 w 0 e.k ++ zb4 w e.i e.j ++ zb4 w e.k e.i ++ zb4 w e.j w.length
  else u = zb4 w 0 e.i ++ zb4 w e.j e.k ++ zb4 w e.i e.j ++ zb4 w e.k w.length
 else ∃ m, u = zb4 w 0 e.i ++ m ++ zb4 w e.j w.length /\ (e.kind = 5 -> m = (zb4 w e.i e.j).reverse) /\ (e.kind = 6 -> m = ziG (zb4 w e.i e.j) e.k.toNat) /\ (e.kind = 7 -> m.length = (zb4 w e.i e.j).length)
theorem zqc {a b : List zaa} (ha : zag a = true) (hb : zag b = true) (h : zag (zbh a b) = true) : zau (zbh a b) = zau a ++ zau b := by
 obtain ⟨_, la, h1⟩ := zai ha; obtain ⟨_, lb, h2⟩ := zai hb; have h3 := ziT ha hb h; have h4 := (za4 (zbh a b))
 rw [zaD h1, zaD h2] at h3; exact zlZ h1 h2 (by unfold ze2; omega)
def GwO (s : Option (List zaa)) (w : List UInt8) : Prop := ∀ o, s = some o -> zag o = true /\ zau o = w
theorem GwO.add {s g : Option (List zaa)} {w u : List UInt8} (h : GwO s w) (h2 : GwO g u) : GwO (zbC s g) (w ++ u) := by
 intro o ho; obtain ⟨a, b, ha, hb, rfl, h4⟩ := zhh ho; obtain ⟨k1, k2⟩ := h a ha; obtain ⟨k3, k4⟩ := h2 b hb; exact ⟨h4, by rw [zqc k1 k3 h4, k2, k4]⟩
theorem GwO.nil : GwO (some []) [] := by
 intro o ho; cases ho; exact ⟨rfl, rfl⟩
theorem GwO.part {xs : List zaa} {ls : List Int} (h : zaW xs = some ls) {i j : Int} (hi : 0 <= i) (hij : i <= j) (hj : j <= zao ls) : GwO (zbt (zap xs ls i j)) (zb4 (zau xs) i j) := by
 intro o ho; obtain ⟨rfl, hg⟩ := zhi ho; obtain ⟨_, _, h2⟩ := zeY h hi hij hj; exact ⟨hg, h2⟩
theorem zdg {xs : List zaa} {e : zam} (h : zah xs e = 0) : EwP e (zau xs) (zau (zak xs e)) := by
 obtain ⟨h1, h2, h3⟩ := zbw h; obtain ⟨_, ls, hl⟩ := zai h1; have hlq : zde xs = ls := by simp [zde, hl]
 have hgl := zaD hl; have hwl := zbf hl; obtain ⟨hk, hi, hj, hq, hij, hj0, hgp⟩ := zcI h2
 obtain ⟨o, ho⟩ : ∃ o, za0 xs ls (zao ls) e = some o := by
  cases hs : za0 xs ls (zao ls) e with
  | some o => exact ⟨o, rfl⟩
  | none =>
    exfalso
    unfold zah zeD at h; rw [hlq, hs] at h; simp [h1, h2, h3, zhc] at h
 have hout : zak xs e = zaQ o := by
  unfold zak zeD; rw [hlq, ho]; simp [h1, h2, h3, ziQ]
 have hfin : ∀ w, GwO (za0 xs ls (zao ls) e) w -> zau (zak xs e) = w := by
  intro w hw; obtain ⟨g1, g2⟩ := hw o ho; obtain ⟨_, lo, hlo⟩ := zai g1; obtain ⟨_, _, h4, _⟩ := zfz hlo; rw [hout, h4, g2]
 rw [hgl] at h3; unfold zbp at h3; unfold EwP; rw [hwl]; rcases zeo hk with k1 | k1 | k1 | k1 | k1 | k1 | k1
 · rw [if_pos k1]
   rw [if_pos k1] at h3; have h3 : e.i <= zao ls := by simpa using h3
   apply hfin
   unfold za0; rw [if_pos k1]; have hp : GwO (some e.part) (zau e.part) := fun o ho => by cases ho; exact ⟨hgp, rfl⟩
   have := ((GwO.nil.add (GwO.part hl (Int.le_refl 0) hi.1 h3)).add hp).add (GwO.part hl hi.1 h3 (Int.le_refl _)); simpa using this
 · rw [if_neg yO, if_pos k1]
   rw [if_neg yO, if_neg yO, if_neg yO] at h3; have h3 : e.j <= zao ls := by simpa using h3
   have hij := hij yO; apply hfin
   unfold za0; rw [if_neg yO, if_pos k1]; have := (GwO.nil.add (GwO.part hl (Int.le_refl 0) hi.1 (Int.le_trans hij h3))).add (GwO.part hl hj.1 h3 (Int.le_refl _)); simpa using this
 · rw [if_neg yO, if_neg yO, if_pos k1]
   rw [if_neg yO, if_pos k1] at h3; have h3 : e.j <= zao ls /\ e.k <= zao ls := by simpa using h3
   have hij := hij yO; apply hfin
   unfold za0; rw [if_neg yO, if_neg yO, if_pos k1]; have := ((GwO.nil.add (GwO.part hl (Int.le_refl 0) hq.1 h3.2)).add (GwO.part hl hi.1 hij h3.1)).add (GwO.part hl hq.1 h3.2 (Int.le_refl _)); simpa using this
 · rw [if_neg yO, if_neg yO, if_neg yO, if_pos k1]
   rw [if_neg yO, if_neg yO, if_pos k1] at h3; have h3 : e.j <= zao ls /\ (e.k <= e.i \/ (e.j <= e.k /\ e.k <= zao ls)) := by simpa using h3
   have hij := hij yO; by_cases hki : e.k <= e.i
   · rw [if_pos hki]
     apply hfin
     unfold za0; rw [if_neg yO, if_neg yO, if_neg yO, if_pos k1, if_pos hki]; have := (((GwO.nil.add (GwO.part hl (Int.le_refl 0) hq.1 yO)).add (GwO.part hl hi.1 hij h3.1)).add (GwO.part hl hq.1 hki yO)).add (GwO.part hl hj.1 h3.1 (Int.le_refl _)); simpa using this
   · rw [if_neg hki]
     obtain ⟨c1, c2⟩ : e.j <= e.k /\ e.k <= zao ls := by
      rcases h3.2 with hh | hh
      · exact absurd hh hki
      · exact hh
     apply hfin
     unfold za0; rw [if_neg yO, if_neg yO, if_neg yO, if_pos k1, if_neg hki]; have := (((GwO.nil.add (GwO.part hl (Int.le_refl 0) hi.1 yO)).add (GwO.part hl hj.1 c1 c2)).add (GwO.part hl hi.1 hij h3.1)).add (GwO.part hl hq.1 c2 (Int.le_refl _)); simpa using this
 all_goals
  rw [if_neg yO, if_neg yO, if_neg yO, if_neg yO]; rw [if_neg yO, if_neg yO, if_neg yO] at h3; have h3 : e.j <= zao ls := by simpa using h3
  have hij := hij yO
  have hE : za0 xs ls (zao ls) e = zbC (zbC (zbC (some []) (zbt (zap xs ls 0 e.i))) ((zbt (zap xs ls e.i e.j)).bind (zed e))) (zbt (zap xs ls e.j (zao ls))) := by
   unfold za0; rw [if_neg yO, if_neg yO, if_neg yO, if_neg yO]
  obtain ⟨q, hq1⟩ : ∃ q, (zbt (zap xs ls e.i e.j)).bind (zed e) = some q := by
   rw [hE] at ho; obtain ⟨a, b, ha, hb, _, _⟩ := zhh ho; obtain ⟨a', b', ha', hb', _, _⟩ := zhh ha; exact ⟨b', hb'⟩
  obtain ⟨p, hp1, hp2⟩ := Option.bind_eq_some_iff.1 hq1; obtain ⟨g1, g2⟩ := GwO.part hl hi.1 hij h3 p hp1
  have hgo : ∀ w, zag q = true -> zau q = w -> zau (zak xs e) = zb4 (zau xs) 0 e.i ++ w ++ zb4 (zau xs) e.j (zao ls) := by
   intro w hg hw; apply hfin
   rw [hE]
   have hqq : GwO ((zbt (zap xs ls e.i e.j)).bind (zed e)) w := fun o ho => by
    rw [hq1] at ho; cases ho; exact ⟨hg, hw⟩
   have := ((GwO.nil.add (GwO.part hl (Int.le_refl 0) hi.1 (Int.le_trans hij h3))).add hqq).add (GwO.part hl hj.1 h3 (Int.le_refl _)); simpa using this
  unfold zed at hp2
 · rw [if_pos k1] at hp2
   cases hp2
   obtain ⟨_, lp, hlp⟩ := zai g1; refine ⟨_, hgo _ (zfe g1) rfl, fun _ => ?_, fun hh => by omega, fun hh => by omega⟩
   rw [zlY hlp, g2]
 · rw [if_neg yO, if_pos k1] at hp2
   obtain ⟨rfl, hgq⟩ := zhi hp2; obtain ⟨_, lp, hlp⟩ := zai g1; obtain ⟨_, lq, hlq2⟩ := zai hgq; refine ⟨_, hgo _ hgq rfl, fun hh => by omega, fun _ => ?_, fun hh => by omega⟩
   rw [zjy hlp hlq2, g2]
 · rw [if_neg yO, if_neg yO] at hp2
   have hm : e.map.size = 4 /\ zaB e.map = true := by
    unfold zat at h2; simp only [Bool.and_eq_true] at h2
    have := h2.2; rw [if_pos (by simp [k1]), Bool.and_eq_true] at this; exact ⟨by simpa using this.1, this.2⟩
   obtain ⟨c1, c2⟩ := zoj (zok hm.2 hm.1) (zex hm.2 hm.1).1 g1 hp2; refine ⟨_, hgo _ c1 rfl, fun hh => by omega, fun hh => by omega, fun _ => ?_⟩
   rw [c2, g2]
structure zhj (w : World) (B b o : Nat) (e : zam) (vR : Value) : Prop where
 box : EC w b o e vR
 lt : b < B
 sl : Sl zar w B vR e.part
theorem zhj.up {w w' : World} {b o : Nat} {e : zam} {vR : Value} (h : zhj w w.heap.size b o e vR) (hb : Below w.heap.size w w') : zhj w' w'.heap.size b o e vR :=
 ⟨h.box.up hb, Nat.lt_of_lt_of_le h.lt hb.size, h.sl.up hb⟩
theorem zl1 (b o : Nat) (vR : Value) (e : zam) (w : World) (h : zhj w w.heap.size b o e vR) (hsm : zaY e.part) (hn : e.part.length <= 1099511627776) (hm : e.map.size <= maxLen) :
  Calls Tryz.prog 32 #[.pointer (some ⟨b, o, none⟩)] w fun r w' => r = .returned (.bool (zat e)) /\ Below w.heap.size w w' := by
 have HH := yq h; obtain ⟨⟨x0, x1, x2, x3, x4, x5, _⟩, hlt, hR⟩ := h; have HR := yq hR; obtain ⟨AR, cR, rfl, _⟩ := hR; by_cases hk : inR e.kind 1 7 = true
 · have HK := yq hk
   have HE := yq (ziz hk); obtain ⟨u1, u2, u3, u4, u5⟩ := zgC hk; obtain ⟨S, hS⟩ : ∃ S, zcN e.kind = S := ⟨_, rfl⟩
   rw [hS] at u1 u2 u3 u4 u5; have HS := yq hS; have hSm : S.size <= maxLen := by unfold maxLen; omega
   have HU := yq (And.intro u1 (And.intro u2 (And.intro u3 u4)))
   have H4 : (zbq e.kind = false /\ zbu e.kind = false /\ (e.kind == 1) = true /\ (e.kind == 7) = false) \/ (zbq e.kind = true /\ zbu e.kind = false /\ (e.kind == 1) = false /\ (e.kind == 7) = false) \/ (zbq e.kind = true /\ zbu e.kind = true /\ (e.kind == 1) = false /\ (e.kind == 7) = false) \/ (zbq e.kind = true /\ zbu e.kind = false /\ (e.kind == 1) = false /\ (e.kind == 7) = true) := by
    rcases zeo hk with h | h | h | h | h | h | h <;> rw [h] <;> simp [zbq, zbu]
   clear hk hS u1 u2 u3 u4 u5; go_enter Tryz.func32, Tryz.ntmps32
   go_wp2_with fail
   refine (zi5 _ _ _ _ HK.o).mono ?_
   rintro r w' ⟨rfl, rfl⟩; go_wp2_with fail
   refine (zd4 _ _ HK.o).mono ?_
   rintro r w1 ⟨rfl, hb1⟩; rw [HS.o]; have HH1 := yq (HH.o.up hb1); have HB1 := yq hb1; have z1 : b < w1.heap.size := Nat.lt_of_lt_of_le hlt hb1.size; clear hb1 x0 x1 x2 x3 x4 x5; obtain ⟨x0, x1, x2, x3, x4, x5, _⟩ := HH1.o.box; go_wp2_with fail
   rcases H4 with ⟨u1, u2, u3, u4⟩ | ⟨u1, u2, u3, u4⟩ | ⟨u1, u2, u3, u4⟩ | ⟨u1, u2, u3, u4⟩
   · rw [u1, u2, u3, u4] at HE HU
     obtain ⟨hJ', hK', hP', hM'⟩ := HU.o; have CJ := zaw S 74 74 _ hSm rfl hJ'; have CK := zaw S 75 75 _ hSm rfl hK'; have CP := zaw S 80 80 _ hSm rfl hP'; have CM := zaw S 77 77 _ hSm rfl hM'; clear hJ' hK' hP' hM'; clear u1 u2 u3 u4; by_cases ni : zaK e.i true = true
     · have Ni := yq ni
       have Di := zaj e.i true _ ni; clear ni; by_cases nj : zaK e.j false = true
       · have Nj := yq nj
         have Dj := zaj e.j _ _ nj; clear nj; by_cases nk : zaK e.k false = true
         · have Nk := yq nk
           have Dk := zaj e.k _ _ nk; clear nk
           go_quiet (first
            | (go_at_call 36; first | with_reducible exact zab (CJ.o _) | with_reducible exact zab (CK.o _))
            | (go_at_call 67; first | with_reducible exact zab (Di.o _) | with_reducible exact zab (Dj.o _) | with_reducible exact zab (Dk.o _)))
           go_wp2_with fail
           have Ni2 := yq (show inR e.i 0 1000000000000000 = true from Ni.o); have HH2 := yq (HH1.o.up (zal (Below.refl w1.heap.size w1) nq)); have HB2 := yq (HB1.o.trans ((zal (Below.refl w1.heap.size w1) nq).mono HB1.o.size)); clear x0 x1 x2 x3 x4 x5 z1; generalize w1.drewN nq = w2 at *; have z2 : b < w2.heap.size := HH2.o.lt; obtain ⟨x0, x1, x2, x3, x4, x5, _⟩ := HH2.o.box; have KB := And.intro (Below.drew (Below.refl w2.heap.size w2)) (show w2.drew.cell? ⟨b, o + 4, none⟩ = _ from x4); have Y4 := yq KB.2; have Z4 := yq (show b < w2.drew.heap.size from z2); have R4 := yq (HH2.o.sl.up (Below.drew (Below.refl w2.heap.size w2))); by_cases cl : 0 < e.part.length
           · have Cl := yq cl
             have cl' : decide (0 < e.part.length) = true := by simp [cl]
             by_cases cg : zag e.part = true
             · have Cg := yq cg
               go_region_held3 (fun w' => Below w2.heap.size w2 w' /\ w'.cell? ⟨b, o + 4, none⟩ = some (.slice AR e.part.length cR))
                (first | (with_reducible exact KB) | (with_reducible exact ze7 KB hb3 z2))
                (first
                  | (go_at_call 36; refine (CP.o _).mono ?_; rintro r w' ⟨rfl, rfl⟩)
                  | (go_at_call 19; refine (zaZ b (o + 4) _ e.part _ Y4.o Z4.o R4.o hsm).mono ?_; rintro r w3 ⟨rfl, hb3⟩))
               have HB3 := yq (HB2.o.trans (((Below.drew (Below.refl w2.heap.size w2)).trans hb3).mono HB2.o.size)); have y5 := (hb3.cell (p := ⟨b, o + 5, none⟩) z2).trans (show w2.drew.cell? ⟨b, o + 5, none⟩ = _ from x5); clear KB hb3 x0 x1 x2 x3 x4 x5; go_wp2_with fail
               refine (CM.o _).mono ?_
               rintro r w' ⟨rfl, rfl⟩; by_cases cm : e.map.size = 0
               · have Cm := yq cm
                 have gm := zbk e.map; rw [show (e.map.size == 0) = true by simp [cm]] at gm; clear cm; go_wp2_with fail
                 go_ret
                 exact ⟨zaf (by rw [HE.o]; simp [Ni2.o, Nj.o, Nk.o, Cl.o, Cg.o, Cm.o]), (have yx := HB3.o; yb)⟩
               · have Cm := yq cm
                 have gm := zbk e.map; rw [show (e.map.size == 0) = false by simp [cm]] at gm; clear cm; go_wp2_with fail
                 go_ret
                 exact ⟨zaf (by rw [HE.o]; simp [Ni2.o, Nj.o, Nk.o, Cl.o, Cg.o, Cm.o]), (have yx := HB3.o; yb)⟩
             · have cg' : zag e.part = false := by simpa using cg
               have Cg := yq cg'; clear cg
               go_region_held3 (fun w' => Below w2.heap.size w2 w' /\ w'.cell? ⟨b, o + 4, none⟩ = some (.slice AR e.part.length cR))
                (first | (with_reducible exact KB) | (with_reducible exact ze7 KB hb3 z2))
                (first
                  | (go_at_call 36; refine (CP.o _).mono ?_; rintro r w' ⟨rfl, rfl⟩)
                  | (go_at_call 19; refine (zaZ b (o + 4) _ e.part _ Y4.o Z4.o R4.o hsm).mono ?_; rintro r w3 ⟨rfl, hb3⟩))
               have HB3 := yq (HB2.o.trans (((Below.drew (Below.refl w2.heap.size w2)).trans hb3).mono HB2.o.size)); have y5 := (hb3.cell (p := ⟨b, o + 5, none⟩) z2).trans (show w2.drew.cell? ⟨b, o + 5, none⟩ = _ from x5); clear KB hb3 x0 x1 x2 x3 x4 x5; go_wp2_with fail
               go_ret
               exact ⟨zaf (by rw [HE.o]; simp [Cg.o]), (have yx := HB3.o; yb)⟩
           · have hL : e.part.length = 0 := by omega
             have Cl := yq cl; rw [hL] at KB Y4 R4 x4; clear cl hL; go_quiet ((go_at_call 36; with_reducible exact zab (CP.o _)))
             have HB3 := yq (HB2.o.trans ((zal (Below.refl w2.heap.size w2) nq).mono HB2.o.size)); go_wp2_with fail
             go_ret
             exact ⟨zaf (by rw [HE.o]; simp [Cl.o]), (have yx := HB3.o; yb)⟩
         · have nk' : zaK e.k false = false := by simpa using nk
           have Nk := yq nk'; have Dk := zaj e.k _ _ nk'; clear nk nk'
           go_quiet (first
            | (go_at_call 36; first | with_reducible exact zab (CJ.o _) | with_reducible exact zab (CK.o _))
            | (go_at_call 67; first | with_reducible exact zab (Di.o _) | with_reducible exact zab (Dj.o _) | with_reducible exact zab (Dk.o _)))
           go_wp2_with fail
           go_ret
           exact ⟨zaf (by rw [HE.o]; simp [Nk.o]), (have yx := HB1.o; yb)⟩
       · have nj' : zaK e.j false = false := by simpa using nj
         have Nj := yq nj'; have Dj := zaj e.j _ _ nj'; clear nj nj'
         go_quiet (first
          | (go_at_call 36; first | with_reducible exact zab (CJ.o _) | with_reducible exact zab (CK.o _))
          | (go_at_call 67; first | with_reducible exact zab (Di.o _) | with_reducible exact zab (Dj.o _) | with_reducible exact zab (Dk.o _)))
         go_wp2_with fail
         go_ret
         exact ⟨zaf (by rw [HE.o]; simp [Nj.o]), (have yx := HB1.o; yb)⟩
     · have ni' : zaK e.i true = false := by simpa using ni
       have Ni := yq ni'; have Ni2 := yq (show inR e.i 0 1000000000000000 = false from ni'); have Di := zaj e.i true _ ni'; clear ni ni'
       go_quiet (first
        | (go_at_call 36; first | with_reducible exact zab (CJ.o _) | with_reducible exact zab (CK.o _))
        | (go_at_call 67; first | with_reducible exact zab (Di.o _) | with_reducible exact zab (Dj.o _) | with_reducible exact zab (Dk.o _)))
       go_wp2_with fail
       go_ret
       exact ⟨zaf (by rw [HE.o]; simp [Ni2.o]), (have yx := HB1.o; yb)⟩
   · rw [u1, u2, u3, u4] at HE HU
     obtain ⟨hJ', hK', hP', hM'⟩ := HU.o; have CJ := zaw S 74 74 _ hSm rfl hJ'; have CK := zaw S 75 75 _ hSm rfl hK'; have CP := zaw S 80 80 _ hSm rfl hP'; have CM := zaw S 77 77 _ hSm rfl hM'; clear hJ' hK' hP' hM'; clear u1 u2 u3 u4; by_cases ni : zaK e.i true = true
     · have Ni := yq ni
       have Di := zaj e.i true _ ni; clear ni; by_cases nj : zaK e.j true = true
       · have Nj := yq nj
         have Dj := zaj e.j _ _ nj; clear nj; by_cases nk : zaK e.k false = true
         · have Nk := yq nk
           have Dk := zaj e.k _ _ nk; clear nk; by_cases nij : e.j < e.i
           · have Nij := yq nij
             go_quiet (first
              | (go_at_call 36; first | with_reducible exact zab (CJ.o _) | with_reducible exact zab (CK.o _))
              | (go_at_call 67; first | with_reducible exact zab (Di.o _) | with_reducible exact zab (Dj.o _) | with_reducible exact zab (Dk.o _)))
             go_wp2_with fail
             go_ret
             exact ⟨zaf (by rw [HE.o]; simp [Nij.o]), (have yx := HB1.o; yb)⟩
           · have nij' : decide (e.j < e.i) = false := by simp; omega
             have Nij := yq nij'
             go_quiet (first
              | (go_at_call 36; first | with_reducible exact zab (CJ.o _) | with_reducible exact zab (CK.o _))
              | (go_at_call 67; first | with_reducible exact zab (Di.o _) | with_reducible exact zab (Dj.o _) | with_reducible exact zab (Dk.o _)))
             go_wp2_with fail
             have Ni2 := yq (show inR e.i 0 1000000000000000 = true from Ni.o); have HH2 := yq (HH1.o.up (zal (Below.refl w1.heap.size w1) nq)); have HB2 := yq (HB1.o.trans ((zal (Below.refl w1.heap.size w1) nq).mono HB1.o.size)); clear x0 x1 x2 x3 x4 x5 z1; generalize w1.drewN nq = w2 at *; have z2 : b < w2.heap.size := HH2.o.lt; obtain ⟨x0, x1, x2, x3, x4, x5, _⟩ := HH2.o.box; have KB := And.intro (Below.drew (Below.refl w2.heap.size w2)) (show w2.drew.cell? ⟨b, o + 4, none⟩ = _ from x4); have Y4 := yq KB.2; have Z4 := yq (show b < w2.drew.heap.size from z2); have R4 := yq (HH2.o.sl.up (Below.drew (Below.refl w2.heap.size w2))); by_cases cl : 0 < e.part.length
             · have Cl := yq cl
               have cl' : decide (0 < e.part.length) = true := by simp [cl]
               go_quiet ((go_at_call 36; with_reducible exact zab (CP.o _)))
               have HB3 := yq (HB2.o.trans ((zal (Below.refl w2.heap.size w2) nq).mono HB2.o.size)); go_wp2_with fail
               go_ret
               exact ⟨zaf (by rw [HE.o]; simp [Cl.o]), (have yx := HB3.o; yb)⟩
             · have Cg := yq (zcq cl)
               have cg : zag e.part = true := zcq cl; have hL : e.part.length = 0 := by omega
               have Cl := yq cl; rw [hL] at KB Y4 R4 x4; clear cl hL
               go_region_held3 (fun w' => Below w2.heap.size w2 w' /\ w'.cell? ⟨b, o + 4, none⟩ = some (.slice AR 0 cR))
                (first | (with_reducible exact KB) | (with_reducible exact ze7 KB hb3 z2))
                (first
                  | (go_at_call 36; refine (CP.o _).mono ?_; rintro r w' ⟨rfl, rfl⟩)
                  | (go_at_call 19; refine (zaZ b (o + 4) _ e.part _ Y4.o Z4.o R4.o hsm).mono ?_; rintro r w3 ⟨rfl, hb3⟩))
               have HB3 := yq (HB2.o.trans (((Below.drew (Below.refl w2.heap.size w2)).trans hb3).mono HB2.o.size)); have y5 := (hb3.cell (p := ⟨b, o + 5, none⟩) z2).trans (show w2.drew.cell? ⟨b, o + 5, none⟩ = _ from x5); clear KB hb3 x0 x1 x2 x3 x4 x5; go_wp2_with fail
               refine (CM.o _).mono ?_
               rintro r w' ⟨rfl, rfl⟩; by_cases cm : e.map.size = 0
               · have Cm := yq cm
                 have gm := zbk e.map; rw [show (e.map.size == 0) = true by simp [cm]] at gm; clear cm; go_wp2_with fail
                 go_ret
                 exact ⟨zaf (by rw [HE.o]; simp [Ni2.o, Nj.o, Nk.o, Nij.o, Cl.o, Cg.o, Cm.o]), (have yx := HB3.o; yb)⟩
               · have Cm := yq cm
                 have gm := zbk e.map; rw [show (e.map.size == 0) = false by simp [cm]] at gm; clear cm; go_wp2_with fail
                 go_ret
                 exact ⟨zaf (by rw [HE.o]; simp [Ni2.o, Nj.o, Nk.o, Nij.o, Cl.o, Cg.o, Cm.o]), (have yx := HB3.o; yb)⟩
         · have nk' : zaK e.k false = false := by simpa using nk
           have Nk := yq nk'; have Dk := zaj e.k _ _ nk'; clear nk nk'
           go_quiet (first
            | (go_at_call 36; first | with_reducible exact zab (CJ.o _) | with_reducible exact zab (CK.o _))
            | (go_at_call 67; first | with_reducible exact zab (Di.o _) | with_reducible exact zab (Dj.o _) | with_reducible exact zab (Dk.o _)))
           go_wp2_with fail
           go_ret
           exact ⟨zaf (by rw [HE.o]; simp [Nk.o]), (have yx := HB1.o; yb)⟩
       · have nj' : zaK e.j true = false := by simpa using nj
         have Nj := yq nj'; have Dj := zaj e.j _ _ nj'; clear nj nj'
         go_quiet (first
          | (go_at_call 36; first | with_reducible exact zab (CJ.o _) | with_reducible exact zab (CK.o _))
          | (go_at_call 67; first | with_reducible exact zab (Di.o _) | with_reducible exact zab (Dj.o _) | with_reducible exact zab (Dk.o _)))
         go_wp2_with fail
         go_ret
         exact ⟨zaf (by rw [HE.o]; simp [Nj.o]), (have yx := HB1.o; yb)⟩
     · have ni' : zaK e.i true = false := by simpa using ni
       have Ni := yq ni'; have Ni2 := yq (show inR e.i 0 1000000000000000 = false from ni'); have Di := zaj e.i true _ ni'; clear ni ni'
       go_quiet (first
        | (go_at_call 36; first | with_reducible exact zab (CJ.o _) | with_reducible exact zab (CK.o _))
        | (go_at_call 67; first | with_reducible exact zab (Di.o _) | with_reducible exact zab (Dj.o _) | with_reducible exact zab (Dk.o _)))
       go_wp2_with fail
       go_ret
       exact ⟨zaf (by rw [HE.o]; simp [Ni2.o]), (have yx := HB1.o; yb)⟩
   · rw [u1, u2, u3, u4] at HE HU
     obtain ⟨hJ', hK', hP', hM'⟩ := HU.o; have CJ := zaw S 74 74 _ hSm rfl hJ'; have CK := zaw S 75 75 _ hSm rfl hK'; have CP := zaw S 80 80 _ hSm rfl hP'; have CM := zaw S 77 77 _ hSm rfl hM'; clear hJ' hK' hP' hM'; clear u1 u2 u3 u4; by_cases ni : zaK e.i true = true
     · have Ni := yq ni
       have Di := zaj e.i true _ ni; clear ni; by_cases nj : zaK e.j true = true
       · have Nj := yq nj
         have Dj := zaj e.j _ _ nj; clear nj; by_cases nk : zaK e.k true = true
         · have Nk := yq nk
           have Dk := zaj e.k _ _ nk; clear nk; by_cases nij : e.j < e.i
           · have Nij := yq nij
             go_quiet (first
              | (go_at_call 36; first | with_reducible exact zab (CJ.o _) | with_reducible exact zab (CK.o _))
              | (go_at_call 67; first | with_reducible exact zab (Di.o _) | with_reducible exact zab (Dj.o _) | with_reducible exact zab (Dk.o _)))
             go_wp2_with fail
             go_ret
             exact ⟨zaf (by rw [HE.o]; simp [Nij.o]), (have yx := HB1.o; yb)⟩
           · have nij' : decide (e.j < e.i) = false := by simp; omega
             have Nij := yq nij'
             go_quiet (first
              | (go_at_call 36; first | with_reducible exact zab (CJ.o _) | with_reducible exact zab (CK.o _))
              | (go_at_call 67; first | with_reducible exact zab (Di.o _) | with_reducible exact zab (Dj.o _) | with_reducible exact zab (Dk.o _)))
             go_wp2_with fail
             have Ni2 := yq (show inR e.i 0 1000000000000000 = true from Ni.o); have HH2 := yq (HH1.o.up (zal (Below.refl w1.heap.size w1) nq)); have HB2 := yq (HB1.o.trans ((zal (Below.refl w1.heap.size w1) nq).mono HB1.o.size)); clear x0 x1 x2 x3 x4 x5 z1; generalize w1.drewN nq = w2 at *; have z2 : b < w2.heap.size := HH2.o.lt; obtain ⟨x0, x1, x2, x3, x4, x5, _⟩ := HH2.o.box; have KB := And.intro (Below.drew (Below.refl w2.heap.size w2)) (show w2.drew.cell? ⟨b, o + 4, none⟩ = _ from x4); have Y4 := yq KB.2; have Z4 := yq (show b < w2.drew.heap.size from z2); have R4 := yq (HH2.o.sl.up (Below.drew (Below.refl w2.heap.size w2))); by_cases cl : 0 < e.part.length
             · have Cl := yq cl
               have cl' : decide (0 < e.part.length) = true := by simp [cl]
               go_quiet ((go_at_call 36; with_reducible exact zab (CP.o _)))
               have HB3 := yq (HB2.o.trans ((zal (Below.refl w2.heap.size w2) nq).mono HB2.o.size)); go_wp2_with fail
               go_ret
               exact ⟨zaf (by rw [HE.o]; simp [Cl.o]), (have yx := HB3.o; yb)⟩
             · have Cg := yq (zcq cl)
               have cg : zag e.part = true := zcq cl; have hL : e.part.length = 0 := by omega
               have Cl := yq cl; rw [hL] at KB Y4 R4 x4; clear cl hL
               go_region_held3 (fun w' => Below w2.heap.size w2 w' /\ w'.cell? ⟨b, o + 4, none⟩ = some (.slice AR 0 cR))
                (first | (with_reducible exact KB) | (with_reducible exact ze7 KB hb3 z2))
                (first
                  | (go_at_call 36; refine (CP.o _).mono ?_; rintro r w' ⟨rfl, rfl⟩)
                  | (go_at_call 19; refine (zaZ b (o + 4) _ e.part _ Y4.o Z4.o R4.o hsm).mono ?_; rintro r w3 ⟨rfl, hb3⟩))
               have HB3 := yq (HB2.o.trans (((Below.drew (Below.refl w2.heap.size w2)).trans hb3).mono HB2.o.size)); have y5 := (hb3.cell (p := ⟨b, o + 5, none⟩) z2).trans (show w2.drew.cell? ⟨b, o + 5, none⟩ = _ from x5); clear KB hb3 x0 x1 x2 x3 x4 x5; go_wp2_with fail
               refine (CM.o _).mono ?_
               rintro r w' ⟨rfl, rfl⟩; by_cases cm : e.map.size = 0
               · have Cm := yq cm
                 have gm := zbk e.map; rw [show (e.map.size == 0) = true by simp [cm]] at gm; clear cm; go_wp2_with fail
                 go_ret
                 exact ⟨zaf (by rw [HE.o]; simp [Ni2.o, Nj.o, Nk.o, Nij.o, Cl.o, Cg.o, Cm.o]), (have yx := HB3.o; yb)⟩
               · have Cm := yq cm
                 have gm := zbk e.map; rw [show (e.map.size == 0) = false by simp [cm]] at gm; clear cm; go_wp2_with fail
                 go_ret
                 exact ⟨zaf (by rw [HE.o]; simp [Ni2.o, Nj.o, Nk.o, Nij.o, Cl.o, Cg.o, Cm.o]), (have yx := HB3.o; yb)⟩
         · have nk' : zaK e.k true = false := by simpa using nk
           have Nk := yq nk'; have Dk := zaj e.k _ _ nk'; clear nk nk'
           go_quiet (first
            | (go_at_call 36; first | with_reducible exact zab (CJ.o _) | with_reducible exact zab (CK.o _))
            | (go_at_call 67; first | with_reducible exact zab (Di.o _) | with_reducible exact zab (Dj.o _) | with_reducible exact zab (Dk.o _)))
           go_wp2_with fail
           go_ret
           exact ⟨zaf (by rw [HE.o]; simp [Nk.o]), (have yx := HB1.o; yb)⟩
       · have nj' : zaK e.j true = false := by simpa using nj
         have Nj := yq nj'; have Dj := zaj e.j _ _ nj'; clear nj nj'
         go_quiet (first
          | (go_at_call 36; first | with_reducible exact zab (CJ.o _) | with_reducible exact zab (CK.o _))
          | (go_at_call 67; first | with_reducible exact zab (Di.o _) | with_reducible exact zab (Dj.o _) | with_reducible exact zab (Dk.o _)))
         go_wp2_with fail
         go_ret
         exact ⟨zaf (by rw [HE.o]; simp [Nj.o]), (have yx := HB1.o; yb)⟩
     · have ni' : zaK e.i true = false := by simpa using ni
       have Ni := yq ni'; have Ni2 := yq (show inR e.i 0 1000000000000000 = false from ni'); have Di := zaj e.i true _ ni'; clear ni ni'
       go_quiet (first
        | (go_at_call 36; first | with_reducible exact zab (CJ.o _) | with_reducible exact zab (CK.o _))
        | (go_at_call 67; first | with_reducible exact zab (Di.o _) | with_reducible exact zab (Dj.o _) | with_reducible exact zab (Dk.o _)))
       go_wp2_with fail
       go_ret
       exact ⟨zaf (by rw [HE.o]; simp [Ni2.o]), (have yx := HB1.o; yb)⟩
   · rw [u1, u2, u3, u4] at HE HU
     obtain ⟨hJ', hK', hP', hM'⟩ := HU.o; have CJ := zaw S 74 74 _ hSm rfl hJ'; have CK := zaw S 75 75 _ hSm rfl hK'; have CP := zaw S 80 80 _ hSm rfl hP'; have CM := zaw S 77 77 _ hSm rfl hM'; clear hJ' hK' hP' hM'; clear u1 u2 u3 u4; by_cases ni : zaK e.i true = true
     · have Ni := yq ni
       have Di := zaj e.i true _ ni; clear ni; by_cases nj : zaK e.j true = true
       · have Nj := yq nj
         have Dj := zaj e.j _ _ nj; clear nj; by_cases nk : zaK e.k false = true
         · have Nk := yq nk
           have Dk := zaj e.k _ _ nk; clear nk; by_cases nij : e.j < e.i
           · have Nij := yq nij
             go_quiet (first
              | (go_at_call 36; first | with_reducible exact zab (CJ.o _) | with_reducible exact zab (CK.o _))
              | (go_at_call 67; first | with_reducible exact zab (Di.o _) | with_reducible exact zab (Dj.o _) | with_reducible exact zab (Dk.o _)))
             go_wp2_with fail
             go_ret
             exact ⟨zaf (by rw [HE.o]; simp [Nij.o]), (have yx := HB1.o; yb)⟩
           · have nij' : decide (e.j < e.i) = false := by simp; omega
             have Nij := yq nij'
             go_quiet (first
              | (go_at_call 36; first | with_reducible exact zab (CJ.o _) | with_reducible exact zab (CK.o _))
              | (go_at_call 67; first | with_reducible exact zab (Di.o _) | with_reducible exact zab (Dj.o _) | with_reducible exact zab (Dk.o _)))
             go_wp2_with fail
             have Ni2 := yq (show inR e.i 0 1000000000000000 = true from Ni.o); have HH2 := yq (HH1.o.up (zal (Below.refl w1.heap.size w1) nq)); have HB2 := yq (HB1.o.trans ((zal (Below.refl w1.heap.size w1) nq).mono HB1.o.size)); clear x0 x1 x2 x3 x4 x5 z1; generalize w1.drewN nq = w2 at *; have z2 : b < w2.heap.size := HH2.o.lt; obtain ⟨x0, x1, x2, x3, x4, x5, _⟩ := HH2.o.box; have KB := And.intro (Below.drew (Below.refl w2.heap.size w2)) (show w2.drew.cell? ⟨b, o + 4, none⟩ = _ from x4); have Y4 := yq KB.2; have Z4 := yq (show b < w2.drew.heap.size from z2); have R4 := yq (HH2.o.sl.up (Below.drew (Below.refl w2.heap.size w2))); by_cases cl : 0 < e.part.length
             · have Cl := yq cl
               have cl' : decide (0 < e.part.length) = true := by simp [cl]
               go_quiet ((go_at_call 36; with_reducible exact zab (CP.o _)))
               have HB3 := yq (HB2.o.trans ((zal (Below.refl w2.heap.size w2) nq).mono HB2.o.size)); go_wp2_with fail
               go_ret
               exact ⟨zaf (by rw [HE.o]; simp [Cl.o]), (have yx := HB3.o; yb)⟩
             · have Cg := yq (zcq cl)
               have cg : zag e.part = true := zcq cl; have hL : e.part.length = 0 := by omega
               have Cl := yq cl; rw [hL] at KB Y4 R4 x4; clear cl hL
               go_region_held3 (fun w' => Below w2.heap.size w2 w' /\ w'.cell? ⟨b, o + 4, none⟩ = some (.slice AR 0 cR))
                (first | (with_reducible exact KB) | (with_reducible exact ze7 KB hb3 z2))
                (first
                  | (go_at_call 36; refine (CP.o _).mono ?_; rintro r w' ⟨rfl, rfl⟩)
                  | (go_at_call 19; refine (zaZ b (o + 4) _ e.part _ Y4.o Z4.o R4.o hsm).mono ?_; rintro r w3 ⟨rfl, hb3⟩))
               have HB3 := yq (HB2.o.trans (((Below.drew (Below.refl w2.heap.size w2)).trans hb3).mono HB2.o.size)); have y5 := (hb3.cell (p := ⟨b, o + 5, none⟩) z2).trans (show w2.drew.cell? ⟨b, o + 5, none⟩ = _ from x5); clear KB hb3 x0 x1 x2 x3 x4 x5; go_wp2_with fail
               refine (CM.o _).mono ?_
               rintro r w' ⟨rfl, rfl⟩; by_cases cs : e.map.size = 4
               · have Cs := yq cs
                 have gs : ((e.map.size : Int) == 4) = true := by simp [cs]
                 clear cs; go_wp2_with fail
                 refine (zfp _ _ hm).mono ?_
                 rintro r w' ⟨rfl, rfl⟩; go_wp2_with fail
                 go_ret
                 exact ⟨zaf (by rw [HE.o]; simp [Ni2.o, Nj.o, Nk.o, Nij.o, Cl.o, Cg.o, Cs.o]), (have yx := HB3.o; yb)⟩
               · have Cs := yq cs
                 have gs : ((e.map.size : Int) == 4) = false := by rw [beq_eq_false_iff_ne]; omega
                 clear cs; go_wp2_with fail
                 go_ret
                 exact ⟨zaf (by rw [HE.o]; simp [Cs.o]), (have yx := HB3.o; yb)⟩
         · have nk' : zaK e.k false = false := by simpa using nk
           have Nk := yq nk'; have Dk := zaj e.k _ _ nk'; clear nk nk'
           go_quiet (first
            | (go_at_call 36; first | with_reducible exact zab (CJ.o _) | with_reducible exact zab (CK.o _))
            | (go_at_call 67; first | with_reducible exact zab (Di.o _) | with_reducible exact zab (Dj.o _) | with_reducible exact zab (Dk.o _)))
           go_wp2_with fail
           go_ret
           exact ⟨zaf (by rw [HE.o]; simp [Nk.o]), (have yx := HB1.o; yb)⟩
       · have nj' : zaK e.j true = false := by simpa using nj
         have Nj := yq nj'; have Dj := zaj e.j _ _ nj'; clear nj nj'
         go_quiet (first
          | (go_at_call 36; first | with_reducible exact zab (CJ.o _) | with_reducible exact zab (CK.o _))
          | (go_at_call 67; first | with_reducible exact zab (Di.o _) | with_reducible exact zab (Dj.o _) | with_reducible exact zab (Dk.o _)))
         go_wp2_with fail
         go_ret
         exact ⟨zaf (by rw [HE.o]; simp [Nj.o]), (have yx := HB1.o; yb)⟩
     · have ni' : zaK e.i true = false := by simpa using ni
       have Ni := yq ni'; have Ni2 := yq (show inR e.i 0 1000000000000000 = false from ni'); have Di := zaj e.i true _ ni'; clear ni ni'
       go_quiet (first
        | (go_at_call 36; first | with_reducible exact zab (CJ.o _) | with_reducible exact zab (CK.o _))
        | (go_at_call 67; first | with_reducible exact zab (Di.o _) | with_reducible exact zab (Dj.o _) | with_reducible exact zab (Dk.o _)))
       go_wp2_with fail
       go_ret
       exact ⟨zaf (by rw [HE.o]; simp [Ni2.o]), (have yx := HB1.o; yb)⟩
 · have hk' : inR e.kind 1 7 = false := by simpa using hk
   have HK := yq hk'; clear hk hk'; go_enter Tryz.func32, Tryz.ntmps32
   go_wp2_with fail
   refine (zkK _ _ _ _ HK.o).mono ?_
   rintro r w' ⟨rfl, rfl⟩; go_wp2_with fail
   go_ret
   exact ⟨zaf (by simp [zat, HK.o]), yb⟩
theorem zpi {s g : Option (List zaa)} {o : List zaa} (h : zbC s g = some o) : zag o = true := by
 unfold zbC at h; split at h
 · split at h
   · rename_i h2; cases h; exact h2
   · cases h
 · cases h
theorem zol {xs : List zaa} {ls : List Int} {n : Int} {e : zam} {o : List zaa} (h : za0 xs ls n e = some o) : zag o = true := by
 unfold za0 at h
 repeat' split at h
 all_goals exact zpi h
theorem zd8 (xs : List zaa) (e : zam) : zag (zak xs e) = true := by
 unfold zak; split
 · split
   · unfold ziQ zeD
     cases h : za0 xs (zde xs) (zao (zde xs)) e with
     | none => rfl
     | some o => exact zj7 (zol h)
   · rfl
 · rfl
theorem zjK (v : Value) (xs : List zam) (F : FuncId) (cap : Array Value) (p : zam -> Bool) (w : World) (h : Sl zdB w w.heap.size v xs)
  (eg : ∀ args w, (callFunc F args).run Tryz.prog w = .ok (.enter F args) w) (hf : ∀ (W : World) x vR, Below w.heap.size w W -> x ∈ xs -> Sl zar W W.heap.size vR x.part -> Calls Tryz.prog F (#[.agg #[.int .i64 x.kind, .int .i64 x.i, .int .i64 x.j, .int .i64 x.k, vR, .string x.map]] ++ cap) W fun e w' => e = .returned (.bool (p x)) /\ Below W.heap.size W w') :
  Calls Tryz.prog 95 #[v, .func (.func F) #[] cap] w fun e w' => e = .returned (.int .i64 (zgG p xs)) /\ Below w.heap.size w w' := by
 obtain ⟨A, c, rfl, hc, hm, hrow⟩ := h; unfold maxLen at hm; have Hf := yq hf; clear hf; go_enter Tryz.func95, Tryz.ntmps95
 go_wp2_with fail
 go_loopw [8] (fun i wr => ∃ k : Nat, k <= xs.length /\ i = .int .i64 k /\ Below w.heap.size w wr /\ ∀ (j : Nat) y, j < k -> xs[j]? = some y -> p y = false) (fun i _ => xs.length - (intOf i).toNat)
 case atStart => exact ⟨0, Nat.zero_le _, rfl, Below.refl _ _, fun j y hj => absurd hj yO⟩
 case round =>
  obtain ⟨k, hk, rfl, hb, hno⟩ := hrel; have Hno := yq hno; clear hno; by_cases hlt : k < xs.length
  · obtain ⟨b, o, rfl, hbl, hcell⟩ := hrow.edit (fun _ h => h) hlt
    obtain ⟨x, hx⟩ : ∃ x, xs[k]? = some x := ⟨_, ye hlt⟩
    obtain ⟨vR, hec, hR⟩ := hcell k x hx; have hec2 := hec.up hb; have HR2 := yq (hR.up hb); obtain ⟨c0, c1, c2, c3, c4, c5, cl⟩ := hec2; have hi : (k : Int) < (xs.length : Int) := by omega
    have Hx := yq hx; clear hcell hx hec hR; go_wp2_with fail
    refine (Hf.o _ x _ hb (List.mem_of_getElem? Hx.o) HR2.o).mono ?_
    rintro e w2 ⟨rfl, hb2⟩; by_cases hp : p x = true
    · have Hp := yq hp
      go_wp2
      go_ret
      exact ⟨zdt (by rw [zhQ Hno.o Hx.o Hp.o]), hb.trans (hb2.mono hb.size)⟩
    · have hp2 : p x = false := by simpa using hp
      have Hp := yq hp2; clear hp; go_wp2
      go_roundw
      case rel =>
       refine ⟨k + 1, by omega, by go_num, hb.trans (hb2.mono hb.size), fun j y hj hy => ?_⟩
       by_cases e : j = k
       · subst e
         have := Hx.o; rw [hy] at this; injection this with this; rw [this]; exact Hp.o
       · exact Hno.o j y yO hy
      case measure => simp [intOf]; omega
  · go_wp2
    go_ret
    exact ⟨zdt (by
     rw [zhP]; intro x hx; obtain ⟨j, hj, rfl⟩ := List.getElem_of_mem hx
     exact Hno.o j _ yO (ye hj)), hb⟩
theorem zhk (v : Value) (xs : List zam) (F : FuncId) (cap : Array Value) (p : zam -> Bool) (w : World) (h : Sl zdB w w.heap.size v xs)
  (eg : ∀ args w, (callFunc F args).run Tryz.prog w = .ok (.enter F args) w) (hf : ∀ (W : World) x vR, Below w.heap.size w W -> x ∈ xs -> Sl zar W W.heap.size vR x.part -> Calls Tryz.prog F (#[.agg #[.int .i64 x.kind, .int .i64 x.i, .int .i64 x.j, .int .i64 x.k, vR, .string x.map]] ++ cap) W fun e w' => e = .returned (.bool (p x)) /\ Below W.heap.size W w') :
  Calls Tryz.prog 60 #[v, .func (.func F) #[] cap] w fun e w' => e = .returned (.bool (xs.any p)) /\ Below w.heap.size w w' := by
 have H := yq (zjK v xs F cap p w h eg hf); clear hf eg; obtain ⟨A, c, rfl, _⟩ := h; go_enter Tryz.func60, Tryz.ntmps60
 go_wp2_with fail
 refine H.o.mono ?_
 rintro e w2 ⟨rfl, hb2⟩; go_wp2
 go_ret
 exact ⟨zaf (zi4 p xs), hb2⟩
theorem zkB (e : zam) (vR : Value) (w : World) (hR : Sl zar w w.heap.size vR e.part) (hn : e.part.length <= 1048576) (hm : e.map.size <= maxLen) : Calls Tryz.prog 61 #[.agg #[.int .i64 e.kind, .int .i64 e.i, .int .i64 e.j, .int .i64 e.k, vR, .string e.map]] w fun r w' => r = .returned (.bool (!zat e)) /\ Below w.heap.size w w' := by
 have HR := yq hR; obtain ⟨AR, cR, rfl, _⟩ := hR; go_enter Tryz.func61, Tryz.ntmps61
 go_wp2_with fail
 refine (zcf _ e _ ⟨_, rfl, HR.o.up yb⟩ yO hm).mono ?_
 rintro r w1 ⟨rfl, hb1⟩; go_wp2
 go_ret
 exact ⟨rfl, (Below.unalloc hb1).1⟩
theorem zkC (l : List zam) : (!l.any fun e => !zat e) = l.all zat := by
 induction l with
 | nil => rfl
 | cons x xs ih => simp only [List.any_cons, List.all_cons, Bool.not_or, Bool.not_not, ih]
theorem zgo (v : Value) (es : List zam) (w : World) (h : Sl zdB w w.heap.size v es) (hs : ∀ e ∈ es, e.part.length <= 1048576 /\ e.map.size <= maxLen) :
  Calls Tryz.prog 26 #[v] w fun r w' => r = .returned (.bool (es.all zat)) /\ Below w.heap.size w w' := by
 have H := yq (zhk v es 61 #[] (fun e => !zat e) w h (enters_of Tryz.func61 yk rfl) (fun W x vR _ hx hR => zkB x vR W hR (hs x hx).1 (hs x hx).2)); obtain ⟨A, c, rfl, _⟩ := h; go_enter Tryz.func26, Tryz.ntmps26
 go_wp2_with fail
 refine H.o.mono ?_
 rintro r w1 ⟨rfl, hb1⟩; go_wp2
 go_ret
 refine ⟨zaf ?_, hb1⟩
 exact zkC es
theorem zh8 (v : Value) (es : List zam) (w : World) (h : Sl zdB w w.heap.size v es) (hs : ∀ e ∈ es, zaY e.part /\ e.part.length <= 1048576 /\ e.map.size <= maxLen) :
  Calls Tryz.prog 20 #[v] w fun r w' => r = .returned (.bool (es.all zat)) /\ Below w.heap.size w w' := by
 obtain ⟨A, c, rfl, hc, hm, hrow⟩ := h; unfold maxLen at hm; go_enter Tryz.func20, Tryz.ntmps20
 go_wp2_with fail
 go_loopw [3] (fun i wr => ∃ k : Nat, k <= es.length /\ i = .int .i64 k /\ Below w.heap.size w wr /\ yh (∀ (j : Nat) y, j < k -> es[j]? = some y -> zat y = true)) (fun i _ => es.length - (intOf i).toNat)
 case atStart => exact ⟨0, Nat.zero_le _, rfl, Below.refl _ _, fun j y hj => absurd hj yO⟩
 case round =>
  obtain ⟨k, hk, rfl, hb, Hno⟩ := hrel; by_cases hlt : k < es.length
  · obtain ⟨b, o, rfl, hbl, hcell⟩ := hrow.edit (fun _ h => h) hlt
    obtain ⟨x, hx⟩ : ∃ x, es[k]? = some x := ⟨_, ye hlt⟩
    obtain ⟨vR, hec, hR⟩ := hcell k x hx; have HA := yq (show zhj wr wr.heap.size b (o + k * 6) x vR from ⟨hec.up hb, (hec.up hb).lt, hR.up hb⟩); have hi : (k : Int) < (es.length : Int) := by omega
    have Hx := yq hx; obtain ⟨s1, s2, s3⟩ := hs x (List.mem_of_getElem? hx); clear hcell hx hec hR; go_wp2_with fail
    refine (zl1 b (o + k * 6) _ x _ HA.o s1 yO s3).mono ?_
    rintro r w2 ⟨rfl, hb2⟩; have HB2 := yq (hb.trans (hb2.mono hb.size)); cases hp : zat x with
    | false =>
      have Hp := yq hp; clear hp; go_wp2_with fail
      go_ret
      refine ⟨zaf ?_, HB2.o⟩
      have : ¬ es.all zat = true := fun h => by
       have := List.all_eq_true.1 h x (List.mem_of_getElem? Hx.o); rw [Hp.o] at this; cases this
      simpa using this
    | true =>
      have Hp := yq hp; clear hp; go_wp2_with fail
      go_roundw
      case rel =>
       refine ⟨k + 1, by omega, by go_num, HB2.o, yq fun j y hj hy => ?_⟩
       by_cases e : j = k
       · subst e
         have := Hx.o; rw [hy] at this; injection this with this; rw [this]; exact Hp.o
       · exact Hno.o j y yO hy
      case measure => simp [intOf]; omega
  · go_wp2
    go_ret
    refine ⟨zaf ?_, hb⟩
    symm
    rw [List.all_eq_true]; intro x hx; obtain ⟨j, hj, rfl⟩ := List.getElem_of_mem hx; exact Hno.o j _ yO (ye hj)
end Go.Proofs.YtejgbfgocaggfaaGreatDoor
