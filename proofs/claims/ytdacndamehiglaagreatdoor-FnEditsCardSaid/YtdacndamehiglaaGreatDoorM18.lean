import Derived.Test.YtdacndamehiglaaGreatDoorM17
set_option maxRecDepth 100000
set_option maxHeartbeats 8000000
namespace Go.Proofs.YtdacndamehiglaaGreatDoor
theorem zl7 {n : Nat} {lx a : List Int} {r : zaa} (hn : lx.length = n) (h : zaD a.length r = true) : zaV (lx ++ a) (zaC n r) = zaV a r := by
 unfold zaC; cases hp : r.pair with
 | false => simp [zaV, hp]
 | true =>
   have h2 := zbk h hp; have hp2 : ({ letter := r.letter, left := r.left + n, right := r.right + n } : zaa).pair = true := hp; simp only [if_true]
   unfold zaV; rw [if_pos hp2, if_pos hp]; have e1 : (r.left + (n : Int)).toNat = n + r.left.toNat := by omega
   have e2 : (r.right + (n : Int)).toNat = n + r.right.toNat := by omega
   show (lx ++ a).getD (r.left + n).toNat 0 + (lx ++ a).getD (r.right + n).toNat 0 = _
   rw [e1, e2, yg, yg, List.getElem?_append_right yO, List.getElem?_append_right yO, hn, Nat.add_sub_cancel_left, Nat.add_sub_cancel_left]
   rw [<- yg, <- yg]
theorem zfz {xs ys : List zaa} {lx ly : List Int} (hx : zaX xs = some lx) (hy : zaX ys = some ly) : zaX (xs ++ ys.map (zaC xs.length)) = some (lx ++ ly) := by
 rw [zhK, hx]; have hn : lx.length = xs.length := zaF hx
 suffices H : ∀ (l : List zaa) (a o : List Int), l.foldl zaR (some a) = some o -> (l.map (zaC xs.length)).foldl zaR (some (lx ++ a)) = some (lx ++ o) by simpa using H ys [] ly hy
 intro l
 induction l with
 | nil => intro a o h; simp at h; simp [h]
 | cons y l ih =>
   intro a o h; rw [List.map_cons, List.foldl_cons]; rw [List.foldl_cons] at h; cases hs : zaR (some a) y with
   | none => rw [hs, zcB] at h; cases h
   | some b =>
     rw [hs] at h; simp only [zaR, Option.bind_some] at hs
     split at hs
     · rename_i hok
       cases hs
       have e1 : zaD (lx ++ a).length (zaC xs.length y) = true := by rw [List.length_append, hn]; exact zil hok.1
       have e2 : zaV (lx ++ a) (zaC xs.length y) = zaV a y := zl7 hn hok.1
       have e3 : zaR (some (lx ++ a)) (zaC xs.length y) = some (lx ++ (a ++ [zaV a y])) := by
        simp only [zaR, Option.bind_some]
        rw [e2, if_pos ⟨e1, hok.2⟩, List.append_assoc]
       rw [e3]; exact ih _ _ h
     · cases hs
theorem zhQ {xs ys : List zaa} (hx : zaf xs = true) (hy : zaf ys = true) (hj : zaf (za8 xs ys) = true) : zao (za8 xs ys) = zao xs + zao ys := by
 obtain ⟨_, lx, h1⟩ := zag hx; obtain ⟨_, ly, h2⟩ := zag hy; obtain ⟨_, l, h3⟩ := zag hj; rw [zaq h1, zaq h2, zaq h3]; have hxl := zaF h1; have hyl := zaF h2; unfold za8 at h3; by_cases c1 : xs.length = 0
 · rw [if_pos c1] at h3
   rw [h2] at h3; cases h3
   have : lx = [] := yn yO; rw [this]; simp [zai]
 · rw [if_neg c1] at h3
   by_cases c2 : ys.length = 0
   · rw [if_pos c2] at h3
     rw [h1] at h3; cases h3
     have : ly = [] := yn yO; rw [this]; simp [zai]
   · rw [if_neg c2] at h3
     have hr := zfz h1 h2; have hlen : (xs ++ ys.map (zaC xs.length)).length = xs.length + ys.length := by simp
     have e1 : ((xs.length : Int) - 1) = ((xs.length - 1 : Nat) : Int) := by omega
     have e2 : ((xs.length : Int) + ys.length - 1) = ((xs.length + ys.length - 1 : Nat) : Int) := by omega
     rw [e1, e2] at h3; have hl3 := zaF h3; have hw := zgz h3 yO yO; have k1 := zd5 h3 (xs.length + ys.length) yS; rw [hlen] at hw; rw [hw, List.length_append] at k1; have k2 := zd5 hr (xs.length - 1) yO; have k3 := zd5 hr (xs.length + ys.length - 1) yO
     have g2 : (lx ++ ly).getD (xs.length - 1) 0 = zai lx := by
      rw [zai, yg, List.getElem?_append_left yO, <- yg, hxl]
     have g3 : (lx ++ ly).getD (xs.length + ys.length - 1) 0 = zai ly := by
      rw [zai, yg, List.getElem?_append_right yO, <- yg, hxl, hyl]
      congr 1; omega
     rw [g2] at k2; rw [g3] at k3
     have g1 : zai l = l.getD (xs.length + ys.length) 0 := by
      rw [zai, hl3]; simp
     rw [g1, <- k1, <- k2, <- k3]; omega
theorem zgE {s g : Option (List zaa)} {o : List zaa} (h : zbu s g = some o) : ∃ a b, s = some a /\ g = some b /\ o = za8 a b /\ zaf (za8 a b) = true := by
 unfold zbu at h; split at h
 · rename_i a b
   split at h
   · rename_i h2; cases h; exact ⟨a, b, rfl, rfl, rfl, h2⟩
   · cases h
 · cases h
theorem ze9 {x o : List zaa} (h : zbj x = some o) : o = x /\ zaf x = true := by
 unfold zbj at h; split at h
 · rename_i h2; cases h; exact ⟨rfl, h2⟩
 · cases h
open Go.RowKit
theorem zhk {xs ys : List zaa} {lx ly : List Int} (h1 : zaX xs = some lx) (h2 : zaX ys = some ly) (hm : zai lx + zai ly <= zdQ) : ∃ l, zaX (za8 xs ys) = some l /\ zai l = zai lx + zai ly := by
 have hxl := zaF h1; have hyl := zaF h2; unfold za8; by_cases c1 : xs.length = 0
 · rw [if_pos c1]
   have : lx = [] := yn yO; exact ⟨ly, h2, by rw [this]; simp [zai]⟩
 · rw [if_neg c1]
   by_cases c2 : ys.length = 0
   · rw [if_pos c2]
     have : ly = [] := yn yO; exact ⟨lx, h1, by rw [this]; simp [zai]⟩
   · rw [if_neg c2]
     have hr := zfz h1 h2; have hlen : (xs ++ ys.map (zaC xs.length)).length = xs.length + ys.length := by simp
     have e1 : ((xs.length : Int) - 1) = ((xs.length - 1 : Nat) : Int) := by omega
     have e2 : ((xs.length : Int) + ys.length - 1) = ((xs.length + ys.length - 1 : Nat) : Int) := by omega
     have g2 : (lx ++ ly).getD (xs.length - 1) 0 = zai lx := by
      rw [zai, yg, List.getElem?_append_left yO, <- yg, hxl]
     have g3 : (lx ++ ly).getD (xs.length + ys.length - 1) 0 = zai ly := by
      rw [zai, yg, List.getElem?_append_right yO, <- yg, hxl, hyl]
      congr 1; omega
     rw [e1, e2]; have h3 := ziu (a := xs.length - 1) (b := xs.length + ys.length - 1) hr yO yO (by rw [g2, g3]; exact hm); rw [g2, g3] at h3; exact ⟨_, h3, by simp [zai]⟩
theorem zkY (xs ys : List zaa) : (za8 xs ys).length <= xs.length + ys.length + 1 := by
 unfold za8; split
 · omega
 · split
   · omega
   · simp; omega
theorem zkZ {xs ys : List zaa} {n r : Nat} (hr : r < ys.length) : zav (xs ++ ys.map (zaC n)) (xs.length + r) = zaC n (zav ys r) := by
 unfold zav; rw [yg, List.getElem?_append_right yO, yg]
 rw [show xs.length + r - xs.length = r by omega, List.getElem?_map, ye hr]
 rfl
theorem zl8 {xs : List zaa} {r : Nat} (hr : r < xs.length) : zav (xs.map zb6) r = zb6 (zav xs r) := by
 unfold zav; rw [yg, yg, List.getElem?_map, ye hr]
 rfl
theorem zk0 (n : Nat) (r : zaa) : (zaC n r).pair = r.pair := by
 unfold zaC; split <;> rfl
theorem zjC {xs ys : List zaa} {ly : List Int} (hy : zaX ys = some ly) : ∀ (f r : Nat), r < ys.length -> zcJ (xs ++ ys.map (zaC xs.length)) f (xs.length + r) = zcJ ys f r := by
 intro f
 induction f with
 | zero => intro r _; rfl
 | succ f ih =>
   intro r hr; rw [zcJ, zcJ, zkZ hr, zk0]; cases hp : (zav ys r).pair with
   | false => simp [zaC, hp]
   | true =>
     obtain ⟨q1, q2, q3, q4, q5⟩ := zbg hy hr hp; rw [if_pos rfl, if_pos rfl, <- ih _ (show (zav ys r).left.toNat < ys.length by omega), <- ih _ (show (zav ys r).right.toNat < ys.length by omega)]; have e1 : (zaC xs.length (zav ys r)).left.toNat = xs.length + (zav ys r).left.toNat := by simp only [zaC, hp, if_true]; omega
     have e2 : (zaC xs.length (zav ys r)).right.toNat = xs.length + (zav ys r).right.toNat := by simp only [zaC, hp, if_true]; omega
     rw [e1, e2]
theorem zk1 {xs : List zaa} {ls : List Int} (h : zaX xs = some ls) : ∀ (f r : Nat), r < xs.length -> zcJ (xs.map zb6) f r = (zcJ xs f r).reverse := by
 intro f
 induction f with
 | zero => intro r _; rfl
 | succ f ih =>
   intro r hr; rw [zcJ, zcJ, zl8 hr, show (zb6 (zav xs r)).pair = (zav xs r).pair from rfl]; cases hp : (zav xs r).pair with
   | false =>
     have h1 := zcQ (zcP h hr hp); have h2 : (zav xs r).letter.data.toList.length = 1 := by rw [Array.length_toList]; exact h1
     obtain ⟨x, hx⟩ := List.length_eq_one_iff.1 h2; simp [zb6, hx]
   | true =>
     obtain ⟨q1, q2, q3, q4, q5⟩ := zbg h hr hp; simp only [if_true]
     rw [List.reverse_append, <- ih _ (show (zav xs r).left.toNat < xs.length by omega), <- ih _ (show (zav xs r).right.toNat < xs.length by omega)]; rfl
theorem zk2 {xs : List zaa} {ls : List Int} (h : zaX xs = some ls) : zau (xs.map zb6) = (zau xs).reverse := by
 by_cases h0 : xs.length = 0
 · have : xs = [] := yn h0
   subst this; rfl
 · rw [za7 (by simp; omega), za7 yO, List.length_map]
   exact zk1 h _ _ yO
theorem zk3 {xs ys : List zaa} {lx ly : List Int} (h1 : zaX xs = some lx) (h2 : zaX ys = some ly) (hm : zai lx + zai ly <= zdQ) : zau (za8 xs ys) = zau xs ++ zau ys := by
 obtain ⟨l, hl, _⟩ := zhk h1 h2 hm; unfold za8 at hl |-
 by_cases c1 : xs.length = 0
 · have : xs = [] := yn c1
   subst this; simp [zau]
 · rw [if_neg c1] at hl |-
   by_cases c2 : ys.length = 0
   · have : ys = [] := yn c2
     subst this; simp [zau]
   · rw [if_neg c2] at hl |-
     have hr := zfz h1 h2; have hlen : (xs ++ ys.map (zaC xs.length)).length = xs.length + ys.length := by simp
     have e1 : ((xs.length : Int) - 1) = ((xs.length - 1 : Nat) : Int) := by omega
     have e2 : ((xs.length : Int) + ys.length - 1) = ((xs.length + (ys.length - 1) : Nat) : Int) := by omega
     rw [e1, e2] at hl |-
     rw [zfu, zgz hl yO yO, zeK h1 yO, za7 yO, za7 (show 0 < ys.length by omega)]; congr 1
     have hw := zen hr (xs.length + (ys.length - 1) + 1) (xs.length + (ys.length - 1)) yO yO; rw [<- hw, zjC h2 _ _ yO]; exact zen h2 _ _ yO yO
theorem EC.at_ {w : World} {E : Nat} {e : zap} {vR : Value} (h : EC w E 0 e vR) (hR : Sl zas w w.heap.size vR e.part) : zfR w w.heap.size E e vR :=
 ⟨⟨h.c0, by simpa using h.c1, by simpa using h.c2, by simpa using h.c3, by simpa using h.c4, by simpa using h.c5⟩, h.lt, hR⟩
theorem zhR (vG v : Value) (xs : List zaa) (e : zap) (w : World) (hG : Sl zas w w.heap.size vG xs) (hE : zdF w w.heap.size v e) (hn2 : e.part.length <= 1048576) (hsm : za5 xs) (hsmE : za5 e.part) (hm : e.map.size <= maxLen) :
  Calls Tryz.prog 10 #[.agg #[vG], v] w (zlp (zaj xs e) (zah xs e) w) := by
 obtain ⟨vR, rfl, hR⟩ := hE; have HG := yq hG; have HR := yq hR; obtain ⟨AG, cG, rfl, _⟩ := hG; obtain ⟨AR, cR, rfl, _⟩ := hR; have b1 := (Below.refl w.heap.size w).alloc yL (.cells #[.slice AG xs.length cG] 26); have b2 := b1.alloc b1.size (.cells (zbd e (.slice AR e.part.length cR)) 30); have b3 := b2.alloc b2.size (.cells #[.slice none 0 0] 26); have KP : Blk (((w.alloc (.cells #[.slice AG xs.length cG] 26)).alloc (.cells (zbd e (.slice AR e.part.length cR)) 30)).alloc (.cells #[.slice none 0 0] 26)) w.heap.size #[.slice AG xs.length cG] 26 := ((Blk.new w _ _).alloc _).alloc _
 have KE : Blk (((w.alloc (.cells #[.slice AG xs.length cG] 26)).alloc (.cells (zbd e (.slice AR e.part.length cR)) 30)).alloc (.cells #[.slice none 0 0] 26)) (w.heap.size + 1) (zbd e (.slice AR e.part.length cR)) 30 := by
  have := (Blk.new (w.alloc (.cells #[.slice AG xs.length cG] 26)) (zbd e (.slice AR e.part.length cR)) 30).alloc (.cells #[.slice none 0 0] 26); simpa [Blk] using this
 have KQ : Blk (((w.alloc (.cells #[.slice AG xs.length cG] 26)).alloc (.cells (zbd e (.slice AR e.part.length cR)) 30)).alloc (.cells #[.slice none 0 0] 26)) (w.heap.size + 2) #[.slice none 0 0] 26 := by
  have := (Blk.new ((w.alloc (.cells #[.slice AG xs.length cG] 26)).alloc (.cells (zbd e (.slice AR e.part.length cR)) 30)) #[.slice none 0 0] 26)
  simpa [Blk] using this
 go_enter Tryz.func10, Tryz.ntmps10
 unfold zbd at b2 b3 KP KE KQ; go_upto_region 1 with fail
 generalize (((w.alloc (.cells #[.slice AG xs.length cG] 26)).alloc (.cells #[.int .i64 e.kind, .int .i64 e.i, .int .i64 e.j, .int .i64 e.k, .slice AR e.part.length cR, .string e.map] 30)).alloc (.cells #[.slice none 0 0] 26)) = w0 at *; have KB := yq b3; clear b1 b2 b3; have cP0_1 := Blk.cell (i := 0) (v := .slice AG xs.length cG) KP rfl; have lP_2 := Blk.lt KP; go_wp2_with fail
 refine (zbf w.heap.size 0 _ xs _ cP0_1 (Blk.lt KP) (HG.o.up KB.o) hsm).mono ?_
 rintro e w1 ⟨rfl, hb_3⟩; have z_w1 : w0.heap.size <= w1.heap.size := hb_3.size; have KB_4 := yq (Below.tr KB.o hb_3); have KP_5 := Blk.up KP hb_3; have KE_6 := Blk.up KE hb_3; have KQ_7 := Blk.up KQ hb_3; clear cP0_1 lP_2 KB KP KE KQ; cases hg : zaf xs with
 | false =>
   have q2 : zaj xs e = [] /\ zah xs e = 1 := by simp [zaj, zah, hg]
   have HQ2 := yq q2; clear q2 hg; have cQ0_8 := Blk.cell (i := 0) (v := .slice none 0 0) KQ_7 rfl; have zQ0_9 := Blk.frozen KQ_7 0; have lQ_10 := Blk.lt KQ_7; go_wp2_with fail
   refine bodyPost_ret (v := .tuple #[.agg #[.slice none 0 0], .int .i64 1]) (by simp [results, Tryz.results10, go_sem, cQ0_8]) rfl ⟨Below.setCell KB_4.o (show w.heap.size <= w.heap.size + 2 by omega) _, .slice none 0 0, by rw [HQ2.o.1]; exact World.ownsRow_nil _ _ _ _, by rw [HQ2.o.2]⟩
 | true =>
   have HGG := yq hg; clear hg; have cQ0_11 := Blk.cell (i := 0) (v := .slice none 0 0) KQ_7 rfl; have lQ_12 := Blk.lt KQ_7; go_wp2_with fail
   refine (zit (w.heap.size + 1) _ e _ (EC.at_ (EC.of KE_6) (HR.o.up KB_4.o)) hsmE yO hm).mono ?_
   rintro e w2 ⟨rfl, hb_13⟩; have z_w2 : w1.heap.size <= w2.heap.size := hb_13.size; have KB_14 := yq (Below.tr KB_4.o hb_13); have KP_15 := Blk.up KP_5 hb_13; have KE_16 := Blk.up KE_6 hb_13; have KQ_17 := Blk.up KQ_7 hb_13; clear hb_3 cQ0_11 lQ_12 KB_4 KP_5 KE_6 KQ_7; cases he : zaA e with
   | false =>
     have q2 : zaj xs e = [] /\ zah xs e = 1 := by simp [zaj, zah, he]
     have HQ2 := yq q2; clear q2 he; have cQ0_18 := Blk.cell (i := 0) (v := .slice none 0 0) KQ_17 rfl; have zQ0_19 := Blk.frozen KQ_17 0; have lQ_20 := Blk.lt KQ_17; go_wp2_with fail
     refine bodyPost_ret (v := .tuple #[.agg #[.slice none 0 0], .int .i64 1]) (by simp [results, Tryz.results10, go_sem, cQ0_18]) rfl ⟨Below.setCell KB_14.o (show w.heap.size <= w.heap.size + 2 by omega) _, .slice none 0 0, by rw [HQ2.o.1]; exact World.ownsRow_nil _ _ _ _, by rw [HQ2.o.2]⟩
   | true =>
     have HEE := yq he; clear he; have lqq := Blk.lt KQ_17; have cQ0_21 := Blk.cell (i := 0) (v := .slice none 0 0) KQ_17 rfl; have lQ_22 := Blk.lt KQ_17; go_wp2_with fail
     refine (ziF w.heap.size 0 (w.heap.size + 1) 0 _ _ xs e _ ⟨Blk.cell KP_15 rfl, Blk.lt KP_15⟩ (EC.of KE_16) (HG.o.up KB_14.o) (HR.o.up KB_14.o) HGG.o HEE.o).mono ?_
     rintro e w3 ⟨hb_23, v3, own3, rfl⟩; have z_w3 : w2.heap.size <= w3.heap.size := hb_23.size; have KB_24 := yq (Below.tr KB_14.o hb_23); have KP_25 := Blk.up KP_15 hb_23; have KE_26 := Blk.up KE_16 hb_23; have KQ_27 := Blk.up KQ_17 hb_23; clear hb_13 cQ0_21 lQ_22 KB_14 KP_15 KE_16 KQ_17; obtain ⟨A3, k3, rfl, _⟩ := zae own3; have HO := yq own3; clear own3; have cQ0_28 := Blk.cell (i := 0) (v := .slice none 0 0) KQ_27 rfl; have zQ0_29 := Blk.frozen KQ_27 0; have lQ_30 := Blk.lt KQ_27; go_wp2_with fail
     refine bodyPost_ret (v := .tuple #[.agg #[.slice A3 (zaj xs e).length k3], .int .i64 (zah xs e)]) (by simp [results, Tryz.results10, go_sem, cQ0_28]) rfl ⟨Below.setCell KB_24.o (show w.heap.size <= w.heap.size + 2 by omega) _, .slice A3 (zaj xs e).length k3, ?_, rfl⟩
     exact zac (ownsRow_setCell_below HO.o (a := ⟨w.heap.size + 2, 0, none⟩) (by show w.heap.size + 2 < _; omega) _) yO
section
variable {α : Type}
theorem zdx {A M B : List α} {i j : Int} (hi : i = A.length) (hj : j = A.length + M.length) : zbD (A ++ (M ++ B)) i j = M := by
 subst hi hj; unfold zbD; have e1 : ((A.length : Int) + (M.length : Int)).toNat = A.length + M.length := by omega
 rw [e1, Int.toNat_natCast, <- List.append_assoc, List.take_append_of_le_length yS, List.take_of_length_le yS, List.drop_append_of_le_length yL, List.drop_length, List.nil_append]
theorem zcX {A R : List α} {j : Int} (hj : j = A.length) : zbD (A ++ R) 0 j = A := by
 have := zdx (A := ([] : List α)) (M := A) (B := R) (i := 0) (j := j) rfl (by simp [hj]); simpa using this
theorem zcl {A B : List α} {i j : Int} (hi : i = A.length) (hj : j = A.length + B.length) : zbD (A ++ B) i j = B := by
 have := zdx (A := A) (M := B) (B := ([] : List α)) hi hj; simpa using this
theorem ziG (w : List α) {i : Int} (h0 : 0 <= i) (hn : i <= w.length) : ∃ A B, w = A ++ B /\ (A.length : Int) = i := by
 refine ⟨w.take i.toNat, w.drop i.toNat, (List.take_append_drop _ _).symm, ?_⟩
 rw [List.length_take]; omega
theorem zl9 (w : List α) {i j : Int} (h0 : 0 <= i) (hij : i <= j) (hn : j <= w.length) : ∃ A M B, w = A ++ (M ++ B) /\ (A.length : Int) = i /\ (M.length : Int) = j - i := by
 obtain ⟨A, R, rfl, hA⟩ := ziG w h0 yO; rw [List.length_append] at hn; obtain ⟨M, B, rfl, hM⟩ := ziG R (i := j - i) yO yO; exact ⟨A, M, B, rfl, hA, hM⟩
theorem znV (w : List α) {i j k : Int} (h0 : 0 <= i) (hij : i <= j) (hjk : j <= k) (hn : k <= w.length) : ∃ A M Q B, w = A ++ (M ++ (Q ++ B)) /\ (A.length : Int) = i /\ (M.length : Int) = j - i /\ (Q.length : Int) = k - j := by
 obtain ⟨A, M, R, rfl, hA, hM⟩ := zl9 w h0 hij yO; simp only [List.length_append] at hn
 obtain ⟨Q, B, rfl, hQ⟩ := ziG R (i := k - j) yO yO; exact ⟨A, M, Q, B, rfl, hA, hM, hQ⟩
end
theorem zma {x : ByteArray} (hw : zay x = true) (h1 : x.size = 1) : ∃ k, k < 4 /\ zcn x = [zcA (ltr k)] := by
 obtain ⟨⟨l⟩⟩ := x; have hl : l.length = 1 := h1; obtain ⟨c, rfl⟩ := List.length_eq_one_iff.1 hl
 have hc : zb5 c = true := by
  unfold zay at hw; simp only [Bool.and_eq_true] at hw
  simpa using hw.2
 obtain ⟨k, hk, rfl⟩ := zgr hc; refine ⟨k, hk, ?_⟩
 have : k = 0 \/ k = 1 \/ k = 2 \/ k = 3 := by omega
 rcases this with rfl | rfl | rfl | rfl <;> decide
theorem zjD (c : UInt8) : (zcA c).pair = false := rfl
theorem zhl (n : Nat) (c : UInt8) : zaC n (zcA c) = zcA c := by
 unfold zaC; rw [if_neg (by rw [zjD]; simp)]
structure zph (xs : List zaa) (k : Nat) (p : List zaa × List Int) : Prop where
 ok : zaS p.1
 l4 : p.2.length = 4
 at_ : ∀ i, i < k -> zgT xs i = true -> 0 <= p.2.getD i 0 /\ p.2.getD i 0 < p.1.length
 np : ∀ r, r < p.1.length -> (zav p.1 r).pair = false
theorem zoP (xs : List zaa) (ws : List ByteArray) (hw : ∀ s ∈ ws, zay s = true /\ s.size = 1) (hl : ws.length = 4) : ∀ k, k <= 4 -> zph xs k (za9 xs ws k) := by
 intro k
 induction k with
 | zero => intro _; exact ⟨zgw, rfl, fun i hi => absurd hi yO, fun r hr => absurd hr (by simp [za9])⟩
 | succ k ih =>
   intro hk; have H := ih yO; rw [zds]; obtain ⟨O, S, hp⟩ : ∃ O S, za9 xs ws k = (O, S) := ⟨_, _, rfl⟩
   rw [hp] at H |-
   have hO : zaS O := H.ok; have hS : S.length = 4 := H.l4; have hat : ∀ i, i < k -> zgT xs i = true -> 0 <= S.getD i 0 /\ S.getD i 0 < (O.length : Int) := H.at_; have hnp : ∀ r, r < O.length -> (zav O r).pair = false := H.np; obtain ⟨hwk, h1k⟩ := hw (ws.getD k ⟨#[]⟩) (by rw [yg, ye yO]; exact List.getElem_mem _); obtain ⟨c, hc, hpl⟩ := zma hwk h1k; unfold zbI; rw [hpl]; split
   · rename_i hcond
     have e1 : ([zcA (ltr c)].map (zaC O.length)) = [zcA (ltr c)] := by rw [List.map_singleton, zhl]
     refine ⟨?_, by simp [hS], ?_, ?_⟩
     · show zaS (O ++ [zcA (ltr c)].map (zaC O.length))
       exact zeI hO (by rw [<- hpl]; exact zcF hwk)
     · intro i hi hh
       show 0 <= (S.set k _).getD i 0 /\ (S.set k _).getD i 0 < ((O ++ [zcA (ltr c)].map (zaC O.length)).length : Int)
       rw [ze3 yO, e1, List.length_append, List.length_singleton]; by_cases hik : k = i
       · rw [if_pos hik]
         have e0 : ((O, S) : List zaa × List Int).fst.length = O.length := rfl; omega
       · rw [if_neg hik]
         have := hat i yO hh; omega
     · intro r hr
       show (zav (O ++ [zcA (ltr c)].map (zaC O.length)) r).pair = false
       rw [e1]
       have hr' : r < O.length + 1 := by
        have : r < (O ++ [zcA (ltr c)].map (zaC O.length)).length := hr; rw [e1, List.length_append, List.length_singleton] at this; exact this
       by_cases hro : r < O.length
       · rw [zbW hro]; exact hnp r hro
       · have : r = O.length := by omega
         subst this; rw [zcD]; exact zjD _
   · rename_i hcond
     refine ⟨hO, hS, ?_, hnp⟩
     intro i hi hh; by_cases hik : i < k
     · exact hat i hik hh
     · have : i = k := by omega
       subst this; exact absurd ⟨by omega, hh⟩ hcond
theorem zmb {r : zaa} {k : Nat} (h : zaD k r = true) (hp : r.pair = false) : ∃ c, c < 4 /\ r = zcA (ltr c) /\ (r.letter.data.getD 0 0).toNat - 97 = c := by
 obtain ⟨h1, h2, h3⟩ := zb9 h hp; obtain ⟨⟨⟨l⟩⟩, a, b⟩ := r; have hl : l.length = 1 := h1; obtain ⟨x, rfl⟩ := List.length_eq_one_iff.1 hl; have hi := zeq h hp; have hx : 97 <= x.toNat /\ x.toNat <= 100 := by simpa using hi
 have h2' : a = 0 := h2; have h3' : b = 0 := h3; subst h2' h3'; refine ⟨x.toNat - 97, by omega, ?_, by simp⟩
 unfold zcA ltr; rw [show 97 + (x.toNat - 97) = x.toNat by omega]; simp
structure zoQ (xs : List zaa) (k : Nat) (p : List zaa × List Int) : Prop where
 ok : zaS p.1
 ls : p.2.length = k
 at_ : ∀ i, i < k -> 0 <= p.2.getD i 0 /\ p.2.getD i 0 < p.1.length /\ (W1 p.1 (p.2.getD i 0).toNat).length = (W1 xs i).length
 most : ∀ r, r < p.1.length -> ((W1 p.1 r).length : Int) <= zdQ
theorem zmc {xs : List zaa} {lsx : List Int} (ws : List ByteArray) (hw : ∀ s ∈ ws, zay s = true /\ s.size = 1) (hl : ws.length = 4) (hx : zaX xs = some lsx) : ∀ k, k <= xs.length -> zoQ xs k (zbE xs ws k) := by
 have HB := zoP xs ws hw hl 4 yL; have hA := zaz hx; intro k
 induction k with
 | zero =>
   intro _; refine ⟨HB.ok, rfl, fun i hi => absurd hi yO, fun r hr => ?_⟩
   have := zfo HB.ok hr (HB.np r hr); show ((W1 (za9 xs ws 4).1 r).length : Int) <= zdQ
   rw [this]; decide
 | succ k ih =>
   intro hk; have H := ih yO; obtain ⟨r, hr⟩ : ∃ r, xs[k]? = some r := ⟨_, ye yO⟩
   have hor := hA k r hr; have hgr := zby hr
   have hpre : ∃ t, (zbE xs ws k).1 = (za9 xs ws 4).1 ++ t := by
    clear H hor; unfold zbE
    suffices G : ∀ (l : List zaa) (p : List zaa × List Int), ∃ t, (l.foldl (zaY (za9 xs ws 4).2) p).1 = p.1 ++ t by exact G (xs.take k) ((za9 xs ws 4).1, [])
    intro l
    induction l with
    | nil => intro p; exact ⟨[], by simp⟩
    | cons a l ih2 =>
      intro p; obtain ⟨t, ht⟩ := ih2 (zaY (za9 xs ws 4).2 p a)
      have : ∃ u, (zaY (za9 xs ws 4).2 p a).1 = p.1 ++ u := by
       unfold zaY; split
       · split
         · exact ⟨[], by simp⟩
         · split
           · exact ⟨[], by simp⟩
           · exact ⟨_, rfl⟩
       · exact ⟨[], by simp⟩
      obtain ⟨u, hu⟩ := this; exact ⟨u ++ t, by rw [List.foldl_cons, ht, hu, List.append_assoc]⟩
   rw [zcV hr]; obtain ⟨O, S, hp⟩ : ∃ O S, zbE xs ws k = (O, S) := ⟨_, _, rfl⟩
   rw [hp] at H hpre |-
   obtain ⟨t, hpre⟩ := hpre; have hO : zaS O := H.ok; have hS : S.length = k := H.ls; have hat : ∀ i, i < k -> 0 <= S.getD i 0 /\ S.getD i 0 < (O.length : Int) /\ (W1 O (S.getD i 0).toNat).length = (W1 xs i).length := H.at_; have hmost : ∀ r, r < O.length -> ((W1 O r).length : Int) <= zdQ := H.most; have hpre : O = (za9 xs ws 4).1 ++ t := hpre; unfold zaY; cases hpr : r.pair with
   | true =>
     obtain ⟨q1, q2, q3, q4⟩ := zbk hor hpr; obtain ⟨a1, a2, a3⟩ := hat _ q2; obtain ⟨b1, b2, b3⟩ := hat _ q4; rw [if_pos rfl, if_neg (show ¬ S.getD r.left.toNat 0 < 0 by omega), if_neg (show ¬ S.getD r.right.toNat 0 < 0 by omega)]; have hO2 : zaS (O ++ [zaK (S.getD r.left.toNat 0) (S.getD r.right.toNat 0)]) := hO.snoc (zbV ⟨a1, a2⟩ ⟨b1, b2⟩)
     have hW2 : W1 (O ++ [zaK (S.getD r.left.toNat 0) (S.getD r.right.toNat 0)]) O.length = W1 O (S.getD r.left.toNat 0).toNat ++ W1 O (S.getD r.right.toNat 0).toNat := by
      have hg := zcD O (zaK (S.getD r.left.toNat 0) (S.getD r.right.toNat 0)); rw [zbM hO2 yS (by rw [hg]; rfl), hg]; show W1 _ (S.getD r.left.toNat 0).toNat ++ W1 _ (S.getD r.right.toNat 0).toNat = _
      rw [zdq hO hO2 _ yO, zdq hO hO2 _ yO]
     have hWx : W1 xs k = W1 xs r.left.toNat ++ W1 xs r.right.toNat := by
      have := zbM hA (r := k) yO (by rw [hgr]; exact hpr); rw [hgr] at this; exact this
     have hlen : (W1 (O ++ [zaK (S.getD r.left.toNat 0) (S.getD r.right.toNat 0)]) O.length).length = (W1 xs k).length := by
      rw [hW2, hWx, List.length_append, List.length_append, a3, b3]
     refine ⟨hO2, by simp [hS], ?_, ?_⟩
     · intro i hi
       show 0 <= (S ++ [(O.length : Int)]).getD i 0 /\ (S ++ [(O.length : Int)]).getD i 0 < (((O ++ [zaK (S.getD r.left.toNat 0) (S.getD r.right.toNat 0)]).length : Nat) : Int) /\ _
       by_cases hik : i < k
       · have h0 : (S ++ [(O.length : Int)]).getD i 0 = S.getD i 0 := zbB yO
         obtain ⟨c1, c2, c3⟩ := hat i hik; show 0 <= (S ++ [(O.length : Int)]).getD i 0 /\ _ /\ (W1 (O ++ [zaK (S.getD r.left.toNat 0) (S.getD r.right.toNat 0)]) ((S ++ [(O.length : Int)]).getD i 0).toNat).length = _
         rw [h0]; exact ⟨c1, by rw [List.length_append]; omega, by rw [zdq hO hO2 _ yO]; exact c3⟩
       · have hik2 : i = S.length := by omega
         subst hik2; show 0 <= (S ++ [(O.length : Int)]).getD S.length 0 /\ _ /\ (W1 (O ++ [zaK (S.getD r.left.toNat 0) (S.getD r.right.toNat 0)]) ((S ++ [(O.length : Int)]).getD S.length 0).toNat).length = _
         rw [zcE, Int.toNat_natCast]; exact ⟨by omega, by rw [List.length_append, List.length_singleton]; omega, by rw [hlen, hS]⟩
     · intro y hy
       have hy' : y < O.length + 1 := by
        have : y < (O ++ [zaK (S.getD r.left.toNat 0) (S.getD r.right.toNat 0)]).length := hy; rw [List.length_append, List.length_singleton] at this; exact this
       show ((W1 (O ++ [zaK (S.getD r.left.toNat 0) (S.getD r.right.toNat 0)]) y).length : Int) <= zdQ
       by_cases hyo : y < O.length
       · rw [zdq hO hO2 _ hyo]; exact hmost y hyo
       · have : y = O.length := by omega
         subst this; rw [hlen]; exact zjl hx yO
   | false =>
     rw [if_neg yS]; obtain ⟨c, hc4, hrc, hidx⟩ := zmb hor hpr; rw [hidx]
     have hhas : zgT xs c = true := by
      unfold zgT; rw [List.contains_iff_mem, <- hrc]; exact List.mem_of_getElem? hr
     obtain ⟨d1, d2⟩ := HB.at_ c hc4 hhas; have hOl : (za9 xs ws 4).1.length <= O.length := by rw [hpre, List.length_append]; omega
     have hgO : zav O ((za9 xs ws 4).2.getD c 0).toNat = zav (za9 xs ws 4).1 ((za9 xs ws 4).2.getD c 0).toNat := by rw [hpre]; exact zbW yO
     have h1 : (W1 O ((za9 xs ws 4).2.getD c 0).toNat).length = 1 := zfo hO yO (by rw [hgO]; exact HB.np _ yO); have hx1 : (W1 xs k).length = 1 := zfo hA yO (by rw [hgr]; exact hpr); refine ⟨hO, by simp [hS], ?_, hmost⟩
     intro i hi; show 0 <= (S ++ [(za9 xs ws 4).2.getD c 0]).getD i 0 /\ (S ++ [(za9 xs ws 4).2.getD c 0]).getD i 0 < (O.length : Int) /\ (W1 O ((S ++ [(za9 xs ws 4).2.getD c 0]).getD i 0).toNat).length = _
     by_cases hik : i < k
     · rw [zbB yO]; exact hat i hik
     · have hik2 : i = S.length := by omega
       subst hik2; rw [zcE, hS, hx1]; exact ⟨d1, by omega, h1⟩
theorem znk {xs q : List zaa} {ws : List ByteArray} (hw : ∀ s ∈ ws, zay s = true /\ s.size = 1) (hl : ws.length = 4) (hx : zaf xs = true) (h : zne xs ws = some q) : zaf q = true /\ (zau q).length = (zau xs).length := by
 obtain ⟨_, lsx, hlx⟩ := zag hx; unfold zne at h; split at h
 · cases h
 · split at h
   · rename_i hc
     cases h
     refine ⟨rfl, ?_⟩
     by_cases h0 : xs.length = 0
     · have : xs = [] := yn h0
       rw [this]
     · exfalso
       have H := zmc ws hw hl hlx xs.length yL; have h1 := (H.at_ (xs.length - 1) yO).1
       have h2 : zai (zf5 xs ws).2 = (zf5 xs ws).2.getD (xs.length - 1) 0 := by
        unfold zai; rw [show (zf5 xs ws).2.length = xs.length from H.ls]
       have h3 : 0 <= (zf5 xs ws).2.getD (xs.length - 1) 0 := h1; omega
   · rename_i hc
     have h0 : xs.length ≠ 0 := fun e => hc (.inl e); have H := zmc ws hw hl hlx xs.length yL; obtain ⟨O, S, hp⟩ : ∃ O S, zf5 xs ws = (O, S) := ⟨_, _, rfl⟩
     have hp' : zbE xs ws xs.length = (O, S) := hp; rw [hp'] at H; have hO : zaS O := H.ok; have hS : S.length = xs.length := H.ls; have hmost : ∀ r, r < O.length -> ((W1 O r).length : Int) <= zdQ := H.most; obtain ⟨a1, a2, a3⟩ := H.at_ (xs.length - 1) yO; have a1 : 0 <= S.getD (xs.length - 1) 0 := a1; have a2 : S.getD (xs.length - 1) 0 < (O.length : Int) := a2; have a3 : (W1 O (S.getD (xs.length - 1) 0).toNat).length = (W1 xs (xs.length - 1)).length := a3; rw [hp] at h; have hla : zai S = S.getD (xs.length - 1) 0 := by unfold zai; rw [hS]
     have h : zbj (zaO (O.take ((zai S).toNat + 1))) = some q := h; rw [hla] at h; generalize hm : (S.getD (xs.length - 1) 0).toNat = m at h a3; have hmO : m < O.length := by omega
     obtain ⟨rfl, hq⟩ := ze9 h; refine ⟨hq, ?_⟩
     have htd : O = O.take (m + 1) ++ O.drop (m + 1) := (List.take_append_drop _ _).symm
     have hOt : zaS (O.take (m + 1)) := fun k r hk => by
      rw [List.getElem?_take] at hk
      split at hk
      · exact hO k r hk
      · cases hk
     have hlt : (O.take (m + 1)).length = m + 1 := by rw [List.length_take]; omega
     have hWt : ∀ r, r < m + 1 -> W1 (O.take (m + 1)) r = W1 O r := fun r hr => by
      have := zdq (ys := O.drop (m + 1)) hOt (by rw [<- htd]; exact hO) r yO; rw [<- htd] at this; exact this.symm
     obtain ⟨lt, hlens⟩ := zhw hOt fun r hr => by rw [hWt r yO]; exact hmost r yO
     obtain ⟨_, _, h4, _⟩ := zdr hlens; rw [h4, za7 yO, za7 yO, hlt, Nat.add_sub_cancel, hWt m yO, a3]
theorem zkc {t : ByteArray} (hw : zay t = true) (h4 : t.size = 4) : ∀ s ∈ zft t, zay s = true /\ s.size = 1 := by
 intro s hs; refine ⟨(zdt hw h4).2 s hs, ?_⟩
 unfold zft Lib.charsB Lib.charsUpTo at hs; obtain ⟨k, hk, rfl⟩ := List.mem_map.1 hs; have hk4 : k < t.size := by rw [List.mem_range] at hk; exact hk
 rw [ByteArray.size_extract]; omega
def EwP (e : zap) (w u : List UInt8) : Prop :=
 if e.kind = 1 then u = zbD w 0 e.i ++ zau e.part ++ zbD w e.i w.length
 else if e.kind = 2 then u = zbD w 0 e.i ++ zbD w e.j w.length
 else if e.kind = 3 then u = zbD w 0 e.k ++ zbD w e.i e.j ++ zbD w e.k w.length
 else if e.kind = 4 then
  if e.k <= e.i then u = zbD w 0 e.k ++ zbD w e.i e.j ++ zbD w e.k e.i ++ zbD w e.j w.length
  else u = zbD w 0 e.i ++ zbD w e.j e.k ++ zbD w e.i e.j ++ zbD w e.k w.length
 else ∃ m, u = zbD w 0 e.i ++ m ++ zbD w e.j w.length /\ (e.kind = 5 -> m = (zbD w e.i e.j).reverse) /\ (e.kind = 6 -> m = zgX (zbD w e.i e.j) e.k.toNat) /\ (e.kind = 7 -> m.length = (zbD w e.i e.j).length)
theorem zpi {a b : List zaa} (ha : zaf a = true) (hb : zaf b = true) (h : zaf (za8 a b) = true) : zau (za8 a b) = zau a ++ zau b := by
 obtain ⟨_, la, h1⟩ := zag ha; obtain ⟨_, lb, h2⟩ := zag hb; have h3 := zhQ ha hb h; have h4 := (zaM (za8 a b))
 rw [zaq h1, zaq h2] at h3; exact zk3 h1 h2 (by unfold zdQ; omega)
def GwO (s : Option (List zaa)) (w : List UInt8) : Prop := ∀ o, s = some o -> zaf o = true /\ zau o = w
theorem GwO.add {s g : Option (List zaa)} {w u : List UInt8} (h : GwO s w) (h2 : GwO g u) : GwO (zbu s g) (w ++ u) := by
 intro o ho; obtain ⟨a, b, ha, hb, rfl, h4⟩ := zgE ho; obtain ⟨k1, k2⟩ := h a ha; obtain ⟨k3, k4⟩ := h2 b hb; exact ⟨h4, by rw [zpi k1 k3 h4, k2, k4]⟩
theorem GwO.nil : GwO (some []) [] := by
 intro o ho; cases ho; exact ⟨rfl, rfl⟩
theorem GwO.part {xs : List zaa} {ls : List Int} (h : zaX xs = some ls) {i j : Int} (hi : 0 <= i) (hij : i <= j) (hj : j <= zai ls) : GwO (zbj (zam xs ls i j)) (zbD (zau xs) i j) := by
 intro o ho; obtain ⟨rfl, hg⟩ := ze9 ho; obtain ⟨_, _, h2⟩ := zdv h hi hij hj; exact ⟨hg, h2⟩
theorem zb4 {xs : List zaa} {e : zap} (h : zah xs e = 0) : EwP e (zau xs) (zau (zaj xs e)) := by
 obtain ⟨h1, h2, h3⟩ := za2 h; obtain ⟨_, ls, hl⟩ := zag h1; have hlq : zdi xs = ls := by simp [zdi, hl]
 have hgl := zaq hl; have hwl := zaQ hl; obtain ⟨hk, hi, hj, hq, hij, hj0, hgp⟩ := zbh h2
 obtain ⟨o, ho⟩ : ∃ o, zaT xs ls (zai ls) e = some o := by
  cases hs : zaT xs ls (zai ls) e with
  | some o => exact ⟨o, rfl⟩
  | none =>
    exfalso
    unfold zah zco at h; rw [hlq, hs] at h; simp [h1, h2, h3, zgA] at h
 have hout : zaj xs e = zaO o := by
  unfold zaj zco; rw [hlq, ho]; simp [h1, h2, h3, zhM]
 have hfin : ∀ w, GwO (zaT xs ls (zai ls) e) w -> zau (zaj xs e) = w := by
  intro w hw; obtain ⟨g1, g2⟩ := hw o ho; obtain ⟨_, lo, hlo⟩ := zag g1; obtain ⟨_, _, h4, _⟩ := zdr hlo; rw [hout, h4, g2]
 rw [hgl] at h3; unfold zar at h3; unfold EwP; rw [hwl]; rcases zdl hk with k1 | k1 | k1 | k1 | k1 | k1 | k1
 · rw [if_pos k1]
   rw [if_pos k1] at h3; have h3 : e.i <= zai ls := by simpa using h3
   apply hfin
   unfold zaT; rw [if_pos k1]; have hp : GwO (some e.part) (zau e.part) := fun o ho => by cases ho; exact ⟨hgp, rfl⟩
   have := ((GwO.nil.add (GwO.part hl (Int.le_refl 0) hi.1 h3)).add hp).add (GwO.part hl hi.1 h3 (Int.le_refl _)); simpa using this
 · rw [if_neg yO, if_pos k1]
   rw [if_neg yO, if_neg yO, if_neg yO] at h3; have h3 : e.j <= zai ls := by simpa using h3
   have hij := hij yO; apply hfin
   unfold zaT; rw [if_neg yO, if_pos k1]; have := (GwO.nil.add (GwO.part hl (Int.le_refl 0) hi.1 (Int.le_trans hij h3))).add (GwO.part hl hj.1 h3 (Int.le_refl _)); simpa using this
 · rw [if_neg yO, if_neg yO, if_pos k1]
   rw [if_neg yO, if_pos k1] at h3; have h3 : e.j <= zai ls /\ e.k <= zai ls := by simpa using h3
   have hij := hij yO; apply hfin
   unfold zaT; rw [if_neg yO, if_neg yO, if_pos k1]; have := ((GwO.nil.add (GwO.part hl (Int.le_refl 0) hq.1 h3.2)).add (GwO.part hl hi.1 hij h3.1)).add (GwO.part hl hq.1 h3.2 (Int.le_refl _)); simpa using this
 · rw [if_neg yO, if_neg yO, if_neg yO, if_pos k1]
   rw [if_neg yO, if_neg yO, if_pos k1] at h3; have h3 : e.j <= zai ls /\ (e.k <= e.i \/ (e.j <= e.k /\ e.k <= zai ls)) := by simpa using h3
   have hij := hij yO; by_cases hki : e.k <= e.i
   · rw [if_pos hki]
     apply hfin
     unfold zaT; rw [if_neg yO, if_neg yO, if_neg yO, if_pos k1, if_pos hki]; have := (((GwO.nil.add (GwO.part hl (Int.le_refl 0) hq.1 yO)).add (GwO.part hl hi.1 hij h3.1)).add (GwO.part hl hq.1 hki yO)).add (GwO.part hl hj.1 h3.1 (Int.le_refl _)); simpa using this
   · rw [if_neg hki]
     obtain ⟨c1, c2⟩ : e.j <= e.k /\ e.k <= zai ls := by
      rcases h3.2 with hh | hh
      · exact absurd hh hki
      · exact hh
     apply hfin
     unfold zaT; rw [if_neg yO, if_neg yO, if_neg yO, if_pos k1, if_neg hki]; have := (((GwO.nil.add (GwO.part hl (Int.le_refl 0) hi.1 yO)).add (GwO.part hl hj.1 c1 c2)).add (GwO.part hl hi.1 hij h3.1)).add (GwO.part hl hq.1 c2 (Int.le_refl _)); simpa using this
 all_goals
  rw [if_neg yO, if_neg yO, if_neg yO, if_neg yO]; rw [if_neg yO, if_neg yO, if_neg yO] at h3; have h3 : e.j <= zai ls := by simpa using h3
  have hij := hij yO
  have hE : zaT xs ls (zai ls) e = zbu (zbu (zbu (some []) (zbj (zam xs ls 0 e.i))) ((zbj (zam xs ls e.i e.j)).bind (zc8 e))) (zbj (zam xs ls e.j (zai ls))) := by
   unfold zaT; rw [if_neg yO, if_neg yO, if_neg yO, if_neg yO]
  obtain ⟨q, hq1⟩ : ∃ q, (zbj (zam xs ls e.i e.j)).bind (zc8 e) = some q := by
   rw [hE] at ho; obtain ⟨a, b, ha, hb, _, _⟩ := zgE ho; obtain ⟨a', b', ha', hb', _, _⟩ := zgE ha; exact ⟨b', hb'⟩
  obtain ⟨p, hp1, hp2⟩ := Option.bind_eq_some_iff.1 hq1; obtain ⟨g1, g2⟩ := GwO.part hl hi.1 hij h3 p hp1
  have hgo : ∀ w, zaf q = true -> zau q = w -> zau (zaj xs e) = zbD (zau xs) 0 e.i ++ w ++ zbD (zau xs) e.j (zai ls) := by
   intro w hg hw; apply hfin
   rw [hE]
   have hqq : GwO ((zbj (zam xs ls e.i e.j)).bind (zc8 e)) w := fun o ho => by
    rw [hq1] at ho; cases ho; exact ⟨hg, hw⟩
   have := ((GwO.nil.add (GwO.part hl (Int.le_refl 0) hi.1 (Int.le_trans hij h3))).add hqq).add (GwO.part hl hj.1 h3 (Int.le_refl _)); simpa using this
  unfold zc8 at hp2
 · rw [if_pos k1] at hp2
   cases hp2
   obtain ⟨_, lp, hlp⟩ := zag g1; refine ⟨_, hgo _ (zdK g1) rfl, fun _ => ?_, fun hh => by omega, fun hh => by omega⟩
   rw [zk2 hlp, g2]
 · rw [if_neg yO, if_pos k1] at hp2
   obtain ⟨rfl, hgq⟩ := ze9 hp2; obtain ⟨_, lp, hlp⟩ := zag g1; obtain ⟨_, lq, hlq2⟩ := zag hgq; refine ⟨_, hgo _ hgq rfl, fun hh => by omega, fun _ => ?_, fun hh => by omega⟩
   rw [zix hlp hlq2, g2]
 · rw [if_neg yO, if_neg yO] at hp2
   have hm : e.map.size = 4 /\ zay e.map = true := by
    unfold zaA at h2; simp only [Bool.and_eq_true] at h2
    have := h2.2; rw [if_pos (by simp [k1]), Bool.and_eq_true] at this; exact ⟨by simpa using this.1, this.2⟩
   obtain ⟨c1, c2⟩ := znk (zkc hm.2 hm.1) (zdt hm.2 hm.1).1 g1 hp2; refine ⟨_, hgo _ c1 rfl, fun hh => by omega, fun hh => by omega, fun _ => ?_⟩
   rw [c2, g2]
theorem zk4 {x : ByteArray} (hw : zay x = true) (h1 : x.size = 1) : ∃ k, k < 4 /\ zcn x = [zcA (ltr k)] /\ x.data.getD 0 0 = ltr k := by
 obtain ⟨⟨l⟩⟩ := x; have hl : l.length = 1 := h1; obtain ⟨c, rfl⟩ := List.length_eq_one_iff.1 hl
 have hc : zb5 c = true := by
  unfold zay at hw; simp only [Bool.and_eq_true] at hw
  simpa using hw.2
 obtain ⟨k, hk, rfl⟩ := zgr hc; refine ⟨k, hk, ?_, rfl⟩
 have : k = 0 \/ k = 1 \/ k = 2 \/ k = 3 := by omega
 rcases this with rfl | rfl | rfl | rfl <;> decide
def znW (ws : List ByteArray) (c : UInt8) : UInt8 := (ws.getD (c.toNat - 97) ⟨#[]⟩).data.getD 0 0
structure zpj (ws : List ByteArray) (xs : List zaa) (k : Nat) (p : List zaa × List Int) : Prop where
 ok : zaS p.1
 l4 : p.2.length = 4
 at_ : ∀ i, i < k -> zgT xs i = true -> 0 <= p.2.getD i 0 /\ p.2.getD i 0 < p.1.length
 np : ∀ r, r < p.1.length -> (zav p.1 r).pair = false
 wd : ∀ i, i < k -> zgT xs i = true -> zav p.1 (p.2.getD i 0).toNat = zcA ((ws.getD i ⟨#[]⟩).data.getD 0 0)
theorem zoR (xs : List zaa) (ws : List ByteArray) (hw : ∀ s ∈ ws, zay s = true /\ s.size = 1) (hl : ws.length = 4) : ∀ k, k <= 4 -> zpj ws xs k (za9 xs ws k) := by
 intro k
 induction k with
 | zero => intro _; exact ⟨zgw, rfl, fun i hi => absurd hi yO, fun r hr => absurd hr (by simp [za9]), fun i hi => absurd hi yO⟩
 | succ k ih =>
   intro hk; have H := ih yO; rw [zds]; obtain ⟨O, S, hp⟩ : ∃ O S, za9 xs ws k = (O, S) := ⟨_, _, rfl⟩
   rw [hp] at H |-
   have hO : zaS O := H.ok; have hS : S.length = 4 := H.l4; have hat : ∀ i, i < k -> zgT xs i = true -> 0 <= S.getD i 0 /\ S.getD i 0 < (O.length : Int) := H.at_; have hnp : ∀ r, r < O.length -> (zav O r).pair = false := H.np; have hwd : ∀ i, i < k -> zgT xs i = true -> zav O (S.getD i 0).toNat = zcA ((ws.getD i ⟨#[]⟩).data.getD 0 0) := H.wd; obtain ⟨hwk, h1k⟩ := hw (ws.getD k ⟨#[]⟩) (by rw [yg, ye yO]; exact List.getElem_mem _); obtain ⟨c, hc, hpl, hxc⟩ := zk4 hwk h1k; unfold zbI; rw [hpl]; split
   · rename_i hcond
     have e1 : ([zcA (ltr c)].map (zaC O.length)) = [zcA (ltr c)] := by rw [List.map_singleton, zhl]
     refine ⟨?_, by simp [hS], ?_, ?_, ?_⟩
     · show zaS (O ++ [zcA (ltr c)].map (zaC O.length))
       exact zeI hO (by rw [<- hpl]; exact zcF hwk)
     · intro i hi hh
       show 0 <= (S.set k _).getD i 0 /\ (S.set k _).getD i 0 < ((O ++ [zcA (ltr c)].map (zaC O.length)).length : Int)
       rw [ze3 yO, e1, List.length_append, List.length_singleton]; by_cases hik : k = i
       · rw [if_pos hik]
         have e0 : ((O, S) : List zaa × List Int).fst.length = O.length := rfl; omega
       · rw [if_neg hik]
         have := hat i yO hh; omega
     · intro r hr
       show (zav (O ++ [zcA (ltr c)].map (zaC O.length)) r).pair = false
       rw [e1]
       have hr' : r < O.length + 1 := by
        have : r < (O ++ [zcA (ltr c)].map (zaC O.length)).length := hr; rw [e1, List.length_append, List.length_singleton] at this; exact this
       by_cases hro : r < O.length
       · rw [zbW hro]; exact hnp r hro
       · have : r = O.length := by omega
         subst this; rw [zcD]; exact zjD _
     · intro i hi hh
       show zav (O ++ [zcA (ltr c)].map (zaC O.length)) ((S.set k _).getD i 0).toNat = _
       rw [ze3 yO, e1]; by_cases hik : k = i
       · rw [if_pos hik, <- hik, hxc]
         show zav (O ++ [zcA (ltr c)]) (((O.length + 1 : Nat) : Int) - 1).toNat = _
         rw [show (((O.length + 1 : Nat) : Int) - 1).toNat = O.length by omega, zcD]
       · rw [if_neg hik, zbW (by have := hat i yO hh; omega)]
         exact hwd i yO hh
   · rename_i hcond
     refine ⟨hO, hS, ?_, hnp, ?_⟩
     · intro i hi hh
       by_cases hik : i < k
       · exact hat i hik hh
       · have : i = k := by omega
         subst this; exact absurd ⟨by omega, hh⟩ hcond
     · intro i hi hh
       by_cases hik : i < k
       · exact hwd i hik hh
       · have : i = k := by omega
         subst this; exact absurd ⟨by omega, hh⟩ hcond
structure zoS (ws : List ByteArray) (xs : List zaa) (k : Nat) (p : List zaa × List Int) : Prop where
 ok : zaS p.1
 ls : p.2.length = k
 at_ : ∀ i, i < k -> 0 <= p.2.getD i 0 /\ p.2.getD i 0 < p.1.length /\ W1 p.1 (p.2.getD i 0).toNat = (W1 xs i).map (znW ws)
 most : ∀ r, r < p.1.length -> ((W1 p.1 r).length : Int) <= zdQ
theorem zmd {xs : List zaa} {lsx : List Int} (ws : List ByteArray) (hw : ∀ s ∈ ws, zay s = true /\ s.size = 1) (hl : ws.length = 4) (hx : zaX xs = some lsx) : ∀ k, k <= xs.length -> zoS ws xs k (zbE xs ws k) := by
 have HB := zoR xs ws hw hl 4 yL; have hA := zaz hx; intro k
 induction k with
 | zero =>
   intro _; refine ⟨HB.ok, rfl, fun i hi => absurd hi yO, fun r hr => ?_⟩
   have := zfo HB.ok hr (HB.np r hr); show ((W1 (za9 xs ws 4).1 r).length : Int) <= zdQ
   rw [this]; decide
 | succ k ih =>
   intro hk; have H := ih yO; obtain ⟨r, hr⟩ : ∃ r, xs[k]? = some r := ⟨_, ye yO⟩
   have hor := hA k r hr; have hgr := zby hr
   have hpre : ∃ t, (zbE xs ws k).1 = (za9 xs ws 4).1 ++ t := by
    clear H hor; unfold zbE
    suffices G : ∀ (l : List zaa) (p : List zaa × List Int), ∃ t, (l.foldl (zaY (za9 xs ws 4).2) p).1 = p.1 ++ t by exact G (xs.take k) ((za9 xs ws 4).1, [])
    intro l
    induction l with
    | nil => intro p; exact ⟨[], by simp⟩
    | cons a l ih2 =>
      intro p; obtain ⟨t, ht⟩ := ih2 (zaY (za9 xs ws 4).2 p a)
      have : ∃ u, (zaY (za9 xs ws 4).2 p a).1 = p.1 ++ u := by
       unfold zaY; split
       · split
         · exact ⟨[], by simp⟩
         · split
           · exact ⟨[], by simp⟩
           · exact ⟨_, rfl⟩
       · exact ⟨[], by simp⟩
      obtain ⟨u, hu⟩ := this; exact ⟨u ++ t, by rw [List.foldl_cons, ht, hu, List.append_assoc]⟩
   rw [zcV hr]; obtain ⟨O, S, hp⟩ : ∃ O S, zbE xs ws k = (O, S) := ⟨_, _, rfl⟩
   rw [hp] at H hpre |-
   obtain ⟨t, hpre⟩ := hpre; have hO : zaS O := H.ok; have hS : S.length = k := H.ls; have hat : ∀ i, i < k -> 0 <= S.getD i 0 /\ S.getD i 0 < (O.length : Int) /\ W1 O (S.getD i 0).toNat = (W1 xs i).map (znW ws) := H.at_; have hmost : ∀ r, r < O.length -> ((W1 O r).length : Int) <= zdQ := H.most; have hpre : O = (za9 xs ws 4).1 ++ t := hpre; unfold zaY; cases hpr : r.pair with
   | true =>
     obtain ⟨q1, q2, q3, q4⟩ := zbk hor hpr; obtain ⟨a1, a2, a3⟩ := hat _ q2; obtain ⟨b1, b2, b3⟩ := hat _ q4; rw [if_pos rfl, if_neg (show ¬ S.getD r.left.toNat 0 < 0 by omega), if_neg (show ¬ S.getD r.right.toNat 0 < 0 by omega)]; have hO2 : zaS (O ++ [zaK (S.getD r.left.toNat 0) (S.getD r.right.toNat 0)]) := hO.snoc (zbV ⟨a1, a2⟩ ⟨b1, b2⟩)
     have hW2 : W1 (O ++ [zaK (S.getD r.left.toNat 0) (S.getD r.right.toNat 0)]) O.length = W1 O (S.getD r.left.toNat 0).toNat ++ W1 O (S.getD r.right.toNat 0).toNat := by
      have hg := zcD O (zaK (S.getD r.left.toNat 0) (S.getD r.right.toNat 0)); rw [zbM hO2 yS (by rw [hg]; rfl), hg]; show W1 _ (S.getD r.left.toNat 0).toNat ++ W1 _ (S.getD r.right.toNat 0).toNat = _
      rw [zdq hO hO2 _ yO, zdq hO hO2 _ yO]
     have hWx : W1 xs k = W1 xs r.left.toNat ++ W1 xs r.right.toNat := by
      have := zbM hA (r := k) yO (by rw [hgr]; exact hpr); rw [hgr] at this; exact this
     have hlen : W1 (O ++ [zaK (S.getD r.left.toNat 0) (S.getD r.right.toNat 0)]) O.length = (W1 xs k).map (znW ws) := by
      rw [hW2, hWx, List.map_append, a3, b3]
     refine ⟨hO2, by simp [hS], ?_, ?_⟩
     · intro i hi
       show 0 <= (S ++ [(O.length : Int)]).getD i 0 /\ (S ++ [(O.length : Int)]).getD i 0 < (((O ++ [zaK (S.getD r.left.toNat 0) (S.getD r.right.toNat 0)]).length : Nat) : Int) /\ _
       by_cases hik : i < k
       · have h0 : (S ++ [(O.length : Int)]).getD i 0 = S.getD i 0 := zbB yO
         obtain ⟨c1, c2, c3⟩ := hat i hik; show 0 <= (S ++ [(O.length : Int)]).getD i 0 /\ _ /\ W1 (O ++ [zaK (S.getD r.left.toNat 0) (S.getD r.right.toNat 0)]) ((S ++ [(O.length : Int)]).getD i 0).toNat = _
         rw [h0]; exact ⟨c1, by rw [List.length_append]; omega, by rw [zdq hO hO2 _ yO]; exact c3⟩
       · have hik2 : i = S.length := by omega
         subst hik2; show 0 <= (S ++ [(O.length : Int)]).getD S.length 0 /\ _ /\ W1 (O ++ [zaK (S.getD r.left.toNat 0) (S.getD r.right.toNat 0)]) ((S ++ [(O.length : Int)]).getD S.length 0).toNat = _
         rw [zcE, Int.toNat_natCast]; exact ⟨by omega, by rw [List.length_append, List.length_singleton]; omega, by rw [hlen, hS]⟩
     · intro y hy
       have hy' : y < O.length + 1 := by
        have : y < (O ++ [zaK (S.getD r.left.toNat 0) (S.getD r.right.toNat 0)]).length := hy; rw [List.length_append, List.length_singleton] at this; exact this
       show ((W1 (O ++ [zaK (S.getD r.left.toNat 0) (S.getD r.right.toNat 0)]) y).length : Int) <= zdQ
       by_cases hyo : y < O.length
       · rw [zdq hO hO2 _ hyo]; exact hmost y hyo
       · have : y = O.length := by omega
         subst this; rw [hlen, List.length_map]; exact zjl hx yO
   | false =>
     rw [if_neg yS]; obtain ⟨c, hc4, hrc, hidx⟩ := zmb hor hpr; rw [hidx]
     have hhas : zgT xs c = true := by
      unfold zgT; rw [List.contains_iff_mem, <- hrc]; exact List.mem_of_getElem? hr
     obtain ⟨d1, d2⟩ := HB.at_ c hc4 hhas; have hOl : (za9 xs ws 4).1.length <= O.length := by rw [hpre, List.length_append]; omega
     have hgO : zav O ((za9 xs ws 4).2.getD c 0).toNat = zav (za9 xs ws 4).1 ((za9 xs ws 4).2.getD c 0).toNat := by rw [hpre]; exact zbW yO
     have hnO : (zav O ((za9 xs ws 4).2.getD c 0).toNat).pair = false := by rw [hgO]; exact HB.np _ yO
     have h1 : W1 O ((za9 xs ws 4).2.getD c 0).toNat = [(ws.getD c ⟨#[]⟩).data.getD 0 0] := by
      rw [zcH hnO, hgO, HB.wd c hc4 hhas]; rfl
     have hx1 : W1 xs k = [ltr c] := by
      rw [zcH (by rw [hgr]; exact hpr), hgr, hrc]; rfl
     have hphi : znW ws (ltr c) = (ws.getD c ⟨#[]⟩).data.getD 0 0 := by
      unfold znW ltr; rw [show (UInt8.ofNat (97 + c)).toNat - 97 = c by simp; omega]
     refine ⟨hO, by simp [hS], ?_, hmost⟩
     intro i hi; show 0 <= (S ++ [(za9 xs ws 4).2.getD c 0]).getD i 0 /\ (S ++ [(za9 xs ws 4).2.getD c 0]).getD i 0 < (O.length : Int) /\ W1 O ((S ++ [(za9 xs ws 4).2.getD c 0]).getD i 0).toNat = _
     by_cases hik : i < k
     · rw [zbB yO]; exact hat i hik
     · have hik2 : i = S.length := by omega
       subst hik2; rw [zcE, hS, hx1]; exact ⟨d1, by omega, by rw [h1, List.map_singleton, hphi]⟩
theorem zme {xs q : List zaa} {ws : List ByteArray} (hw : ∀ s ∈ ws, zay s = true /\ s.size = 1) (hl : ws.length = 4) (hx : zaf xs = true) (h : zne xs ws = some q) : zaf q = true /\ zau q = (zau xs).map (znW ws) := by
 obtain ⟨_, lsx, hlx⟩ := zag hx; unfold zne at h; split at h
 · cases h
 · split at h
   · rename_i hc
     cases h
     refine ⟨rfl, ?_⟩
     by_cases h0 : xs.length = 0
     · have : xs = [] := yn h0
       rw [this]; rfl
     · exfalso
       have H := zmd ws hw hl hlx xs.length yL; have h1 := (H.at_ (xs.length - 1) yO).1
       have h2 : zai (zf5 xs ws).2 = (zf5 xs ws).2.getD (xs.length - 1) 0 := by
        unfold zai; rw [show (zf5 xs ws).2.length = xs.length from H.ls]
       have h3 : 0 <= (zf5 xs ws).2.getD (xs.length - 1) 0 := h1; omega
   · rename_i hc
     have h0 : xs.length ≠ 0 := fun e => hc (.inl e); have H := zmd ws hw hl hlx xs.length yL; obtain ⟨O, S, hp⟩ : ∃ O S, zf5 xs ws = (O, S) := ⟨_, _, rfl⟩
     have hp' : zbE xs ws xs.length = (O, S) := hp; rw [hp'] at H; have hO : zaS O := H.ok; have hS : S.length = xs.length := H.ls; have hmost : ∀ r, r < O.length -> ((W1 O r).length : Int) <= zdQ := H.most; obtain ⟨a1, a2, a3⟩ := H.at_ (xs.length - 1) yO; have a1 : 0 <= S.getD (xs.length - 1) 0 := a1; have a2 : S.getD (xs.length - 1) 0 < (O.length : Int) := a2; have a3 : W1 O (S.getD (xs.length - 1) 0).toNat = (W1 xs (xs.length - 1)).map (znW ws) := a3; rw [hp] at h; have hla : zai S = S.getD (xs.length - 1) 0 := by unfold zai; rw [hS]
     have h : zbj (zaO (O.take ((zai S).toNat + 1))) = some q := h; rw [hla] at h; generalize hm : (S.getD (xs.length - 1) 0).toNat = m at h a3; have hmO : m < O.length := by omega
     obtain ⟨rfl, hq⟩ := ze9 h; refine ⟨hq, ?_⟩
     have htd : O = O.take (m + 1) ++ O.drop (m + 1) := (List.take_append_drop _ _).symm
     have hOt : zaS (O.take (m + 1)) := fun k r hk => by
      rw [List.getElem?_take] at hk
      split at hk
      · exact hO k r hk
      · cases hk
     have hlt : (O.take (m + 1)).length = m + 1 := by rw [List.length_take]; omega
     have hWt : ∀ r, r < m + 1 -> W1 (O.take (m + 1)) r = W1 O r := fun r hr => by
      have := zdq (ys := O.drop (m + 1)) hOt (by rw [<- htd]; exact hO) r yO; rw [<- htd] at this; exact this.symm
     obtain ⟨lt, hlens⟩ := zhw hOt fun r hr => by rw [hWt r yO]; exact hmost r yO
     obtain ⟨_, _, h4, _⟩ := zdr hlens; rw [h4, za7 yO, za7 yO, hlt, Nat.add_sub_cancel, hWt m yO, a3]
end Go.Proofs.YtdacndamehiglaaGreatDoor
