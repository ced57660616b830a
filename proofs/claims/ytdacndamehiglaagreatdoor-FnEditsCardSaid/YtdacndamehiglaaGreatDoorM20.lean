import Derived.Test.YtdacndamehiglaaGreatDoorM19
import Derived.Lib.Builder
import Derived.Laws.Bits64b
set_option maxRecDepth 100000
set_option maxHeartbeats 8000000
namespace Go.Proofs.YtdacndamehiglaaGreatDoor
open Go.RowKit
theorem ziS (v : Value) (xs : List zap) (F : FuncId) (cap : Array Value) (p : zap -> Bool) (w : World) (h : Sl zfv w w.heap.size v xs)
  (eg : ∀ args w, (callFunc F args).run Tryz.prog w = .ok (.enter F args) w) (hf : ∀ (W : World) x vR, Below w.heap.size w W -> x ∈ xs -> Sl zas W W.heap.size vR x.part -> Calls Tryz.prog F (#[.agg #[.int .i64 x.kind, .int .i64 x.i, .int .i64 x.j, .int .i64 x.k, vR, .string x.map]] ++ cap) W fun e w' => e = .returned (.bool (p x)) /\ Below W.heap.size W w') :
  Calls Tryz.prog 153 #[v, .func (.func F) #[] cap] w fun e w' => e = .returned (.int .i64 (zgd p xs)) /\ Below w.heap.size w w' := by
 obtain ⟨A, c, rfl, hc, hm, hrow⟩ := h; unfold maxLen at hm; have Hf := yq hf; clear hf; go_enter Tryz.func153, Tryz.ntmps153
 go_wp2_with fail
 go_loopw [8] (fun i wr => ∃ k : Nat, k <= xs.length /\ i = .int .i64 k /\ Below w.heap.size w wr /\ ∀ (j : Nat) y, j < k -> xs[j]? = some y -> p y = false) (fun i _ => xs.length - (intOf i).toNat)
 case atStart => exact ⟨0, Nat.zero_le _, rfl, Below.refl _ _, fun j y hj => absurd hj yO⟩
 case round =>
  obtain ⟨k, hk, rfl, hb, hno⟩ := hrel; have Hno := yq hno; clear hno; by_cases hlt : k < xs.length
  · obtain ⟨b, o, rfl, hbl, hcell⟩ := hrow.edit (fun _ h => h) hlt
    obtain ⟨x, hx⟩ : ∃ x, xs[k]? = some x := ⟨_, ye hlt⟩
    obtain ⟨vR, hec, hR⟩ := hcell k x hx; have hec2 := hec.up hb; have HR2 := yq (hR.up hb); obtain ⟨c0, c1, c2, c3, c4, c5, cl⟩ := hec2; have hi : (k : Int) < (xs.length : Int) := by omega
    have Hx := yq hx; clear hcell hx hec hR; go_wp2_with fail
    refine (Hf.o _ x _ hb (List.mem_of_getElem? Hx.o) HR2.o).mono ?_
    rintro e w2 ⟨rfl, hb2⟩; by_cases hp : p x = true
    · have Hp := yq hp
      go_wp2
      go_ret
      exact ⟨zbz (by rw [zg8 Hno.o Hx.o Hp.o]), hb.trans (hb2.mono hb.size)⟩
    · have hp2 : p x = false := by simpa using hp
      have Hp := yq hp2; clear hp; go_wp2
      go_roundw
      case rel =>
       refine ⟨k + 1, by omega, by go_num, hb.trans (hb2.mono hb.size), fun j y hj hy => ?_⟩
       by_cases e : j = k
       · subst e
         have := Hx.o; rw [hy] at this; injection this with this; rw [this]; exact Hp.o
       · exact Hno.o j y yO hy
      case measure => simp [intOf]; omega
  · go_wp2
    go_ret
    exact ⟨zbz (by
     rw [zg7]; intro x hx; obtain ⟨j, hj, rfl⟩ := List.getElem_of_mem hx
     exact Hno.o j _ yO (ye hj)), hb⟩
theorem zgI (v : Value) (xs : List zap) (F : FuncId) (cap : Array Value) (p : zap -> Bool) (w : World) (h : Sl zfv w w.heap.size v xs)
  (eg : ∀ args w, (callFunc F args).run Tryz.prog w = .ok (.enter F args) w) (hf : ∀ (W : World) x vR, Below w.heap.size w W -> x ∈ xs -> Sl zas W W.heap.size vR x.part -> Calls Tryz.prog F (#[.agg #[.int .i64 x.kind, .int .i64 x.i, .int .i64 x.j, .int .i64 x.k, vR, .string x.map]] ++ cap) W fun e w' => e = .returned (.bool (p x)) /\ Below W.heap.size W w') :
  Calls Tryz.prog 117 #[v, .func (.func F) #[] cap] w fun e w' => e = .returned (.bool (xs.any p)) /\ Below w.heap.size w w' := by
 have H := yq (ziS v xs F cap p w h eg hf); clear hf eg; obtain ⟨A, c, rfl, _⟩ := h; go_enter Tryz.func117, Tryz.ntmps117
 go_wp2_with fail
 refine H.o.mono ?_
 rintro e w2 ⟨rfl, hb2⟩; go_wp2
 go_ret
 exact ⟨zak (zh8 p xs), hb2⟩
theorem zjG (e : zap) (vR : Value) (w : World) (hR : Sl zas w w.heap.size vR e.part) (hn : e.part.length <= 1048576) (hm : e.map.size <= maxLen) : Calls Tryz.prog 118 #[.agg #[.int .i64 e.kind, .int .i64 e.i, .int .i64 e.j, .int .i64 e.k, vR, .string e.map]] w fun r w' => r = .returned (.bool (!zaA e)) /\ Below w.heap.size w w' := by
 have HR := yq hR; obtain ⟨AR, cR, rfl, _⟩ := hR; go_enter Tryz.func118, Tryz.ntmps118
 go_wp2_with fail
 refine (zbY _ e _ ⟨_, rfl, HR.o.up yb⟩ yO hm).mono ?_
 rintro r w1 ⟨rfl, hb1⟩; go_wp2
 go_ret
 exact ⟨rfl, (Below.unalloc hb1).1⟩
theorem zjH (l : List zap) : (!l.any fun e => !zaA e) = l.all zaA := by
 induction l with
 | nil => rfl
 | cons x xs ih => simp only [List.any_cons, List.all_cons, Bool.not_or, Bool.not_not, ih]
theorem ziT (v : Value) (es : List zap) (w : World) (h : Sl zfv w w.heap.size v es) (hs : ∀ e ∈ es, e.part.length <= 1048576 /\ e.map.size <= maxLen) :
  Calls Tryz.prog 60 #[v] w fun r w' => r = .returned (.bool (es.all zaA)) /\ Below w.heap.size w w' := by
 have H := yq (zgI v es 118 #[] (fun e => !zaA e) w h (enters_of Tryz.func118 yk rfl) (fun W x vR _ hx hR => zjG x vR W hR (hs x hx).1 (hs x hx).2)); obtain ⟨A, c, rfl, _⟩ := h; go_enter Tryz.func60, Tryz.ntmps60
 go_wp2_with fail
 refine H.o.mono ?_
 rintro r w1 ⟨rfl, hb1⟩; go_wp2
 go_ret
 refine ⟨zak ?_, hb1⟩
 exact zjH es
def zbQ (p : List zaa × Int) (e : zap) : List zaa × Int := if zah p.1 e = 0 then (zaj p.1 e, p.2 + 1) else p
def zcY (xs : List zaa) (es : List zap) : List zaa × Int := es.foldl zbQ (xs, 0)
def zbS (xs : List zaa) (es : List zap) : Int := if zaf xs && es.all zaA then (if 60 < es.length then 2 else 0) else 1
def zcZ (xs : List zaa) (es : List zap) : List zaa := if zbS xs es = 0 then (zcY xs es).1 else []
def zmk (xs : List zaa) (es : List zap) : Int := if zbS xs es = 0 then (zcY xs es).2 else 0
theorem znr {p : List zaa × Int} {e : zap} (h : zaf p.1 = true) : zaf (zbQ p e).1 = true := by
 unfold zbQ; split
 · exact zcv _ _
 · exact h
theorem zk9 {xs : List zaa} {es : List zap} {k : Nat} {e : zap} (h : es[k]? = some e) : zcY xs (es.take (k + 1)) = zbQ (zcY xs (es.take k)) e := by
 unfold zcY; rw [List.take_add_one, h]; simp
theorem zkj {xs : List zaa} (es : List zap) (h : zaf xs = true) : zaf (zcY xs es).1 = true := by
 unfold zcY
 suffices H : ∀ (l : List zap) (p : List zaa × Int), zaf p.1 = true -> zaf (l.foldl zbQ p).1 = true from H es _ h
 intro l
 induction l with
 | nil => intro p h; exact h
 | cons x xs ih => intro p h; exact ih _ (znr h)
theorem zml (xs : List zaa) (es : List zap) : 0 <= (zcY xs es).2 /\ (zcY xs es).2 <= es.length := by
 unfold zcY
 suffices H : ∀ (l : List zap) (p : List zaa × Int), p.2 <= (l.foldl zbQ p).2 /\ (l.foldl zbQ p).2 <= p.2 + l.length by simpa using H es (xs, 0)
 intro l
 induction l with
 | nil => intro p; simp
 | cons x xs ih =>
   intro p; have h1 := ih (zbQ p x); have h2 : p.2 <= (zbQ p x).2 /\ (zbQ p x).2 <= p.2 + 1 := by unfold zbQ; split <;> simp <;> omega
   rw [List.foldl_cons, List.length_cons]; omega
def zpv (out : List zaa) (n c : Int) (w : World) (r : Ending) (w' : World) : Prop :=
 Below w.heap.size w w' /\ ∃ v, zab w' w.heap.size v out /\ r = .returned (.tuple #[.agg #[v], .int .i64 n, .int .i64 c])
theorem zns (l : List zap) : ∀ (h : List zaa) (m : Int), (l.foldl zbQ (h, m)).2 <= m + l.length := by
 induction l with
 | nil => intro h m; simp
 | cons e l ih =>
   intro h m; rw [List.foldl_cons, List.length_cons]; by_cases hc : zah h e = 0
   · rw [show zbQ (h, m) e = (zaj h e, m + 1) by unfold zbQ; rw [if_pos hc]]
     have := ih (zaj h e) (m + 1); omega
   · rw [show zbQ (h, m) e = (h, m) by unfold zbQ; rw [if_neg hc]]
     have := ih h m; omega
theorem zbX {e : zap} {l : List zap} {h : List zaa} {m : Int} (hc : ((e :: l).foldl zbQ (h, m)).2 = m + ((e :: l).length : Nat)) :
  zah h e = 0 /\ (e :: l).foldl zbQ (h, m) = l.foldl zbQ (zaj h e, m + 1) /\ (l.foldl zbQ (zaj h e, m + 1)).2 = (m + 1) + l.length := by
 rw [List.foldl_cons] at hc |-
 by_cases h1 : zah h e = 0
 · have hs : zbQ (h, m) e = (zaj h e, m + 1) := by unfold zbQ; rw [if_pos h1]
   rw [hs] at hc |-
   refine ⟨h1, rfl, ?_⟩
   rw [hc, List.length_cons]; omega
 · exfalso
   have hs : zbQ (h, m) e = (h, m) := by unfold zbQ; rw [if_neg h1]
   rw [hs, List.length_cons] at hc; have := zns l h m; omega
theorem znt (n : Nat) : zgX [] n = [] := by unfold zgX; simp
theorem zfb {h : List zaa} {i j : Int} {A M B : List UInt8} (ha : zah h (zeP i j) = 0) (hw : zau h = A ++ (M ++ B)) (hi : i = A.length) (hj : j = A.length + M.length) : zau (zaj h (zeP i j)) = A ++ B := by
 have he := zb4 ha; unfold EwP zeP at he; dsimp only at he
 rw [if_neg (by decide), if_pos rfl, hw] at he; unfold zeP; rw [he, zcX hi]
 have : zbD (A ++ (M ++ B)) j ((A ++ (M ++ B)).length : Nat) = B := by
  have := zcl (A := A ++ M) (B := B) (i := j) (j := ((A ++ (M ++ B)).length : Nat)) (by rw [hj, List.length_append]; omega) (by simp only [List.length_append]; omega); rwa [List.append_assoc] at this
 rw [this]
theorem zgb {h p : List zaa} {i : Int} {A B : List UInt8} (ha : zah h (zf8 i p) = 0) (hw : zau h = A ++ B) (hi : i = A.length) : zau (zaj h (zf8 i p)) = A ++ (zau p ++ B) := by
 have he := zb4 ha; unfold EwP zf8 at he; dsimp only at he
 rw [if_pos rfl, hw] at he; unfold zf8; rw [he, zcX hi, zcl hi yS, List.append_assoc]
theorem znu {xs h : List zaa} {e : zap} {bs : List zap} {m : Int} (ha : zah xs e = 0) (hb : zfy xs (zdi xs) e = some bs) (hh : zau h = zau (zaj xs e)) (hc : (bs.foldl zbQ (h, m)).2 = m + (bs.length : Nat)) :
  zau (bs.foldl zbQ (h, m)).1 = zau xs := by
 have hE := zb4 ha; obtain ⟨h1, h2, h3⟩ := za2 ha; obtain ⟨_, ls, hl⟩ := zag h1; have hlq : zdi xs = ls := by simp [zdi, hl]
 have hgl := zaq hl; have hwl := zaQ hl; obtain ⟨hk, hi, hj, hq, hij, hj0, hgp⟩ := zbh h2; rw [<- hh] at hE; rw [hlq] at hb; rw [hgl] at h3; unfold zar at h3; unfold EwP at hE; unfold zfy at hb; obtain ⟨_, lp, hlp⟩ := zag hgp; have hpl : zao e.part = (zau e.part).length := by rw [zaq hlp, zaQ hlp]
 generalize hW : zau xs = W at hE hwl
 have hpw : ∀ {i j : Int}, 0 <= i -> i <= j -> j <= zai ls -> zau (zam xs ls i j) = zbD W i j := fun a b c => by
  obtain ⟨_, _, q⟩ := zdv hl a b c; rw [q, hW]
 rcases zdl hk with k1 | k1 | k1 | k1 | k1 | k1 | k1
 · rw [if_pos k1] at h3 hE hb
   have h3 : e.i <= zai ls := by simpa using h3
   cases hb
   obtain ⟨A, B, rfl, hA⟩ := ziG W hi.1 yO; rw [zcX hA.symm, zcl hA.symm yS] at hE; obtain ⟨c1, c2, c3⟩ := zbX hc; rw [c2]; exact zfb (A := A) (M := zau e.part) (B := B) c1 (by rw [hE, List.append_assoc]) hA.symm yO
 · rw [if_neg yO, if_pos k1] at hE
   rw [if_neg yO, if_neg yO, if_neg yO] at h3; have h3 : e.j <= zai ls := by simpa using h3
   have hij := hij yO; have hp := hpw hi.1 hij h3; obtain ⟨A, M, B, rfl, hA, hM⟩ := zl9 W hi.1 hij yO; rw [zcX hA.symm] at hE; rw [zdx hA.symm yO] at hp
   have hB : zbD (A ++ (M ++ B)) e.j ((A ++ (M ++ B)).length : Nat) = B := by
    have := zcl (A := A ++ M) (B := B) (i := e.j) (j := ((A ++ (M ++ B)).length : Nat)) (by rw [List.length_append]; omega) (by simp only [List.length_append]; omega); rwa [List.append_assoc] at this
   rw [hB] at hE; rw [if_neg yO] at hb; by_cases h0 : e.j - e.i = 0
   · rw [if_pos h0] at hb
     cases hb
     have : M = [] := yn yO; subst this; simpa using hE
   · rw [if_neg h0, if_neg yO, if_neg yO, if_neg yO] at hb
     split at hb
     · cases hb
       unfold zgY at hc |-
       rw [if_pos k1, List.nil_append] at hc |-
       obtain ⟨c1, c2, c3⟩ := zbX hc; rw [c2]; show zau (zaj h (zf8 e.i (zam xs ls e.i e.j))) = _
       rw [zgb (A := A) (B := B) c1 hE hA.symm, hp]
     · cases hb
 · rw [if_neg yO, if_neg yO, if_pos k1] at hE
   rw [if_neg yO, if_pos k1] at h3; have h3 : e.j <= zai ls /\ e.k <= zai ls := by simpa using h3
   have hij := hij yO; rw [if_neg yO] at hb; obtain ⟨M, hM⟩ : ∃ M, zbD W e.i e.j = M := ⟨_, rfl⟩
   have hMl : (M.length : Int) = e.j - e.i := by rw [<- hM]; exact zcz hi.1 hij yO
   rw [hM] at hE; obtain ⟨A, B, rfl, hA⟩ := ziG W hq.1 yO; rw [zcX hA.symm, zcl hA.symm yS] at hE; by_cases h0 : e.j - e.i = 0
   · rw [if_pos h0] at hb
     cases hb
     have : M = [] := yn yO; subst this; simpa using hE
   · rw [if_neg h0, if_pos k1] at hb
     cases hb
     obtain ⟨c1, c2, c3⟩ := zbX hc; rw [c2]; exact zfb (A := A) (M := M) (B := B) c1 (by rw [hE, List.append_assoc]) hA.symm yO
 · rw [if_neg yO, if_neg yO, if_neg yO, if_pos k1] at hE
   rw [if_neg yO, if_neg yO, if_pos k1] at h3; have h3 : e.j <= zai ls /\ (e.k <= e.i \/ (e.j <= e.k /\ e.k <= zai ls)) := by simpa using h3
   have hij := hij yO; rw [if_neg yO] at hb; by_cases hki : e.k <= e.i
   · rw [if_pos hki] at hE
     obtain ⟨P, Q, M, B, rfl, hP, hQ, hM⟩ := znV W hq.1 hki hij yO; have hlen : ((P ++ (Q ++ (M ++ B))).length : Int) = P.length + Q.length + M.length + B.length := by simp only [List.length_append]; omega
     have e1 : zbD (P ++ (Q ++ (M ++ B))) e.i e.j = M := by
      have := zdx (A := P ++ Q) (M := M) (B := B) (i := e.i) (j := e.j) (by rw [List.length_append]; omega) (by rw [List.length_append]; omega); rwa [List.append_assoc] at this
     have e2 : zbD (P ++ (Q ++ (M ++ B))) e.k e.i = Q := zdx hP.symm yO
     have e3 : zbD (P ++ (Q ++ (M ++ B))) e.j ((P ++ (Q ++ (M ++ B))).length : Nat) = B := by
      have := zcl (A := P ++ (Q ++ M)) (B := B) (i := e.j) (j := ((P ++ (Q ++ (M ++ B))).length : Nat)) (by simp only [List.length_append]; omega) (by simp only [List.length_append]; omega); simpa only [List.append_assoc] using this
     rw [zcX hP.symm, e1, e2, e3] at hE; by_cases h0 : e.j - e.i = 0
     · rw [if_pos h0] at hb
       cases hb
       have : M = [] := yn yO; subst this; show zau h = _
       simpa using hE
     · rw [if_neg h0, if_neg yO, if_pos k1, if_pos hki] at hb
       cases hb
       obtain ⟨c1, c2, c3⟩ := zbX hc; rw [c2]; have he := zb4 c1; unfold EwP zgQ at he; dsimp only at he
       have hE' : zau h = P ++ (M ++ (Q ++ B)) := by rw [hE]; simp only [List.append_assoc]
       rw [if_neg yO, if_neg yO, if_neg yO, if_pos rfl, if_neg yO, hE'] at he; show zau (zaj h (zgQ e.k (e.k + (e.j - e.i)) e.j)) = _
       unfold zgQ; rw [he, zcX hP.symm]
       have f1 : zbD (P ++ (M ++ (Q ++ B))) (e.k + (e.j - e.i)) e.j = Q := by
        have := zdx (A := P ++ M) (M := Q) (B := B) (i := e.k + (e.j - e.i)) (j := e.j) (by rw [List.length_append]; omega) (by rw [List.length_append]; omega); rwa [List.append_assoc] at this
       have f2 : zbD (P ++ (M ++ (Q ++ B))) e.k (e.k + (e.j - e.i)) = M := zdx hP.symm yO
       have f3 : zbD (P ++ (M ++ (Q ++ B))) e.j ((P ++ (M ++ (Q ++ B))).length : Nat) = B := by
        have := zcl (A := P ++ (M ++ Q)) (B := B) (i := e.j) (j := ((P ++ (M ++ (Q ++ B))).length : Nat)) (by simp only [List.length_append]; omega) (by simp only [List.length_append]; omega); simpa only [List.append_assoc] using this
       rw [f1, f2, f3]; simp only [List.append_assoc]
   · rw [if_neg hki] at hE
     obtain ⟨d1, d2⟩ : e.j <= e.k /\ e.k <= zai ls := by
      rcases h3.2 with hh | hh
      · exact absurd hh hki
      · exact hh
     obtain ⟨A, M, Q, B, rfl, hA, hM, hQ⟩ := znV W hi.1 hij d1 yO
     have e1 : zbD (A ++ (M ++ (Q ++ B))) e.j e.k = Q := by
      have := zdx (A := A ++ M) (M := Q) (B := B) (i := e.j) (j := e.k) (by rw [List.length_append]; omega) (by rw [List.length_append]; omega); rwa [List.append_assoc] at this
     have e2 : zbD (A ++ (M ++ (Q ++ B))) e.i e.j = M := zdx hA.symm yO
     have e3 : zbD (A ++ (M ++ (Q ++ B))) e.k ((A ++ (M ++ (Q ++ B))).length : Nat) = B := by
      have := zcl (A := A ++ (M ++ Q)) (B := B) (i := e.k) (j := ((A ++ (M ++ (Q ++ B))).length : Nat)) (by simp only [List.length_append]; omega) (by simp only [List.length_append]; omega); simpa only [List.append_assoc] using this
     rw [zcX hA.symm, e1, e2, e3] at hE; by_cases h0 : e.j - e.i = 0
     · rw [if_pos h0] at hb
       cases hb
       have : M = [] := yn yO; subst this; show zau h = _
       simpa using hE
     · rw [if_neg h0, if_neg yO, if_pos k1, if_neg hki] at hb
       cases hb
       obtain ⟨c1, c2, c3⟩ := zbX hc; rw [c2]; have he := zb4 c1; unfold EwP zgQ at he; dsimp only at he
       have hE' : zau h = A ++ (Q ++ (M ++ B)) := by rw [hE]; simp only [List.append_assoc]
       rw [if_neg yO, if_neg yO, if_neg yO, if_pos rfl, if_pos yO, hE'] at he; show zau (zaj h (zgQ (e.k - (e.j - e.i)) e.k e.i)) = _
       unfold zgQ; rw [he, zcX hA.symm]
       have f1 : zbD (A ++ (Q ++ (M ++ B))) (e.k - (e.j - e.i)) e.k = M := by
        have := zdx (A := A ++ Q) (M := M) (B := B) (i := e.k - (e.j - e.i)) (j := e.k) (by rw [List.length_append]; omega) (by rw [List.length_append]; omega); rwa [List.append_assoc] at this
       have f2 : zbD (A ++ (Q ++ (M ++ B))) e.i (e.k - (e.j - e.i)) = Q := zdx hA.symm yO
       have f3 : zbD (A ++ (Q ++ (M ++ B))) e.k ((A ++ (Q ++ (M ++ B))).length : Nat) = B := by
        have := zcl (A := A ++ (Q ++ M)) (B := B) (i := e.k) (j := ((A ++ (Q ++ (M ++ B))).length : Nat)) (by simp only [List.length_append]; omega) (by simp only [List.length_append]; omega); simpa only [List.append_assoc] using this
       rw [f1, f2, f3]; simp only [List.append_assoc]
 all_goals
  rw [if_neg yO, if_neg yO, if_neg yO, if_neg yO] at hE; rw [if_neg yO, if_neg yO, if_neg yO] at h3; have h3 : e.j <= zai ls := by simpa using h3
  have hij := hij yO; have hp := hpw hi.1 hij h3; obtain ⟨M', hE, t5, t6, t7⟩ := hE; obtain ⟨A, M, B, rfl, hA, hM⟩ := zl9 W hi.1 hij yO; rw [zdx hA.symm yO] at hp t5 t6 t7
  have hB : zbD (A ++ (M ++ B)) e.j ((A ++ (M ++ B)).length : Nat) = B := by
   have := zcl (A := A ++ M) (B := B) (i := e.j) (j := ((A ++ (M ++ B)).length : Nat)) (by rw [List.length_append]; omega) (by simp only [List.length_append]; omega); rwa [List.append_assoc] at this
  rw [zcX hA.symm, hB] at hE; have hE' : zau h = A ++ (M' ++ B) := by rw [hE, List.append_assoc]
  clear hE hB hpw; rw [if_neg yO] at hb
 · have t5 := t5 k1
   subst t5; by_cases h0 : e.j - e.i = 0
   · rw [if_pos h0] at hb
     cases hb
     have : M = [] := yn yO; subst this; simpa using hE'
   · rw [if_neg h0, if_neg yO, if_neg yO, if_pos k1] at hb
     cases hb
     obtain ⟨c1, c2, c3⟩ := zbX hc; rw [c2]; have he := zb4 c1; unfold EwP zhP at he; dsimp only at he
     rw [if_neg yO, if_neg yO, if_neg yO, if_neg yO, hE'] at he; obtain ⟨M2, he, u5, _, _⟩ := he; have u5 := u5 rfl; rw [zdx hA.symm (by rw [List.length_reverse]; omega), List.reverse_reverse] at u5; subst u5; show zau (zaj h (zhP e.i e.j)) = _
     unfold zhP
     have hB2 : zbD (A ++ (M2.reverse ++ B)) e.j ((A ++ (M2.reverse ++ B)).length : Nat) = B := by
      have := zcl (A := A ++ M2.reverse) (B := B) (i := e.j) (j := ((A ++ (M2.reverse ++ B)).length : Nat)) (by rw [List.length_append, List.length_reverse]; omega) (by simp only [List.length_append]; omega); rwa [List.append_assoc] at this
     rw [he, zcX hA.symm, hB2, List.append_assoc]
 · have t6 := t6 k1
   subst t6; by_cases h0 : e.j - e.i = 0
   · rw [if_pos h0] at hb
     cases hb
     have : M = [] := yn yO; subst this; rw [znt] at hE'; exact hE'
   · rw [if_neg h0, if_neg yO, if_neg yO, if_neg yO] at hb
     split at hb
     · cases hb
       unfold zgY at hc |-
       rw [if_neg yO, if_pos k1] at hc |-
       have hrl : ((zgX M e.k.toNat).length : Int) = (e.j - e.i) * e.k := by
        rw [ze7, Int.natCast_mul, hM, Int.mul_comm]; congr 1
        omega
       by_cases hz : 0 < (e.j - e.i) * e.k
       · rw [if_pos hz, List.singleton_append] at hc |-
         obtain ⟨c1, c2, c3⟩ := zbX hc; obtain ⟨g1, g2, g3⟩ := zbX c3; rw [c2, g2]; have hd := zfb (A := A) (M := zgX M e.k.toNat) (B := B) c1 hE' hA.symm yO; show zau (zaj (zaj h (zeP e.i (e.i + (e.j - e.i) * e.k))) (zf8 e.i (zam xs ls e.i e.j))) = _
         rw [zgb (A := A) (B := B) g1 hd hA.symm, hp]
       · rw [if_neg hz, List.nil_append] at hc |-
         have hnil : zgX M e.k.toNat = [] := yn yO; rw [hnil, List.nil_append] at hE'; obtain ⟨c1, c2, c3⟩ := zbX hc; rw [c2]; show zau (zaj h (zf8 e.i (zam xs ls e.i e.j))) = _
         rw [zgb (A := A) (B := B) c1 hE' hA.symm, hp]
     · cases hb
 · have t7 := t7 k1
   by_cases h0 : e.j - e.i = 0
   · rw [if_pos h0] at hb
     cases hb
     have : M = [] := yn yO; subst this; have : M' = [] := yn (by rw [t7]; rfl); subst this; exact hE'
   · rw [if_neg h0, if_neg yO, if_neg yO, if_neg yO] at hb
     split at hb
     · cases hb
       unfold zgY at hc |-
       rw [if_neg yO, if_neg yO, List.singleton_append] at hc |-
       obtain ⟨c1, c2, c3⟩ := zbX hc; obtain ⟨g1, g2, g3⟩ := zbX c3; rw [c2, g2]; have hd := zfb (A := A) (M := M') (B := B) c1 hE' hA.symm yO; show zau (zaj (zaj h (zeP e.i e.j)) (zf8 e.i (zam xs ls e.i e.j))) = _
       rw [zgb (A := A) (B := B) g1 hd hA.symm, hp]
     · cases hb
-- GEN
theorem zoj {i : Int} {p : List zaa} (hi : 0 <= i /\ i <= 1000000000000000) (hp : 0 < p.length) (hg : zaf p = true) : zaA (zf8 i p) = true := by
 simp [zaA, zf8, inR, za3, zcd, zcm, hi, hp, hg]
 rfl
theorem zok {i j : Int} (hi : 0 <= i /\ i <= j /\ j <= 1000000000000000) : zaA (zeP i j) = true := by
 have h : ¬ j < i := by omega
 have h1 : i <= 1000000000000000 := by omega
 have h2 : 0 <= j := by omega
 simp [zaA, zeP, inR, za3, zcd, zcm, hi, h1, h2, zkG]
 exact ⟨decide_eq_false h, rfl⟩
theorem znv {i n : Int} {p : List zaa} (h : i <= n) : zar (zf8 i p) n = true := by simp [zar, zf8, h]
theorem znw {i j n : Int} (h : j <= n) : zar (zeP i j) n = true := by simp [zar, zeP, h]
def zfB : Enc UInt8 where
 size := 1
 pos := by decide
 cells := fun _ _ x cs => cs = [.int .u8 (x.toNat : Int)]
 len := by rintro _ _ _ _ rfl; rfl
 keep := fun h _ => h
 more := fun h _ => h
 one := by rintro _ _ _ _ rfl; simp [Value.oneCell']
def Src (w : World) (b N : Nat) : Prop :=
 ∃ (AC : Option Addr) (l : List UInt8) (cC a d : Nat), w.heap[b]? = some (.cells #[.slice AC l.length cC, .int .i64 (a : Int), .int .u64 (d : Int)] 115 (0, 0)) /\ a <= N /\ d < 18446744073709551616 /\ Sl zfB w b (.slice AC l.length cC) l
theorem Src.lt {w : World} {b N : Nat} (h : Src w b N) : b < w.heap.size := by
 obtain ⟨AC, l, cC, a, d, h, _⟩ := h; exact (Array.getElem?_eq_some_iff.1 h).1
theorem Src.more {w : World} {b N M : Nat} (h : Src w b N) (hM : N <= M) : Src w b M := by
 obtain ⟨AC, l, cC, a, d, h, h1, h2⟩ := h; exact ⟨AC, l, cC, a, d, h, Nat.le_trans h1 hM, h2⟩
theorem Src.keep {w w' : World} {b N : Nat} (h : Src w b N) (hb : Below w.heap.size w w') : Src w' b N := by
 have hlt := h.lt; obtain ⟨AC, l, cC, a, d, h, h1, h2, h3⟩ := h; exact ⟨AC, l, cC, a, d, (hb.block b hlt).trans h, h1, h2, h3.below (hb.mono (Nat.le_of_lt hlt))⟩
theorem zmm (n : Int) : ∃ d : Nat, IntKind.u64.wrap n = (d : Int) /\ d < 18446744073709551616 := by
 rw [IntKind.wrap_u64]; refine ⟨(n % 18446744073709551616).toNat, ?_, ?_⟩ <;> omega
theorem Src.stored {w w' : World} {b N a d : Nat} {AC : Option Addr} {l : List UInt8} {cC : Nat} {a' d' : Nat} (hbk : w.heap[b]? = some (.cells #[.slice AC l.length cC, .int .i64 (a : Int), .int .u64 (d : Int)] 115 (0, 0))) (hl : Sl zfB w b (.slice AC l.length cC) l) (ha : a' <= N) (hd : d' < 18446744073709551616)
  (hw : ∃ n m, w' = (((w.drewN n).setCell ⟨b, 1, none⟩ (.int .i64 (a' : Int))).setCell ⟨b, 2, none⟩ (.int .u64 (d' : Int))).drewN m) : Src w' b N /\ But b w w' := by
 obtain ⟨n, m, rfl⟩ := hw; have hB : But b w ((((w.drewN n).setCell ⟨b, 1, none⟩ (.int .i64 (a' : Int))).setCell ⟨b, 2, none⟩ (.int .u64 (d' : Int))).drewN m) := ((((But.refl b w).drewN n).setCell _).setCell _).drewN m; refine ⟨⟨AC, l, cC, a', d', ?_, ha, hd, hl.keep fun k hk => hB.block k (Nat.lt_trans hk (Array.getElem?_eq_some_iff.1 hbk).1) (Nat.ne_of_lt hk)⟩, hB⟩
 simp [World.setCell, World.drewN, Array.getElem?_modify, hbk]
theorem zoX (d : Nat) (hd : d < 18446744073709551616) : ∃ x : Nat, bits .and .u64 ((d : Int) / 1099511627776) 255 = (x : Int) /\ x <= 255 := by
 refine ⟨(d / 1099511627776) &&& 255, ?_, Nat.and_le_right⟩
 have e : (d : Int) / 1099511627776 = ((d / 1099511627776 : Nat) : Int) := by rw [Int.natCast_ediv]; rfl
 rw [e]; exact bits_and_u64_nat _ 255 yO (by decide)
theorem zkk (v : Value) (l : List UInt8) (w : World) (h : Sl zfB w w.heap.size v l) :
  Calls Tryz.prog 32 #[v] w fun r w' => ∃ b, r = .returned (.pointer (some ⟨b, 0, none⟩)) /\ b = w.heap.size /\ Src w' b 0 /\ Below w.heap.size w w' := by
 have HS := yq h; obtain ⟨A, c, rfl, hc1, hc2, _⟩ := h; go_enter Tryz.func32, Tryz.ntmps32
 go_wp2
 go_ret
 have hb : Below w.heap.size w (w.alloc (.cells #[.slice A l.length c, .int .i64 0, .int .u64 0] 115)) := (Below.refl _ w).alloc yL _; exact ⟨_, rfl, rfl, ⟨A, l, c, 0, 0, heap_alloc_new w _, Nat.le_refl _, by decide, HS.o.below hb⟩, hb⟩
theorem zkl (b N : Nat) (w : World) (h : Src w b N) (hN : N <= 1000000) :
  Calls Tryz.prog 131 #[.pointer (some ⟨b, 0, none⟩)] w fun r w' => ∃ x : Nat, r = .returned (.int .i64 (x : Int)) /\ x <= 255 /\ Src w' b (N + 1) /\ But b w w' := by
 obtain ⟨AC, l, cC, a, d, hbk, ha, hd, hl⟩ := h; have c0 : w.cell? ⟨b, 0, none⟩ = some (.slice AC l.length cC) := by rw [Lib.cell_of_heap hbk]; rfl
 have c1 : w.cell? ⟨b, 1, none⟩ = some (.int .i64 (a : Int)) := by rw [Lib.cell_of_heap hbk]; rfl
 have c2 : w.cell? ⟨b, 2, none⟩ = some (.int .u64 (d : Int)) := by rw [Lib.cell_of_heap hbk]; rfl
 have f1 : w.frozen? ⟨b, 1, none⟩ = false := Lib.frozen_of_heap hbk 1; have f2 : w.frozen? ⟨b, 2, none⟩ = false := Lib.frozen_of_heap hbk 2; have HB := yq hbk; have HL := yq hl; obtain ⟨_, _, ev, hc1, hc2, hrow⟩ := hl; clear hbk; go_enter Tryz.func131, Tryz.ntmps131
 go_wp2_with fail
 go_quiet (fail)
 by_cases hlt : a < l.length
 · obtain ⟨bc, oc, rfl, hbc, hcs⟩ := hrow yO
   obtain ⟨cs, hcs1, hcs2⟩ := hcs a l[a] (ye hlt); have hcs1' : cs = [.int .u8 (l[a].toNat : Int)] := hcs1; subst hcs1'; have hcx := hcs2 0 _ rfl; have e1 : oc + (a * zfB.size + 0) = oc + a := by show oc + (a * 1 + 0) = oc + a; omega
   rw [e1] at hcx; have hx := l[a].toNat_lt; obtain ⟨x, hxe⟩ : ∃ x, l[a].toNat = x := ⟨_, rfl⟩
   rw [hxe] at hcx hx; clear hcs hcs1 hcs2 hrow e1 hxe; have hlI : (a : Int) < (l.length : Int) := by omega
   go_wp2_with fail
   go_quiet (fail)
   go_wp2_with fail
   obtain ⟨d2, hd2, hd2b⟩ := zmm (IntKind.u64.wrap (IntKind.u64.wrap ((d : Int) * 6364136223846793005) + (x : Int)) + 1442695040888963407); rw [hd2]; have hle : ((a : Int) + 1) <= (l.length : Int) := by omega
   go_wp2_with fail
   go_quiet (fail)
   go_wp2_with fail
   go_ret
   refine ⟨x, rfl, by omega, ?_, ?_⟩
   · exact (Src.stored (N := N + 1) (a' := a + 1) HB.o HL.o yO hd2b ⟨_, _, rfl⟩).1
   · exact (Src.stored (N := N + 1) (a' := a + 1) HB.o HL.o yO hd2b ⟨_, _, rfl⟩).2
 · have hlI : ¬ (a : Int) < (l.length : Int) := by omega
   go_wp2_with fail
   obtain ⟨d2, hd2, hd2b⟩ := zmm (IntKind.u64.wrap (IntKind.u64.wrap ((d : Int) * 6364136223846793005)) + 1442695040888963407); rw [hd2]; have hle : ¬ ((a : Int) + 1) <= (l.length : Int) := by omega
   obtain ⟨x, hx, hx2⟩ := zoX d2 hd2b; go_wp2_with fail
   go_quiet (fail)
   go_wp2_with fail
   go_ret
   refine ⟨x, rfl, by omega, ?_, ?_⟩
   · exact (Src.stored (N := N + 1) (a' := a + 1) HB.o HL.o yO hd2b ⟨_, _, rfl⟩).1
   · exact (Src.stored (N := N + 1) (a' := a + 1) HB.o HL.o yO hd2b ⟨_, _, rfl⟩).2
def znx (b N : Nat) (n : Int) (w : World) (r : Ending) (w' : World) : Prop := ∃ x : Nat, r = .returned (.int .i64 (x : Int)) /\ (x = 0 \/ (x : Int) < n) /\ x <= 65535 /\ Src w' b (N + 2) /\ But b w w'
theorem zbZ (b N : Nat) (n : Int) (w : World) (h : Src w b N) (hN : N <= 900000) :
  Calls Tryz.prog 82 #[.pointer (some ⟨b, 0, none⟩), .int .i64 n] w (znx b N n w) := by
 have HS := yq h; clear h; go_enter Tryz.func82, Tryz.ntmps82
 by_cases h1 : n <= 1
 · go_wp2_with fail
   go_ret
   exact ⟨0, rfl, .inl rfl, by omega, HS.o.more yO, But.refl b w⟩
 · go_wp2_with fail
   refine (zkl b N w HS.o yO).mono ?_
   rintro r w1 ⟨x, rfl, hx, hs1, hb1⟩; have H1 := yq hs1; have B1 := yq hb1; clear hs1 hb1; obtain ⟨m, rfl⟩ := Int.eq_ofNat_of_zero_le (show 0 <= n by omega); have hm : ¬ (m : Int) = 0 := by omega
   by_cases h2 : (200 : Int) < m
   · go_wp2_with fail
     refine (zkl b (N + 1) w1 H1.o yO).mono ?_
     rintro r w2 ⟨y, rfl, hy, hs2, hb2⟩; have H2 := yq hs2; have B2 := yq hb2; clear hs2 hb2; go_wp2_with fail
     go_ret
     refine ⟨(x * 256 + y) % m, ?_, .inr ?_, ?_, H2.o.more yO, B1.o.trans B2.o⟩
     · rfl
     · have := Nat.mod_lt (x * 256 + y) (show 0 < m by omega)
       omega
     · have := Nat.mod_le (x * 256 + y) m
       omega
   · go_wp2_with fail
     go_ret
     refine ⟨x % m, ?_, .inr ?_, ?_, H1.o.more yO, B1.o⟩
     · rfl
     · have := Nat.mod_lt x (show 0 < m by omega)
       omega
     · have := Nat.mod_le x m
       omega
theorem zhW (b N : Nat) (n : Int) (w : World) (h : Src w b N) (hN : N <= 900000) :
  Calls Tryz.prog 83 #[.pointer (some ⟨b, 0, none⟩), .int .i64 n] w fun r w' => ∃ t : Bool, r = .returned (.bool t) /\ Src w' b (N + 2) /\ But b w w' := by
 have HS := yq h; clear h; go_enter Tryz.func83, Tryz.ntmps83
 go_wp2_with fail
 refine (zbZ b N n w HS.o hN).mono ?_
 rintro r w1 ⟨x, rfl, _, _, hs1, hb1⟩; have H1 := yq hs1; have B1 := yq hb1; clear hs1 hb1; go_wp2_with fail
 go_ret
 exact ⟨_, rfl, H1.o, B1.o⟩
theorem But.keep {b : Nat} {w w' : World} (h : But b w w') : zeu (fun k => k ≠ b /\ k < w.heap.size) w w' := fun k hk => h.block k hk.2 hk.1
theorem zmn (b N : Nat) (v : Value) (l : List Int) (w : World) (h : Src w b N) (hN : N <= 900000) (hl : SlS zfZ w (fun k => k ≠ b /\ k < w.heap.size) v l) (h0 : 0 < l.length) (hl2 : l.length <= 1000) :
  Calls Tryz.prog 84 #[.pointer (some ⟨b, 0, none⟩), v] w fun r w' => ∃ x ∈ l, r = .returned (.int .i64 x) /\ Src w' b (N + 2) /\ But b w w' := by
 have HS := yq h; have HL := yq hl; obtain ⟨A, c, rfl, _, _, _⟩ := hl; clear h; go_enter Tryz.func84, Tryz.ntmps84
 go_wp2_with fail
 refine (zbZ b N l.length w HS.o hN).mono ?_
 rintro r w1 ⟨x, rfl, hx, _, hs1, hb1⟩; have H1 := yq hs1; have B1 := yq hb1; have hlt : x < l.length := by omega
 obtain ⟨_, _, ev, _, _, hrow⟩ := HL.o.keep hb1.keep; injection ev with ev1 ev2 ev3; subst ev1; obtain ⟨bc, oc, rfl, hbc, hcs⟩ := hrow yO; obtain ⟨cs, hcs1, hcs2⟩ := hcs x l[x] (ye hlt); have hcs1' : cs = [.int .i64 l[x]] := hcs1; subst hcs1'; have hcx := hcs2 0 _ rfl; have e1 : oc + (x * zfZ.size + 0) = oc + x := by show oc + (x * 1 + 0) = oc + x; omega
 rw [e1] at hcx; have hxI : (x : Int) < (l.length : Int) := by omega
 clear hs1 hb1 hcs hcs1 hcs2 hrow e1 hx; go_wp2_with fail
 go_ret
 exact ⟨l[x], List.getElem_mem hlt, rfl, H1.o, B1.o⟩
theorem zny (b N : Nat) (v : Value) (l : List ByteArray) (w : World) (h : Src w b N) (hN : N <= 900000) (hl : SlS zhs w (fun k => k ≠ b /\ k < w.heap.size) v l) (h0 : 0 < l.length) (hl2 : l.length <= 1000) :
  Calls Tryz.prog 85 #[.pointer (some ⟨b, 0, none⟩), v] w fun r w' => ∃ x ∈ l, r = .returned (.string x) /\ Src w' b (N + 2) /\ But b w w' := by
 have HS := yq h; have HL := yq hl; obtain ⟨A, c, rfl, _, _, _⟩ := hl; clear h; go_enter Tryz.func85, Tryz.ntmps85
 go_wp2_with fail
 refine (zbZ b N l.length w HS.o hN).mono ?_
 rintro r w1 ⟨x, rfl, hx, _, hs1, hb1⟩; have H1 := yq hs1; have B1 := yq hb1; have hlt : x < l.length := by omega
 obtain ⟨_, _, ev, _, _, hrow⟩ := HL.o.keep hb1.keep; injection ev with ev1 ev2 ev3; subst ev1; obtain ⟨bc, oc, rfl, hbc, hcs⟩ := hrow yO; obtain ⟨cs, hcs1, hcs2⟩ := hcs x l[x] (ye hlt); have hcs1' : cs = [.string l[x]] := hcs1; subst hcs1'; have hcx := hcs2 0 _ rfl; have e1 : oc + (x * zhs.size + 0) = oc + x := by show oc + (x * 1 + 0) = oc + x; omega
 rw [e1] at hcx; have hxI : (x : Int) < (l.length : Int) := by omega
 clear hs1 hb1 hcs hcs1 hcs2 hrow e1 hx; go_wp2_with fail
 go_ret
 exact ⟨l[x], List.getElem_mem hlt, rfl, H1.o, B1.o⟩
end Go.Proofs.YtdacndamehiglaaGreatDoor
