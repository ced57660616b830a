import Derived.Test.YtejgbfgocaggfaaGreatDoorM5
set_option maxRecDepth 100000
set_option maxHeartbeats 8000000
namespace Go.Proofs.YtejgbfgocaggfaaGreatDoor
open Go.RowKit
theorem Row.take {α : Type} {E : Enc α} {w : World} {S : Nat -> Prop} {A : Option Addr} {xs : List α} (h : Row E w S A xs) (m : Nat) : Row E w S A (xs.take m) := fun hn => by
 obtain ⟨b, o, rfl, hlt, hc⟩ := h (by simp at hn; omega); refine ⟨b, o, rfl, hlt, fun k x hx => hc k x ?_⟩
 rw [List.getElem?_take] at hx
 split at hx
 · exact hx
 · cases hx
theorem zif {α : Type} {E : Enc α} {w : World} {S : Nat -> Prop} {A : Option Addr} {n c : Nat} {xs : List α} (h : SlS E w S (.slice A n c) xs) {m : Nat} (hm : m <= xs.length) : SlS E w S (.slice A m c) (xs.take m) := by
 obtain ⟨A', c', e, h1, h2, h3⟩ := h; injection e with e1 e2 e3; subst e1; subst e3; exact ⟨A, c, by rw [List.length_take, Nat.min_eq_left hm], by rw [List.length_take]; omega, h2, h3.take m⟩
theorem zeq : ∀ (l : List Nat) (p : List zaa × Int), (l.foldl zbv p).1.length = p.1.length + l.length
 | [], p => rfl
 | a :: l, p => by rw [List.foldl_cons, zeq l]; simp [zbv]; omega
theorem zhU (l s : List Nat) : l.foldl (fun s r => s ++ [r]) s = s ++ l := by
 induction l generalizing s with
 | nil => simp
 | cons a l ih => rw [List.foldl_cons, ih]; simp
theorem zkM (vR vL : Value) (xs : List zaa) (ls : List Int) (i j : Int) (w : World) (hR : Sl zar w w.heap.size vR xs) (hL : Sl zgt w w.heap.size vL ls) (hl : zaW xs = some ls) (hn : xs.length <= 1048576) :
  Calls Tryz.prog 107 #[.agg #[vR], vL, .int .i64 i, .int .i64 j] w (znO (zap xs ls i j) w) := by
 have HL := yq hL; have HR := yq hR; obtain ⟨AR, cR, rfl, _, hmR, _⟩ := hR; obtain ⟨AL, cL, rfl, _⟩ := hL; unfold maxLen at hmR; have Hl := yq hl; clear hl; go_enter Tryz.func107, Tryz.ntmps107
 go_wp2_with fail
 have hz0 : ((((w.alloc (Obj.cells #[Value.slice AR xs.length cR] 26)).alloc (Obj.cells #[Value.slice none 0 0] 26)).alloc (Obj.cells #[] 2)).alloc (Obj.cells #[Value.slice (some ⟨w.heap.size + 1 + 1, 0, none⟩) 0 0] 94)).heap.size = w.heap.size + 4 := by simp
 have hB0 : Below w.heap.size w ((((w.alloc (Obj.cells #[Value.slice AR xs.length cR] 26)).alloc (Obj.cells #[Value.slice none 0 0] 26)).alloc (Obj.cells #[] 2)).alloc (Obj.cells #[Value.slice (some ⟨w.heap.size + 1 + 1, 0, none⟩) 0 0] 94)) := yb; have hx0 : ((((w.alloc (Obj.cells #[Value.slice AR xs.length cR] 26)).alloc (Obj.cells #[Value.slice none 0 0] 26)).alloc (Obj.cells #[] 2)).alloc (Obj.cells #[Value.slice (some ⟨w.heap.size + 1 + 1, 0, none⟩) 0 0] 94)).cell? ⟨w.heap.size, 0, none⟩ = some (.slice AR xs.length cR) := by simp [go_sem]
 have hbx1 : Boxed ((((w.alloc (Obj.cells #[Value.slice AR xs.length cR] 26)).alloc (Obj.cells #[Value.slice none 0 0] 26)).alloc (Obj.cells #[] 2)).alloc (Obj.cells #[Value.slice (some ⟨w.heap.size + 1 + 1, 0, none⟩) 0 0] 94)) (w.heap.size + 1) 26 (.slice none 0 0) := by
  have := ((Boxed.new (w.alloc (Obj.cells #[Value.slice AR xs.length cR] 26)) 26 (.slice none 0 0)).alloc (Obj.cells #[] 2)).alloc (Obj.cells #[Value.slice (some ⟨w.heap.size + 1 + 1, 0, none⟩) 0 0] 94); rwa [show (w.alloc (Obj.cells #[Value.slice AR xs.length cR] 26)).heap.size = w.heap.size + 1 by simp] at this
 have hCJ : CJ (w.heap.size + 3) (w.heap.size + 2) (fun b => b < w.heap.size + 2) [] ((((w.alloc (Obj.cells #[Value.slice AR xs.length cR] 26)).alloc (Obj.cells #[Value.slice none 0 0] 26)).alloc (Obj.cells #[] 2)).alloc (Obj.cells #[Value.slice (some ⟨w.heap.size + 1 + 1, 0, none⟩) 0 0] 94)) := by
  refine ⟨.slice (some ⟨w.heap.size + 1 + 1, 0, none⟩) 0 0, ?_, ?_, by simp, by omega, fun g hg => ?_⟩
  · have := Boxed.new (((w.alloc (Obj.cells #[Value.slice AR xs.length cR] 26)).alloc (Obj.cells #[Value.slice none 0 0] 26)).alloc (Obj.cells #[] 2)) 94 (Value.slice (some ⟨w.heap.size + 1 + 1, 0, none⟩) 0 0)
    rwa [show (((w.alloc (Obj.cells #[Value.slice AR xs.length cR] 26)).alloc (Obj.cells #[Value.slice none 0 0] 26)).alloc (Obj.cells #[] 2)).heap.size = w.heap.size + 3 by simp] at this
  · exact (zan.empty (w := (w.alloc (Obj.cells #[Value.slice AR xs.length cR] 26)).alloc (Obj.cells #[Value.slice none 0 0] 26)) yS yS).alloc _
  · have : w.heap.size + 1 + 1 = g := Option.some.inj hg
    omega
 generalize ((((w.alloc (Obj.cells #[Value.slice AR xs.length cR] 26)).alloc (Obj.cells #[Value.slice none 0 0] 26)).alloc (Obj.cells #[] 2)).alloc (Obj.cells #[Value.slice (some ⟨w.heap.size + 1 + 1, 0, none⟩) 0 0] 94)) = w0 at *; have HB0 := yq hB0; have HX0 := yq hx0; have HBX1 := yq hbx1; have HZ0 := yq hz0; have HCJ := yq hCJ; clear hB0 hx0 hbx1 hz0 hCJ; have hpl := zeN Hl.o i j; have hpm := zdK Hl.o i j
 refine (zfU (CJ (w.heap.size + 3) (w.heap.size + 2)) (fun s r => s ++ [r]) (fun s _ => s.length <= 1099511627775) 140 #[.pointer (some ⟨w.heap.size + 3, 0, none⟩)] xs ls i j Hl.o yO (enters_of Tryz.func140 yk rfl) (fun C s w w' hJ hb _ hC => CJ.ext C s w w' hJ hb hC)
  (fun C s r w' hJ hok hr hC => zj2 _ _ C s r w' hJ hok hC) (.slice AL ls.length cL) (.slice AR xs.length cR) [] (fun b => b < w.heap.size + 2) w0 HCJ.o ?_ ?_ ?_ ?_).mono ?_
 · intro l1 r l2 e
   rw [zhU, List.nil_append]; have := congrArg List.length e; simp at this; omega
 · intro b hb
   have := HZ0.o; omega
 · exact ((HL.o.below HB0.o).le yO)
 · exact ((HR.o.below HB0.o).le yO)
 rintro e w2 ⟨rfl, C2, g1, g2, g3, g4⟩; rw [zhU, List.nil_append] at g3; obtain ⟨P, hP⟩ : ∃ P, za3 xs ls i j = P := ⟨_, rfl⟩
 rw [hP] at g3 hpl hpm; obtain ⟨v, hbc, hoc, _, _, hvC⟩ := g3; obtain ⟨Ac, cc, rfl, _⟩ := zae hoc; have hb2 : Below (w.heap.size + 2) w0 w2 := g4.below fun k hk => hk; have hg : zap xs ls i j = zaQ (zjb xs P) := by rw [zap, hP]
 have hz2 : w.heap.size + 4 <= w2.heap.size := by have := hb2.size; have := HZ0.o; omega
 have hbR : Boxed w2 (w.heap.size + 1) 26 (.slice none 0 0) := Boxed.up HBX1.o hb2 yO; have c0 := (hb2.cell (p := ⟨w.heap.size, 0, none⟩) (by show w.heap.size < w.heap.size + 2; omega)).trans HX0.o; have HB2 := yq (HB0.o.trans (hb2.mono yO)); have HBC := yq hbc; have HOC := yq hoc; have Hg := yq hg; have HPM := yq hpm; have HBR := yq hbR; have bxc := hbc.cell; have fR := hbR.frozen; have cR1 := hbR.cell; clear g1 g2 g4 hP hbc hoc hvC hb2 hg hbR hpm; rcases P with _ | ⟨c, _ | ⟨d, cs⟩⟩
 · replace bxc : w2.cell? ⟨w.heap.size + 3, 0, none⟩ = some (.slice Ac 0 cc) := bxc
   go_wp2_with fail
   refine bodyPost_ret (v := .agg #[.slice none 0 0]) (by simp [results, Tryz.results107, go_sem, (Boxed.set (Value.slice none 0 0) HBR.o).cell]) rfl ⟨HB2.o.setCell (by show w.heap.size <= w.heap.size + 1; omega) _, _, ?_, rfl⟩
   rw [Hg.o]; exact World.ownsRow_nil _ _ _ _
 · replace bxc : w2.cell? ⟨w.heap.size + 3, 0, none⟩ = some (.slice Ac 1 cc) := bxc
   obtain ⟨g, cap, e1, hg1, hg2, hg3, hgc⟩ := zan.at_ HOC.o (j := 0) (by simp [nI]); injection e1 with e11 e12 e13; subst e11; have cc0 : w2.cell? ⟨g, 0, none⟩ = some (.int .i64 (c : Int)) := hgc 0 (by simp [nI]); have hcx : c < xs.length := HPM.o c yS; have hcR : (c : Int) + 1 <= (cR : Int) := by omega
   have hS2 : Sl zar w2 w2.heap.size (.slice AR xs.length cR) xs := (HR.o.below HB2.o).le yO; have hok := zdJ (zaz Hl.o) (c + 1); have TR := yq (zbz (.slice AR (c + 1) cR) (xs.take (c + 1)) w2.drew (SlS.keep (zif hS2 (m := c + 1) yO) fun _ _ => rfl) (by rw [List.length_take]; omega) hok); have htn : ((c : Int) + 1).toNat = c + 1 := by omega
   have hwc : IntKind.i64.wrap ((c : Int) + 1) = (c : Int) + 1 := IntWalk.i64_in _ yO; have hc0 : (0 : Int) <= (c : Int) + 1 := by omega
   clear hgc e12 hg3 hS2 hok; go_wp2_with fail
   go_region_law (go_simp; go_at_call 106; (with_reducible refine TR.o.mono ?_); rintro e w3 ⟨hb3, v3, own3, rfl⟩; obtain ⟨A3, c3, rfl, _⟩ := zae own3; have hbR3 : Boxed w3 (w.heap.size + 1) 26 (.slice none 0 0) := Boxed.up (w := w2.drew) HBR.o hb3 (by show w.heap.size + 1 < w2.heap.size; omega); have fR3 := hbR3.frozen; have cR3 := hbR3.cell)
   all_goals
    go_wp2_with fail
    refine bodyPost_ret (v := .agg #[.slice A3 (zaQ (xs.take (c + 1))).length c3]) (by simp [results, Tryz.results107, go_sem, (Boxed.set (Value.slice A3 (zaQ (xs.take (c + 1))).length c3) hbR3).cell]) rfl ⟨((HB2.o.trans (Below.drew (Below.refl _ _))).trans (hb3.mono (by show w.heap.size <= w2.heap.size; omega))).setCell (by show w.heap.size <= w.heap.size + 1; omega) _, _, ?_, rfl⟩
    rw [Hg.o]; exact zad (ownsRow_setCell_other (a := ⟨w.heap.size + 1, 0, none⟩) own3 (hbR3.not_row (by decide) own3).symm _) (by show w.heap.size <= w2.heap.size; omega)
 · have hln : (nI (c :: d :: cs)).length = cs.length + 2 := by simp [nI]
   rw [hln] at bxc; obtain ⟨g, cap, e1, hg1, hg2, hg3, hgc⟩ := zan.at_ HOC.o (j := 0) (by simp [nI]); injection e1 with e11 e12 e13; subst e11; subst e13; rw [hln] at hg3; have cc0 : w2.cell? ⟨g, 0, none⟩ = some (.int .i64 (c : Int)) := hgc 0 (by simp [nI]); have hS2 : Sl zar w2 w2.heap.size (.slice AR xs.length cR) xs := (HR.o.below HB2.o).le yO
   have cA : ∀ o, Calls Tryz.prog 31 #[.agg #[.slice AR xs.length cR]] (w2.alloc o).drew fun e w' => (∃ A1 c1, e = .returned (.agg #[.slice A1 xs.length c1]) /\ zac w' w2.heap.size (.slice A1 xs.length c1) xs /\ Below w2.heap.size w2 w') /\ w'.heap[w2.heap.size]? = some o :=
    fun o => (zcs _ xs (w2.alloc o).drew ((hS2.up ((Below.refl _ _).alloc yL o)).keep fun _ _ => rfl) yO).mono fun e w' ⟨v', h1, h2, h3⟩ => by
     obtain ⟨A1, c1, rfl, _⟩ := zae h2; have hsz : w2.heap.size < (w2.alloc o).drew.heap.size := by show w2.heap.size < (w2.alloc o).heap.size; simp
     exact ⟨⟨A1, c1, h1, zad h2 (Nat.le_of_lt hsz), (Below.drew ((Below.refl w2.heap.size w2).alloc yL o)).trans (h3.mono (Nat.le_of_lt hsz))⟩, (h3.block w2.heap.size hsz).trans (zbe _ _)⟩
   have cB : Calls Tryz.prog 31 #[.agg #[.slice AR xs.length cR]] w2.drew fun e w' => ∃ A1 c1, e = .returned (.agg #[.slice A1 xs.length c1]) /\ zac w' w2.heap.size (.slice A1 xs.length c1) xs /\ Below w2.heap.size w2 w' :=
    (zcs _ xs w2.drew (hS2.keep fun _ _ => rfl) yO).mono fun e w' ⟨v', h1, h2, h3⟩ => by
      obtain ⟨A1, c1, rfl, _⟩ := zae h2; exact ⟨A1, c1, h1, h2, (Below.drew (Below.refl w2.heap.size w2)).trans h3⟩
   have CA := yq cA; have CB := yq cB; have Hgc := yq hgc; have l3 : w.heap.size + 3 < w2.heap.size := by omega
   have l0 : w.heap.size < w2.heap.size := by omega
   have BXC := yq bxc; have h02 : (0 : Int) < (cs.length : Int) + 2 := by omega
   clear cA cB hgc hln hS2 e12; go_upto_region 8 with fail
   go_cut [10, 11] from 24 to 41 (fun p q wx => ∃ (K : Nat) (vo : Value), p = .pointer (some ⟨K, 0, none⟩) /\ q = .int .i64 (c : Int) /\ w2.heap.size <= K /\ Boxed wx K 26 vo /\ zac wx w2.heap.size vo xs /\ Below w2.heap.size w2 wx)
   case first =>
    go_region_law (go_simp; go_at_call 31; first
     | ((with_reducible refine (CA.o _).mono ?_); rintro e w3 ⟨⟨A1, c1, rfl, own1, hb3⟩, bx3⟩; have bxB : Boxed w3 w2.heap.size 26 (.slice none 0 0) := bx3; have hcb := bxB.cell; have hfb := bxB.frozen; have xx3 := (hb3.cell (p := ⟨w.heap.size + 3, 0, none⟩) l3).trans BXC.o; have yy3 := (hb3.cell (p := ⟨g, 0, none⟩) hg2).trans cc0; have gg3 := Nat.lt_of_lt_of_le hg2 hb3.size; have ll3 := Nat.lt_of_lt_of_le l3 hb3.size; have kk3 := (hb3.cell (p := ⟨w.heap.size, 0, none⟩) l0).trans c0; have mm3 := Nat.lt_of_lt_of_le l0 hb3.size)
     | ((with_reducible refine CB.o.mono ?_); rintro e w3 ⟨A1, c1, rfl, own1, hb3⟩; have xx3 := (hb3.cell (p := ⟨w.heap.size + 3, 0, none⟩) l3).trans BXC.o; have yy3 := (hb3.cell (p := ⟨g, 0, none⟩) hg2).trans cc0; have gg3 := Nat.lt_of_lt_of_le hg2 hb3.size; have ll3 := Nat.lt_of_lt_of_le l3 hb3.size; have kk3 := (hb3.cell (p := ⟨w.heap.size, 0, none⟩) l0).trans c0; have mm3 := Nat.lt_of_lt_of_le l0 hb3.size))
    all_goals
     go_wp2_with fail
     go_meet
     first
      | exact ⟨_, _, rfl, rfl, hb3.size, Boxed.new _ _ _, own1.alloc _, hb3.alloc hb3.size _⟩
      | exact ⟨_, _, rfl, rfl, Nat.le_refl _, Boxed.set _ bxB, ownsRow_setCell_other (a := ⟨w2.heap.size, 0, none⟩) own1 (bxB.not_row (by decide) own1).symm _, hb3.setCell yL _⟩
   case rest =>
    revert hcut; generalize wc = w3; intro hcut; obtain ⟨K, vo, rfl, rfl, hK, bx3, own3, hb3⟩ := hcut; have c3 := (hb3.cell (p := ⟨w.heap.size + 3, 0, none⟩) l3).trans BXC.o; have HB3 := yq hb3; have Bx3 := yq bx3; have Ow3 := yq own3
    have Hcs : yh (∀ k, k < cs.length + 1 -> w3.cell? ⟨g, 1 + k, none⟩ = some (.int .i64 (((d :: cs).getD k 0 : Nat) : Int))) := fun k hk => by
     rw [hb3.cell (p := ⟨g, 1 + k, none⟩) hg2, Hgc.o (1 + k) (by simp [nI]; omega)]
     have e : (nI (c :: d :: cs)).getD (1 + k) 0 = (((d :: cs).getD k 0 : Nat) : Int) := by
      rw [Nat.add_comm, nI, yg, List.map_cons, List.getElem?_cons_succ, List.getElem?_map, yg, ye (by simp; omega)]; rfl
     rw [e]
    have hne1 : ¬ cc = 1 := by omega
    clear hb3 bx3 own3; go_wp2_with fail
    go_loopw [11, 45] (fun q i wx => ∃ (k : Nat) (b : Int) (vo : Value) (L : List zaa), k <= cs.length + 1 /\ q = .int .i64 b /\ i = .int .i64 k /\ ((d :: cs).take k).foldl zbv (xs, (c : Int)) = (L, b) /\ Boxed wx K 26 vo /\ zac wx w2.heap.size vo L /\ Below w2.heap.size w3 wx) (fun _ i _ => cs.length + 1 - (intOf i).toNat)
    case atStart => exact ⟨0, (c : Int), vo, xs, by omega, rfl, rfl, rfl, Bx3.o, Ow3.o, Below.refl _ _⟩
    case round =>
     obtain ⟨k, b, vk, L, hk, rfl, rfl, hLb, hbk, hok, hb4⟩ := hrel; obtain ⟨Ak, ck, rfl, _⟩ := zae hok
     have hLn : L.length <= 1099511627774 := by
      have := zeq ((d :: cs).take k) (xs, (c : Int)); rw [hLb] at this; simp at this hpl; omega
     have Hb4 := yq hb4; have Hbk := yq hbk; have Hok := yq hok; have HLb := yq hLb; have HLn := yq hLn; have bxk := hbk.cell; have cgk := fun k hk => (hb4.cell (p := ⟨g, 1 + k, none⟩) hg2).trans (Hcs.o k hk); clear hb4 hbk hok hLb hLn; by_cases hlt : k < cs.length + 1
     · have cg := cgk k hlt
       clear cgk; have hki : (k : Int) < (cs.length : Int) + 1 := by omega
       obtain ⟨x, hx⟩ : ∃ x, (d :: cs).getD k 0 = x := ⟨_, rfl⟩
       rw [hx] at cg; have Hx := yq hx; have hcl : cs.length <= 2097152 := by simp at hpl; omega
       have HKw := yq (show K < wr.heap.size from Hbk.o.lt); have HW := yq (show w2.heap.size <= wr.heap.size from Nat.le_trans HB3.o.size Hb4.o.size); clear hx; go_upto_region 12 with fail
       go_cut [] from 46 to 56 (fun wx => ∃ vo : Value, Boxed wx K 26 vo /\ zac wx w2.heap.size vo (L ++ [zaP b x]) /\ Below w2.heap.size w3 wx)
       case first =>
        go_region_law (first
         | (refine zbc (base := w2.heap.size) yR _ _ yR yR (by first | rfl | simp) rfl (zac.below Hok.o.drew hb2) (Nat.le_trans HLn.o yO) hs2 ?_; intro v5 w5 own5 hg5 hb5; have bx5 : Boxed w5 K 26 _ := Boxed.grown (Boxed.up (Boxed.mk' Hbk.o) hb2 HKw.o) (by decide) (zac.below Hok.o.drew hb2) hg5; obtain ⟨A5, c5, rfl, _⟩ := zae own5; have hcb5 := bx5.cell; have hfb5 := bx5.frozen)
         | (go_simp; go_at_call 138; refine (zdZ _ _ _).mono ?_; rintro e w4 ⟨rfl, hb2⟩; have bx2 := Boxed.up (Boxed.mk' Hbk.o) hb2 HKw.o; have hcb2 := bx2.cell; have hfb2 := bx2.frozen; have hlb2 := bx2.lt; have hs2 : w2.heap.size <= w4.heap.size := Nat.le_trans HW.o hb2.size))
        all_goals
         go_wp2_with fail
         go_meet
         have e9 : (L ++ [zaP b x]).length = L.length + 1 := by simp
         have own9 : zac w5 w2.heap.size (.slice A5 (L.length + 1) c5) (L ++ [zaP b x]) := by rw [<- e9]; exact own5
         exact ⟨_, Boxed.set _ bx5, ownsRow_setCell_other (a := ⟨K, 0, none⟩) own9 (bx5.not_row (by decide) own9).symm _, ((((Below.drew Hb4.o).trans (hb2.mono HW.o)).alloc hs2 _).trans hb5).setCell hK _⟩
       case rest =>
        revert hcut; generalize wc = w5; intro hcut; obtain ⟨v5, bx5, own5, hb5⟩ := hcut; have hM : (L ++ [zaP b x]).length = L.length + 1 := by simp
        obtain ⟨M, hMe⟩ : ∃ M, L ++ [zaP b x] = M := ⟨_, rfl⟩
        rw [hMe] at own5 hM; obtain ⟨A5, c5, rfl, _⟩ := zae own5; rw [hM] at own5 bx5; have bxc5 := bx5.cell; have Bx5 := yq bx5; have Ow5 := yq own5; have Hb5 := yq hb5; have HM := yq hM; have HMe := yq hMe; have hLn := HLn.o; clear bx5 own5 hb5 hM hMe; go_wp2_with fail
        refine ⟨⟨k + 1, (L.length : Int), _, M, by omega, rfl, rfl, ?_, Bx5.o, Ow5.o, Hb5.o⟩, by simp [intOf]; omega⟩
        rw [List.take_add_one, ye (show k < (d :: cs).length by simpa using hlt), List.foldl_append, HLb.o]; have hxe : (d :: cs)[k]'(by simpa using hlt) = x := by rw [<- Hx.o, yg, ye (show k < (d :: cs).length by simpa using hlt)]; rfl
        rw [hxe]; show (L ++ [zaP b x], (L.length : Int)) = _
        rw [HMe.o]
     · have hkn : k = cs.length + 1 := by omega
       subst hkn; have hki : ¬ ((cs.length : Int) + 1 < (cs.length : Int) + 1) := by omega
       have hL : L = zjb xs (c :: d :: cs) := by
        have := HLb.o; rw [List.take_of_length_le yS] at this; rw [zjb, this]
       have HcG := zjY (zaz Hl.o) (c :: d :: cs) HPM.o; rw [<- hL] at HcG; have hwr2 : w2.heap.size <= wr.heap.size := Nat.le_trans HB3.o.size Hb4.o.size; have TR := yq (zbz _ L wr (zac.sl Hok.o) (by have := HcG.2; simp at this hpl; omega) HcG.1); have B0 : Below w.heap.size w wr := HB2.o.trans ((HB3.o.trans Hb4.o).mono yO); have hbR3 : Boxed wr (w.heap.size + 1) 26 (.slice none 0 0) := Boxed.up HBR.o (HB3.o.trans Hb4.o) yO; have HbR3 := yq hbR3; have HB0' := yq B0; have HL' := yq hL; clear HcG hL B0 hbR3 cgk; go_wp2_with fail
       (with_reducible refine TR.o.mono ?_)
       rintro e w4 ⟨hb4, v4, own4, rfl⟩; obtain ⟨A4, c4, rfl, _⟩ := zae own4; have hb9 : Boxed w4 (w.heap.size + 1) 26 (.slice none 0 0) := Boxed.up HbR3.o hb4 yO; have c9 := hb9.cell; have f9 := hb9.frozen; go_wp2_with fail
       refine bodyPost_ret (v := .agg #[.slice A4 (zaQ L).length c4]) (by simp [results, Tryz.results107, go_sem, (Boxed.set (Value.slice A4 (zaQ L).length c4) hb9).cell]) rfl ⟨(HB0'.o.trans (hb4.mono yO)).setCell (by show w.heap.size <= w.heap.size + 1; omega) _, _, ?_, rfl⟩
       rw [Hg.o, <- HL'.o]; exact zad (ownsRow_setCell_other (a := ⟨w.heap.size + 1, 0, none⟩) own4 (hb9.not_row (by decide) own4).symm _) yO
theorem znW {xs : List zaa} {ls : List Int} (h : zaW xs = some ls) {i j : Int} (hi : 0 <= i) (hij : i < j) (hj : j <= zao ls) : 0 < xs.length := by
 refine Nat.pos_of_ne_zero fun e => ?_
 have := zaG h; rw [e] at this; have hls : ls = [] := yn this; subst hls; simp [zao] at hj; omega
theorem zlk (b o : Nat) (v : Value) (xs : List zaa) (ls : List Int) (i j : Int) (w : World) (hp : w.cell? ⟨b, o, none⟩ = some v) (hbl : b < w.heap.size) (h : Sl zar w w.heap.size v xs) (hsm : zaY xs) (hl : zaW xs = some ls)
  (hn : xs.length <= 400) (hi : 0 <= i) (hij : i <= j) (hj : j <= zao ls) :
  Calls Tryz.prog 91 #[.pointer (some ⟨b, o, none⟩), .int .i64 i, .int .i64 j] w (znO (zjb xs (za3 xs ls i j)) w) := by
 have HR := yq h; obtain ⟨AR, cR, rfl, _, hmR, _⟩ := h; unfold maxLen at hmR; have Hl := yq hl; clear hl; by_cases c1 : i = j
 · subst c1
   have e : za3 xs ls i i = [] := by rw [za3, if_neg yO]
   rw [e]; clear e; go_enter Tryz.func91, Tryz.ntmps91
   go_wp2_with fail
   refine bodyPost_ret (v := .agg #[.slice none 0 0]) (by simp [results, Tryz.results91, go_sem]) rfl ⟨yb, _, by exact World.ownsRow_nil _ _ _ _, rfl⟩
 · have g1 : (i == j) = false := by simpa using c1
   have hij' : i < j := by omega
   have h0 := znW Hl.o hi hij' hj; have hpc := zi9 Hl.o hi hij' hj h0; have hpl := zeN Hl.o i j; have hpm := zdK Hl.o i j; have hpp := zlh Hl.o hi hij' hj h0; have hll := zaG Hl.o; have hj2 : j <= ls.getD (xs.length - 1) 0 := by rw [zao, hll] at hj; exact hj
   have hjm : ls.getD (xs.length - 1) 0 <= 1000000000000000 := (zaO Hl.o (r := xs.length - 1) yO).2; obtain ⟨P, hP⟩ : ∃ P, za3 xs ls i j = P := ⟨_, rfl⟩
   rw [hP] at hpl hpm hpp hpc; rw [hP]; have Hpc := yq hpc; have HPM := yq hpm; have Hll := yq hll; have hm1 : (xs.length : Int) - 1 = ((xs.length - 1 : Nat) : Int) := by omega
   obtain ⟨m, hm⟩ : ∃ m, xs.length - 1 = m := ⟨_, rfl⟩
   rw [hm] at hm1 hj2 hjm Hpc; have hmx : m < xs.length := by omega
   have hzb : b < (w.alloc (Obj.cells #[Value.slice none 0 0] 26)).heap.size := by simp; omega
   have hp1 : (w.alloc (Obj.cells #[Value.slice none 0 0] 26)).cell? ⟨b, o, none⟩ = some (.slice AR xs.length cR) := (((Below.refl w.heap.size w).alloc yL _).cell (p := ⟨b, o, none⟩) hbl).trans hp; have hB1 : Below w.heap.size w (w.alloc (Obj.cells #[Value.slice none 0 0] 26)) := (Below.refl w.heap.size w).alloc yL _; have HB1 := yq hB1; have bxR : Boxed (w.alloc (Obj.cells #[Value.slice none 0 0] 26)) w.heap.size 26 (.slice none 0 0) := Boxed.new _ _ _; have BXR := yq bxR; have hd4 : decide (xs.length <= 400) = true := by simp [hn]
   clear hij c1 hj hpc hpm hll hP hm hB1 bxR h0; go_enter Tryz.func91, Tryz.ntmps91
   go_wp2_with fail
   refine (zdv _ _ _ xs _ hp1 hzb ((HR.o.below HB1.o).le yS) hsm).mono ?_
   rintro e w2 ⟨hb2, v2, ls', rfl, own2, hls⟩; have e4 : ls' = ls := hls hn ls Hl.o; subst e4; obtain ⟨A2, c2, rfl, _⟩ := zae own2; have p2 := (hb2.cell (p := ⟨b, o, none⟩) hzb).trans hp1; have z2 : b < w2.heap.size := Nat.lt_of_lt_of_le hzb hb2.size; have hz12 : w.heap.size + 1 <= w2.heap.size := by have := hb2.size; simpa using this
   have BX2 := yq (Boxed.up BXR.o hb2 yS); have HB2 := yq (HB1.o.trans (hb2.mono yS)); have HL2 := yq own2.sl; have HRm : yh (Sl zar w2 w2.heap.size (.slice AR xs.length cR) xs) := (HR.o.below HB2.o).le yO; clear hb2 own2 hls hp hp1 hzb hbl; go_wp2_with fail
   have B3 : Below w2.heap.size w2 (w2.alloc (.cells #[] 2)) := (Below.refl _ _).alloc yL _
   refine (zje w2.heap.size b o (.slice A2 ls'.length c2) (.slice AR xs.length cR) xs ls' Hl.o yO z2 (m + 1) m i j (.slice (some ⟨w2.heap.size, 0, none⟩) 0 0) [] (w2.alloc (.cells #[] 2)) yO hmx ⟨hi, by omega⟩ ⟨by omega, hj2⟩
    ((B3.cell (p := ⟨b, o, none⟩) z2).trans p2) (HL2.o.below B3) (HRm.o.below B3) yS (zan.empty rfl yL) ?_).mono ?_
   · have := Hpc.o
     rw [show m + 1 = xs.length by omega, <- this]; simp; omega
   rintro e w3 ⟨v3, rfl, own3, hb3⟩; have hPe : zcy xs ls' (m + 1) m i j = P := by rw [show m + 1 = xs.length by omega]; exact Hpc.o.symm
   rw [hPe, List.nil_append] at own3; have hb3' := B3.trans hb3; have hz23 : w2.heap.size + 1 <= w3.heap.size := by have := hb3.size; simpa using this
   have p3 := (hb3'.cell (p := ⟨b, o, none⟩) z2).trans p2; have z3 : b < w3.heap.size := by omega
   have BX3 := yq (Boxed.up BX2.o hb3' yO); have HB3 := yq (HB2.o.trans (hb3'.mono yO)); have HR3 : yh (Sl zar w3 w3.heap.size (.slice AR xs.length cR) xs) := (HR.o.below HB3.o).le yO; have HOC := yq own3; obtain ⟨A3, cc, rfl, _⟩ := zae own3; have fR := BX3.o.frozen; have cR1 := BX3.o.cell; clear own3 hb3 hb3' hPe p2 B3 HL2 HRm Hpc hj2 hjm hij'; rcases P with _ | ⟨c, _ | ⟨d, cs⟩⟩
   · simp at hpp
   · have e1 : (nI [c]).length = 1 := rfl
     rw [e1] at HOC; obtain ⟨g, cap, e1, hg1, hg2, hg3, hgc⟩ := zan.at_ HOC.o (j := 0) (by simp [nI]); injection e1 with e11 e12 e13; subst e11; have cc0 : w3.cell? ⟨g, 0, none⟩ = some (.int .i64 (c : Int)) := hgc 0 (by simp [nI]); have hcx : c < xs.length := HPM.o c yS; have hcR : (c : Int) + 1 <= (cR : Int) := by omega
     have htn : ((c : Int) + 1).toNat = c + 1 := by omega
     have hwc : IntKind.i64.wrap ((c : Int) + 1) = (c : Int) + 1 := IntWalk.i64_in _ yO; have hc0 : (0 : Int) <= (c : Int) + 1 := by omega
     have e1' : (nI [c]).length = 1 := rfl; rw [e1']; have l0 : w.heap.size < w3.heap.size := by omega
     have E0 : yh (zac (w3.alloc (Obj.cells #[] 88)).drew w3.heap.size (.slice (some ⟨w3.heap.size, 0, none⟩) 0 0) []) := zac.empty rfl yL; have S0 : yh (Sl zar (w3.alloc (Obj.cells #[] 88)).drew w3.heap.size (.slice AR (c + 1) cR) (xs.take (c + 1))) := (SlS.below (zif HR3.o yO) ((Below.refl w3.heap.size w3).alloc yL _)).keep fun _ _ => rfl; have hlt' : (xs.take (c + 1)).length = c + 1 := by rw [List.length_take]; omega
     have Hlt' := yq hlt'; clear hgc e12 hg3 e1' hlt'; go_wp2_with fail
     go_region_law (refine zbx (base := w3.heap.size) (v := .slice (some ⟨w3.heap.size, 0, none⟩) 0 0) (sv := .slice AR (c + 1) cR) yR _ _ yR yR yR E0.o S0.o (by rw [Hlt'.o]; simp; omega) (by show w3.heap.size <= (w3.alloc _).heap.size; simp) ?_; intro v5 w5 own5 hg5 hb5; obtain ⟨A5, c5, rfl, _⟩ := zae own5; have hbR5 : Boxed w5 w.heap.size 26 (.slice none 0 0) := (hb5.block w.heap.size l0).trans (BX3.o.alloc _); have fR5 := hbR5.frozen; have cR5 := hbR5.cell)
     all_goals
      go_wp2_with fail
      have e5 : ([] ++ xs.take (c + 1)).length = min (c + 1) xs.length := by simp
      have own9 : zac w5 w3.heap.size (.slice A5 (min (c + 1) xs.length) c5) (xs.take (c + 1)) := by rw [<- e5]; exact own5
      refine bodyPost_ret (v := .agg #[.slice A5 (min (c + 1) xs.length) c5]) (by simp [results, Tryz.results91, go_sem, (Boxed.set (Value.slice A5 (min (c + 1) xs.length) c5) hbR5).cell]) rfl ⟨(HB3.o.trans (((Below.refl w3.heap.size w3).alloc yL _).trans ((Below.drew (Below.refl _ _)).trans hb5) |>.mono yO)).setCell yL _, _, ?_, rfl⟩
      exact zad (ownsRow_setCell_other (a := ⟨w.heap.size, 0, none⟩) own9 (hbR5.not_row (by decide) own9).symm _) yO
   · have hln : (nI (c :: d :: cs)).length = cs.length + 2 := by simp [nI]
     rw [hln]; obtain ⟨g, cap, e1, hg1, hg2, hg3, hgc⟩ := zan.at_ HOC.o (j := 0) (by simp [nI]); injection e1 with e11 e12 e13; subst e11; subst e13; rw [hln] at hg3; have cc0 : w3.cell? ⟨g, 0, none⟩ = some (.int .i64 (c : Int)) := hgc 0 (by simp [nI]); have Hgc := yq hgc; have h02 : (0 : Int) < (cs.length : Int) + 2 := by omega
     have hne1 : ((cs.length : Int) + 2 == 1) = false := by rw [beq_eq_false_iff_ne]; omega
     clear hgc hln e12; go_wp2_with fail
     refine (zcd b o _ xs w3 p3 z3 HR3.o yO).mono ?_
     rintro e w4 ⟨v4, rfl, own4, hb4⟩; obtain ⟨A4, c4, rfl, _⟩ := zae own4; have cc4 := (hb4.cell (p := ⟨g, 0, none⟩) hg2).trans cc0; have hg4 : g < w4.heap.size := Nat.lt_of_lt_of_le hg2 hb4.size; have Own4 := yq own4; have Hb4 := yq hb4; clear own4 hb4; have bx4 : Boxed (w4.alloc (Obj.cells #[Value.slice A4 xs.length c4] 26)) w4.heap.size 26 (.slice A4 xs.length c4) := Boxed.new _ _ _; have hb5 : Below w3.heap.size w3 (w4.alloc (Obj.cells #[Value.slice A4 xs.length c4] 26)) := Hb4.o.alloc Hb4.o.size _; have own5 : zac (w4.alloc (Obj.cells #[Value.slice A4 xs.length c4] 26)) w3.heap.size (.slice A4 xs.length c4) xs := Own4.o.alloc _; have HB5 := yq hb5; have Bx5 := yq bx4; have Ow5 := yq own5; have hK : w3.heap.size <= w4.heap.size := Hb4.o.size; have hcl : cs.length <= 800 := by simp at hpl; omega
     clear hb5 bx4 own5; go_wp2_with fail
     generalize w4.alloc (Obj.cells #[Value.slice A4 xs.length c4] 26) = w5 at *; obtain ⟨K, hKe⟩ : ∃ K, w4.heap.size = K := ⟨_, rfl⟩
     rw [hKe] at Bx5 hK; simp only [hKe]
     clear hKe; go_loopw [11, 12] (fun q i wx => ∃ (k : Nat) (z y : Int) (vo : Value) (L : List zaa), k <= cs.length + 1 /\ q = .int .i64 z /\ y = (k : Int) + 1 /\ i = .int .i64 y /\ ((d :: cs).take k).foldl zbv (xs, (c : Int)) = (L, z) /\ Boxed wx K 26 vo /\ zac wx w3.heap.size vo L /\ Below w3.heap.size w5 wx) (fun _ i _ => cs.length + 2 - (intOf i).toNat)
     case atStart => exact ⟨0, (c : Int), 1, _, xs, by omega, rfl, rfl, rfl, rfl, Bx5.o, Ow5.o, Below.refl _ _⟩
     case round =>
      obtain ⟨k, z, y, vk, L, hk, rfl, hy, rfl, hLb, hbk, hok, hb6⟩ := hrel; obtain ⟨Ak, ck, rfl, _⟩ := zae hok
      have hLn : L.length <= 10000 := by
       have := zeq ((d :: cs).take k) (xs, (c : Int)); rw [hLb] at this; simp at this; omega
      have hy2 : y = ((k + 1 : Nat) : Int) := by omega
      subst hy2; obtain ⟨q, hq⟩ : ∃ q, k + 1 = q := ⟨_, rfl⟩
      rw [hq]; rw [hq] at hy; have Hb6 := yq hb6; have Hbk := yq hbk; have Hok := yq hok; have HLb := yq hLb; have bxk := hbk.cell; have fxk := hbk.frozen; have hw56 := hb6.size; clear hb6 hbk hok hLb hy; by_cases hlt : k < cs.length + 1
      · have cg : wr.cell? ⟨g, q, none⟩ = some (.int .i64 (((d :: cs).getD k 0 : Nat) : Int)) := by
         rw [(HB5.o.trans Hb6.o).cell (p := ⟨g, q, none⟩) hg2, Hgc.o q (by simp [nI]; omega)]
         have e : (nI (c :: d :: cs)).getD q 0 = (((d :: cs).getD k 0 : Nat) : Int) := by
          rw [<- hq, nI, yg, List.map_cons, List.getElem?_cons_succ, List.getElem?_map, yg, ye (by simp; omega)]; rfl
         rw [e]
        have hqi : (q : Int) < (cs.length : Int) + 2 := by omega
        obtain ⟨x, hx⟩ : ∃ x, (d :: cs).getD k 0 = x := ⟨_, rfl⟩
        rw [hx] at cg; have Hx := yq hx; have HLn := yq hLn; have HW := yq (show w3.heap.size <= wr.heap.size from Nat.le_trans HB5.o.size hw56); have hrl := Hbk.o.lt; have hgr : g < wr.heap.size := by have := HW.o; omega
        clear hx hLn; go_upto_region 12 with fail
        go_cut [] from 54 to 70 (fun wx => ∃ vo : Value, Boxed wx K 26 vo /\ zac wx w3.heap.size vo (L ++ [zaP z x]) /\ Below w3.heap.size w5 wx)
        case first =>
         go_region_law (refine zbc (base := w3.heap.size) (v := .slice Ak L.length ck) yR _ _ yR yR (by first | rfl | simp) rfl Hok.o.drew (Nat.le_trans HLn.o yO) HW.o ?_; intro v7 w7 own7 hg7 hb7; have bx7 : Boxed w7 K 26 _ := Boxed.grown (Boxed.mk' Hbk.o) (by decide) Hok.o.drew hg7; obtain ⟨A7, c7, rfl, _⟩ := zae own7; have hcb7 := bx7.cell; have hfb7 := bx7.frozen)
         all_goals
          go_wp2_with fail
          go_meet
          have e9 : (L ++ [zaP z x]).length = L.length + 1 := by simp
          have own9 : zac w7 w3.heap.size (.slice A7 (L.length + 1) c7) (L ++ [zaP z x]) := by rw [<- e9]; exact own7
          exact ⟨_, Boxed.set _ bx7, ownsRow_setCell_other (a := ⟨K, 0, none⟩) own9 (bx7.not_row (by decide) own9).symm _, ((((Below.drew Hb6.o)).alloc HW.o _).trans hb7).setCell hK _⟩
        case rest =>
         revert hcut; generalize wc = w7; intro hcut; obtain ⟨v7, bx7, own7, hb7⟩ := hcut; have hM : (L ++ [zaP z x]).length = L.length + 1 := by simp
         obtain ⟨M, hMe⟩ : ∃ M, L ++ [zaP z x] = M := ⟨_, rfl⟩
         rw [hMe] at own7 hM; obtain ⟨A7, c7, rfl, _⟩ := zae own7; rw [hM] at own7 bx7; have bxc7 := bx7.cell; have Bx7 := yq bx7; have Ow7 := yq own7; have Hb7 := yq hb7; have HMe := yq hMe; have hLn := HLn.o; clear bx7 own7 hb7 hM hMe; go_wp2_with fail
         refine ⟨⟨k + 1, (L.length : Int), _, _, M, by omega, rfl, ?_, rfl, ?_, Bx7.o, Ow7.o, Hb7.o⟩, by simp [intOf]; omega⟩
         · omega
         rw [List.take_add_one, ye (show k < (d :: cs).length by simpa using hlt), List.foldl_append, HLb.o]; have hxe : (d :: cs)[k]'(by simpa using hlt) = x := by rw [<- Hx.o, yg, ye (show k < (d :: cs).length by simpa using hlt)]; rfl
         rw [hxe]; show (L ++ [zaP z x], (L.length : Int)) = _
         rw [HMe.o]
      · have hkn : k = cs.length + 1 := by omega
        subst hkn; have hki : ¬ ((q : Int) < (cs.length : Int) + 2) := by omega
        have hL : L = zjb xs (c :: d :: cs) := by
         have := HLb.o; rw [List.take_of_length_le yS] at this; rw [zjb, this]
        have hb9 : Boxed wr w.heap.size 26 (.slice none 0 0) := Boxed.up BX3.o (HB5.o.trans Hb6.o) yO; have c9 := hb9.cell; have f9 := hb9.frozen; have HL' := yq hL; have Hb9 := yq hb9; clear hL hb9; go_wp2_with fail
        refine bodyPost_ret (v := .agg #[.slice Ak L.length ck]) (by simp [results, Tryz.results91, go_sem, (Boxed.set (Value.slice Ak L.length ck) Hb9.o).cell]) rfl ⟨(HB3.o.trans ((HB5.o.trans Hb6.o).mono yO)).setCell yL _, _, ?_, rfl⟩
        rw [<- HL'.o]; exact zad (ownsRow_setCell_other (a := ⟨w.heap.size, 0, none⟩) Hok.o (Hb9.o.not_row (by decide) Hok.o).symm _) yO
end Go.Proofs.YtejgbfgocaggfaaGreatDoor
