import Derived.Test.YtejgbfgocaggfaaGreatDoorM17
import Derived.ChangeKeysEq
set_option maxRecDepth 100000
set_option maxHeartbeats 8000000
namespace Go.Proofs.YtejgbfgocaggfaaGreatDoor
open Go.RowKit
def zhH (xs : List zaa) (s : Nat × Nat) (r : Nat) : Nat × Nat := ((s.1 * (zef xs r).1 % pF + (zeg xs r).1) % pF, (s.2 * (zef xs r).2 % pF + (zeg xs r).2) % pF)
structure Wv (w : World) (P : Nat) (xs : List zaa) (ls : List Int) (vR vL : Value) (AM : Option Addr) (cM : Nat) (AS : Option Addr) (cS : Nat) : Prop where
 box : Blk w P #[vR, vL, .slice AM xs.length cM, .slice AS xs.length cS] 161
 len : Sl zgt w w.heap.size vL ls
 rul : Sl zar w w.heap.size vR xs
 mrk : zdP w 0 (.slice AM xs.length cM) (zjO xs xs.length)
 stp : zdP w 0 (.slice AS xs.length cS) (zjP xs xs.length)
theorem Wv.up {w w' : World} {P : Nat} {xs : List zaa} {ls : List Int} {vR vL : Value} {AM AS : Option Addr} {cM cS : Nat} (h : Wv w P xs ls vR vL AM cM AS cS) (hb : Below w.heap.size w w') : Wv w' P xs ls vR vL AM cM AS cS :=
 ⟨h.box.up hb, h.len.up hb, h.rul.up hb, zaI h.mrk hb, zaI h.stp hb⟩
structure PJ (w0 : World) (bo : Nat) (C : Nat -> Prop) (s : Nat × Nat) (w : World) : Prop where
 wk : Wk (fun b => b < w0.heap.size /\ b ≠ bo) w0 w
 cell : Blk w bo #[.int .u64 (s.1 : Int), .int .u64 (s.2 : Int)] 163
 nc : ¬ C bo
 lt : s.1 < pF /\ s.2 < pF
theorem PJ.ext {w0 : World} {bo : Nat} (hbs : bo < w0.heap.size) : ∀ C s w w', PJ w0 bo C s w -> Below w.heap.size w w' -> (∀ b, C b -> b < w.heap.size) -> PJ w0 bo (ext C w.heap.size w'.heap.size) s w' := by
 intro C s w w' h hb hC; have hsz := h.wk.size; refine ⟨h.wk.trans (Wk.of_below hb fun k hk => by have := hk.1; omega), h.cell.up hb, ?_, h.lt⟩
 intro h'; rcases h' with h' | h'
 · exact h.nc h'
 · omega
theorem Wk.heap {C : Nat -> Prop} {w w' : World} {k : Nat} {o : Obj} (h : Wk C w w') (hk : C k) (ho : w.heap[k]? = some o) : w'.heap[k]? = some o := (h.block k hk).trans ho
theorem zpg {w W : World} {p1 p2 p3 p4 p5 p6 p7 p8 p9 : Addr} {v1 v2 v3 v4 v5 v6 v7 v8 v9 : Value} (h1 : CI w p1 v1) (h2 : CI w p2 v2) (h3 : CI w p3 v3) (h4 : CI w p4 v4) (h5 : CI w p5 v5) (h6 : CI w p6 v6) (h7 : CI w p7 v7) (h8 : CI w p8 v8) (h9 : CI w p9 v9) (hb : Below w.heap.size w W) : W.cell? p1 = some v1 /\ W.cell? p2 = some v2 /\ W.cell? p3 = some v3 /\ W.cell? p4 = some v4 /\ W.cell? p5 = some v5 /\ W.cell? p6 = some v6 /\ W.cell? p7 = some v7 /\ W.cell? p8 = some v8 /\ W.cell? p9 = some v9 :=
 ⟨h1.up hb, h2.up hb, h3.up hb, h4.up hb, h5.up hb, h6.up hb, h7.up hb, h8.up hb, h9.up hb⟩
theorem zkt (w0 : World) (bo bw P : Nat) (xs : List zaa) (ls : List Int) (vR vL : Value) (AM AS : Option Addr) (cM cS : Nat) (hbo : bo < w0.heap.size) (hbw : bw ≠ bo) (hP : P ≠ bo) (hw : w0.cell? ⟨bw, 0, none⟩ = some (.pointer (some ⟨P, 0, none⟩)))
  (hW : Wv w0 P xs ls vR vL AM cM AS cS) (hM : ∀ g, (Value.slice AM xs.length cM).ownBlock = some g -> g ≠ bo) (hS : ∀ g, (Value.slice AS xs.length cS).ownBlock = some g -> g ≠ bo) :
  ∀ C s (r : Nat) (w : World), PJ w0 bo C s w -> r < xs.length -> (∀ b, C b -> b < w.heap.size) -> Calls Tryz.prog 160 (#[.int .i64 r] ++ #[.pointer (some ⟨bo, 0, none⟩), .pointer (some ⟨bw, 0, none⟩)]) w (zdV (PJ w0 bo) C (zhH xs s r) w) := by
 intro C s r w hJ hr hC; have HJ := yq hJ; have HC := yq hC; have hwl : bw < w0.heap.size := World.block_lt_of_cell? _ _ hw; obtain ⟨g, capM, eM, _, hgl, m1, m2⟩ := hW.mrk.cells (zm8 (xs := xs) hr); obtain ⟨g', capS, eS, _, hgl', n1, n2⟩ := hW.stp.cells (zm9 (xs := xs) hr); injection eM with eM1 eM2 eM3; injection eS with eS1 eS2 eS3; subst eM1 eS1; clear eM2 eM3 eS2 eS3; have hgo := hM g rfl; have hgo' := hS g' rfl; have hk := hJ.wk; have hsz := hk.size; have up : ∀ {k o : Nat} {v : Value}, k < w0.heap.size -> k ≠ bo -> w0.cell? ⟨k, o, none⟩ = some v -> CI w ⟨k, o, none⟩ v := fun {k o v} a b c => ⟨hk.cell ⟨a, b⟩ c, by show k < _; omega⟩
 have k1 := hJ.cell.ci (i := 0) rfl; have k2 := hJ.cell.ci (i := 1) rfl; have k3 := up hwl hbw hw; have k4 := up hW.box.lt hP (hW.box.cell (i := 2) (v := .slice (some ⟨g, 0, none⟩) xs.length cM) rfl); have k5 := up hW.box.lt hP (hW.box.cell (i := 3) (v := .slice (some ⟨g', 0, none⟩) xs.length cS) rfl); have k6 := up hgl hgo m1; have k7 := up hgl hgo m2; have k8 := up hgl' hgo' n1; have k9 := up hgl' hgo' n2; obtain ⟨q1, q2⟩ := hJ.lt; obtain ⟨q3, q4⟩ := zna xs r; obtain ⟨q5, q6⟩ := zpe xs r; have HST := yq (show zhH xs s r = ((s.1 * (zef xs r).1 % pF + (zeg xs r).1) % pF, (s.2 * (zef xs r).2 % pF + (zeg xs r).2) % pF) from rfl); clear m1 m2 n1 n2 hM hS hW hw up hJ hC hk; generalize zeg xs r = mk at *; generalize zef xs r = st at *; obtain ⟨a1, a2⟩ := s; obtain ⟨b1, b2⟩ := mk; obtain ⟨c1, c2⟩ := st; have CT := fun W => zg8 a1 a2 c1 c2 W q1 q2 q5 q6; have CP := fun W => zk3 (a1 * c1 % pF) (a2 * c2 % pF) b1 b2 W (Nat.mod_lt _ (by decide)) (Nat.mod_lt _ (by decide)) q3 q4; have HL := yq (show (a1 * c1 % pF + b1) % pF < pF /\ (a2 * c2 % pF + b2) % pF < pF from ⟨Nat.mod_lt _ (by decide), Nat.mod_lt _ (by decide)⟩); have HS2 := yq (show zhH xs (a1, a2) r = ((a1 * c1 % pF + b1) % pF, (a2 * c2 % pF + b2) % pF) from HST.o); obtain ⟨x1, hx1⟩ : ∃ x, a1 * c1 % pF = x := ⟨_, rfl⟩
 obtain ⟨x2, hx2⟩ : ∃ x, a2 * c2 % pF = x := ⟨_, rfl⟩
 rw [hx1, hx2] at CP HL HS2; simp only [hx1, hx2] at CT
 obtain ⟨y1, hy1⟩ : ∃ x, (x1 + b1) % pF = x := ⟨_, rfl⟩
 obtain ⟨y2, hy2⟩ : ∃ x, (x2 + b2) % pF = x := ⟨_, rfl⟩
 rw [hy1, hy2] at HL HS2; simp only [hy1, hy2] at CP
 have HCT := yq CT; have HCP := yq CP; clear CT CP; have hri : (r : Int) < (xs.length : Int) := by omega
 have hr0 : (0 : Int) <= (r : Int) := by omega
 clear HST hx1 hx2 hy1 hy2 q1 q2 q3 q4 q5 q6 hwl hgl hgl'; show Calls Tryz.prog 160 #[.int .i64 r, .pointer (some ⟨bo, 0, none⟩), .pointer (some ⟨bw, 0, none⟩)] w _
 go_enter Tryz.func160, Tryz.ntmps160
 refine zhG (fun w' => w'.cell? ⟨bo, 0, none⟩ = some (.int .u64 (a1 : Int)) /\ w'.cell? ⟨bo, 1, none⟩ = some (.int .u64 (a2 : Int)) /\ w'.cell? ⟨bw, 0, none⟩ = some (.pointer (some ⟨P, 0, none⟩)) /\ w'.cell? ⟨P, 2, none⟩ = some (.slice (some ⟨g, 0, none⟩) xs.length cM) /\ w'.cell? ⟨P, 3, none⟩ = some (.slice (some ⟨g', 0, none⟩) xs.length cS) /\
  w'.cell? ⟨g, r * 2, none⟩ = some (.int .u64 (b1 : Int)) /\ w'.cell? ⟨g, r * 2 + 1, none⟩ = some (.int .u64 (b2 : Int)) /\ w'.cell? ⟨g', r * 2, none⟩ = some (.int .u64 (c1 : Int)) /\ w'.cell? ⟨g', r * 2 + 1, none⟩ = some (.int .u64 (c2 : Int))) 17 yk yk (zpg k1 k2 k3 k4 k5 k6 k7 k8 k9 (Below.drew (Below.refl _ _))) (fun hHeld => ?_)
 refine zaL (Array.replicate 18 false) 0 _ ?_ yk rfl yk (fun _ _ _ h => h) yR ?_ hHeld ?_
 rotate_left 1
 · intro w8 hSw
   obtain ⟨s1, s2, s3, s4, s5, s6, s7, s8, s9⟩ := hSw; go_simp
   try with_reducible rfl
 simp only [Act.put]
 refine zaL (Array.replicate 18 false) 1 _ ?_ yk rfl yk (fun _ _ _ h => h) yR ?_ hHeld ?_
 rotate_left 1
 · intro w8 hSw
   obtain ⟨s1, s2, s3, s4, s5, s6, s7, s8, s9⟩ := hSw; go_simp
   try with_reducible rfl
 simp only [Act.put]
 refine zaL (Array.replicate 18 false) 2 _ ?_ yk rfl yk (fun _ _ _ h => h) yR ?_ hHeld ?_
 rotate_left 1
 · intro w8 hSw
   obtain ⟨s1, s2, s3, s4, s5, s6, s7, s8, s9⟩ := hSw; go_simp
   try with_reducible rfl
 simp only [Act.put]
 refine zaL (Array.replicate 18 false) 3 _ ?_ yk rfl yk (fun _ _ _ h => h) yR ?_ hHeld ?_
 rotate_left 1
 · intro w8 hSw
   obtain ⟨s1, s2, s3, s4, s5, s6, s7, s8, s9⟩ := hSw; go_simp
   try with_reducible rfl
 simp only [Act.put]
 refine zaL (Array.replicate 18 false) 4 _ ?_ yk rfl yk (fun _ _ _ h => h) yR ?_ hHeld ?_
 rotate_left 1
 · intro w8 hSw
   obtain ⟨s1, s2, s3, s4, s5, s6, s7, s8, s9⟩ := hSw; go_simp
   try with_reducible rfl
 simp only [Act.put]
 refine zaL (Array.replicate 18 false) 5 _ ?_ yk rfl yk (fun _ _ _ h => h) yR ?_ hHeld ?_
 rotate_left 1
 · intro w8 hSw
   obtain ⟨s1, s2, s3, s4, s5, s6, s7, s8, s9⟩ := hSw; go_simp
   try with_reducible rfl
 simp only [Act.put]
 refine zaL (Array.replicate 18 false) 6 _ ?_ yk rfl yk (fun _ _ _ h => h) yR ?_ hHeld ?_
 rotate_left 1
 · intro w8 hSw
   obtain ⟨s1, s2, s3, s4, s5, s6, s7, s8, s9⟩ := hSw; go_simp
   try with_reducible rfl
 simp only [Act.put]
 refine zaL (Array.replicate 18 false) 7 _ ?_ yk rfl yk (fun _ _ _ h => h) yR ?_ hHeld ?_
 rotate_left 1
 · intro w8 hSw
   obtain ⟨s1, s2, s3, s4, s5, s6, s7, s8, s9⟩ := hSw; go_simp
   try with_reducible rfl
 simp only [Act.put]
 refine zaL (Array.replicate 18 false) 9 _ ?_ yk rfl yk (fun _ _ _ h => h) yR ?_ hHeld ?_
 rotate_left 1
 · intro w8 hSw
   obtain ⟨s1, s2, s3, s4, s5, s6, s7, s8, s9⟩ := hSw; go_simp
   try with_reducible rfl
 simp only [Act.put]
 refine zaL (Array.replicate 18 false) 10 _ ?_ yk rfl yk (fun _ _ _ h => h) yR ?_ hHeld ?_
 rotate_left 1
 · intro w8 hSw
   obtain ⟨s1, s2, s3, s4, s5, s6, s7, s8, s9⟩ := hSw; go_simp
   try with_reducible rfl
 simp only [Act.put]
 refine zaL (Array.replicate 18 false) 11 _ ?_ yk rfl yk (fun _ _ _ h => h) yR ?_ hHeld ?_
 rotate_left 1
 · intro w8 hSw
   obtain ⟨s1, s2, s3, s4, s5, s6, s7, s8, s9⟩ := hSw; go_simp
   try with_reducible rfl
 simp only [Act.put]
 refine zaL (Array.replicate 18 false) 12 _ ?_ yk rfl yk (fun _ _ _ h => h) yR ?_ hHeld ?_
 rotate_left 1
 · intro w8 hSw
   obtain ⟨s1, s2, s3, s4, s5, s6, s7, s8, s9⟩ := hSw; go_simp
   try with_reducible rfl
 simp only [Act.put]
 refine zaL (Array.replicate 18 false) 13 _ ?_ yk rfl yk (fun _ _ _ h => h) yR ?_ hHeld ?_
 rotate_left 1
 · intro w8 hSw
   obtain ⟨s1, s2, s3, s4, s5, s6, s7, s8, s9⟩ := hSw; go_simp
   try with_reducible rfl
 simp only [Act.put]
 refine zaL (Array.replicate 18 false) 14 _ ?_ yk rfl yk (fun _ _ _ h => h) yR ?_ hHeld ?_
 rotate_left 1
 · intro w8 hSw
   obtain ⟨s1, s2, s3, s4, s5, s6, s7, s8, s9⟩ := hSw; go_simp
   try with_reducible rfl
 simp only [Act.put]
 refine zaL (Array.replicate 18 false) 15 _ ?_ yk rfl yk (fun _ _ _ h => h) yR ?_ hHeld ?_
 rotate_left 1
 · intro w8 hSw
   obtain ⟨s1, s2, s3, s4, s5, s6, s7, s8, s9⟩ := hSw; go_simp
   try with_reducible rfl
 simp only [Act.put]
 refine zbS [8] yk ?_
 refine zaE.cons (o := _) rfl (fun K hK => ?_) zaE.nil
 go_simp
 go_at_call 125
 refine (HCT.o _).mono ?_
 rintro e8 w8 ⟨hb8, rfl⟩; have B8 : Below w.heap.size w w8 := Below.undrew hb8; go_wp2_with fail
 refine hK.out _ _ (zpg k1 k2 k3 k4 k5 k6 k7 k8 k9 B8) (fun hHeld => ?_)
 clear hK K; refine zbS [16] yk ?_
 refine zaE.cons (o := _) rfl (fun K hK => ?_) zaE.nil
 go_simp
 go_at_call 126
 refine (HCP.o _).mono ?_
 rintro e9 w9 ⟨hb9, rfl⟩; have B9 : Below w.heap.size w w9 := Below.tr B8 hb9; go_wp2_with fail
 refine hK.out _ _ (zpg k1 k2 k3 k4 k5 k6 k7 k8 k9 B9) (fun hHeld => ?_)
 clear hK K; refine zfJ yk ?_
 simp only [List.drop_succ_cons, List.drop_zero]
 have KO := HJ.o.cell.up B9; have g0 := Blk.cell (i := 0) KO rfl; have g1 := Blk.cell (i := 1) KO rfl; have f0 := Blk.frozen KO 0; have f1 := Blk.frozen KO 1; have gL := Blk.lt KO; have HKO := yq KO; have HB9 := yq B9; clear KO hHeld hb8 hb9 B8 B9 k1 k2 k3 k4 k5 k6 k7 k8 k9; go_wp2_with fail
 go_end0
 have hwk : Wk C w ((w9.setCell ⟨bo, 0, none⟩ (.int .u64 (y1 : Int))).setCell ⟨bo, 1, none⟩ (.int .u64 (y2 : Int))) :=
  ⟨HB9.o.os, HB9.o.tape, HB9.o.output, by have := HB9.o.size; simpa [World.setCell] using this, fun k hk => (Below.heap_setCell _ ⟨bo, 1, none⟩ _ k (fun e => HJ.o.nc (by subst e; exact hk))).trans ((Below.heap_setCell _ ⟨bo, 0, none⟩ _ k (fun e => HJ.o.nc (by subst e; exact hk))).trans (HB9.o.block k (HC.o k hk)))⟩
 have hw0 : Wk (fun b => b < w0.heap.size /\ b ≠ bo) w ((w9.setCell ⟨bo, 0, none⟩ (.int .u64 (y1 : Int))).setCell ⟨bo, 1, none⟩ (.int .u64 (y2 : Int))) :=
  ⟨HB9.o.os, HB9.o.tape, HB9.o.output, by have := HB9.o.size; simpa [World.setCell] using this, fun k hk => (Below.heap_setCell _ ⟨bo, 1, none⟩ _ k hk.2).trans ((Below.heap_setCell _ ⟨bo, 0, none⟩ _ k hk.2).trans (HB9.o.block k (by have := hk.1; omega)))⟩
 refine ⟨rfl, C, fun _ h => h, ?_, ⟨HJ.o.wk.trans hw0, ?_, HJ.o.nc, by rw [HS2.o]; exact HL.o⟩, hwk⟩
 · intro b h
   have := HC.o b h; have := hwk.size; omega
 · rw [HS2.o]; exact (HKO.o.set 0 _).set 1 _
theorem znh (P : Nat) (xs : List zaa) (ls : List Int) (vR vL : Value) (AM AS : Option Addr) (cM cS : Nat) (i j : Int) (w : World) (hW : Wv w P xs ls vR vL AM cM AS cS) (hl : zaW xs = some ls) (hn : xs.length <= 1048576) :
  Calls Tryz.prog 127 #[.pointer (some ⟨P, 0, none⟩), .int .i64 i, .int .i64 j] w fun e w' => Below w.heap.size w w' /\ e = .returned (prV ((za3 xs ls i j).foldl (zhH xs) (0, 0)).1 ((za3 xs ls i j).foldl (zhH xs) (0, 0)).2) := by
 have HW := yq hW; have HL := yq hl; obtain ⟨AR, cR, rfl, _⟩ := hW.rul; obtain ⟨AL, cL, rfl, _⟩ := hW.len; clear hW hl; go_enter Tryz.func127, Tryz.ntmps127
 have ba := (((Below.refl w.heap.size w).alloc yL (Obj.cells #[.pointer (some ⟨P, 0, none⟩)] 82)).alloc yS (Obj.cells #[.int .u64 0, .int .u64 0] 163)).alloc (by simp; omega) (Obj.cells #[.int .u64 0, .int .u64 0] 163); have kN := ((Blk.new w #[.pointer (some ⟨P, 0, none⟩)] 82).alloc (Obj.cells #[.int .u64 0, .int .u64 0] 163)).alloc (Obj.cells #[.int .u64 0, .int .u64 0] 163); have kR := (Blk.new (w.alloc (Obj.cells #[.pointer (some ⟨P, 0, none⟩)] 82)) #[.int .u64 0, .int .u64 0] 163).alloc (Obj.cells #[.int .u64 0, .int .u64 0] 163); have kO := Blk.new ((w.alloc (Obj.cells #[.pointer (some ⟨P, 0, none⟩)] 82)).alloc (Obj.cells #[.int .u64 0, .int .u64 0] 163)) #[.int .u64 0, .int .u64 0] 163; have z1 : (w.alloc (Obj.cells #[.pointer (some ⟨P, 0, none⟩)] 82)).heap.size = w.heap.size + 1 := by simp
 have z2 : ((w.alloc (Obj.cells #[.pointer (some ⟨P, 0, none⟩)] 82)).alloc (Obj.cells #[.int .u64 0, .int .u64 0] 163)).heap.size = w.heap.size + 1 + 1 := by simp
 rw [z1] at kR; rw [z2] at kO; have HBA := yq ba; have HKN := yq kN; have HKR := yq kR; have HKO := yq kO; clear ba kN kR kO z1 z2; go_upto_region 2 with fail
 revert HBA HKN HKR HKO; generalize (((w.alloc (Obj.cells #[.pointer (some ⟨P, 0, none⟩)] 82)).alloc (Obj.cells #[.int .u64 0, .int .u64 0] 163)).alloc (Obj.cells #[.int .u64 0, .int .u64 0] 163)) = W; intro HBA HKN HKR HKO; have HWW := yq (HW.o.up HBA.o); have hPl : P < w.heap.size := HW.o.box.lt; obtain ⟨N, hN⟩ : ∃ N, w.heap.size = N := ⟨_, rfl⟩
 have HN := yq hN; rw [hN] at HKN HKR HKO hPl; rw [hN]; clear hN; have c0 := Blk.cell (i := 0) (v := .pointer (some ⟨P, 0, none⟩)) HKN.o rfl; have c1 := Blk.cell (i := 0) (v := .slice AR xs.length cR) HWW.o.box rfl; have c2 := Blk.cell (i := 1) (v := .slice AL ls.length cL) HWW.o.box rfl; have l0 := Blk.lt HKN.o; have l1 := Blk.lt HWW.o.box; refine wp_region_still_tail 11 yk yk ?_
 simp only [List.take_succ_cons, List.take_zero, List.drop_succ_cons, List.drop_zero]
 still_step
 still_step
 still_step
 still_step
 still_step
 still_step
 still_step
 still_step
 still_step
 still_step
 still_step
 refine wpStill_nil ?_
 go_wp2_with fail
 have WD := yq (HWW.o.up (Below.drew (Below.refl W.heap.size W))); have KND := yq (Blk.drew HKN.o); have KRD := yq (Blk.drew HKR.o); have KOD := yq (Blk.drew HKO.o); have HBD := yq (Below.drew HBA.o)
 have hMg : ∀ g, (Value.slice AM xs.length cM).ownBlock = some g -> g ≠ N + 1 + 1 := fun g e => by
  have h1 := (World.ownsRow.lt HW.o.mrk g e).2; have := HN.o; omega
 have hSg : ∀ g, (Value.slice AS xs.length cS).ownBlock = some g -> g ≠ N + 1 + 1 := fun g e => by
  have h1 := (World.ownsRow.lt HW.o.stp g e).2; have := HN.o; omega
 clear c0 c1 c2 l0 l1 HKN HKR HKO HBA HWW; generalize W.drew = W0 at *; have hO : N + 1 + 1 < W0.heap.size := KOD.o.lt; have hcl := zkt W0 (N + 1 + 1) N P xs ls (.slice AR xs.length cR) (.slice AL ls.length cL) AM AS cM cS hO yO yO (KND.o.cell rfl) WD.o hMg hSg
 refine (zfU (PJ W0 (N + 1 + 1)) (zhH xs) (fun _ _ => True) 160 #[.pointer (some ⟨N + 1 + 1, 0, none⟩), .pointer (some ⟨N, 0, none⟩)] xs ls i j HL.o yO (enters_of Tryz.func160 yk rfl) (fun C s w w' hJ hb _ hC => PJ.ext hO C s w w' hJ hb hC)
  (fun C s r w hJ _ hr hC => hcl C s r w hJ hr hC) _ _ (0, 0) (fun b => b < w.heap.size) W0 ⟨Wk.refl _ _, KOD.o, by have := HN.o; omega, by decide⟩ (zlg.all fun _ _ => trivial) (fun b hb => by have := HN.o; omega) ?_ ?_).mono ?_
 · exact HW.o.len.keep (zgy.of_below HBD.o)
 · exact HW.o.rul.keep (zgy.of_below HBD.o)
 · rintro e w2 ⟨rfl, C2, g1, g2, g3, g4⟩
   obtain ⟨s, hs⟩ : ∃ s, (za3 xs ls i j).foldl (zhH xs) (0, 0) = s := ⟨_, rfl⟩
   rw [hs] at g3; have Hs := yq hs; have HB2 := yq (HBD.o.trans (g3.wk.below (B := w.heap.size) fun k hk => ⟨by have := HN.o; omega, by have := HN.o; omega⟩)); have HG := yq g3; have KR2 := yq (show Blk w2 (N + 1) #[.int .u64 0, .int .u64 0] 163 from g3.wk.heap ⟨by omega, by omega⟩ KRD.o); obtain ⟨s1, s2⟩ := s; have c0 := Blk.cell (i := 0) g3.cell rfl; have c1 := Blk.cell (i := 1) g3.cell rfl; have d0 := Blk.frozen KR2.o 0; have d1 := Blk.frozen KR2.o 1; have e0 := Blk.cell (i := 0) KR2.o rfl; have e1 := Blk.cell (i := 1) KR2.o rfl; have lR := Blk.lt KR2.o; have lO := Blk.lt g3.cell; clear g1 g2 g3 g4 hcl hs; go_wp2_with fail
   refine bodyPost_ret (v := .agg #[.int .u64 (s1 : Int), .int .u64 (s2 : Int)]) (by simp [results, Tryz.results127, go_sem, e0, e1]) rfl ⟨?_, by rw [Hs.o]; rfl⟩
   exact (HB2.o.setCell (p := ⟨N + 1, 0, none⟩) (by show w.heap.size <= N + 1; have := HN.o; omega) _).setCell (p := ⟨N + 1, 1, none⟩) (by show w.heap.size <= N + 1; have := HN.o; omega) _
def prG (xs : List zaa) : Nat × Nat := (zjD bA (zau xs), zjD bB (zau xs))
theorem zni {xs : List zaa} {ls : List Int} (hl : zaW xs = some ls) : (za3 xs ls 0 (zao ls)).foldl (zhH xs) (0, 0) = prG xs := by
 rw [zlM hl]; by_cases h0 : xs.length = 0
 · have : xs = [] := yn h0
   subst this; rfl
 · rw [if_neg h0]
   show zhH xs (0, 0) (xs.length - 1) = _
   unfold zhH prG; rw [za6 yO]; simp only [Nat.zero_mul, Nat.zero_mod, Nat.zero_add]
   rw [Nat.mod_eq_of_lt (zna xs _).1, Nat.mod_eq_of_lt (zna xs _).2]; rfl
def eqG (xs ys : List zaa) : Bool := decide (zaF xs = zaF ys) && decide (prG xs = prG ys)
theorem zpM {xs ys : List zaa} (hx : zag xs = true) (hy : zag ys = true) (h : zau xs = zau ys) : eqG xs ys = true := by
 obtain ⟨_, lx, h1⟩ := zai hx; obtain ⟨_, ly, h2⟩ := zai hy; unfold eqG prG; rw [zaD h1, zaD h2, <- zbf h1, <- zbf h2, h]; simp
def WvP (w : World) (P : Nat) (xs : List zaa) : Prop := ∃ ls vR vL AM cM AS cS, zaW xs = some ls /\ xs.length <= 400 /\ Wv w P xs ls vR vL AM cM AS cS
theorem WvP.up {w w' : World} {P : Nat} {xs : List zaa} (h : WvP w P xs) (hb : Below w.heap.size w w') : WvP w' P xs := by
 obtain ⟨ls, vR, vL, AM, cM, AS, cS, h1, h2, h3⟩ := h; exact ⟨ls, vR, vL, AM, cM, AS, cS, h1, h2, h3.up hb⟩
theorem zgn (v : Value) (xs : List zaa) (w : World) (h : Sl zar w w.heap.size v xs) (hg : zag xs = true) :
  Calls Tryz.prog 80 #[.agg #[v]] w fun e w' => ∃ P, e = .returned (.tuple #[.pointer (some ⟨P, 0, none⟩), .bool true]) /\ WvP w' P xs /\ Below w.heap.size w w' := by
 refine (zjE v xs w h hg).mono ?_
 rintro e w' ⟨P, ls, vL, AM, cM, AS, cS, rfl, hl, hP, S⟩; refine ⟨P, rfl, ⟨ls, v, vL, AM, cM, AS, cS, hl, (zai hg).1, S.box, ?_, h.up S.bel, zad S.mrk yO, zad S.stp yO⟩, S.bel⟩
 exact zan.sl S.len
theorem zeC (P : Nat) (xs : List zaa) (w : World) (h : WvP w P xs) :
  Calls Tryz.prog 81 #[.pointer (some ⟨P, 0, none⟩)] w fun e w' => e = .returned (.int .i64 (zaF xs)) /\ Below w.heap.size w w' := by
 obtain ⟨ls, vR, vL, AM, cM, AS, cS, h1, h2, h3⟩ := h; have HL := yq h3.len; have c1 := Blk.cell (i := 1) (v := vL) h3.box rfl; have l1 := h3.box.lt; obtain ⟨AL, cL, rfl, _⟩ := h3.len; have hgl := yq (zaD h1); clear h3 h1; go_enter Tryz.func81, Tryz.ntmps81
 go_wp2_with fail
 refine (zdX _ ls _ HL.o).mono ?_
 rintro e w' ⟨rfl, rfl⟩; go_wp2_with fail
 go_ret
 exact ⟨zdt (by rw [hgl.o]), Below.refl _ _⟩
theorem zhb (P : Nat) (xs : List zaa) (n : Int) (w : World) (h : WvP w P xs) (hn : n = zaF xs) :
  Calls Tryz.prog 127 #[.pointer (some ⟨P, 0, none⟩), .int .i64 0, .int .i64 n] w fun e w' => Below w.heap.size w w' /\ e = .returned (prV (prG xs).1 (prG xs).2) := by
 obtain ⟨ls, vR, vL, AM, cM, AS, cS, h1, h2, h3⟩ := h; have := znh P xs ls vR vL AM AS cM cS 0 n w h3 h1 yO; rw [hn, zaD h1, zni h1] at this; rw [hn, zaD h1]; exact this
theorem zku (xs : List zaa) : 0 <= zaF xs /\ zaF xs <= 1000000000000000 := za4 xs
theorem zoh (a1 a2 b1 b2 : Nat) (w : World) : (Op.equalIn 10000 163 (.agg #[.int .u64 (a1 : Int), .int .u64 (a2 : Int)]) (.agg #[.int .u64 (b1 : Int), .int .u64 (b2 : Int)])).run Tryz.prog w = .ok (decide (a1 = b1) && decide (a2 = b2)) w := by
 obtain ⟨i, hi⟩ : ∃ i, Tryz.prog.info? 90 = some i := Option.isSome_iff_exists.1 yk; have hp : Tryz.prog.plainKey 90 = true := by kernel_rfl
 have hc : Tryz.prog.cellsOf 90 = 1 := by kernel_rfl
 have pA0 := fun w => run_part_plain w hp (xs := #[.int .u64 (a1 : Int), .int .u64 (a2 : Int)]) (off := 0) (v := .int .u64 (a1 : Int)) rfl; have pA1 := fun w => run_part_plain w hp (xs := #[.int .u64 (a1 : Int), .int .u64 (a2 : Int)]) (off := 1) (v := .int .u64 (a2 : Int)) rfl; have pB0 := fun w => run_part_plain w hp (xs := #[.int .u64 (b1 : Int), .int .u64 (b2 : Int)]) (off := 0) (v := .int .u64 (b1 : Int)) rfl; have pB1 := fun w => run_part_plain w hp (xs := #[.int .u64 (b1 : Int), .int .u64 (b2 : Int)]) (off := 1) (v := .int .u64 (b2 : Int)) rfl
 have e0 : ∀ (x y : Nat), ((x : Int) == (y : Int)) = decide (x = y) := fun x y => by
  by_cases h : x = y
  · subst h; simp
  · rw [decide_eq_false h, beq_eq_false_iff_ne]; omega
 rw [run_equalIn_array w 9999 _ _ Tryz.underlying163 hi, hc, show List.range 2 = [0, 1] from rfl]; have q0 := fun w => run_equalIn_int w 9998 90 .u64 .u64 (a1 : Int) (b1 : Int) Tryz.underlying90; have q1 := fun w => run_equalIn_int w 9998 90 .u64 .u64 (a2 : Int) (b2 : Int) Tryz.underlying90; simp only [Op.eqItems, Sem.run_bind, Nat.zero_mul, pA0, pB0, Result.andThen_ok, q0, e0]
 generalize decide (a1 = b1) = x; cases x with
 | false => rfl
 | true =>
   simp only [Sem.run_bind, Nat.one_mul, pA1, pB1, Result.andThen_ok, q1, e0, Bool.not_true, Bool.false_eq_true, if_false]
   generalize decide (a2 = b2) = y; cases y <;> rfl
theorem zkv (P Q : Nat) (xs ys : List zaa) (n : Int) (w : World) (h : WvP w P xs) (h' : WvP w Q ys) (hn : n = zaF xs) (hn' : n = zaF ys) :
  Calls Tryz.prog 82 #[.pointer (some ⟨P, 0, none⟩), .int .i64 0, .pointer (some ⟨Q, 0, none⟩), .int .i64 0, .int .i64 n] w fun e w' => e = .returned (.bool (decide (prG xs = prG ys))) /\ Below w.heap.size w w' := by
 have HP := yq h; have HQ := yq h'; have HN := yq hn; have HN' := yq hn'; have hb := zku xs; rw [<- hn] at hb; obtain ⟨hb1, hb2⟩ := hb; clear h h' hn hn'; go_enter Tryz.func82, Tryz.ntmps82
 go_wp2_with fail
 refine (zhb P xs n _ HP.o HN.o).mono ?_
 rintro e w1 ⟨hb1, rfl⟩; have HB1 := yq hb1; clear hb1; go_wp2_with fail
 refine (zhb Q ys n _ (HQ.o.up HB1.o) HN'.o).mono ?_
 rintro e w2 ⟨hb2, rfl⟩; have HB2 := yq (Below.tr HB1.o hb2); clear hb2
 have HE := yq (show decide (prG xs = prG ys) = (decide ((prG xs).1 = (prG ys).1) && decide ((prG xs).2 = (prG ys).2)) from by
  rw [<- Bool.decide_and]; congr 1; exact propext Prod.ext_iff)
 obtain ⟨a1, h1⟩ : ∃ a, (prG xs).1 = a := ⟨_, rfl⟩
 obtain ⟨a2, h2⟩ : ∃ a, (prG xs).2 = a := ⟨_, rfl⟩
 obtain ⟨b1, h3⟩ : ∃ a, (prG ys).1 = a := ⟨_, rfl⟩
 obtain ⟨b2, h4⟩ : ∃ a, (prG ys).2 = a := ⟨_, rfl⟩
 rw [h1, h2, h3, h4] at HE; rw [h1, h2, h3, h4]; unfold prV; have hEQ := zoh a1 a2 b1 b2 w2; generalize (decide (a1 = b1) && decide (a2 = b2)) = bb at *; clear h1 h2 h3 h4; go_wp2_with fail
 go_ret
 exact ⟨zaf (by rw [HE.o]), HB2.o⟩
theorem zlN (P Q : Nat) (xs ys : List zaa) (w : World) (h : WvP w P xs) (h' : WvP w Q ys) :
  Calls Tryz.prog 48 #[.pointer (some ⟨P, 0, none⟩), .pointer (some ⟨Q, 0, none⟩)] w fun e w' => e = .returned (.bool (eqG xs ys)) /\ Below w.heap.size w w' := by
 have HP := yq h; have HQ := yq h'; clear h h'; have HE := yq (show eqG xs ys = (decide (zaF xs = zaF ys) && decide (prG xs = prG ys)) from rfl); obtain ⟨n, hn⟩ : ∃ n, zaF xs = n := ⟨_, rfl⟩
 obtain ⟨m, hm⟩ : ∃ m, zaF ys = m := ⟨_, rfl⟩
 rw [hn, hm] at HE; have HN := yq hn; have HM := yq hm; clear hn hm; go_enter Tryz.func48, Tryz.ntmps48
 go_wp2_with fail
 refine (zeC P xs _ HP.o).mono ?_
 rintro e w1 ⟨rfl, hb1⟩; rw [HN.o]; have HB1 := yq hb1; clear hb1; go_wp2_with fail
 refine (zeC Q ys _ (HQ.o.up HB1.o)).mono ?_
 rintro e w2 ⟨rfl, hb2⟩; rw [HM.o]; have HB2 := yq (Below.tr HB1.o hb2); clear hb2; by_cases e1 : n = m
 · subst e1
   go_wp2_with fail
   refine (zeC P xs _ (HP.o.up HB2.o)).mono ?_
   rintro e w3 ⟨rfl, hb3⟩; rw [HN.o]; have HB3 := yq (Below.tr HB2.o hb3); clear hb3; go_wp2_with fail
   refine (zkv P Q xs ys n _ (HP.o.up HB3.o) (HQ.o.up HB3.o) HN.o.symm HM.o.symm).mono ?_
   rintro e w4 ⟨rfl, hb4⟩; have HB4 := yq (Below.tr HB3.o hb4); clear hb4; go_wp2_with fail
   go_ret
   exact ⟨zaf (by rw [HE.o]; simp), HB4.o⟩
 · have f1 : (n == m) = false := by rw [beq_eq_false_iff_ne]; exact e1
   have E1 := yq e1; clear e1; go_wp2_with fail
   go_ret
   exact ⟨zaf (by rw [HE.o]; simp [E1.o]), HB2.o⟩
theorem zlO (v u : Value) (xs ys : List zaa) (w : World) (h : Sl zar w w.heap.size v xs) (h' : Sl zar w w.heap.size u ys) (hx : zag xs = true) (hy : zag ys = true) :
  Calls Tryz.prog 47 #[.agg #[v], .agg #[u]] w fun e w' => ∃ P Q, e = .returned (.tuple #[.pointer (some ⟨P, 0, none⟩), .pointer (some ⟨Q, 0, none⟩), .bool true]) /\ WvP w' P xs /\ WvP w' Q ys /\ Below w.heap.size w w' := by
 have H := yq h; have H' := yq h'; obtain ⟨A, c, rfl, _⟩ := h; obtain ⟨A', c', rfl, _⟩ := h'; have hX := yq hx; have hY := yq hy; clear hx hy; have HB := yq (fun o o' => ((Below.refl w.heap.size w).alloc yL o).alloc yS o'); have k1 := (Blk.new w #[.slice A xs.length c] 26).alloc (Obj.cells #[.slice A' ys.length c'] 26); have k2 := Blk.new (w.alloc (Obj.cells #[.slice A xs.length c] 26)) #[.slice A' ys.length c'] 26; rw [show (w.alloc (Obj.cells #[.slice A xs.length c] 26)).heap.size = w.heap.size + 1 by simp] at k2; have K2 := yq k2; have K1 := yq k1; clear k1 k2; go_enter Tryz.func47, Tryz.ntmps47
 go_wp2_with fail
 refine (zgn _ xs _ (H.o.up (HB.o _ _)) hX.o).mono ?_
 rintro e w1 ⟨P, rfl, hP, hb1⟩; have HP := yq hP; have HB1 := yq (Below.tr (HB.o _ _) hb1); have k2 := K2.o.up hb1; have c2 := Blk.cell (i := 0) (v := .slice A' ys.length c') k2 rfl; have l2 := Blk.lt k2; clear hb1 hP k2; go_wp2_with fail
 refine (zgn _ ys _ (H'.o.up HB1.o) hY.o).mono ?_
 rintro e w2 ⟨Q, rfl, hQ, hb2⟩; have HQ := yq hQ; have HP2 := yq (HP.o.up hb2); have HB2 := yq (Below.tr HB1.o hb2); clear hb2 hQ c2 l2; go_wp2_with fail
 go_ret3
 exact ⟨P, Q, rfl, HP2.o, HQ.o, HB2.o⟩
theorem zhI (v u : Value) (xs ys : List zaa) (w : World) (h : Sl zar w w.heap.size v xs) (h' : Sl zar w w.heap.size u ys) (hx : zag xs = true) (hy : zag ys = true) :
  Calls Tryz.prog 15 #[.agg #[v], .agg #[u]] w fun e w' => e = .returned (.tuple #[.bool (eqG xs ys), .int .i64 0]) /\ Below w.heap.size w w' := by
 have H := yq h; have H' := yq h'; obtain ⟨A, c, rfl, _⟩ := h; obtain ⟨A', c', rfl, _⟩ := h'; have hX := yq hx; have hY := yq hy; clear hx hy; have HB := yq (fun o o' => ((Below.refl w.heap.size w).alloc yL o).alloc yS o'); go_enter Tryz.func15, Tryz.ntmps15
 go_wp2_with fail
 refine (zlO _ _ xs ys _ (H.o.up (HB.o _ _)) (H'.o.up (HB.o _ _)) hX.o hY.o).mono ?_
 rintro e w1 ⟨P, Q, rfl, hP, hQ, hb1⟩; have HP := yq hP; have HQ := yq hQ; have HB1 := yq (Below.tr (HB.o _ _) hb1); clear hb1 hP hQ; go_wp2_with fail
 refine (zlN P Q xs ys _ HP.o HQ.o).mono ?_
 rintro e w2 ⟨rfl, hb2⟩; have HB2 := yq (Below.tr HB1.o hb2); clear hb2; go_wp2_with fail
 go_ret2
 exact ⟨rfl, HB2.o⟩
def zjF (e : zam) : Prop := e.kind = 5 \/ (e.kind = 6 /\ 0 <= e.k /\ e.k <= 1000000000000000) \/ (e.kind = 7 /\ zaB e.map = true /\ e.map.size = 4)
theorem zfi (E b K : Nat) (e : zam) (vR : Value) (xs : List zaa) (ls : List Int) (s : Option (List zaa)) (w : World) (hK : Blk w K #[.pointer (some ⟨b, 0, none⟩)] 135) (hA : Asm w b xs ls s) (hE : Blk w E (zbK e vR) 37)
  (hk : zjF e) (hl : zaW xs = some ls) (hn : xs.length <= 1048576) (htab : Lib.TabIs Tryz.prog w "math/bits.deBruijn64tab" .u8 zfc) :
  Calls Tryz.prog 97 #[.func (.func 101) #[] #[.pointer (some ⟨E, 0, none⟩)], .pointer (some ⟨K, 0, none⟩), .pointer (some ⟨E, 0, none⟩)] w
   fun e' w' => zlr e' /\ But b w w' /\ Asm w' b xs ls (zbC s ((zbt (zap xs ls e.i e.j)).bind (zed e))) := by
 have HA := yq hA; have HL := yq hl; have HT := yq htab; have HK := yq hk; have hlt := hA.lt; have x1 := hE.cell (i := 1) (v := .int .i64 e.i) rfl; have x2 := hE.cell (i := 2) (v := .int .i64 e.j) rfl; have xK := hK.cell (i := 0) (v := .pointer (some ⟨b, 0, none⟩)) rfl; have hE0 := yq hE; have hK0 := yq hK; clear hA hl htab hk hE hK; go_enter Tryz.func97, Tryz.ntmps97
 go_wp2_with fail
 refine (zgV b xs ls s e.i e.j _ HA.o HL.o hn).mono ?_
 rintro e1 w1 ⟨hb1, v1, own1, rfl⟩; have hE1 := yq (hE0.o.up hb1); have hK1 := yq (hK0.o.up hb1); have HA1 := yq (HA.o.up hb1); have HT1 := yq (zi0 HT.o hb1); have HO1 := yq own1; have HB1 := yq hb1; have lim1 := zhV (zap xs ls e.i e.j); obtain ⟨A1, k1, rfl, _⟩ := zae own1; have z1 := hb1.size; clear HA hE0 hK0 HT own1 hb1 x1 x2 xK; cases hg : zag (zap xs ls e.i e.j) with
 | true =>
   have q1 : zav (zap xs ls e.i e.j) = zap xs ls e.i e.j := by unfold zav; rw [hg]; rfl
   have q2 : zas (zap xs ls e.i e.j) = 0 := by unfold zas; rw [hg]; rfl
   have q3 : zbt (zap xs ls e.i e.j) = some (zap xs ls e.i e.j) := by unfold zbt; rw [hg]; rfl
   have Q3 := yq q3; have HG := yq hg; rw [q1] at HO1 lim1; rw [q1, q2]; clear q1 q2 q3 hg; generalize hpq : zap xs ls e.i e.j = p at *; have HPQ := yq hpq; clear hpq; have lK := hK1.o.lt; have hHO := HO1.o; go_wp2_with fail
   refine (zo3 E e vR _ p _ (hE1.o.alloc _) (zp2 hHO.sl yL yb) HG.o HK.o (zi0 HT1.o yb)).mono ?_
   rintro e2 w2 ⟨hb2, v2, out, c2, own2, hc2, rfl⟩; obtain ⟨hb3, K4⟩ := Below.unalloc hb2; have z3 := hb3.size; have hK2 := yq (hK1.o.up hb3); have HS3 := yq (fun (v : Value) => Below.setCell hb3 (show w1.heap.size <= (⟨w1.heap.size, 0, none⟩ : Addr).block from Nat.le_refl _) v); have HO2 := yq own2; have HC2 := yq hc2; have xK := hK2.o.cell (i := 0) (v := .pointer (some ⟨b, 0, none⟩)) rfl; have c4 := Blk.cell (i := 0) (v := .slice A1 p.length k1) K4 rfl; have f4 := Blk.frozen K4 0; have l4 := Blk.lt K4; have lK2 := hK2.o.lt; obtain ⟨A2, k2, rfl, _⟩ := zae own2; have hne : K ≠ w1.heap.size := by omega
   clear hHO hb2 hb3 own2 hc2 hK1 hE1; go_wp2_with fail
   refine (zeT b xs ls s (zed e p) (.slice A2 out.length k2) out c2 _ (HA1.o.up (HS3.o _)) ?_ HC2.o).mono ?_
   · exact zfa (ownsRow_setCell_below HO2.o (a := ⟨w1.heap.size, 0, none⟩) yS _) (by simp; omega)
   rintro e3 w3 ⟨rfl, hb4, ha4⟩; go_wp2
   go_end0
   rw [HPQ.o, Q3.o]; exact ⟨rfl, (But.of (Below.tr HB1.o (HS3.o _))).trans hb4, ha4⟩
 | false =>
   have q1 : zav (zap xs ls e.i e.j) = [] := by unfold zav; rw [hg]; rfl
   have q2 : zas (zap xs ls e.i e.j) = 3 := by unfold zas; rw [hg]; rfl
   have q3 : zbt (zap xs ls e.i e.j) = none := by unfold zbt; rw [hg]; rfl
   have Q3 := yq q3; rw [q1] at HO1; rw [q1, q2]; clear q1 q2 q3 hg lim1; have xK := hK1.o.cell (i := 0) (v := .pointer (some ⟨b, 0, none⟩)) rfl; have lK := hK1.o.lt; go_wp2_with fail
   refine (zeT b xs ls s none (.slice A1 0 k1) [] 3 _ (HA1.o.up yb) ?_ (.inr ⟨rfl, rfl⟩)).mono ?_
   · exact zfa (World.ownsRow.alloc HO1.o _) hlt
   rintro e3 w3 ⟨rfl, hb4, ha4⟩; go_wp2
   go_end0
   rw [Q3.o]; exact ⟨rfl, (But.of (HB1.o.alloc z1 _)).trans hb4, ha4⟩
end Go.Proofs.YtejgbfgocaggfaaGreatDoor
