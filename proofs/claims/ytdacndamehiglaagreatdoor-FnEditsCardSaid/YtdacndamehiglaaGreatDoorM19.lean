import Derived.Test.YtdacndamehiglaaGreatDoorM18
import Derived.Shelf.SlicesE.Reverse
import Derived.Lib.ConvBytes
import Derived.Lib.RowBridge
import Derived.Laws.IdiomCopy
import Derived.Lib.LazyBuf
set_option maxRecDepth 100000
set_option maxHeartbeats 8000000
namespace Go.Proofs
open Go.Shelf
def YtdacndamehiglaaGreatDoor.laysR_ren : Go.Shelf.Ren := ⟨fun | 35 => 108 | n => n, fun | 0 => 0 | 3 => 3 | 4 => 4 | 22 => 22 | 23 => 5 | n => n, fun | n => n⟩
theorem YtdacndamehiglaaGreatDoor.laysR : SlLaysE.n35 Tryz.prog YtdacndamehiglaaGreatDoor.laysR_ren := {
 mixed := by kernel_rfl
 f35 := ⟨"slices.Reverse[[]byte,byte]", by decide, Tryz.func108.trans (congrArg some (by kernel_rfl))⟩
 t0 := Tryz.underlying0
 a0 := Tryz.isAgg0
 z0 := Tryz.sizeOf0
 v0 := Tryz.zeroValue0
 t3 := Tryz.underlying3
 a3 := Tryz.isAgg3
 z3 := Tryz.sizeOf3
 v3 := Tryz.zeroValue3
 t4 := Tryz.underlying4
 a4 := Tryz.isAgg4
 z4 := Tryz.sizeOf4
 v4 := Tryz.zeroValue4
 t22 := Tryz.underlying22
 a22 := Tryz.isAgg22
 z22 := Tryz.sizeOf22
 v22 := Tryz.zeroValue22
 a23 := Tryz.isAgg5
 z23 := Tryz.sizeOf5 }
end Go.Proofs
namespace Go.Proofs.YtdacndamehiglaaGreatDoor
open Go.RowKit
theorem znl {W : World} {ops : Array Oper} {rest : List Oper} {o : Oper} {a : Act} {Q : Exit -> Act -> World -> Prop} (hgd : o.guard = none) (s x : Operand)
  (ho : o.op = .call { callee := .builtin .append, args := #[s, x], argTypes := #[22, 9] }) {t : ByteArray} {base : Nat} {v : Value} {l : List UInt8}
  (hs : a.eval s = v) (hx : a.eval x = .string t) (hown : zd8 W base v l) (hlen : l.length + t.size <= 1099511627776) (hbase : base <= W.heap.size)
  (hv : v ≠ .slice none 0 0) (h : ∀ g' c' w', zd8 w' base (.slice (some ⟨g', 0, none⟩) (l.length + t.size) c') (l ++ t.data.toList) -> Below base W w' -> wpList Tryz.prog ops Q rest (a.put o.dst (.slice (some ⟨g', 0, none⟩) (l.length + t.size) c')) w') :
  wpList Tryz.prog ops Q (o :: rest) a W := by
 obtain ⟨i0, hi, hz0, hz1, hz2⟩ := info_parts Tryz.infoBy; refine Lib.wpList_append_own_string W hgd _ _ 22 9 ho base 5 i0 Tryz.underlying22 Tryz.underlying9 hi hz0 hz1 hz2 v l.length (Lib.byteCells l) hs hown t hx ?_ ?_ hbase ?_
 · unfold maxLen; omega
 · omega
 · intro v' w' h1 h2 h3
   have hne : v' ≠ .slice none 0 0 := fun e => hv (h3.1 e).1
   obtain ⟨g', c', rfl⟩ : ∃ g' c', v' = .slice (some ⟨g', 0, none⟩) (l.length + t.size) c' := by
    rcases h1.2 with ⟨hv', _⟩ | ⟨g', cap, cur, hv', _⟩
    · exact absurd hv' hne
    · exact ⟨g', cap, hv'⟩
   refine h g' c' w' ?_ ?_
   · unfold zd8
     rw [show Lib.byteCells (l ++ t.data.toList) = Lib.byteCells l ++ Lib.strCells t by simp [Lib.byteCells, Lib.strCells], show (l ++ t.data.toList).length = l.length + t.size by simp]; exact h1
   · exact (Below.refl base W).grown h2 hbase (fun k hk => (World.ownsRow.lt hown k hk).1)
theorem zjE (s : ByteArray) (w : World) (hs : s.size <= 1000000) :
  Calls Tryz.prog 46 #[.string s] w fun e w' => e = .returned (.string ⟨s.data.toList.reverse.toArray⟩) /\ Below w.heap.size w w' := by
 go_enter Tryz.func46, Tryz.ntmps46
 go_wp2_with fail
 go_loopw [3, 4] (fun q a wx => ∃ (m g c : Nat) (l : List UInt8), m <= s.size /\ a = .int .i64 ((m : Int) - 1) /\ q = .slice (some ⟨g, 0, none⟩) l.length c /\ l = (s.data.toList.drop m).reverse /\ zd8 wx w.heap.size q l /\ Below w.heap.size w wx) (fun _ a _ => (intOf a + 1).toNat)
 case atStart => exact ⟨s.size, _, 0, [], Nat.le_refl _, rfl, rfl, by simp, zd8.empty rfl yL, (Below.refl _ _).alloc yL _⟩
 case round =>
  obtain ⟨m, g, c, l, hm, rfl, rfl, hlc, hown, hb3⟩ := hrel; have Hown := yq hown; have HB3 := yq hb3; have Hlc := yq hlc; have hll : l.length <= 1000000 := by rw [hlc]; simp; omega
  have hcv := zd8.string hown; have HLL : yh (l.length <= 1099511627776) := by rw [yh]; omega
  have hs3 : w.heap.size <= wr.heap.size := hb3.size; clear hown hb3 hlc; cases m with
  | zero =>
    go_wp2_with fail
    go_ret
    refine ⟨?_, HB3.o⟩
    rw [Hlc.o, List.drop_zero]; rfl
  | succ m =>
    have hmi : ((m + 1 : Nat) : Int) - 1 = (m : Int) := by omega
    have hlt : m < s.size := by omega
    rw [hmi]; clear hmi hcv
    go_wp2_with (first
     | (at_builtin; refine zgs (base := w.heap.size) (v := .slice (some ⟨g, 0, none⟩) l.length c) (l := l) (y := s[m]) rfl _ _ rfl rfl rfl rfl Hown.o HLL.o hs3 ?_; intro v5 w5 own5 hg5 hb5; obtain ⟨g5, c5, rfl⟩ := own5.some_ yS))
    have e5 : (l ++ [s[m]]).length = l.length + 1 := by simp
    refine ⟨⟨m, g5, c5, l ++ [s[m]], by omega, rfl, by rw [e5], ?_, by rw [<- e5]; exact own5, HB3.o.trans hb5⟩, by simp [intOf]⟩
    rw [Hlc.o, List.drop_eq_getElem_cons (show m < s.data.toList.length by simpa using hlt), List.reverse_cons]; rfl
def zfS (L : List UInt8) (k : Nat) : List UInt8 := (List.replicate k L).flatten
theorem zgF (L : List UInt8) (k : Nat) : zfS L (k + 1) = zfS L k ++ L := by simp [zfS, List.replicate_succ']
theorem zes (L : List UInt8) (k : Nat) : (zfS L k).length = k * L.length := by simp [zfS]
theorem ziH (L : List UInt8) : zfS L 0 = [] := rfl
theorem ziI (s : ByteArray) (n : Nat) (w : World) (hn : n <= 1000000000000000) (hs : n * s.size <= 1000000) (hs1 : s.size <= 1000000) :
  Calls Tryz.prog 47 #[.string s, .int .i64 n] w fun e w' => e = .returned (.string ⟨(zfS s.data.toList n).toArray⟩) /\ Below w.heap.size w w' := by
 have Hs := yq hs; clear hs; go_enter Tryz.func47, Tryz.ntmps47
 go_wp2_with fail
 go_loopw [5, 6] (fun q a wx => ∃ (m g c : Nat) (l : List UInt8), m <= n /\ a = .int .i64 (m : Int) /\ q = .slice (some ⟨g, 0, none⟩) l.length c /\ l = zfS s.data.toList m /\ zd8 wx w.heap.size q l /\ Below w.heap.size w wx) (fun _ a _ => (n - intOf a).toNat)
 case atStart => exact ⟨0, _, 0, [], Nat.zero_le _, rfl, rfl, rfl, zd8.empty rfl yL, (Below.refl _ _).alloc yL _⟩
 case round =>
  obtain ⟨m, g, c, l, hm, rfl, rfl, hlc, hown, hb3⟩ := hrel; have Hown := yq hown; have HB3 := yq hb3; have Hlc := yq hlc; have hcv := zd8.string hown; have hs3 : w.heap.size <= wr.heap.size := hb3.size
  have hll : l.length <= 1000000 := by
   rw [hlc, zes, show s.data.toList.length = s.size by simp]; exact Nat.le_trans (Nat.mul_le_mul_right _ hm) Hs.o
  clear hown hb3 hlc; by_cases hlt : m < n
  · have hlt2 : (m : Int) < (n : Int) := by omega
    have hcap : l.length + s.size <= 1099511627776 := by omega
    clear hcv hlt
    go_wp2_with (first
     | (at_builtin; refine znl (base := w.heap.size) (v := .slice (some ⟨g, 0, none⟩) l.length c) (l := l) (t := s) rfl _ _ rfl rfl rfl Hown.o hcap hs3 yS ?_; intro g5 c5 w5 own5 hb5))
    have e5 : (l ++ s.data.toList).length = l.length + s.size := by simp
    refine ⟨⟨m + 1, g5, c5, l ++ s.data.toList, by omega, rfl, by rw [e5], ?_, own5, HB3.o.trans hb5⟩, by simp [intOf]; omega⟩
    rw [Hlc.o, zgF]
  · have hmn : m = n := by omega
    subst hmn; go_wp2_with fail
    go_ret
    refine ⟨?_, HB3.o⟩
    rw [Hlc.o]; rfl
def ziJ (by_ : ByteArray) (c : UInt8) : UInt8 := by_.data.getD (c.toNat - 97) 0
theorem zmf {s m : ByteArray} {k d : Nat} (hlt : k < s.size) (hd : s[k].toNat = 97 + d) (hd4 : d < m.size) : (s.data.toList.take (k + 1)).map (ziJ m) = (s.data.toList.take k).map (ziJ m) ++ [m[d]] := by
 have hg : s.data.toList[k]? = some s[k] := by rw [ye (by simpa using hlt)]; rfl
 rw [List.take_add_one, hg, Option.toList_some, List.map_append, List.map_singleton]; congr 2
 unfold ziJ; rw [hd, show 97 + d - 97 = d by omega]; simp [Array.getD, hd4]
 rfl
theorem zhS (s m : ByteArray) (w : World) (hs : s.size <= 1000000) (hm : m.size = 4) (hlet : ∀ k (h : k < s.size), 97 <= s[k].toNat /\ s[k].toNat <= 100) :
  Calls Tryz.prog 48 #[.string s, .string m] w fun e w' => e = .returned (.string ⟨(s.data.toList.map (ziJ m)).toArray⟩) /\ Below w.heap.size w w' := by
 have HLet := yq hlet; clear hlet; go_enter Tryz.func48, Tryz.ntmps48
 go_wp2_with fail
 go_loopw [5, 6] (fun q a wx => ∃ (k g c : Nat) (l : List UInt8), k <= s.size /\ a = .int .i64 (k : Int) /\ q = .slice (some ⟨g, 0, none⟩) l.length c /\ l = (s.data.toList.take k).map (ziJ m) /\ zd8 wx w.heap.size q l /\ Below w.heap.size w wx) (fun _ a _ => (s.size - intOf a).toNat)
 case atStart => exact ⟨0, _, 0, [], Nat.zero_le _, rfl, rfl, by simp, zd8.empty rfl yL, (Below.refl _ _).alloc yL _⟩
 case round =>
  obtain ⟨k, g, c, l, hk, rfl, rfl, hlc, hown, hb3⟩ := hrel; have Hown := yq hown; have HB3 := yq hb3; have Hlc := yq hlc; have hcv := zd8.string hown; have hs3 : w.heap.size <= wr.heap.size := hb3.size; have hll : l.length <= 1000000 := by rw [hlc]; simp; omega
  have HLL : yh (l.length <= 1099511627776) := by rw [yh]; omega
  clear hown hb3 hlc; by_cases hlt : k < s.size
  · obtain ⟨h97, h100⟩ := HLet.o k hlt
    obtain ⟨d, hd⟩ : ∃ d, s[k].toNat = 97 + d := ⟨s[k].toNat - 97, by omega⟩
    have hd4 : d < m.size := by omega
    have e1 : ((s[k].toNat : Nat) : Int) - 97 = (d : Int) := by omega
    have e2 : (d : Int) < 256 := by omega
    have Hd := yq hd; clear hcv hd h97 h100 hll
    go_wp2_with (first
     | (at_builtin; refine zgs (base := w.heap.size) (v := .slice (some ⟨g, 0, none⟩) l.length c) (l := l) (y := m[d]) rfl _ _ rfl rfl rfl rfl Hown.o HLL.o hs3 ?_; intro v5 w5 own5 hg5 hb5; obtain ⟨g5, c5, rfl⟩ := own5.some_ yS))
    have e5 : (l ++ [m[d]]).length = l.length + 1 := by simp
    refine ⟨⟨k + 1, g5, c5, l ++ [m[d]], by omega, rfl, by rw [e5], ?_, by rw [<- e5]; exact own5, HB3.o.trans hb5⟩, by simp [intOf]; omega⟩
    rw [Hlc.o, zmf hlt Hd.o hd4]
  · have hmn : k = s.size := by omega
    have Hk := yq hmn; clear hmn; go_wp2_with fail
    go_ret
    refine ⟨?_, HB3.o⟩
    rw [Hlc.o, Hk.o, List.take_of_length_le yS]; rfl
def zoT (x : UInt8) : Value := .int .u8 (x.toNat : Int)
theorem zhT (b n c : Nat) (l : List UInt8) (w : World) (hn : n = l.length) (hl : l.length <= 1000000) (h : ∀ t (ht : t < l.length), w.cell? ⟨b, t, none⟩ = some (.int .u8 (l[t].toNat : Int)) /\ w.frozen? ⟨b, t, none⟩ = false) :
  Calls Tryz.prog 108 #[.slice (some ⟨b, 0, none⟩) n c] w fun e w' => e = .returned (.tuple #[]) /\ (∀ B, B <= b -> Below B w w') /\ ∀ t (ht : t < l.reverse.length), w'.cell? ⟨b, 0 + t, none⟩ = some (.int .u8 (l.reverse[t].toNat : Int)) := by
 subst hn
 have hH : Sort.Holds zoT w b 0 l.toArray := by
  intro j hj; have hj' : j < l.length := by simpa using hj
  have := h j hj'; rw [Nat.zero_add]; refine ⟨this.1.trans ?_, this.2⟩
  rw [getElem!_pos _ j hj]; simp [zoT]
 refine (AnyE.slices_Reverse YtdacndamehiglaaGreatDoor.laysR zoT (fun _ => rfl) b 0 c l w hH yO).mono ?_
 rintro e w' ⟨rfl, q, rfl⟩; rw [Lib.putRow_eq_setCells _ w b 0 _ _ q hH yS]; refine ⟨rfl, fun B hB => ?_, fun t ht => ?_⟩
 · exact Go.below_setCells hB _ 0 _ ⟨rfl, rfl, rfl, Nat.le_refl _, fun _ _ => rfl⟩
 · have := World.cell?_setCells_in b (l.reverse.map zoT) 0 (w.drewN q) (fun j hj => by
    have hj' : j < l.length := by simpa using hj
    rw [Nat.zero_add]; show (w.cell? ⟨b, j, none⟩).isSome = true
    rw [(h j hj').1]; rfl) t (by simpa using ht)
   rw [this]; simp [zoT]
theorem zk5 (s : ByteArray) (w : World) (hs : s.size <= 1000000) :
  Calls Tryz.prog 53 #[.string s] w fun e w' => e = .returned (.string ⟨s.data.toList.reverse.toArray⟩) /\ Below w.heap.size w w' := by
 go_enter Tryz.func53, Tryz.ntmps53
 go_wp2_with fail
 rw [Lib.run_convert_string_bytes w _ _ 5 s Tryz.underlying9 Tryz.underlying22 Tryz.underlying5]; simp only [Result.andThen]
 rw [Oper.upon_value]; have hb1 : Below w.heap.size w (Lib.bytesWorld w 5 s) := ⟨rfl, rfl, rfl, by rw [Lib.bytesWorld_size]; omega, fun j hj => Lib.bytesWorld_at_old w 5 s j hj⟩
 have hc1 : ∀ t (ht : t < s.data.toList.length), (Lib.bytesWorld w 5 s).cell? ⟨w.heap.size, t, none⟩ = some (.int .u8 (s.data.toList[t].toNat : Int)) /\ (Lib.bytesWorld w 5 s).frozen? ⟨w.heap.size, t, none⟩ = false := by
  intro t ht; have ht' : t < s.size := by simpa using ht
  refine ⟨?_, ?_⟩
  · rw [Lib.bytesWorld_cell w _ s t ht', yg, ye ht]; rfl
  · have hz : t < (Lib.bytesCells w 5 s).size := by simp [Lib.bytesCells]; omega
    simp [World.frozen?, Lib.bytesWorld_at_new]
    omega
 have Rev := yq (zhT w.heap.size s.size (grownCap w s.size 0 5) s.data.toList (Lib.bytesWorld w 5 s) yS (by simp; omega) hc1); have HB1 := yq hb1; clear hb1 hc1; revert Rev HB1; generalize Lib.bytesWorld w 5 s = w1; generalize grownCap w s.size 0 5 = cp; intro Rev HB1; go_wp2_with fail
 refine Rev.o.mono ?_
 rintro e w2 ⟨rfl, hb2, hc2⟩; have hcv := zkI s.data.toList.reverse w.heap.size 0 s.size cp w2 yS hc2; have B2 := yq (HB1.o.trans (hb2 _ yL)); clear hb2 hc2; go_wp2_with fail
 go_ret
 exact ⟨rfl, B2.o⟩
theorem zhU (b o : Nat) (vR vL : Value) (xs : List zaa) (ls : List Int) (i : Int) (c : UInt8) (w : World) (hp : w.cell? ⟨b, o, none⟩ = some vR) (hR : Sl zas w w.heap.size vR xs) (hL : Sl zfZ w w.heap.size vL ls)
  (hl : zaX xs = some ls) (hn : xs.length <= 1099511627776) (hi : 0 <= i) (hc : (zau xs)[i.toNat]? = some c) :
  Calls Tryz.prog 104 #[.pointer (some ⟨b, o, none⟩), vL, .int .i64 i] w fun e w' => e = .returned (.int .u8 c.toNat) /\ w = w' := by
 have h0 : 0 < xs.length := by
  refine Nat.pos_of_ne_zero fun e => ?_
  have hx : xs = [] := yn e; subst hx; simp [zau] at hc
 have hll := zaF hl; rw [za7 h0] at hc; have hlt := (List.getElem?_eq_some_iff.1 hc).1
 have hWl := zd5 hl (xs.length - 1) yO; obtain ⟨AR, cR, rfl, _, hmR, hrowR⟩ := hR; obtain ⟨AL, cL, rfl, _, hmL, hrowL⟩ := hL; unfold maxLen at hmR hmL; obtain ⟨bR, oR, rfl, hbR, hcR⟩ := hrowR.rule h0; obtain ⟨bL, oL, rfl, hbL, hcL⟩ := hrowL.int (k := 0) yO; have HcR := yq hcR; have HcL := yq hcL; have Hll := yq hll; have Hl := yq hl; have hm1 : (xs.length : Int) - 1 = ((xs.length - 1 : Nat) : Int) := by omega
 obtain ⟨m, hm⟩ : ∃ m, xs.length - 1 = m := ⟨_, rfl⟩
 rw [hm] at hm1 hc hlt hWl; have hmx : m < xs.length := by omega
 have Hc := yq hc; have hq0 : i < ls.getD m 0 := by omega
 have Hq0 := yq hq0; have Hm1 := yq hm1; clear hrowR hrowL hcR hcL hll hl hc hlt hWl hm hq0; go_enter Tryz.func104, Tryz.ntmps104
 go_wp2_with fail
 go_loopw [2, 7] (fun q a wx => ∃ (r : Nat) (z : Int), r < xs.length /\ a = .int .i64 (r : Int) /\ q = .int .i64 z /\ 0 <= z /\ z < ls.getD r 0 /\ (W1 xs r)[z.toNat]? = some c /\ wx = w) (fun _ a _ => (intOf a).toNat)
 case atStart => exact ⟨m, i, hmx, rfl, rfl, hi, Hq0.o, Hc.o, rfl⟩
 case round =>
  obtain ⟨r, z, hr, rfl, rfl, hz, hzl, hw, rfl⟩ := hrel; obtain ⟨k0, k1, k2⟩ := HcR.o r _ (zcf hr); have hri : (r : Int) < (xs.length : Int) := by omega
  have Hw := yq hw; have Hzl := yq hzl; obtain ⟨R, hR⟩ : ∃ R, zav xs r = R := ⟨_, rfl⟩
  rw [hR] at k0 k1 k2; have HR := yq hR; clear hw hzl hR hm1; by_cases hp2 : R.letter.toList.isEmpty = true
  · have hpr : (zav xs r).pair = true := by rw [HR.o]; rw [zan] at hp2; exact hp2
    obtain ⟨q1, q2, q3, q4, q5⟩ := zbg Hl.o hr hpr; have hW := zd4 Hl.o hr hpr; rw [HR.o] at q1 q2 q3 q4 q5 hW; obtain ⟨la, hla⟩ := Int.eq_ofNat_of_zero_le q1; obtain ⟨ra, hra⟩ := Int.eq_ofNat_of_zero_le q3; rw [hla] at q2 k1; rw [hra] at q4 k2; rw [hla, hra] at hW q5; simp only [Int.toNat_natCast] at q2 q4 q5 hW
    have hlw := zd5 Hl.o la yO; have cl := HcL.o la (by have := Hll.o; omega); have hli : (la : Int) < (ls.length : Int) := by have := Hll.o; omega
    have hpl := zaP Hl.o (r := la) yO; have hpr2 := zaP Hl.o (r := r) hr; obtain ⟨LA, hLA⟩ : ∃ x, ls.getD la 0 = x := ⟨_, rfl⟩
    rw [hLA] at cl hlw hpl q5; have HLA := yq hLA; have Hq5 := yq q5; have Hlw := yq hlw; have HW := yq hW; have hzb : z <= 1000000000000000 := by have := Hzl.o; omega
    clear hpr q1 q3 hla hra hLA q5 hlw hW hpr2; by_cases hc1 : z < LA
    · go_wp2_with fail
      refine ⟨⟨la, z, by omega, rfl, rfl, hz, by rw [HLA.o]; exact hc1, ?_, trivial⟩, by simp [intOf]; omega⟩
      have := Hw.o; rwa [HW.o, List.getElem?_append_left (by have := Hlw.o; omega)] at this
    · go_wp2_with fail
      refine ⟨⟨ra, z - LA, by omega, rfl, rfl, by omega, by have := Hq5.o; have := Hzl.o; omega, ?_, trivial⟩, by simp [intOf]; omega⟩
      have := Hw.o; rw [HW.o, List.getElem?_append_right (by have := Hlw.o; omega)] at this
      rwa [show z.toNat - (W1 xs la).length = (z - LA).toNat by have := Hlw.o; omega] at this
  · have hp3 : R.letter.toList.isEmpty = false := by simpa using hp2
    have hpr : (zav xs r).pair = false := by rw [HR.o]; rw [zan] at hp3; exact hp3
    have hsz := zcQ (zcP Hl.o hr hpr); have hone := zbA Hl.o hr hpr; have hW := zcH hpr; rw [HR.o] at hsz hW; have hz0 : z = 0 := by have := Hzl.o; omega
    have hcc : R.letter.data.toList[0]? = some c := by
     have := Hw.o; rw [hW, hz0] at this; exact this
    have hs0 : 0 < R.letter.size := by omega
    have hget : R.letter[0]'hs0 = c := by
     rw [za4 _ _ hs0] at hcc; exact Option.some.inj hcc
    have Hget := yq hget; clear hp2 hpr hone hW hz0 hcc hget; go_wp2_with fail
    go_ret
    exact ⟨by rw [<- Hget.o]; rfl, rfl⟩
theorem zmg {l : List UInt8} {i z : Int} {c : UInt8} (hi : 0 <= i) (hz : i <= z) (hc : l[z.toNat]? = some c) : zbD l i (z + 1) = zbD l i z ++ [c] := by
 have hlt := (List.getElem?_eq_some_iff.1 hc).1
 unfold zbD; rw [show (z + 1).toNat = z.toNat + 1 by omega, List.take_add_one, hc, Option.toList_some, List.drop_append_of_le_length (by rw [List.length_take]; omega)]
theorem zmh (l : List UInt8) (i : Int) : zbD l i i = [] := zf3 yO
theorem zfa (b o : Nat) (v : Value) (xs : List zaa) (ls : List Int) (i j : Int) (w : World) (hp : w.cell? ⟨b, o, none⟩ = some v) (hbl : b < w.heap.size) (h : Sl zas w w.heap.size v xs) (hsm : za5 xs) (hl : zaX xs = some ls)
  (hn : xs.length <= 400) (hi : 0 <= i) (hij : i <= j) (hj : j <= zai ls) (hbig : j - i <= 1000000) :
  Calls Tryz.prog 44 #[.pointer (some ⟨b, o, none⟩), .int .i64 i, .int .i64 j] w fun e w' => e = .returned (.string ⟨(zbD (zau xs) i j).toArray⟩) /\ Below w.heap.size w w' := by
 have HR := yq h; obtain ⟨AR, cR, rfl, _⟩ := h; have Hl := yq hl; have hwl := zaQ hl; have hlb := (zd0 hl).2; have hd4 : decide (xs.length <= 400) = true := by simp [hn]
 clear hl; go_enter Tryz.func44, Tryz.ntmps44
 go_wp2_with fail
 refine (zdb _ _ _ xs _ hp hbl HR.o hsm).mono ?_
 rintro e w2 ⟨hb2, v2, ls', rfl, own2, hls⟩; have e4 : ls' = ls := hls hn ls Hl.o; subst e4; obtain ⟨A2, c2, rfl, _⟩ := zae own2; have p2 := (hb2.cell (p := ⟨b, o, none⟩) hbl).trans hp; have z2 : b < w2.heap.size := Nat.lt_of_lt_of_le hbl hb2.size; have HL2 := yq own2.sl; have HR2 := yq (HR.o.up hb2); have HB2 := yq hb2; clear hb2 own2 hls hp; go_wp2_with fail
 go_loopw [9, 10] (fun q a wx => ∃ (k : Nat) (z : Int) (g c : Nat) (l : List UInt8), z = i + k /\ z <= j /\ a = .int .i64 z /\ q = .slice (some ⟨g, 0, none⟩) l.length c /\ l = zbD (zau xs) i z /\ zd8 wx w2.heap.size q l /\ Below w2.heap.size w2 wx) (fun _ a _ => (j - intOf a).toNat)
 case atStart => exact ⟨0, i, _, 0, [], by omega, hij, rfl, rfl, (zmh _ _).symm, zd8.empty rfl yL, (Below.refl _ _).alloc yL _⟩
 case round =>
  obtain ⟨k, z, g, c, l, hz, hzj, rfl, rfl, hlc, hown, hb3⟩ := hrel; have Hown := yq hown; have HB3 := yq hb3; have Hlc := yq hlc; have hll : (l.length : Int) = z - i := by rw [hlc]; exact zcz hi yO yO
  have p3 := (hb3.cell (p := ⟨b, o, none⟩) z2).trans p2; have HL3 := yq ((HL2.o.below hb3).le hb3.size); have HR3 := yq ((HR2.o.below hb3).le hb3.size); have hcv := zd8.string hown; have HLL : yh (l.length <= 1099511627776) := by rw [yh]; omega
  have hs3 : w2.heap.size <= wr.heap.size := hb3.size; have Hz0 := yq hz; have hiz : i <= z := by omega
  clear hown hb3 hlc hz; by_cases hlt : z < j
  · obtain ⟨x, hx⟩ : ∃ x, (zau xs)[z.toNat]? = some x := ⟨_, ye yO⟩
    have Hx := yq hx; have Lt := yq (zhU b o _ (.slice A2 ls'.length c2) xs ls' z x wr p3 HR3.o HL3.o Hl.o yO yO hx); have hzm : z <= 1000000000000000 := by omega
    have Hll := yq hll; clear hx hcv hll; go_wp2_with fail
    (with_reducible refine Lt.o.mono ?_)
    rintro e w4 ⟨rfl, rfl⟩
    go_wp2_with (first
     | (at_builtin; refine zgs (base := w2.heap.size) (v := .slice (some ⟨g, 0, none⟩) l.length c) (l := l) (y := x) rfl _ _ rfl rfl rfl rfl Hown.o HLL.o hs3 ?_; intro v5 w5 own5 hg5 hb5; obtain ⟨g5, c5, rfl⟩ := own5.some_ yS))
    have e5 : (l ++ [x]).length = l.length + 1 := by simp
    refine ⟨⟨k + 1, z + 1, g5, c5, l ++ [x], by have := Hz0.o; omega, by omega, rfl, by rw [e5], ?_, by rw [<- e5]; exact own5, HB3.o.trans hb5⟩, by simp [intOf]; omega⟩
    rw [zmg hi yO Hx.o, Hlc.o]
  · have hzj2 : z = j := by omega
    have Hz := yq hzj2; clear hll hzj2; go_wp2_with fail
    go_ret
    exact ⟨by rw [<- Hz.o, <- Hlc.o]; rfl, HB2.o.trans (HB3.o.mono HB2.o.size)⟩
theorem zk6 {xs : List zaa} {ls : List Int} (hl : zaX xs = some ls) : za0 xs ls 0 (zai ls) = if xs.length = 0 then [] else [xs.length - 1] := by
 have hll := zaF hl; unfold za0; by_cases h0 : xs.length = 0
 · rw [if_neg yO, if_pos h0]
 · have hp := zaP hl (r := xs.length - 1) yO
   have e : zai ls = ls.getD (xs.length - 1) 0 := by rw [zai, hll]
   rw [if_pos ⟨by omega, by rw [e]; omega⟩, if_neg h0]; obtain ⟨n, hn⟩ : ∃ n, xs.length = n + 1 := ⟨xs.length - 1, by omega⟩
   rw [hn, zbl]; rw [hn] at e hp; rw [if_neg (by rw [e]; omega), if_pos (by rw [e]; omega)]
section
variable {α : Type} {E : Enc α} {w w1 w2 : World} {o : Obj} {v : Value} {xs : List α}
end
theorem zf1 {w : World} : Below w.heap.size w w.drew := Below.drew (Below.refl _ _)
theorem zmi {wr W W2 : World} {p q r : Addr} {a b c : Value} (h : Below wr.heap.size wr W /\ W.cell? p = some a /\ W.cell? q = some b /\ W.cell? r = some c) (h2 : Below W.heap.size W W2)
  (hp : p.block < wr.heap.size) (hq : q.block < wr.heap.size) (hr : r.block < wr.heap.size) : Below wr.heap.size wr W2 /\ W2.cell? p = some a /\ W2.cell? q = some b /\ W2.cell? r = some c :=
 ⟨h.1.trans (h2.mono h.1.size), (h2.cell (Nat.lt_of_lt_of_le hp h.1.size)).trans h.2.1, (h2.cell (Nat.lt_of_lt_of_le hq h.1.size)).trans h.2.2.1, (h2.cell (Nat.lt_of_lt_of_le hr h.1.size)).trans h.2.2.2⟩
def zb0 (s : ByteArray) (e : zap) : ByteArray :=
 if e.kind = 1 then s.extract 0 e.i.toNat ++ ⟨(zau e.part).toArray⟩ ++ s.extract e.i.toNat s.size
 else if e.kind = 2 then s.extract 0 e.i.toNat ++ s.extract e.j.toNat s.size
 else if e.kind = 3 then s.extract 0 e.k.toNat ++ s.extract e.i.toNat e.j.toNat ++ s.extract e.k.toNat s.size
 else if e.kind = 4 then (if e.k <= e.i then s.extract 0 e.k.toNat ++ s.extract e.i.toNat e.j.toNat ++ s.extract e.k.toNat e.i.toNat ++ s.extract e.j.toNat s.size else s.extract 0 e.i.toNat ++ s.extract e.j.toNat e.k.toNat ++ s.extract e.i.toNat e.j.toNat ++ s.extract e.k.toNat s.size)
 else if e.kind = 5 then s.extract 0 e.i.toNat ++ ⟨(s.extract e.i.toNat e.j.toNat).data.toList.reverse.toArray⟩ ++ s.extract e.j.toNat s.size
 else if e.kind = 6 then (if e.i = e.j then s else s.extract 0 e.i.toNat ++ ⟨(zfS (s.extract e.i.toNat e.j.toNat).data.toList e.k.toNat).toArray⟩ ++ s.extract e.j.toNat s.size)
 else s.extract 0 e.i.toNat ++ ⟨((s.extract e.i.toNat e.j.toNat).data.toList.map (ziJ e.map)).toArray⟩ ++ s.extract e.j.toNat s.size
def epC (s : ByteArray) (e : zap) : Int := if zay s then if zaA e then if zar e s.size then if zax e s.size <= 2000 then 0 else 3 else 2 else 1 else 1
def epV (s : ByteArray) (e : zap) : ByteArray := if epC s e = 0 then zb0 s e else ⟨#[]⟩
theorem znm {s : ByteArray} {e : zap} (h : zay s = false \/ zaA e = false) : epC s e = 1 /\ epV s e = ⟨#[]⟩ := by
 have : epC s e = 1 := by
  unfold epC; rcases h with h | h
  · rw [if_neg (by simp [h])]
  · rw [if_neg (c := zaA e = true) (by simp [h])]; split <;> rfl
 exact ⟨this, by rw [epV, this]; rfl⟩
theorem zoU {s : ByteArray} {e : zap} (h : zay s = true) (h2 : zaA e = true) (h3 : zar e s.size = false) : epC s e = 2 /\ epV s e = ⟨#[]⟩ := by
 have : epC s e = 2 := by rw [epC, if_pos h, if_pos h2, if_neg (by simp [h3])]
 exact ⟨this, by rw [epV, this]; rfl⟩
theorem zoV {s : ByteArray} {e : zap} (h : zay s = true) (h2 : zaA e = true) (h3 : zar e s.size = true) (h4 : ¬ zax e s.size <= 2000) : epC s e = 3 /\ epV s e = ⟨#[]⟩ := by
 have : epC s e = 3 := by rw [epC, if_pos h, if_pos h2, if_pos h3, if_neg h4]
 exact ⟨this, by rw [epV, this]; rfl⟩
theorem zoW {s : ByteArray} {e : zap} (h : zay s = true) (h2 : zaA e = true) (h3 : zar e s.size = true) (h4 : zax e s.size <= 2000) : epC s e = 0 /\ epV s e = zb0 s e := by
 have : epC s e = 0 := by rw [epC, if_pos h, if_pos h2, if_pos h3, if_pos h4]
 exact ⟨this, by rw [epV, if_pos this]⟩
theorem zhm {e : zap} (h : zaA e = true) (hk : e.kind = 7) : e.map.size = 4 := by
 simp only [zaA, Bool.and_eq_true] at h
 have := h.2; rw [if_pos (by simp [hk])] at this; simp at this; exact this.1
theorem zhn {s : ByteArray} (h : zay s = true) : s.size <= 2000 /\ ∀ k (hk : k < s.size), 97 <= s[k].toNat /\ s[k].toNat <= 100 := by
 simp only [zay, Bool.and_eq_true, decide_eq_true_eq, List.all_eq_true] at h
 refine ⟨by omega, fun k hk => ?_⟩
 have := h.2 s[k] (by rw [List.mem_iff_getElem?]; exact ⟨k, za4 s k hk⟩); simp [zb5] at this; omega
theorem zgG {s : ByteArray} {i j : Nat} (h : ∀ k (hk : k < s.size), 97 <= s[k].toNat /\ s[k].toNat <= 100) : ∀ k (hk : k < (s.extract i j).size), 97 <= (s.extract i j)[k].toNat /\ (s.extract i j)[k].toNat <= 100 := by
 intro k hk; have hk2 : i + k < s.size := by simp at hk; omega
 have := h (i + k) hk2; rw [ByteArray.getElem_extract]; exact this
theorem zfT {e : zap} {n : Int} (hk : inR e.kind 1 7 = true) (h : zar e n = true) : (e.kind = 1 -> e.i <= n) /\ (2 <= e.kind -> e.j <= n) /\ (e.kind = 3 \/ e.kind = 4 -> e.k <= n \/ e.k <= e.i) /\ (e.kind = 4 -> e.k <= e.i \/ e.j <= e.k) /\ (e.kind = 3 -> e.k <= n) := by
 unfold zar at h; have h7 := zdl hk; split at h
 · simp at h; omega
 split at h
 · simp at h; omega
 split at h
 · simp at h; omega
 · simp at h; omega
theorem zkd {s : ByteArray} {e : zap} {ι : Nat} (hk : e.kind = 1) (hi : e.i = ι) : zb0 s e = s.extract 0 ι ++ ⟨(zau e.part).toArray⟩ ++ s.extract ι s.size := by simp [zb0, hk, hi]
theorem zke {s : ByteArray} {e : zap} {ι φ : Nat} (hk : e.kind = 2) (hi : e.i = ι) (hj : e.j = φ) : zb0 s e = s.extract 0 ι ++ s.extract φ s.size := by simp [zb0, hk, hi, hj]
theorem zkf {s : ByteArray} {e : zap} {ι φ κ : Nat} (hk : e.kind = 3) (hi : e.i = ι) (hj : e.j = φ) (hkk : e.k = κ) : zb0 s e = s.extract 0 κ ++ s.extract ι φ ++ s.extract κ s.size := by simp [zb0, hk, hi, hj, hkk]
theorem ziK {s : ByteArray} {e : zap} {ι φ κ : Nat} (hk : e.kind = 4) (hi : e.i = ι) (hj : e.j = φ) (hkk : e.k = κ) (hc : κ <= ι) : zb0 s e = s.extract 0 κ ++ s.extract ι φ ++ s.extract κ ι ++ s.extract φ s.size := by
 have : (κ : Int) <= ι := by omega
 simp [zb0, hk, hi, hj, hkk, this]
theorem ziL {s : ByteArray} {e : zap} {ι φ κ : Nat} (hk : e.kind = 4) (hi : e.i = ι) (hj : e.j = φ) (hkk : e.k = κ) (hc : ¬ κ <= ι) : zb0 s e = s.extract 0 ι ++ s.extract φ κ ++ s.extract ι φ ++ s.extract κ s.size := by
 have : ¬ (κ : Int) <= ι := by omega
 simp only [zb0, hk, hi, hj, hkk, this, Int.toNat_natCast]
 simp
theorem zkg {s : ByteArray} {e : zap} {ι φ : Nat} (hk : e.kind = 5) (hi : e.i = ι) (hj : e.j = φ) : zb0 s e = s.extract 0 ι ++ ⟨(s.extract ι φ).data.toList.reverse.toArray⟩ ++ s.extract φ s.size := by simp only [zb0, hk, hi, hj, Int.toNat_natCast]; simp
theorem ziM {s : ByteArray} {e : zap} {ι φ : Nat} (hk : e.kind = 6) (hi : e.i = ι) (hj : e.j = φ) (hc : ι = φ) : zb0 s e = s := by
 have : (ι : Int) = φ := by omega
 simp [zb0, hk, hi, hj, this]
theorem ziN {s : ByteArray} {e : zap} {ι φ κ : Nat} (hk : e.kind = 6) (hi : e.i = ι) (hj : e.j = φ) (hkk : e.k = κ) (hc : ¬ ι = φ) : zb0 s e = s.extract 0 ι ++ ⟨(zfS (s.extract ι φ).data.toList κ).toArray⟩ ++ s.extract φ s.size := by
 have : ¬ (ι : Int) = φ := by omega
 simp only [zb0, hk, hi, hj, hkk, this, Int.toNat_natCast]
 simp
theorem zkh {s : ByteArray} {e : zap} {ι φ : Nat} (hk : e.kind = 7) (hi : e.i = ι) (hj : e.j = φ) : zb0 s e = s.extract 0 ι ++ ⟨((s.extract ι φ).data.toList.map (ziJ e.map)).toArray⟩ ++ s.extract φ s.size := by simp only [zb0, hk, hi, hj, Int.toNat_natCast]; simp
theorem zfA (s : ByteArray) (v : Value) (e : zap) (w : World) (h : zdF w w.heap.size v e) (hsm : za5 e.part) (hn : e.part.length <= 1048576) (hm : e.map.size <= maxLen) (hs : s.size <= maxLen) :
  Calls Tryz.prog 12 #[.string s, v] w fun r w' => r = .returned (.tuple #[.string (epV s e), .int .i64 (epC s e)]) /\ Below w.heap.size w w' := by
 obtain ⟨vR, rfl, hR⟩ := h
 have hA : ∀ c : Obj, c = Obj.cells #[.int .i64 e.kind, .int .i64 e.i, .int .i64 e.j, .int .i64 e.k, vR, .string e.map] 30 -> zfR (w.alloc c) (w.alloc c).heap.size w.heap.size e vR := by
  rintro c rfl; exact ⟨zmR.new (Below.refl _ _), by simp, (hR.below ((Below.refl _ _).alloc yL _)).le yS⟩
 have HA := yq hA; clear hA hR; go_enter Tryz.func12, Tryz.ntmps12
 go_wp2_with fail
 refine (zeQ s _ hs).mono ?_
 rintro r w' ⟨rfl, rfl⟩; by_cases hw : zay s = true
 · have HW := yq hw
   have g0 : (!zay s) = false := by simp [hw]
   obtain ⟨hs2, hlet⟩ := zhn hw; have HLet := yq hlet; clear hw hlet hs; go_wp2_with fail
   refine (zit _ vR e _ (HA.o _ rfl) hsm yO hm).mono ?_
   rintro r w1 ⟨rfl, hb1⟩; have E1 := yq ((HA.o _ rfl).up hb1); have B1 := yq (((Below.refl w.heap.size w).alloc yL _).trans (hb1.mono yS)); clear hb1 HA g0; by_cases he : zaA e = true
   · have HE := yq he
     have g0 : (!zaA e) = false := by simp [he]
     have hG := zbh he; have HG := yq hG.1; clear he; go_wp2_with fail
     refine (ziq _ vR e s.size _ E1.o HG.o).mono ?_
     rintro r w2 ⟨rfl, hb2⟩; have E2 := yq (E1.o.up hb2); have B2 := yq (B1.o.trans (hb2.mono B1.o.size)); clear hb2; by_cases c3 : zar e s.size = true
     · have C3 := yq c3
       have g3 : (!zar e s.size) = false := by simp [c3]
       have hF := zfT hG.1 c3; clear c3; have hnn := zex HE.o C3.o (Int.natCast_nonneg s.size); go_wp2_with fail
       refine (zir _ vR e s.size 2000 _ E2.o HE.o hsm yO (Int.natCast_nonneg _) yO yO C3.o).mono ?_
       rintro r w3 ⟨rfl, hb3⟩; have E3 := yq (E2.o.up hb3); have B3 := yq (B2.o.trans (hb3.mono B2.o.size)); clear hb3; by_cases c4 : zax e s.size <= 2000
       · have g4 : decide (zdu e s.size 2000 < 0) = false := by
          have : zdu e s.size 2000 = zax e s.size := by rw [zdu, if_pos c4]
          rw [this]; simp; omega
         obtain ⟨G, hGv⟩ : ∃ G, zdu e s.size 2000 = G := ⟨_, rfl⟩
         rw [hGv] at g4; rw [hGv]; obtain ⟨pc, pv⟩ := zoW HW.o HE.o C3.o c4; have PC := yq pc; have PV := yq pv; have C4 := yq c4; have HE7 := yq (fun hk => zhm HE.o hk); obtain ⟨ls, hls⟩ := (zag hG.2.2.2.2.2.2).2; have hn400 := (zag hG.2.2.2.2.2.2).1; have hwl := zaQ hls; have hgl : zao e.part = zai ls := zaq hls; have Hls := yq hls; have Hgl := yq hgl; clear pc pv hGv hnn HE C3 c4 hls hgl; obtain ⟨x0, x1, x2, x3, x4, x5⟩ := E3.o.box; obtain ⟨ι, hι⟩ := Int.eq_ofNat_of_zero_le hG.2.1.1; obtain ⟨φ, hφ⟩ := Int.eq_ofNat_of_zero_le hG.2.2.1.1; obtain ⟨κ, hκ⟩ := Int.eq_ofNat_of_zero_le hG.2.2.2.1.1; have hij := hG.2.2.2.2.1; have hκ15 := hG.2.2.2.1.2; rw [hκ] at hκ15; have Hκ15 := yq hκ15; clear hκ15; obtain ⟨hF1, hF2, hF3, hF4, C3k⟩ := hF; rw [hκ] at C3k; rw [hι] at x1 hij hF1 hF3 hF4; rw [hφ] at x2 hij hF2 hF4; rw [hκ] at x3 hF3 hF4; have Hι := yq hι; have Hφ := yq hφ; have Hκ := yq hκ; have z3 := E3.o.lt; clear hG hι hφ hκ; rcases zdl HG.o with hk | hk | hk | hk | hk | hk | hk
         · have hf := hF1 hk
           have hP := zkd hk Hι.o (s := s); have HP := yq hP
           have hlen1 : zai ls <= 2000 := by
            have h := C4.o; rw [zax, if_pos hk, Hgl.o] at h; omega
           rw [hk] at x0; clear hF1 hF2 hF3 hF4 C3k hij hk hP; have l1 : ι <= s.size := by omega
           have hP0 : zbD (zau e.part) 0 (zai ls) = zau e.part := zf4 yO yO; have hTl : (zau e.part).length <= 2000 := by omega
           have hbds : 0 <= zai ls := by omega
           have hb2000 : zai ls - 0 <= 1000000 := by omega
           have HU := yq (fun (W : World) (hc : W.cell? ⟨w.heap.size, 4, none⟩ = some vR) (hlt : w.heap.size < W.heap.size) (hs : Sl zas W W.heap.size vR e.part) => zfa w.heap.size 4 vR e.part ls 0 (zai ls) W hc hlt hs hsm Hls.o hn400 (Int.le_refl 0) hbds (Int.le_refl _) hb2000); rw [hP0] at HU; obtain ⟨T, hT⟩ : ∃ T, zau e.part = T := ⟨_, rfl⟩
           rw [hT] at HU HP hTl; have n1 : ¬ 9223372036854775807 < ι + T.length := by omega
           have n2 : ¬ 9223372036854775807 < ι + T.length + (s.size - ι) := by omega
           have HLn := yq (fun (W : World) (hc : W.cell? ⟨w.heap.size, 4, none⟩ = some vR) (hlt : w.heap.size < W.heap.size) (hs : Sl zas W W.heap.size vR e.part) => zbn w.heap.size 4 vR e.part ls W Hls.o hc hlt hs hsm yO); have ED := yq (E3.o.sl.up (zf1 (w := w3))); have z3d : w.heap.size < w3.drew.heap.size := z3; clear hP0 hT hbds hb2000 hwl hlen1; go_wp2_with fail
           have KB := And.intro (zf1 (w := w3)) (And.intro (show w3.drew.cell? ⟨w.heap.size, 1, none⟩ = _ from x1) (show w3.drew.cell? ⟨w.heap.size, 4, none⟩ = _ from x4))
           go_region_held3 (fun w' => Below w3.heap.size w3 w' /\ w'.cell? ⟨w.heap.size, 1, none⟩ = some (.int .i64 (ι : Int)) /\ w'.cell? ⟨w.heap.size, 4, none⟩ = some vR)
            (first | (with_reducible exact KB) | (with_reducible exact zeR KB hb4 z3 z3) | (with_reducible exact zeR (zeR KB hb4 z3 z3) hb5 z3 z3))
            (first
              | (go_at_call 45; (with_reducible refine (HLn.o _ KB.2.2 z3d ED.o).mono ?_); rintro r w4 ⟨rfl, hb4⟩)
              | (go_at_call 44; (with_reducible refine (HU.o _ (zeR KB hb4 z3 z3).2.2 (Nat.lt_of_lt_of_le z3d hb4.size) (ED.o.up hb4)).mono ?_); rintro r w5 ⟨rfl, hb5⟩))
           go_wp2_with fail
           go_ret2
           exact ⟨by rw [PC.o, PV.o, HP.o]; rfl, B3.o.trans (((zf1 (w := w3)).trans (hb4.trans (hb5.mono hb4.size))).mono B3.o.size)⟩
         · have hf := hF2 yO
           have hi := hij yO; have hP := zke hk Hι.o Hφ.o (s := s); have HP := yq hP; rw [hk] at x0; clear hF1 hF2 hF3 hF4 hij hk hP; have l1 : ι <= s.size := by omega
           have l2 : φ <= s.size := by omega
           go_wp2_with fail
           go_quiet (fail)
           go_wp2_with fail
           go_ret2
           exact ⟨by rw [PC.o, PV.o, HP.o]; rfl, B3.o.trans ((zat (Below.refl _ _) _).mono B3.o.size)⟩
         · have hf := hF2 yO
           have hi := hij yO; have hc := hF3 yO; have hP := zkf hk Hι.o Hφ.o Hκ.o (s := s); have HP := yq hP; rw [hk] at x0
           have l0 : κ <= s.size := by
            have := C3k hk; omega
           clear hF1 hF2 hF3 hF4 hij hk hP; have l1 : ι <= s.size := by omega
           have l2 : φ <= s.size := by omega
           have l3 : ι <= φ := by omega
           go_wp2_with fail
           go_quiet (fail)
           go_wp2_with fail
           go_ret2
           exact ⟨by rw [PC.o, PV.o, HP.o]; rfl, B3.o.trans ((zat (Below.refl _ _) _).mono B3.o.size)⟩
         · have hf := hF2 yO
           have hi := hij yO; have hc := hF3 yO; have hd := hF4 yO; rw [hk] at x0; have l1 : ι <= s.size := by omega
           have l2 : φ <= s.size := by omega
           have l3 : ι <= φ := by omega
           by_cases hki : κ <= ι
           · have hP := ziK hk Hι.o Hφ.o Hκ.o hki (s := s)
             have HP := yq hP; have l0 : κ <= s.size := by omega
             clear hF1 hF2 hF3 hF4 hij hk hP hc hd; go_wp2_with fail
             go_quiet (fail)
             go_wp2_with fail
             go_ret2
             exact ⟨by rw [PC.o, PV.o, HP.o]; rfl, B3.o.trans ((zat (Below.refl _ _) _).mono B3.o.size)⟩
           · have hP := ziL hk Hι.o Hφ.o Hκ.o hki (s := s)
             have HP := yq hP; have l0 : κ <= s.size := by omega
             have l4 : φ <= κ := by omega
             clear hF1 hF2 hF3 hF4 hij hk hP hc hd; go_wp2_with fail
             go_quiet (fail)
             go_wp2_with fail
             go_ret2
             exact ⟨by rw [PC.o, PV.o, HP.o]; rfl, B3.o.trans ((zat (Below.refl _ _) _).mono B3.o.size)⟩
         · have hf := hF2 yO
           have hi := hij yO; have hP := zkg hk Hι.o Hφ.o (s := s); have HP := yq hP; rw [hk] at x0; clear hF1 hF2 hF3 hF4 C3k hij hk hP; have l1 : ι <= s.size := by omega
           have l2 : φ <= s.size := by omega
           have l3 : ι <= φ := by omega
           obtain ⟨T, hT⟩ : ∃ T, (s.extract ι φ).data.toList.reverse = T := ⟨_, rfl⟩
           have hTl : T.length <= 2000 := by rw [<- hT]; simp; omega
           have HT := yq (fun W => zjE (s.extract ι φ) W (by simp; omega)); rw [hT] at HT HP; have n1 : ¬ 9223372036854775807 < ι + T.length := by omega
           have n2 : ¬ 9223372036854775807 < ι + T.length + (s.size - φ) := by omega
           clear hT; go_wp2_with fail
           have KB := And.intro (zf1 (w := w3)) (And.intro (show w3.drew.cell? ⟨w.heap.size, 1, none⟩ = _ from x1) (And.intro (show w3.drew.cell? ⟨w.heap.size, 2, none⟩ = _ from x2) (show w3.drew.cell? ⟨w.heap.size, 3, none⟩ = _ from x3)))
           go_region_held3 (fun w' => Below w3.heap.size w3 w' /\ w'.cell? ⟨w.heap.size, 1, none⟩ = some (.int .i64 (ι : Int)) /\ w'.cell? ⟨w.heap.size, 2, none⟩ = some (.int .i64 (φ : Int)) /\ w'.cell? ⟨w.heap.size, 3, none⟩ = some (.int .i64 (κ : Int)))
            (first | (with_reducible exact KB) | (with_reducible exact zmi KB hb4 z3 z3 z3))
            (first
              | (go_at_call 46; (with_reducible refine (HT.o _).mono ?_); rintro r w4 ⟨rfl, hb4⟩))
           go_wp2_with fail
           go_ret2
           exact ⟨by rw [PC.o, PV.o, HP.o]; rfl, B3.o.trans (((zf1 (w := w3)).trans hb4).mono B3.o.size)⟩
         · have hf := hF2 yO
           have hi := hij yO
           have hlen6 : (φ - ι) * κ <= 2000 := by
            have h := C4.o; rw [zax, if_neg yO, if_neg yO, if_neg yO, if_pos hk, Hι.o, Hφ.o, Hκ.o] at h; have e1 : ((φ : Int) - ι) * κ = (((φ - ι) * κ : Nat) : Int) := by rw [Int.natCast_mul, Int.natCast_sub yO]
            rw [e1] at h; omega
           rw [hk] at x0; have l1 : ι <= s.size := by omega
           have l2 : φ <= s.size := by omega
           have l3 : ι <= φ := by omega
           have lκ : κ <= 1000000000000000 := by have := Hκ15.o; omega
           by_cases heq : ι = φ
           · have hP := ziM hk Hι.o Hφ.o heq (s := s)
             have HP := yq hP; have g6 : ((ι : Int) == (φ : Int)) = true := by simp [heq]
             clear hF1 hF2 hF3 hF4 C3k hij hk hP heq hlen6; go_wp2_with fail
             go_ret2
             exact ⟨by rw [PC.o, PV.o, HP.o]; rfl, B3.o⟩
           · have hP := ziN hk Hι.o Hφ.o Hκ.o heq (s := s)
             have HP := yq hP; have g6 : ((ι : Int) == (φ : Int)) = false := by rw [beq_eq_false_iff_ne]; omega
             obtain ⟨T, hT⟩ : ∃ T, zfS (s.extract ι φ).data.toList κ = T := ⟨_, rfl⟩
             have hTl : T.length <= 2000 := by
              rw [<- hT, zes]; have : (s.extract ι φ).data.toList.length = φ - ι := by simp; omega
              rw [this, Nat.mul_comm]; exact hlen6
             have HT := yq (fun W => ziI (s.extract ι φ) κ W lκ (by
              have : (s.extract ι φ).size = φ - ι := by simp; omega
              rw [this, Nat.mul_comm]; exact Nat.le_trans hlen6 (by decide)) (by simp; omega))
             rw [hT] at HT HP; have n1 : ¬ 9223372036854775807 < ι + T.length := by omega
             have n2 : ¬ 9223372036854775807 < ι + T.length + (s.size - φ) := by omega
             clear hF1 hF2 hF3 hF4 C3k hij hk hP heq hlen6 hT; go_wp2_with fail
             have KB := And.intro (zf1 (w := w3)) (And.intro (show w3.drew.cell? ⟨w.heap.size, 1, none⟩ = _ from x1) (And.intro (show w3.drew.cell? ⟨w.heap.size, 2, none⟩ = _ from x2) (show w3.drew.cell? ⟨w.heap.size, 3, none⟩ = _ from x3)))
             go_region_held3 (fun w' => Below w3.heap.size w3 w' /\ w'.cell? ⟨w.heap.size, 1, none⟩ = some (.int .i64 (ι : Int)) /\ w'.cell? ⟨w.heap.size, 2, none⟩ = some (.int .i64 (φ : Int)) /\ w'.cell? ⟨w.heap.size, 3, none⟩ = some (.int .i64 (κ : Int)))
              (first | (with_reducible exact KB) | (with_reducible exact zmi KB hb4 z3 z3 z3))
              (first
                | (go_at_call 47; (with_reducible refine (HT.o _).mono ?_); rintro r w4 ⟨rfl, hb4⟩))
             go_wp2_with fail
             go_ret2
             exact ⟨by rw [PC.o, PV.o, HP.o]; rfl, B3.o.trans (((zf1 (w := w3)).trans hb4).mono B3.o.size)⟩
         · have hf := hF2 yO
           have hi := hij yO; have hP := zkh hk Hι.o Hφ.o (s := s); have HP := yq hP; have hm4 := HE7.o hk; rw [hk] at x0; clear hF1 hF2 hF3 hF4 C3k hij hk hP; have l1 : ι <= s.size := by omega
           have l2 : φ <= s.size := by omega
           have l3 : ι <= φ := by omega
           obtain ⟨T, hT⟩ : ∃ T, (s.extract ι φ).data.toList.map (ziJ e.map) = T := ⟨_, rfl⟩
           have hTl : T.length <= 2000 := by rw [<- hT]; simp; omega
           have HT := yq (fun W => zhS (s.extract ι φ) e.map W (by simp; omega) hm4 (zgG HLet.o)); rw [hT] at HT HP; have n1 : ¬ 9223372036854775807 < ι + T.length := by omega
           have n2 : ¬ 9223372036854775807 < ι + T.length + (s.size - φ) := by omega
           clear hT hm4; go_wp2_with fail
           have KB := And.intro (zf1 (w := w3)) (And.intro (show w3.drew.cell? ⟨w.heap.size, 1, none⟩ = _ from x1) (And.intro (show w3.drew.cell? ⟨w.heap.size, 2, none⟩ = _ from x2) (show w3.drew.cell? ⟨w.heap.size, 5, none⟩ = _ from x5)))
           go_region_held3 (fun w' => Below w3.heap.size w3 w' /\ w'.cell? ⟨w.heap.size, 1, none⟩ = some (.int .i64 (ι : Int)) /\ w'.cell? ⟨w.heap.size, 2, none⟩ = some (.int .i64 (φ : Int)) /\ w'.cell? ⟨w.heap.size, 5, none⟩ = some (.string e.map))
            (first | (with_reducible exact KB) | (with_reducible exact zmi KB hb4 z3 z3 z3))
            (first
              | (go_at_call 48; (with_reducible refine (HT.o _).mono ?_); rintro r w4 ⟨rfl, hb4⟩))
           go_wp2_with fail
           go_ret2
           exact ⟨by rw [PC.o, PV.o, HP.o]; rfl, B3.o.trans (((zf1 (w := w3)).trans hb4).mono B3.o.size)⟩
       · have g4 : decide (zdu e s.size 2000 < 0) = true := by
          have : zdu e s.size 2000 = -1 := by rw [zdu, if_neg c4]
          rw [this]; simp
         obtain ⟨G, hGv⟩ : ∃ G, zdu e s.size 2000 = G := ⟨_, rfl⟩
         rw [hGv] at g4; rw [hGv]; obtain ⟨pc, pv⟩ := zoV HW.o HE.o C3.o c4; have PC := yq pc; have PV := yq pv; clear pc pv c4 hGv hnn hF; go_wp2_with fail
         go_ret2
         exact ⟨by rw [PC.o, PV.o]; rfl, B3.o⟩
     · have c3' : zar e s.size = false := by simpa using c3
       have g3 : (!zar e s.size) = true := by simp [c3']
       obtain ⟨pc, pv⟩ := zoU HW.o HE.o c3'; have PC := yq pc; have PV := yq pv; clear pc pv c3 c3'; go_wp2_with fail
       go_ret2
       exact ⟨by rw [PC.o, PV.o]; rfl, B2.o⟩
   · have he' : zaA e = false := by simpa using he
     have g0 : (!zaA e) = true := by simp [he']
     obtain ⟨pc, pv⟩ := znm (s := s) (e := e) (.inr he'); have PC := yq pc; have PV := yq pv; clear pc pv he he'; go_wp2_with fail
     go_ret2
     exact ⟨by rw [PC.o, PV.o]; rfl, B1.o⟩
 · have hw' : zay s = false := by simpa using hw
   have g0 : (!zay s) = true := by simp [hw']
   obtain ⟨pc, pv⟩ := znm (s := s) (e := e) (.inl hw'); have PC := yq pc; have PV := yq pv; clear pc pv hw hw' hs; go_wp2_with fail
   go_ret2
   exact ⟨by rw [PC.o, PV.o]; rfl, yb⟩
theorem ziO (a b : ByteArray) : (a ++ b).data.toList = a.data.toList ++ b.data.toList := by simp [ByteArray.data_append]
theorem zmS (s : ByteArray) (i j : Nat) : (s.extract i j).data.toList = (s.data.toList.take j).drop i := by
 simp [ByteArray.data_extract, List.drop_take]
theorem zpk (s : ByteArray) : s.data.toList.length = s.size := by simp
theorem ziP (s : ByteArray) (j : Nat) : (s.extract 0 j).data.toList = s.data.toList.take j := by rw [zmS]; rfl
theorem ziQ (s : ByteArray) (i : Nat) : (s.extract i s.size).data.toList = s.data.toList.drop i := by
 rw [zmS, List.take_of_length_le yS]
theorem zoh {t : ByteArray} (h4 : t.size = 4) {c : UInt8} (hc : zb5 c = true) : znW (zft t) c = ziJ t c := by
 obtain ⟨k, hk, rfl⟩ := zgr hc; obtain ⟨⟨l⟩⟩ := t; have hl : l.length = 4 := h4
 match l, hl with
 | [a, b, c, d], _ =>
   have : k = 0 \/ k = 1 \/ k = 2 \/ k = 3 := by omega
   rcases this with rfl | rfl | rfl | rfl <;> rfl
theorem znn {xs : List zaa} (hx : zaf xs = true) : (zau xs).all zb5 = true := by
 obtain ⟨_, ls, hl⟩ := zag hx; by_cases h0 : 0 < xs.length
 · rw [za7 h0]; exact zpc hl _ yO
 · have : xs = [] := yn yO
   subst this; rfl
theorem zk7 {xs : List zaa} {e : zap} (h : zah xs e = 0) (k7 : e.kind = 7) : zau (zaj xs e) = zbD (zau xs) 0 e.i ++ (zbD (zau xs) e.i e.j).map (ziJ e.map) ++ zbD (zau xs) e.j (zau xs).length := by
 obtain ⟨h1, h2, h3⟩ := za2 h; obtain ⟨_, ls, hl⟩ := zag h1; have hlq : zdi xs = ls := by simp [zdi, hl]
 have hgl := zaq hl; have hwl := zaQ hl; obtain ⟨hk, hi, hj, hq, hij, hj0, hgp⟩ := zbh h2; have hij := hij yO
 obtain ⟨o, ho⟩ : ∃ o, zaT xs ls (zai ls) e = some o := by
  cases hs : zaT xs ls (zai ls) e with
  | some o => exact ⟨o, rfl⟩
  | none =>
    exfalso
    unfold zah zco at h; rw [h1, h2, hlq, hs] at h; rw [if_pos yR, h3, if_pos rfl] at h; cases h
 rw [hgl] at h3; unfold zar at h3; rw [if_neg yO, if_neg yO, if_neg yO] at h3; have h3 : e.j <= zai ls := by simpa using h3
 have hE : zaT xs ls (zai ls) e = zbu (zbu (zbu (some []) (zbj (zam xs ls 0 e.i))) ((zbj (zam xs ls e.i e.j)).bind (zc8 e))) (zbj (zam xs ls e.j (zai ls))) := by
  unfold zaT; rw [if_neg yO, if_neg yO, if_neg yO, if_neg yO]
 have hm : zay e.map = true /\ e.map.size = 4 := by
  unfold zaA at h2; simp only [Bool.and_eq_true] at h2
  have h8 := h2.2; rw [if_pos (by rw [k7]; rfl)] at h8; simp only [Bool.and_eq_true, beq_iff_eq] at h8
  exact ⟨h8.2, h8.1⟩
 have hmid : GwO ((zbj (zam xs ls e.i e.j)).bind (zc8 e)) ((zbD (zau xs) e.i e.j).map (ziJ e.map)) := by
  intro q hq1; obtain ⟨p, hp1, hp2⟩ := Option.bind_eq_some_iff.1 hq1; obtain ⟨g1, g2⟩ := GwO.part hl hi.1 hij h3 p hp1; unfold zc8 at hp2; rw [if_neg yO, if_neg yO] at hp2; obtain ⟨m1, m2⟩ := zme (zkc hm.1 hm.2) (zdt hm.1 hm.2).1 g1 hp2; refine ⟨m1, ?_⟩
  rw [m2, g2]; apply List.map_congr_left
  intro c hc; refine zoh hm.2 ?_
  have hall := znn g1; rw [g2] at hall; exact List.all_eq_true.1 hall c hc
 have hG := ((GwO.nil.add (GwO.part hl (Int.le_refl 0) hi.1 (Int.le_trans hij h3))).add hmid).add (GwO.part hl hj.1 h3 (Int.le_refl _)); rw [<- hE] at hG; obtain ⟨q1, q2⟩ := hG o ho; obtain ⟨_, lo, hlo⟩ := zag q1; obtain ⟨_, _, t1, _⟩ := zdr hlo
 have hao : zaj xs e = zaO o := by
  unfold zaj zco; rw [h1, h2, hlq, ho, if_pos yR, hgl]; rw [if_pos (by unfold zar; rw [if_neg yO, if_neg yO, if_neg yO]; simpa using h3)]; rfl
 rw [hao, t1, q2, hwl]; simp
theorem zo8 (l : List UInt8) (j : Int) : zbD l 0 j = l.take j.toNat := rfl
theorem zno (l : List UInt8) (i : Int) : zbD l i (l.length : Nat) = l.drop i.toNat := by
 unfold zbD; rw [Int.toNat_natCast, List.take_length]
theorem zk8 {xs : List zaa} {e : zap} (ha : zah xs e = 0) {s : ByteArray} (hs : s.data.toList = zau xs) : (zb0 s e).data.toList = zau (zaj xs e) := by
 have hE := zb4 ha; obtain ⟨h1, h2, h3⟩ := za2 ha; obtain ⟨hk, hi, hj, hq, hij, hj0, hgp⟩ := zbh h2; unfold EwP at hE; unfold zb0; rw [zno, zo8] at hE; rcases zdl hk with k1 | k1 | k1 | k1 | k1 | k1 | k1
 · rw [if_pos k1] at hE |-
   rw [hE, ziO, ziO, ziP, ziQ, hs]
 · rw [if_neg yO, if_pos k1] at hE |-
   rw [hE, ziO, ziP, ziQ, hs, zno]
 · rw [if_neg yO, if_neg yO, if_pos k1] at hE |-
   rw [hE, ziO, ziO, ziP, ziQ, zmS, hs, zno, zo8]; rfl
 · rw [if_neg yO, if_neg yO, if_neg yO, if_pos k1] at hE |-
   by_cases c : e.k <= e.i
   · rw [if_pos c] at hE |-
     rw [hE, ziO, ziO, ziO, ziP, ziQ, zmS, zmS, hs, zno, zo8]; rfl
   · rw [if_neg c] at hE |-
     rw [hE, ziO, ziO, ziO, ziP, ziQ, zmS, zmS, hs, zno]; rfl
 · rw [if_neg yO, if_neg yO, if_neg yO, if_neg yO] at hE |-
   rw [if_pos k1]; obtain ⟨m, hu, m5, _, _⟩ := hE; rw [hu, m5 k1, ziO, ziO, ziP, ziQ, zmS, hs, zno]; rfl
 · rw [if_neg yO, if_neg yO, if_neg yO, if_neg yO] at hE |-
   rw [if_neg yO, if_pos k1]; obtain ⟨m, hu, _, m6, _⟩ := hE; by_cases c : e.i = e.j
   · rw [if_pos c, hs, hu, m6 k1, <- c, zf3 (.inr (.inr (Int.le_refl _))), zno]
     have : zgX [] e.k.toNat = [] := by unfold zgX; simp
     rw [this, List.append_nil, List.take_append_drop]
   · rw [if_neg c, hu, m6 k1, ziO, ziO, ziP, ziQ, zmS, hs, zno]; rfl
 · rw [zk7 ha k1, zno, zo8, if_neg yO, if_neg yO, if_neg yO, if_neg yO, if_neg yO, if_neg yO, ziO, ziO, ziP, ziQ, zmS, hs]; rfl
def zki (F : Nat -> Nat) (l : List Bool) : Nat -> Nat
 | 0 => 0
 | k + 1 => zki F l k + if l.getD k false then F k else 0
theorem zga (F : Nat -> Nat) (l : List Bool) (a : Nat) : ∀ k, zki F (l.set a true) k <= zki F l k + F a /\ (k <= a -> zki F (l.set a true) k = zki F l k)
 | 0 => ⟨Nat.zero_le _, fun _ => rfl⟩
 | k + 1 => by
   obtain ⟨h1, h2⟩ := zga F l a k; unfold zki; by_cases e : a = k
   · subst e
     rw [h2 yL]; refine ⟨?_, fun h => absurd h yO⟩
     split <;> omega
   · rw [zfO e]
     exact ⟨by omega, fun h => by rw [h2 yO]⟩
theorem ziR (F : Nat -> Nat) (n : Nat) : ∀ k, zki F (List.replicate n false) k = 0
 | 0 => rfl
 | k + 1 => by
   unfold zki; rw [ziR F n k, if_neg]; rw [yg, List.getElem?_replicate]
   split <;> simp
def zoC (l : List Bool) (k : Nat) : Nat := zki (fun _ => 1) l k
theorem zjF {ks : List zaa} (h : zaS ks) : ∀ (r : Nat), r < ks.length -> 1 <= (W1 ks r).length := by
 intro r
 induction r using Nat.strongRecOn with
 | _ r ih =>
   intro hx; cases hp : (zav ks r).pair with
   | false => rw [zfo h hx hp]; exact Nat.le_refl _
   | true =>
     obtain ⟨q1, q2, q3, q4⟩ := zdp h hx hp; have := ih _ q2 yO; rw [zbM h hx hp, List.length_append]; omega
theorem znp {ks : List zaa} (hk : zaS ks) : ∀ (i : Nat) (l : List Bool), i <= ks.length -> zoC (zaL ks i l) i <= zki (fun x => 2 * (W1 ks x).length - 1) l i := by
 intro i
 induction i with
 | zero => intro l _; exact Nat.zero_le _
 | succ i ih =>
   intro l hi
   have e1 : (zaL ks (i + 1) l).getD i false = l.getD i false := by
    rw [zaL, zdf hk i yO yL, zde hk yO yL]
   have e2 : zoC (zaL ks (i + 1) l) (i + 1) = zoC (zaL ks i (za1 ks l i)) i + if l.getD i false then 1 else 0 := by
    show zki _ _ i + _ = _
    rw [e1]; rfl
   have h1 := ih (za1 ks l i) yO; rw [e2]; show _ <= zki _ l i + _
   cases hb : l.getD i false with
   | false =>
     have e3 : za1 ks l i = l := by unfold za1; rw [hb]; rfl
     rw [e3] at h1 |-
     simpa using h1
   | true =>
     have hp1 := zjF hk i yO; rw [if_pos rfl, if_pos rfl]; show zoC _ i + 1 <= zki (fun x => 2 * (W1 ks x).length - 1) l i + (2 * (W1 ks i).length - 1)
     cases hp : (zav ks i).pair with
     | false =>
       have e3 : za1 ks l i = l := by unfold za1; rw [hb, hp]; rfl
       rw [e3] at h1 |-
       omega
     | true =>
       obtain ⟨q1, q2, q3, q4⟩ := zdp hk (show i < ks.length by omega) hp; have e3 : za1 ks l i = (l.set (zav ks i).left.toNat true).set (zav ks i).right.toNat true := by unfold za1; rw [hb, hp]; rfl
       rw [e3] at h1 |-
       have s1 := (zga (fun x => 2 * (W1 ks x).length - 1) (l.set (zav ks i).left.toNat true) (zav ks i).right.toNat i).1; have s2 := (zga (fun x => 2 * (W1 ks x).length - 1) l (zav ks i).left.toNat i).1; have p1 := zjF hk (zav ks i).left.toNat yO; have p2 := zjF hk (zav ks i).right.toNat yO
       have hw : (W1 ks i).length = (W1 ks (zav ks i).left.toNat).length + (W1 ks (zav ks i).right.toNat).length := by
        rw [zbM hk yO hp, List.length_append]
       omega
theorem zmj (xs : List zaa) : ∀ k, (zbs xs k).1.length = zoC (zbT xs) k := by
 intro k
 induction k with
 | zero => rfl
 | succ k ih =>
   rw [zca]; show _ = zki _ _ k + _
   unfold zch; cases h : (zbT xs).getD k false with
   | true => rw [if_pos rfl, if_pos rfl, List.length_append, ih]; rfl
   | false => rw [if_neg yS, if_neg yS, ih]; rfl
theorem zhV {xs : List zaa} {ls : List Int} (hl : zaX xs = some ls) : (zaO xs).length <= 2 * (zau xs).length := by
 by_cases h0 : 0 < xs.length
 · have h := zaz hl
   have C := zcS h; have hw := zhe h; obtain ⟨K, S, hp⟩ : ∃ K S, zbG xs = (K, S) := ⟨_, _, rfl⟩
   rw [hp] at C hw; have l1 : K.length = xs.length := C.l1; have cok : zaS K := C.ok; have hroot : 0 <= S.getD (xs.length - 1) 0 /\ S.getD (xs.length - 1) 0 <= ((xs.length - 1 : Nat) : Int) := C.low (xs.length - 1) yO; obtain ⟨R, hR⟩ : ∃ R, (S.getD (xs.length - 1) 0).toNat = R := ⟨_, rfl⟩
   have hRl : R < xs.length := by omega
   have eN : zbT xs = zaL K xs.length ((List.replicate xs.length false).set R true) := by
    unfold zbT zeD; rw [hp]; show zaL K _ ((List.replicate xs.length false).set (S.getD (xs.length - 1) 0).toNat true) = _; rw [hR]
   have hwR : W1 K R = zau xs := by
    have h2 : W1 K R = W1 K (xs.length - 1) := by
     have hi : S.getD (xs.length - 1) 0 = ((K.idxOf (zav K (xs.length - 1)) : Nat) : Int) := C.idx _ yO; have hm : zav K (xs.length - 1) ∈ K := zeS yO; have hlt : K.idxOf (zav K (xs.length - 1)) < K.length := List.idxOf_lt_length_iff.2 hm; have hRe : R = K.idxOf (zav K (xs.length - 1)) := by rw [<- hR, hi]; simp
     refine zjk cok yO yO ?_
     rw [hRe]; exact (zby (ye hlt)).trans (List.getElem_idxOf hlt)
    rw [h2, za7 h0]; exact hw _ yO
   have h1 : (zaO xs).length = zoC (zbT xs) xs.length := zmj xs xs.length; rw [eN] at h1; have h2 := znp cok xs.length ((List.replicate xs.length false).set R true) yO; have h3 := (zga (fun x => 2 * (W1 K x).length - 1) (List.replicate xs.length false) R xs.length).1; rw [ziR] at h3; simp only [hwR] at h3
   omega
 · have hx : xs = [] := yn yO
   subst hx; exact Nat.zero_le _
theorem zgH {xs : List zaa} {ls : List Int} (h : zaX xs = some ls) {i j : Int} (hi : 0 <= i) (hij : i <= j) (hj : j <= zai ls) : ((zam xs ls i j).length : Int) <= 2 * (j - i) := by
 have hw := zeE h (i := i) (j := j); have hlen := zaQ h; have hb := zaM xs; rw [zaq h] at hb
 have hm : (((za0 xs ls i j).flatMap (W1 xs)).length : Int) <= zdQ := by
  rw [hw, zcz hi hij yO]; unfold zdQ; omega
 obtain ⟨l1, h1, h2⟩ := ziv h _ (zcO h i j) hm; have h3 := zhV h1; rw [h2, hw] at h3; have h4 := zcz (l := zau xs) hi hij yO; unfold zam; omega
theorem zdP {xs : List zaa} {ls : List Int} (h : zaX xs = some ls) {i j : Int} (hi : 0 <= i) (hij : i <= j) (hj : j <= zai ls) (hs : j - i <= 200) : zaf (zam xs ls i j) = true := by
 have h1 := zgH h hi hij hj; obtain ⟨l1, h2, _⟩ := zdv h hi hij hj; simp only [zaf, Bool.and_eq_true, decide_eq_true_eq]
 exact ⟨by omega, by rw [h2]; rfl⟩
theorem zoi {s g : Option (List zaa)} {o : List zaa} (h : zbu s g = some o) : zaf o = true := by
 unfold zbu at h; split at h
 · split at h
   · rename_i h2; cases h; exact h2
   · cases h
 · cases h
theorem znq {xs : List zaa} {ls : List Int} {n : Int} {e : zap} {o : List zaa} (h : zaT xs ls n e = some o) : zaf o = true := by
 unfold zaT at h
 repeat' split at h
 all_goals exact zoi h
theorem zcv (xs : List zaa) (e : zap) : zaf (zaj xs e) = true := by
 unfold zaj; split
 · split
   · unfold zhM zco
     cases h : zaT xs (zdi xs) (zai (zdi xs)) e with
     | none => rfl
     | some o => exact zjm (znq h)
   · rfl
 · rfl
end Go.Proofs.YtdacndamehiglaaGreatDoor
