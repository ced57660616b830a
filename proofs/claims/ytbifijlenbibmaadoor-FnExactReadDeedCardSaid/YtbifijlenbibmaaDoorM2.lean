import Derived.Shelf.Strings.Builder1
import Derived.Shelf.Strings.Builder2
import Derived.Shelf.Small.Strs
import Derived.Shelf.Strings.BuilderF
import Derived.Shelf.Strings.BuilderK
import Derived.Shelf.Utf8.RuneCount
import Derived.Shelf.Strconv.Itoa0
import Derived.Shelf.Strconv.Itoa1
import Derived.Shelf.LaysM
import Derived.Shelf.Strconv.Itoa2
import Derived.Shelf.Strconv.Itoa3
import Derived.Shelf.Strconv.Itoa4
import Derived.Shelf.Strconv.ParseIntEmpty
import Derived.Shelf.Strconv.Clone
import Derived.Shelf.Strconv.SyntaxError
import Derived.Shelf.LaysC
import Derived.Shelf.Strconv.ToError
import Derived.Shelf.Strconv.Lower
import Derived.Shelf.Strconv.ParseUint10
import Derived.Shelf.Strconv.ParseUint10Empty
import Derived.Shelf.Strconv.ParseUint10Any
import Derived.Shelf.Strconv.ParseInt10
import Derived.Shelf.Strconv.RangeError
import Derived.Shelf.Strconv.ToErrorRange
import Derived.Shelf.Strconv.ParseUintEmpty
import Derived.Shelf.Strconv.ParseUint10b64
import Derived.Shelf.Strconv.ParseUint10b32
import Derived.Shelf.Strconv.ParseUint10b16
import Derived.Shelf.Strconv.ParseUint10b8
import Derived.Shelf.Strconv.ParseUint10At
import Derived.Shelf.Strconv.ParseInt10At64
import Derived.Shelf.Strconv.ParseInt10At32
import Derived.Shelf.Strconv.ParseInt10At16
import Derived.Shelf.Strconv.ParseInt10At8
import Derived.Shelf.Strconv.ParseInt10All
import Derived.Shelf.Strconv.ParseIntPublic10
import Derived.Shelf.Strconv.ErrVarParseInt
import Derived.Shelf.Strings.Search1
import Derived.Shelf.Strings.Search2
import Derived.Shelf.Strings.Search3
import Derived.Shelf.Strings.Count
import Derived.Shelf.Strings.Shaped
import Derived.Shelf.Strings.Split
import Derived.Shelf.Strings.SplitShaped
import Derived.Shelf.Unicode.Decode
import Derived.Shelf.Strings.RuneCount
import Derived.Shelf.Strings.Explode
import Derived.Shelf.Bits.Mul64
import Derived.Shelf.Unicode.DecodeSlow
import Derived.Shelf.Unicode.DecodeAny
import Derived.Test.YtbifijlenbibmaaDoorM1
import Derived.Laws.EntriesVeiled
import Derived.Deep.CutRange
import Derived.Deep.DeepCutAuto
import Derived.Lib.CountLaws
import Derived.Lib.SplitLaws
namespace Go.Proofs
open Go.Shelf Go.RowKit
theorem Tryd.strings_Split (s sep : ByteArray) (m : Int) (w : World) (hs : s.size < 4294967281) (hm : w.cell? ⟨2, 0, none⟩ = some (.int .i64 m)) (h1 : 1 ≤ sep.size) :
    Calls Tryd.prog 12 #[.string s, .string sep] w fun e w' =>
      e = .returned (.slice (some ⟨w.heap.size, 0, none⟩) (Lib.countB s sep + 1) (Lib.countB s sep + 1)) ∧ w' = w.alloc (.cells ((Lib.splitB sep 0 (Lib.countB s sep) s).map Value.string).toArray 9) := Any.strings_Split Tryd.lays146 (by kernel_rfl) s sep m w hs hm h1
def Tryd.laysC174_ren : Go.Shelf.Ren := ⟨fun | 174 => 13 | 247 => 20 | 245 => 21 | 287 => 29 | 279 => 30 | 280 => 31 | 281 => 32 | 282 => 33 | 321 => 39 | 322 => 40 | 316 => 41 | 171 => 43 | 205 => 42 | 243 => 50 | 246 => 44 | 283 => 51 | 284 => 52 | 285 => 53 | 286 => 54 | 129 => 58 | 317 => 57 | 318 => 59 | 319 => 60 | 320 => 61 | 337 => 62 | 338 => 63 | n => n, fun | 9 => 9 | 3 => 3 | 2 => 2 | 75 => 39 | 85 => 40 | 4 => 4 | 167 => 55 | 5 => 5 | 53 => 56 | 175 => 57 | 46 => 59 | 168 => 60 | 37 => 52 | 0 => 0 | 210 => 71 | 21 => 21 | 127 => 75 | 145 => 78 | 143 => 76 | 171 => 79 | 173 => 82 | 212 => 92 | 51 => 88 | 20 => 20 | 213 => 93 | 232 => 97 | 233 => 98 | 80 => 99 | n => n, fun | 15 => 0 | 16 => 1 | 17 => 5 | 18 => 6 | 19 => 7 | n => n⟩
theorem Tryd.laysC174 : Go.Proofs.LaysC.n174 Tryd.prog Tryd.laysC174_ren := {
  mixed := by kernel_rfl
  f129 := Tryd.func58.trans (congrArg some (by kernel_rfl))
  f171 := Tryd.func43.trans (congrArg some (by kernel_rfl))
  f174 := Tryd.func13.trans (congrArg some (by kernel_rfl))
  f205 := Tryd.func42.trans (congrArg some (by kernel_rfl))
  f243 := Tryd.func50.trans (congrArg some (by kernel_rfl))
  f245 := Tryd.func21.trans (congrArg some (by kernel_rfl))
  f246 := Tryd.func44.trans (congrArg some (by kernel_rfl))
  f247 := Tryd.func20.trans (congrArg some (by kernel_rfl))
  f279 := Tryd.func30.trans (congrArg some (by kernel_rfl))
  f280 := Tryd.func31.trans (congrArg some (by kernel_rfl))
  f281 := Tryd.func32.trans (congrArg some (by kernel_rfl))
  f282 := Tryd.func33.trans (congrArg some (by kernel_rfl))
  f283 := Tryd.func51.trans (congrArg some (by kernel_rfl))
  f284 := Tryd.func52.trans (congrArg some (by kernel_rfl))
  f285 := Tryd.func53.trans (congrArg some (by kernel_rfl))
  f286 := Tryd.func54.trans (congrArg some (by kernel_rfl))
  f287 := Tryd.func29.trans (congrArg some (by kernel_rfl))
  f316 := Tryd.func41.trans (congrArg some (by kernel_rfl))
  f317 := Tryd.func57.trans (congrArg some (by kernel_rfl))
  f318 := Tryd.func59.trans (congrArg some (by kernel_rfl))
  f319 := Tryd.func60.trans (congrArg some (by kernel_rfl))
  f320 := Tryd.func61.trans (congrArg some (by kernel_rfl))
  f321 := Tryd.func39.trans (congrArg some (by kernel_rfl))
  f322 := Tryd.func40.trans (congrArg some (by kernel_rfl))
  f337 := Tryd.func62.trans (congrArg some (by kernel_rfl))
  f338 := Tryd.func63.trans (congrArg some (by kernel_rfl))
  t0 := Tryd.underlying0
  a0 := Tryd.isAgg0
  z0 := Tryd.sizeOf0
  v0 := Tryd.zeroValue0
  t2 := Tryd.underlying2
  a2 := Tryd.isAgg2
  z2 := Tryd.sizeOf2
  v2 := Tryd.zeroValue2
  t3 := Tryd.underlying3
  a3 := Tryd.isAgg3
  z3 := Tryd.sizeOf3
  v3 := Tryd.zeroValue3
  t4 := Tryd.underlying4
  a4 := Tryd.isAgg4
  z4 := Tryd.sizeOf4
  v4 := Tryd.zeroValue4
  t5 := Tryd.underlying5
  a5 := Tryd.isAgg5
  z5 := Tryd.sizeOf5
  v5 := Tryd.zeroValue5
  t9 := Tryd.underlying9
  a9 := Tryd.isAgg9
  z9 := Tryd.sizeOf9
  v9 := Tryd.zeroValue9
  t20 := Tryd.underlying20
  a20 := Tryd.isAgg20
  z20 := Tryd.sizeOf20
  v20 := Tryd.zeroValue20
  t21 := Tryd.underlying21
  a21 := Tryd.isAgg21
  z21 := Tryd.sizeOf21
  v21 := Tryd.zeroValue21
  t37 := Tryd.underlying52
  a37 := Tryd.isAgg52
  z37 := Tryd.sizeOf52
  v37 := Tryd.zeroValue52
  t46 := Tryd.underlying59
  a46 := Tryd.isAgg59
  z46 := Tryd.sizeOf59
  v46 := Tryd.zeroValue59
  t51 := Tryd.underlying88
  a51 := Tryd.isAgg88
  z51 := Tryd.sizeOf88
  v51 := Tryd.zeroValue88
  t53 := Tryd.underlying56
  a53 := Tryd.isAgg56
  z53 := Tryd.sizeOf56
  v53 := Tryd.zeroValue56
  t75 := Tryd.underlying39
  a75 := Tryd.isAgg39
  z75 := Tryd.sizeOf39
  v75 := Tryd.zeroValue39
  t85 := Tryd.underlying40
  a85 := Tryd.isAgg40
  z85 := Tryd.sizeOf40
  v85 := Tryd.zeroValue40
  t127 := Tryd.underlying75
  a127 := Tryd.isAgg75
  z127 := Tryd.sizeOf75
  v127 := Tryd.zeroValue75
  t143 := Tryd.underlying76
  a143 := Tryd.isAgg76
  z143 := Tryd.sizeOf76
  v143 := Tryd.zeroValue76
  t145 := Tryd.underlying78
  a145 := Tryd.isAgg78
  z145 := Tryd.sizeOf78
  v145 := Tryd.zeroValue78
  t167 := Tryd.underlying55
  a167 := Tryd.isAgg55
  z167 := Tryd.sizeOf55
  v167 := Tryd.zeroValue55
  t168 := Tryd.underlying60
  a168 := Tryd.isAgg60
  z168 := Tryd.sizeOf60
  v168 := Tryd.zeroValue60
  t171 := Tryd.underlying79
  a171 := Tryd.isAgg79
  z171 := Tryd.sizeOf79
  v171 := Tryd.zeroValue79
  t173 := Tryd.underlying82
  a173 := Tryd.isAgg82
  z173 := Tryd.sizeOf82
  v173 := Tryd.zeroValue82
  t175 := Tryd.underlying57
  a175 := Tryd.isAgg57
  z175 := Tryd.sizeOf57
  v175 := Tryd.zeroValue57
  t210 := Tryd.underlying71
  a210 := Tryd.isAgg71
  z210 := Tryd.sizeOf71
  v210 := Tryd.zeroValue71
  t212 := Tryd.underlying92
  a212 := Tryd.isAgg92
  z212 := Tryd.sizeOf92
  v212 := Tryd.zeroValue92
  t213 := Tryd.underlying93
  a213 := Tryd.isAgg93
  z213 := Tryd.sizeOf93
  t232 := Tryd.underlying97
  a232 := Tryd.isAgg97
  z232 := Tryd.sizeOf97
  v232 := Tryd.zeroValue97
  t233 := Tryd.underlying98
  a233 := Tryd.isAgg98
  z233 := Tryd.sizeOf98
  v233 := Tryd.zeroValue98
  g15 := by kernel_rfl
  g16 := by kernel_rfl
  g17 := by kernel_rfl
  g18 := by kernel_rfl
  g19 := by kernel_rfl
  t80 := Tryd.underlying99
  a80 := Tryd.isAgg99
  z80 := Tryd.sizeOf99
  v80 := Tryd.zeroValue99
  i0 := by kernel_rfl
  i2 := by kernel_rfl
  i3 := by kernel_rfl
  i4 := by kernel_rfl
  i5 := by kernel_rfl
  i9 := by kernel_rfl
  i20 := by kernel_rfl
  i21 := by kernel_rfl
  i37 := by kernel_rfl
  i46 := by kernel_rfl
  i51 := by kernel_rfl
  i53 := by kernel_rfl
  i75 := by kernel_rfl
  i80 := by kernel_rfl
  i85 := by kernel_rfl
  i127 := by kernel_rfl
  i143 := by kernel_rfl
  i145 := by kernel_rfl
  i167 := by kernel_rfl
  i168 := by kernel_rfl
  i171 := by kernel_rfl
  i173 := by kernel_rfl
  i175 := by kernel_rfl
  i210 := by kernel_rfl
  i212 := by kernel_rfl
  i232 := by kernel_rfl
  i233 := by kernel_rfl
  m15 := by kernel_rfl
  m16 := by kernel_rfl
  m17 := by kernel_rfl
  m18 := by kernel_rfl
  m19 := by kernel_rfl
  c0 := by kernel_rfl
  c2 := by kernel_rfl
  c3 := by kernel_rfl
  c4 := by kernel_rfl
  c5 := by kernel_rfl
  c9 := by kernel_rfl
  c20 := by kernel_rfl
  c21 := by kernel_rfl
  c37 := by kernel_rfl
  c46 := by kernel_rfl
  c51 := by kernel_rfl
  c53 := by kernel_rfl
  c75 := by kernel_rfl
  c80 := by kernel_rfl
  c85 := by kernel_rfl
  c127 := by kernel_rfl
  c143 := by kernel_rfl
  c145 := by kernel_rfl
  c167 := by kernel_rfl
  c168 := by kernel_rfl
  c171 := by kernel_rfl
  c173 := by kernel_rfl
  c175 := by kernel_rfl
  c210 := by kernel_rfl
  c212 := by kernel_rfl
  c213 := by kernel_rfl
  c232 := by kernel_rfl
  c233 := by kernel_rfl }
theorem Tryd.strconv_ParseInt_10_at64_ok (s : ByteArray) (hmax : s.size ≤ 9223372036854775806) (v : Int) (h : Lib.parseIntB 64 s.data.toList = .ok v) (w : World) :
    Calls Tryd.prog 13 #[.string s, .int .i64 10, .int .i64 64] w fun e w' => e = .returned (.tuple #[.int .i64 v, .nilIface]) ∧ (w' = w ∨ ∃ t, w' = Lib.bytesWorld w 5 t) := Any.strconv_ParseInt_10_at64_ok Tryd.laysC174 s hmax v h w
theorem Tryd.strconv_ParseInt_10_at64_syntax_var (s : ByteArray) (hlim : s.size ≤ 281474976710656) (h : Lib.parseIntB 64 s.data.toList = .«syntax») (tp : TypeId) (p : Value) (w : World) (hvar : w.var? Tryd.prog "strconv.ErrSyntax" = some #[.iface tp p]) :
    Calls Tryd.prog 13 #[.string s, .int .i64 10, .int .i64 64] w fun e w' => ∃ N, e = .returned (.tuple #[.int .i64 (0), .iface 60 (.pointer (some ⟨N, 0, none⟩))]) ∧ w.heap.size ≤ N ∧ w'.heap[N]? = some (.cells #[.string ⟨#[80, 97, 114, 115, 101, 73, 110, 116]⟩, .string s, .iface tp p] 71 (0, 0)) ∧ Below w.heap.size w w' := Any.strconv_ParseInt_10_at64_syntax_var Tryd.laysC174 s hlim h tp p w hvar
theorem Tryd.strconv_ParseInt_10_at64_range_var (s : ByteArray) (hlim : s.size ≤ 281474976710656) (h : Lib.parseIntB 64 s.data.toList = .range) (tp : TypeId) (p : Value) (w : World) (hvar : w.var? Tryd.prog "strconv.ErrRange" = some #[.iface tp p]) :
    Calls Tryd.prog 13 #[.string s, .int .i64 10, .int .i64 64] w fun e w' => ∃ N, e = .returned (.tuple #[.int .i64 (Lib.intSat 64 s.data.toList), .iface 60 (.pointer (some ⟨N, 0, none⟩))]) ∧ w.heap.size ≤ N ∧ w'.heap[N]? = some (.cells #[.string ⟨#[80, 97, 114, 115, 101, 73, 110, 116]⟩, .string s, .iface tp p] 71 (0, 0)) ∧ Below w.heap.size w w' := Any.strconv_ParseInt_10_at64_range_var Tryd.laysC174 s hlim h tp p w hvar
def Tryd.laysM146_ren : Go.Shelf.Ren := ⟨fun | 146 => 12 | 221 => 19 | 268 => 26 | 138 => 27 | 143 => 28 | 195 => 35 | 197 => 36 | 218 => 37 | 219 => 38 | 260 => 45 | 217 => 46 | 225 => 47 | 224 => 48 | 267 => 49 | 266 => 55 | 314 => 56 | n => n, fun | 9 => 9 | 31 => 28 | 3 => 3 | 4 => 4 | 0 => 0 | 105 => 65 | 21 => 21 | 5 => 5 | 46 => 59 | 119 => 84 | 139 => 87 | 138 => 86 | 146 => 89 | 51 => 88 | n => n, fun | 1 => 2 | 3 => 3 | 4 => 4 | n => n⟩
theorem Tryd.laysM146 : Go.Proofs.LaysM.n146 Tryd.prog Tryd.laysM146_ren := {
  mixed := by kernel_rfl
  f138 := Tryd.func27.trans (congrArg some (by kernel_rfl))
  f143 := Tryd.func28.trans (congrArg some (by kernel_rfl))
  f146 := Tryd.func12.trans (congrArg some (by kernel_rfl))
  f195 := Tryd.func35.trans (congrArg some (by kernel_rfl))
  f197 := Tryd.func36.trans (congrArg some (by kernel_rfl))
  f217 := Tryd.func46.trans (congrArg some (by kernel_rfl))
  f218 := Tryd.func37.trans (congrArg some (by kernel_rfl))
  f219 := Tryd.func38.trans (congrArg some (by kernel_rfl))
  f221 := Tryd.func19.trans (congrArg some (by kernel_rfl))
  f224 := Tryd.func48.trans (congrArg some (by kernel_rfl))
  f225 := Tryd.func47.trans (congrArg some (by kernel_rfl))
  f260 := Tryd.func45.trans (congrArg some (by kernel_rfl))
  f266 := Tryd.func55.trans (congrArg some (by kernel_rfl))
  f267 := Tryd.func49.trans (congrArg some (by kernel_rfl))
  f268 := Tryd.func26.trans (congrArg some (by kernel_rfl))
  f314 := Tryd.func56.trans (congrArg some (by kernel_rfl))
  t0 := Tryd.underlying0
  a0 := Tryd.isAgg0
  z0 := Tryd.sizeOf0
  v0 := Tryd.zeroValue0
  t3 := Tryd.underlying3
  a3 := Tryd.isAgg3
  z3 := Tryd.sizeOf3
  v3 := Tryd.zeroValue3
  t4 := Tryd.underlying4
  a4 := Tryd.isAgg4
  z4 := Tryd.sizeOf4
  v4 := Tryd.zeroValue4
  t5 := Tryd.underlying5
  a5 := Tryd.isAgg5
  z5 := Tryd.sizeOf5
  v5 := Tryd.zeroValue5
  t9 := Tryd.underlying9
  a9 := Tryd.isAgg9
  z9 := Tryd.sizeOf9
  v9 := Tryd.zeroValue9
  t21 := Tryd.underlying21
  a21 := Tryd.isAgg21
  z21 := Tryd.sizeOf21
  v21 := Tryd.zeroValue21
  t31 := Tryd.underlying28
  a31 := Tryd.isAgg28
  z31 := Tryd.sizeOf28
  v31 := Tryd.zeroValue28
  t46 := Tryd.underlying59
  a46 := Tryd.isAgg59
  z46 := Tryd.sizeOf59
  v46 := Tryd.zeroValue59
  t51 := Tryd.underlying88
  a51 := Tryd.isAgg88
  z51 := Tryd.sizeOf88
  v51 := Tryd.zeroValue88
  t105 := Tryd.underlying65
  a105 := Tryd.isAgg65
  z105 := Tryd.sizeOf65
  v105 := Tryd.zeroValue65
  t119 := Tryd.underlying84
  a119 := Tryd.isAgg84
  z119 := Tryd.sizeOf84
  t138 := Tryd.underlying86
  a138 := Tryd.isAgg86
  z138 := Tryd.sizeOf86
  v138 := Tryd.zeroValue86
  t139 := Tryd.underlying87
  a139 := Tryd.isAgg87
  z139 := Tryd.sizeOf87
  v139 := Tryd.zeroValue87
  t146 := Tryd.underlying89
  a146 := Tryd.isAgg89
  z146 := Tryd.sizeOf89
  v146 := Tryd.zeroValue89
  g1 := by kernel_rfl
  g3 := by kernel_rfl
  g4 := by kernel_rfl
  i0 := by kernel_rfl
  i3 := by kernel_rfl
  i4 := by kernel_rfl
  i5 := by kernel_rfl
  i9 := by kernel_rfl
  i21 := by kernel_rfl
  i31 := by kernel_rfl
  i46 := by kernel_rfl
  i51 := by kernel_rfl
  i105 := by kernel_rfl
  i138 := by kernel_rfl
  i139 := by kernel_rfl
  i146 := by kernel_rfl
  m1 := by kernel_rfl
  s1_3 := fun w h => Go.Proofs.cell_of_shapedOpen_int (zero := #[.int .i64 0]) (t := 3) h (of_decide_eq_true (by kernel_rfl)) (by kernel_rfl) rfl (by kernel_rfl) (by kernel_rfl) Tryd.underlying3
  m3 := by kernel_rfl
  m4 := by kernel_rfl }
open Go.RowKit Go.Lib in
theorem Tryd.strings_Split_shaped (s sep : ByteArray) (w : World) (h : w.ShapedOpen Tryd.prog) (hs : s.size < 4294967281) (h1 : 1 ≤ sep.size) :
    Calls Tryd.prog 12 #[.string s, .string sep] w fun e w' =>
      e = .returned (.slice (some ⟨w.heap.size, 0, none⟩) (Lib.countB s sep + 1) (Lib.countB s sep + 1)) ∧ w' = w.alloc (.cells ((Lib.splitB sep 0 (Lib.countB s sep) s).map Value.string).toArray 9) := Any.strings_Split_shaped Tryd.laysM146 s sep w h hs h1
end Go.Proofs
namespace Go.Proofs.YtbifijlenbibmaaDoor
open Go.RowKit
theorem ext_list (s : ByteArray) (i j : Nat) : (s.extract i j).data.toList = (s.data.toList.take j).drop i := by
  rw [Lib.extract_data, List.drop_take]
theorem bytes_back (l : List ByteArray) : (l.map (·.data.toList)).map (fun u => (⟨u.toArray⟩ : ByteArray)) = l := by
  rw [List.map_map]
  conv => rhs; rw [← List.map_id l]
  apply List.map_congr_left
  intro x _
  rfl
def splB (b : UInt8) (s : ByteArray) : List ByteArray := (spl b [] s.data.toList).map (fun u => ⟨u.toArray⟩)
theorem splB_of {b : UInt8} {s : ByteArray} {l : List ByteArray} (h : spl b [] s.data.toList = l.map (·.data.toList)) : splB b s = l := by
  unfold splB; rw [h, bytes_back]
theorem spl_hit {b : UInt8} {s : ByteArray} {k f : Nat} (hk : k < s.size) (hb : s[k] = b) : spl b ((s.data.toList.take k).drop f) (s.data.toList.drop k) = (s.data.toList.take k).drop f :: spl b ((s.data.toList.take (k + 1)).drop (k + 1)) (s.data.toList.drop (k + 1)) := by
  have hk2 : k < s.data.toList.length := by rw [Array.length_toList]; exact hk
  have hx : s.data.toList[k] = b := by rw [← hb]; simp; rfl
  have h9 : (s.data.toList.take (k + 1)).drop (k + 1) = [] := by rw [List.drop_take, Nat.sub_self, List.take_zero]
  rw [h9, List.drop_eq_getElem_cons hk2, hx, spl, if_pos rfl]
theorem spl_miss {b : UInt8} {s : ByteArray} {k f : Nat} (hk : k < s.size) (hf : f ≤ k) (hb : s[k] ≠ b) : spl b ((s.data.toList.take k).drop f) (s.data.toList.drop k) = spl b ((s.data.toList.take (k + 1)).drop f) (s.data.toList.drop (k + 1)) := by
  have hk2 : k < s.data.toList.length := by rw [Array.length_toList]; exact hk
  have hx : s.data.toList[k] ≠ b := by intro e; apply hb; rw [← e]; simp; rfl
  rw [List.drop_eq_getElem_cons hk2, spl, if_neg hx, List.take_add_one, List.getElem?_eq_getElem hk2, List.drop_append_of_le_length (by rw [List.length_take]; omega)]
  rfl
set_option maxRecDepth 100000 in
set_option maxHeartbeats 1000000 in
theorem l01Split_any (s : ByteArray) (b : UInt8) (w : World) (hs : s.size ≤ 1048576) :
    Calls Tryd.prog 7 #[.string s, .int .u8 (b.toNat : Int)] w fun e w' => Below w.heap.size w w' ∧ ∃ v, OwnW w' w.heap.size v (splB b s) ∧ e = .returned v := by
  go_enter Tryd.func7, Tryd.ntmps7
  go_wp2_with fail
  go_loopw [5, 6, 7] (fun out f i wx => ∃ (k fr : Nat) (ps : List ByteArray) (A : Option Addr) (cA : Nat), k ≤ s.size ∧ fr ≤ k ∧ ps.length ≤ k ∧ out = .slice A ps.length cA ∧ f = .int .i64 fr ∧ i = .int .i64 k ∧ Hid (OwnW wx w.heap.size (.slice A ps.length cA) ps) ∧
    Hid (spl b [] s.data.toList = ps.map (·.data.toList) ++ spl b ((s.data.toList.take k).drop fr) (s.data.toList.drop k)) ∧ Hid (Below w.heap.size w wx)) (fun _ _ i _ => s.size - (intOf i).toNat)
  case atStart => exact ⟨0, 0, [], _, _, Nat.zero_le _, Nat.le_refl _, Nat.zero_le _, rfl, rfl, rfl, Lib.hid (OwnW.empty rfl (Nat.le_refl _)), Lib.hid (by simp), Lib.hid (by repeat (first | exact Below.refl _ _ | (refine Below.alloc ?_ (by first | omega | (simp; done) | (simp; omega)) _) | (refine Below.setCell ?_ (by first | exact Nat.le_refl _ | (show _ ≤ _; omega) | (simp; done) | (simp; omega)) _) | refine below_drewN ?_ _ | refine Below.drew ?_))⟩
  case round =>
    obtain ⟨k, fr, ps, A, cA, hk, hf, hp, rfl, rfl, rfl, HO, HS, HB⟩ := hrel
    have hfI : (fr : Int) ≤ (k : Int) := by omega
    have hf0 : (0 : Int) ≤ (fr : Int) := by omega
    by_cases hlt : k < s.size
    · have hkI : (k : Int) ≤ (s.size : Int) := by omega
      by_cases he : s[k] = b
      · have hen : (s[k].toNat : Int) = (b.toNat : Int) := by rw [he]
        have HN := Lib.hid (spl_hit (f := fr) hlt he)
        have hpl : ps.length ≤ 1099511627776 := by omega
        have HZ := Lib.hid HB.out.size
        clear he
        go_wp2_with (first
          | (at_builtin; refine push_word (base := w.heap.size) (y := s.extract fr k) (v := .slice A ps.length cA) (l := ps) rfl _ _ rfl (by rfl) (by rfl) rfl HO.out hpl HZ.out ?_; intro g3 c3 w3 own3 hb3))
        have e1 : (ps ++ [s.extract fr k]).length = ps.length + 1 := by simp
        exact ⟨⟨k + 1, k + 1, ps ++ [s.extract fr k], some ⟨g3, 0, none⟩, c3, by omega, by omega, by omega, by rw [e1], by go_num, by go_num, Lib.hid (by rw [e1]; exact own3), Lib.hid (by rw [HS.out, HN.out, List.map_append, List.append_assoc, List.map_singleton, ext_list]; rfl), Lib.hid (Below.trans HB.out hb3)⟩, by simp [intOf]; omega⟩
      · have hen : ¬ (s[k].toNat : Int) = (b.toNat : Int) := by
          intro h
          exact he (UInt8.toNat_inj.1 (by omega))
        have HN := Lib.hid (spl_miss hlt hf he)
        clear he
        go_wp2_with fail
        exact ⟨⟨k + 1, fr, ps, A, cA, by omega, by omega, by omega, rfl, rfl, by go_num, HO, Lib.hid (by rw [HS.out, HN.out]), HB⟩, by simp [intOf]; omega⟩
    · have hkn : k = s.size := by omega
      subst hkn
      have hpl : ps.length ≤ 1099511627776 := by omega
      have HZ := Lib.hid HB.out.size
      go_wp2_with (first
        | (at_builtin; refine push_word (base := w.heap.size) (y := s.extract fr s.size) (v := .slice A ps.length cA) (l := ps) rfl _ _ rfl (by rfl) (by rfl) rfl HO.out hpl HZ.out ?_; intro g3 c3 w3 own3 hb3))
      go_ret
      refine ⟨Below.trans HB.out hb3, _, ?_, rfl⟩
      have e1 : (ps ++ [s.extract fr s.size]).length = ps.length + 1 := by simp
      have hfin : spl b [] s.data.toList = (ps ++ [s.extract fr s.size]).map (·.data.toList) := by
        rw [HS.out, List.map_append, List.map_singleton, ext_list]
        have : s.data.toList.drop s.size = [] := by rw [List.drop_eq_nil_iff, Array.length_toList]; exact Nat.le_refl _
        rw [this, spl]
      rw [splB_of hfin]
      exact own3
theorem take_get {s : ByteArray} {k : Nat} (hk : k < s.size) : s.data.toList.take (k + 1) = s.data.toList.take k ++ [s[k]] := by
  have hk2 : k < s.data.toList.length := by rw [Array.length_toList]; exact hk
  rw [List.take_add_one, List.getElem?_eq_getElem hk2]
  simp; rfl
theorem rdOk_bad {s : ByteArray} {k : Nat} (hk : k < s.size) (h : isDgt s[k] = false) : rdOk s.data.toList = false := by
  cases hr : rdOk s.data.toList with
  | false => rfl
  | true =>
    have h4 := ((rdOk_iff _).1 hr).2.2.2
    have hk2 : k < s.data.toList.length := by rw [Array.length_toList]; exact hk
    have := List.all_eq_true.1 h4 s.data.toList[k] (List.getElem_mem hk2)
    have e : s.data.toList[k] = s[k] := by simp; rfl
    rw [e, h] at this
    cases this
theorem rd_ret {s : ByteArray} (h : rdOk s.data.toList = false) : numV s.data.toList = 0 := by unfold numV; rw [h]; rfl
set_option maxRecDepth 100000 in
set_option maxHeartbeats 1000000 in
theorem l01Number_any (s : ByteArray) (w : World) (_hs : s.size ≤ 1048576) :
    Calls Tryd.prog 16 #[.string s] w fun e w' => Below w.heap.size w w' ∧ e = .returned (.tuple #[.int .i64 (numV s.data.toList), .bool (rdOk s.data.toList)]) := by
  have hlen : s.data.toList.length = s.size := by rw [Array.length_toList]; rfl
  have hbad : ∀ (h : rdOk s.data.toList = false), (.tuple #[.int .i64 (numV s.data.toList), .bool (rdOk s.data.toList)] : Value) = .tuple #[.int .i64 0, .bool false] := fun h => by rw [rd_ret h, h]
  have HBAD := Lib.hid hbad
  clear hbad
  by_cases h0 : s.size = 0
  · have HR := Lib.hid (show rdOk s.data.toList = false by
      cases hr : rdOk s.data.toList with
      | false => rfl
      | true => have := ((rdOk_iff _).1 hr).1; omega)
    have h1 : (s.size : Int) < 1 := by omega
    clear hlen
    go_enter Tryd.func16, Tryd.ntmps16
    go_wp2_with fail
    exact bodyPost_ret (v := .tuple #[.int .i64 0, .bool false]) (by simp [results, Tryd.results16, go_sem]) rfl ⟨(by repeat (first | exact Below.refl _ _ | (refine Below.alloc ?_ (by first | omega | (simp; done) | (simp; omega)) _) | (refine Below.setCell ?_ (by first | exact Nat.le_refl _ | (show _ ≤ _; omega) | (simp; done) | (simp; omega)) _) | refine below_drewN ?_ _ | refine Below.drew ?_)), by rw [HBAD.out HR.out]⟩
  by_cases h18 : 18 < s.size
  · have HR := Lib.hid (show rdOk s.data.toList = false by
      cases hr : rdOk s.data.toList with
      | false => rfl
      | true => have := ((rdOk_iff _).1 hr).2.1; omega)
    have h1 : ¬ (s.size : Int) < 1 := by omega
    have h2 : (18 : Int) < (s.size : Int) := by omega
    clear hlen
    go_enter Tryd.func16, Tryd.ntmps16
    go_wp2_with fail
    exact bodyPost_ret (v := .tuple #[.int .i64 0, .bool false]) (by simp [results, Tryd.results16, go_sem]) rfl ⟨(by repeat (first | exact Below.refl _ _ | (refine Below.alloc ?_ (by first | omega | (simp; done) | (simp; omega)) _) | (refine Below.setCell ?_ (by first | exact Nat.le_refl _ | (show _ ≤ _; omega) | (simp; done) | (simp; omega)) _) | refine below_drewN ?_ _ | refine Below.drew ?_)), by rw [HBAD.out HR.out]⟩
  have hp : 0 < s.size := by omega
  have hpI : (0 : Int) < (s.size : Int) := by omega
  have h1 : ¬ (s.size : Int) < 1 := by omega
  have h2 : ¬ (18 : Int) < (s.size : Int) := by omega
  have hhd : s.data.toList.head? = some s[0] := by
    have : s.data.toList ≠ [] := by intro e; rw [e] at hlen; simp at hlen; omega
    cases hq : s.data.toList with
    | nil => exact absurd hq this
    | cons x t =>
      have : s[0] = s.data.toList[0]'(by rw [hlen]; exact hp) := by simp; rfl
      rw [this]; simp [hq]
  by_cases hz : s[0] = 48 ∧ 1 < s.size
  · have HR := Lib.hid (show rdOk s.data.toList = false by
      cases hr : rdOk s.data.toList with
      | false => rfl
      | true => exact absurd ⟨by rw [hhd, hz.1], by omega⟩ ((rdOk_iff _).1 hr).2.2.1)
    have h3 : (s[0].toNat : Int) = 48 := by rw [hz.1]; rfl
    have h4 : (1 : Int) < (s.size : Int) := by have := hz.2; omega
    clear hlen hhd hz
    go_enter Tryd.func16, Tryd.ntmps16
    go_wp2_with fail
    exact bodyPost_ret (v := .tuple #[.int .i64 0, .bool false]) (by simp [results, Tryd.results16, go_sem]) rfl ⟨(by repeat (first | exact Below.refl _ _ | (refine Below.alloc ?_ (by first | omega | (simp; done) | (simp; omega)) _) | (refine Below.setCell ?_ (by first | exact Nat.le_refl _ | (show _ ≤ _; omega) | (simp; done) | (simp; omega)) _) | refine below_drewN ?_ _ | refine Below.drew ?_)), by rw [HBAD.out HR.out]⟩
  · have hz3 : (s[0].toNat : Int) = 48 → ¬ (1 : Int) < (s.size : Int) := by
      intro e h
      exact hz ⟨UInt8.toNat_inj.1 (by have : (48 : UInt8).toNat = 48 := rfl; omega), by omega⟩
    have HOKI := Lib.hid (show ∀ (_ : s.data.toList.all isDgt = true), rdOk s.data.toList = true from fun h => (rdOk_iff _).2 ⟨by omega, by omega, fun h => hz ⟨by have := h.1; rw [hhd] at this; exact Option.some.inj this, by have := h.2; omega⟩, h⟩)
    clear hlen hhd hz
    go_enter Tryd.func16, Tryd.ntmps16
    go_wp2_with fail
    all_goals
      go_loopw [4, 5] (fun n i wx => ∃ k : Nat, k ≤ s.size ∧ n = .int .i64 (numN (s.data.toList.take k) : Int) ∧ i = .int .i64 k ∧ Hid ((s.data.toList.take k).all isDgt = true) ∧ wx = w) (fun _ i _ => s.size - (intOf i).toNat)
      case atStart => exact ⟨0, Nat.zero_le _, by simp [numN], rfl, Lib.hid (by simp), rfl⟩
      case round =>
        obtain ⟨k, hk, rfl, rfl, HA, rfl⟩ := hrel
        by_cases hlt : k < s.size
        · by_cases hd1 : (s[k].toNat : Int) < 48
          · have HR := Lib.hid (rdOk_bad hlt (by simp [isDgt]; omega))
            go_wp2_with fail
            exact bodyPost_ret (v := .tuple #[.int .i64 0, .bool false]) (by simp [results, Tryd.results16, go_sem]) rfl ⟨Below.refl _ _, by rw [HBAD.out HR.out]⟩
          · by_cases hd2 : (57 : Int) < (s[k].toNat : Int)
            · have HR := Lib.hid (rdOk_bad hlt (by simp [isDgt]; omega))
              go_wp2_with fail
              exact bodyPost_ret (v := .tuple #[.int .i64 0, .bool false]) (by simp [results, Tryd.results16, go_sem]) rfl ⟨Below.refl _ _, by rw [HBAD.out HR.out]⟩
            · have hdg : isDgt s[k] = true := by simp [isDgt]; omega
              have HN := Lib.hid (show numN (s.data.toList.take (k + 1)) = numN (s.data.toList.take k) * 10 + dgt s[k] by rw [take_get hlt, numN_snoc])
              have HA2 := Lib.hid (show (s.data.toList.take (k + 1)).all isDgt = true by rw [take_get hlt, List.all_append, HA.out]; simp [hdg])
              have hN : numN (s.data.toList.take k) < 1000000000000000000 := by
                have h9 := numN_lt (s.data.toList.take k).length _ rfl HA.out
                have h10 : (s.data.toList.take k).length ≤ 18 := by rw [List.length_take]; omega
                have h11 : 10 ^ (s.data.toList.take k).length ≤ 10 ^ 18 := Nat.pow_le_pow_right (by decide) h10
                have h12 : (10 : Nat) ^ 18 = 1000000000000000000 := by decide
                omega
              have hk17 : numN (s.data.toList.take k) < 100000000000000000 := by
                have h9 := numN_lt (s.data.toList.take k).length _ rfl HA.out
                have h10 : (s.data.toList.take k).length ≤ 17 := by rw [List.length_take]; omega
                have h11 : 10 ^ (s.data.toList.take k).length ≤ 10 ^ 17 := Nat.pow_le_pow_right (by decide) h10
                have h12 : (10 : Nat) ^ 17 = 100000000000000000 := by decide
                omega
              obtain ⟨N, hNe⟩ : ∃ N, numN (s.data.toList.take k) = N := ⟨_, rfl⟩
              rw [hNe] at HN hk17 hN
              rw [hNe]
              obtain ⟨d, hde⟩ : ∃ d : Nat, s[k].toNat = 48 + d := ⟨s[k].toNat - 48, by omega⟩
              have hdd : dgt s[k] = d := by unfold dgt; omega
              rw [hdd] at HN
              have w1 : IntKind.i64.wrap ((N : Int) * 10) = (N : Int) * 10 := IntWalk.i64_in _ (by omega)
              clear hNe hdg hdd hN
              go_wp2_with fail
              exact ⟨⟨k + 1, by omega, by rw [HN.out]; congr 1; omega, by go_num, HA2, trivial⟩, by simp [intOf]; omega⟩
        · have hkn : k = s.size := by omega
          subst hkn
          have hta : s.data.toList.take s.size = s.data.toList := List.take_of_length_le (by rw [Array.length_toList]; exact Nat.le_refl _)
          rw [hta] at HA
          rw [hta]
          have HOK := Lib.hid (HOKI.out HA.out)
          go_wp2_with fail
          exact bodyPost_ret (v := .tuple #[.int .i64 (numN s.data.toList : Int), .bool true]) (by simp [results, Tryd.results16, go_sem]) rfl ⟨Below.refl _ _, by unfold numV; rw [HOK.out]; rfl⟩
end Go.Proofs.YtbifijlenbibmaaDoor
namespace Go.Proofs
open Go.Shelf
end Go.Proofs
namespace Go.Proofs.YtbifijlenbibmaaDoor
open Go.RowKit
section
variable {xs : List GRule} {vR : Value} {bg bs b B : Nat}
end
section
variable {wE wx : World} {e : GEdit} {v : Value}
end
theorem spl_len (b : UInt8) : ∀ (t cur : List UInt8), ∀ u ∈ spl b cur t, u.length ≤ cur.length + t.length := by
  intro t
  induction t with
  | nil => intro cur u hu; simp [spl] at hu; subst hu; simp
  | cons c t ih =>
    intro cur u hu
    rw [spl] at hu
    split at hu
    · rcases List.mem_cons.1 hu with rfl | hu
      · rw [List.length_cons]; omega
      · have := ih [] u hu; rw [List.length_nil] at this; rw [List.length_cons]; omega
    · have := ih _ u hu; rw [List.length_append, List.length_singleton] at this; rw [List.length_cons]; omega
theorem splB_size {b : UInt8} {s : ByteArray} {x : ByteArray} (h : x ∈ splB b s) : x.size ≤ s.size := by
  unfold splB at h
  obtain ⟨u, hu, rfl⟩ := List.mem_map.1 h
  have := spl_len b _ _ u hu
  simp at this
  show u.toArray.size ≤ s.data.size
  simpa using this
theorem OwnW.at {w : World} {base g cap : Nat} {l : List ByteArray} (h : OwnW w base (.slice (some ⟨g, 0, none⟩) l.length cap) l) {k : Nat} {x : ByteArray} (hk : l[k]? = some x) : w.cell? ⟨g, k, none⟩ = some (.string x) := by
  have hlt : k < l.length := (List.getElem?_eq_some_iff.1 hk).1
  have := World.ownsRow.cellAt h k (by omega)
  rw [this, List.getElem?_map, hk]; rfl
theorem tabB {P : Program} {w w' : World} {nm : String} {k : IntKind} {zs : List Int} (h : Lib.TabIs P w nm k zs) (hb : Below w.heap.size w w') : Lib.TabIs P w' nm k zs := by
  unfold Lib.TabIs World.var? at h ⊢
  obtain ⟨g, hg, h2⟩ := Option.bind_eq_some_iff.1 h
  rw [hg]
  simp only [Option.bind_some]
  have hlt : g < w.heap.size := by
    rcases Nat.lt_or_ge g w.heap.size with h' | h'
    · exact h'
    · rw [Array.getElem?_eq_none h'] at h2; cases h2
  rw [hb.block g hlt]; exact h2
theorem varB {P : Program} {w w' : World} {nm : String} {cs : Array Value} (h : w.var? P nm = some cs) (hb : Below w.heap.size w w') : w'.var? P nm = some cs := by
  unfold World.var? at h ⊢
  obtain ⟨g, hg, h2⟩ := Option.bind_eq_some_iff.1 h
  rw [hg]
  simp only [Option.bind_some]
  have hlt : g < w.heap.size := by
    rcases Nat.lt_or_ge g w.heap.size with h' | h'
    · exact h'
    · rw [Array.getElem?_eq_none h'] at h2; cases h2
  rw [hb.block g hlt]; exact h2
structure RdVars (w : World) : Prop where
  maxLen : ∃ m, w.cell? ⟨2, 0, none⟩ = some (.int .i64 m)
  errS : ∃ tp p, w.var? Tryd.prog "strconv.ErrSyntax" = some #[.iface tp p]
  errR : ∃ tp p, w.var? Tryd.prog "strconv.ErrRange" = some #[.iface tp p]
  tab : Lib.TabIs Tryd.prog w "internal/strconv.uint64pow10" .u64 Lib.pow10Tab
theorem RdVars.up {w w' : World} (h : RdVars w) (hb : Below w.heap.size w w') : RdVars w' := by
  obtain ⟨⟨m, h1⟩, ⟨tp, p, h2⟩, ⟨tq, q, h3⟩, h4⟩ := h
  exact ⟨⟨m, (hb.cell (World.block_lt_of_cell? _ _ h1)).trans h1⟩, ⟨tp, p, varB h2 hb⟩, ⟨tq, q, varB h3 hb⟩, tabB h4 hb⟩
theorem splitK_spl (b : UInt8) : ∀ (k : Nat) (l : List UInt8), Lib.count l [b] = k → Lib.splitK [b] 0 k l = spl b [] l := by
  intro k
  induction k with
  | zero =>
    intro l h
    rw [Lib.count_one, List.count_eq_zero] at h
    rw [spl_none (b := b) l [] (fun c hc e => h (by rw [← e]; exact hc))]
    rfl
  | succ k ih =>
    intro l h
    rcases Int.lt_or_le (Lib.indexByte l b) 0 with hn | hn
    · exfalso
      have hm : Lib.index l [b] = -1 := by rw [Lib.index_one]; have := Lib.indexByte_ge l b; omega
      rw [Lib.count_miss hm] at h; cases h
    · obtain ⟨i, hi⟩ := Int.eq_ofNat_of_zero_le hn
      have hix : Lib.index l [b] = (i : Int) := by rw [Lib.index_one]; exact hi
      obtain ⟨h1, h2⟩ := Lib.indexByte_some (show Lib.indexByte l b = (i : Int) from hi)
      have hc := Lib.count_hit (by simp) hix
      rw [h] at hc
      have hd : Lib.count (l.drop (i + 1)) [b] = k := by simp at hc; omega
      have hlt : i < l.length := (List.getElem?_eq_some_iff.1 h1).1
      have hl : l = l.take i ++ b :: l.drop (i + 1) := by
        have h3 := List.take_append_drop i l
        rw [List.drop_eq_getElem_cons hlt, (List.getElem?_eq_some_iff.1 h1).2] at h3
        exact h3.symm
      rw [Lib.splitK, if_neg (by rw [hix]; simp), hix]
      simp only [Int.toNat_natCast, Nat.add_zero, List.length_singleton]
      rw [ih _ hd]
      conv => rhs; rw [hl]
      rw [spl_piece (l.take i) [] (l.drop (i + 1)) (fun c hc e => by
        obtain ⟨j, hj⟩ := List.mem_iff_getElem?.1 hc
        have hji : j < i := by have := (List.getElem?_eq_some_iff.1 hj).1; rw [List.length_take] at this; omega
        rw [List.getElem?_take_of_lt hji] at hj
        exact h2 j hji (e ▸ hj))]
      rfl
theorem splitB_eq (b : UInt8) (s : ByteArray) : Lib.splitB ⟨#[b]⟩ 0 (Lib.countB s ⟨#[b]⟩) s = splB b s := by
  refine (splB_of ?_).symm
  rw [Lib.splitB_data]
  exact (splitK_spl b _ _ rfl).symm
theorem split_any (s : ByteArray) (w : World) (hs : s.size ≤ 1048576) (hv : RdVars w) :
    Calls Tryd.prog 12 #[.string s, .string ⟨#[32]⟩] w fun e w' => Below w.heap.size w w' ∧ ∃ v, OwnW w' w.heap.size v (splB 32 s) ∧ e = .returned v := by
  obtain ⟨⟨m, h1⟩, _, _, _⟩ := hv
  refine (Tryd.strings_Split s ⟨#[32]⟩ m w (by omega) h1 (by decide)).mono ?_
  rintro e w' ⟨rfl, rfl⟩
  have hl : Lib.countB s ⟨#[32]⟩ + 1 = (splB 32 s).length := by
    rw [← splitB_eq]; exact (Lib.splitB_all ⟨#[32]⟩ (by decide) 0 _ s rfl).symm
  rw [splitB_eq, hl]
  refine ⟨(Below.refl _ _).alloc (Nat.le_refl _) _, _, ?_, rfl⟩
  have hle : (splB 32 s).length ≤ 1048577 := by rw [← hl]; have := Lib.countB_le ⟨#[32]⟩ (by decide) s.size s (Nat.le_refl _); omega
  have := World.ownsRow_lit w ((splB 32 s).map Value.string).toArray (splB 32 s).length (Nat.le_refl _) (by simp only [maxLen]; omega) (e := 9) (size := 1) (by simp)
  simpa [OwnW] using this
def psOk (u : List UInt8) : Prop := ∃ v, Lib.parseIntB 64 u = .ok v
theorem parseIntF_any (s : ByteArray) (w : World) (hs : s.size ≤ 1048576) (hv : RdVars w) :
    Calls Tryd.prog 13 #[.string s, .int .i64 10, .int .i64 64] w fun e w' => Below w.heap.size w w' ∧ ((psOk s.data.toList ∧ e = .returned (.tuple #[.int .i64 (pI s.data.toList), .nilIface])) ∨ (¬ psOk s.data.toList ∧ ∃ tp p, e = .returned (.tuple #[.int .i64 (pI s.data.toList), .iface tp p]))) := by
  obtain ⟨_, ⟨tp, p, h2⟩, ⟨tq, q, h3⟩, _⟩ := hv
  unfold pI
  cases h : Lib.parseIntB 64 s.data.toList with
  | ok v =>
    refine (Tryd.strconv_ParseInt_10_at64_ok s (by omega) v h w).mono ?_
    rintro e w' ⟨rfl, hw⟩
    refine ⟨?_, .inl ⟨⟨v, h⟩, rfl⟩⟩
    rcases hw with rfl | ⟨t, rfl⟩
    · exact Below.refl _ _
    · exact Lib.bytesWorld_below _ _ _
  | «syntax» =>
    refine (Tryd.strconv_ParseInt_10_at64_syntax_var s (by omega) h tp p w h2).mono ?_
    rintro e w' ⟨N, rfl, _, _, hb⟩
    exact ⟨hb, .inr ⟨(by rintro ⟨v, hv⟩; rw [h] at hv; cases hv), _, _, rfl⟩⟩
  | range =>
    refine (Tryd.strconv_ParseInt_10_at64_range_var s (by omega) h tq q w h3).mono ?_
    rintro e w' ⟨N, rfl, _, _, hb⟩
    exact ⟨hb, .inr ⟨(by rintro ⟨v, hv⟩; rw [h] at hv; cases hv), _, _, rfl⟩⟩
def tailP (t : ByteArray) : List ByteArray := (splB 32 t).tail
def nvK (ps : List ByteArray) (k j : Nat) : Int := if j < k then pI (ps.getD j ⟨#[]⟩).data.toList else 0
theorem tail_dec {t : ByteArray} {k a b c : Int} (h : DeedIs t k a b c) : (tailP t).map (·.data.toList) = (numsL k a b c).map dec := by
  have := h.numbers.2.1
  unfold tailP splB
  rw [← List.map_tail, List.map_map, this, List.map_map]
  rfl
theorem tail_at {t : ByteArray} {k a b c : Int} (h : DeedIs t k a b c) {j : Nat} (hj : j < (tailP t).length) : ((tailP t).getD j ⟨#[]⟩).data.toList = dec ((numsL k a b c).getD j 0) ∧ 0 ≤ (numsL k a b c).getD j 0 ∧ (numsL k a b c).getD j 0 ≤ 999 := by
  have e := tail_dec h
  have hl : (tailP t).length = (numsL k a b c).length := by have := congrArg List.length e; simpa using this
  have e2 := congrArg (fun l => l[j]?) e
  simp only [List.getElem?_map, List.getElem?_eq_getElem hj, List.getElem?_eq_getElem (show j < (numsL k a b c).length by omega), Option.map_some] at e2
  have hn := h.numbers.2.2.2.1 ((numsL k a b c)[j]'(by omega)) (List.getElem_mem _)
  rw [List.getD_eq_getElem?_getD, List.getD_eq_getElem?_getD, List.getElem?_eq_getElem hj, List.getElem?_eq_getElem (show j < (numsL k a b c).length by omega)]
  exact ⟨Option.some.inj e2, hn⟩
theorem tail_len {t : ByteArray} {k a b c : Int} (h : DeedIs t k a b c) : (tailP t).length = (numsL k a b c).length ∧ (tailP t).length ≤ 3 := by
  have e := tail_dec h
  have hl : (tailP t).length = (numsL k a b c).length := by have := congrArg List.length e; simpa using this
  refine ⟨hl, ?_⟩
  have h1 := h.numbers.2.2.1
  have h2 := deedN_in (deedOk_all h.1).1
  omega
theorem tail_num {t : ByteArray} {k a b c : Int} (h : DeedIs t k a b c) {j : Nat} (hj : j < (tailP t).length) : rdOk ((tailP t).getD j ⟨#[]⟩).data.toList = true ∧ numV ((tailP t).getD j ⟨#[]⟩).data.toList = (numsL k a b c).getD j 0 ∧ psOk ((tailP t).getD j ⟨#[]⟩).data.toList ∧ pI ((tailP t).getD j ⟨#[]⟩).data.toList = (numsL k a b c).getD j 0 := by
  obtain ⟨h1, h2, h3⟩ := tail_at h hj
  rw [h1]
  obtain ⟨r1, r2⟩ := dec_rdOk h2 (show (numsL k a b c).getD j 0 ≤ 1000000000000000 by omega)
  obtain ⟨p1, p2⟩ := pI_num r1
  exact ⟨r1, r2, ⟨_, p2⟩, by rw [p1, r2]⟩
theorem nv_is {t : ByteArray} {k a b c : Int} (h : DeedIs t k a b c) : nvK (tailP t) (tailP t).length 0 = a ∧ nvK (tailP t) (tailP t).length 1 = b ∧ nvK (tailP t) (tailP t).length 2 = c := by
  have hg := h.numbers.2.2.2.2
  have hl := (tail_len h).1
  have key : ∀ j, nvK (tailP t) (tailP t).length j = (numsL k a b c).getD j 0 := by
    intro j
    unfold nvK
    split
    · rename_i hj; exact (tail_num h hj).2.2.2
    · rename_i hj
      rw [List.getD_eq_getElem?_getD, List.getElem?_eq_none (by omega)]; rfl
  exact ⟨by rw [key]; exact hg.1, by rw [key]; exact hg.2.1, by rw [key]; exact hg.2.2⟩
theorem no_deed {t : ByteArray} {j : Nat} (hj : j < (tailP t).length) (h : 2 < j ∨ ¬ psOk ((tailP t).getD j ⟨#[]⟩).data.toList) : ∀ k a b c, ¬ DeedIs t k a b c := by
  intro k a b c hd
  rcases h with h | h
  · have := (tail_len hd).2; omega
  · exact h (tail_num hd hj).2.2.1
theorem no_deed9 {t : ByteArray} (h : ∀ κ : Nat, 1 ≤ κ → κ ≤ 9 → ¬ DeedIs t (κ : Int) (nvK (tailP t) (tailP t).length 0) (nvK (tailP t) (tailP t).length 1) (nvK (tailP t) (tailP t).length 2)) : ∀ k a b c, ¬ DeedIs t k a b c := by
  intro k a b c hd
  obtain ⟨h1, h2, h3⟩ := nv_is hd
  have hk := (deedOk_all hd.1).1
  obtain ⟨κ, rfl⟩ := Int.eq_ofNat_of_zero_le (show 0 ≤ k by omega)
  exact h κ (by omega) (by omega) (by rw [h1, h2, h3]; exact hd)
theorem fin4 {wx : World} {R : Nat} {a0 a1 a2 a3 : Value} (h : Blk wx R #[a0, a1, a2, a3] 23) (v0 v1 v2 v3 : Value) :
    let W := (((wx.setCell ⟨R, 0, none⟩ v0).setCell ⟨R, 1, none⟩ v1).setCell ⟨R, 2, none⟩ v2).setCell ⟨R, 3, none⟩ v3
    Blk W R #[v0, v1, v2, v3] 23 ∧ (∀ k, k ≠ R → W.heap[k]? = wx.heap[k]?) ∧ Below R wx W := by
  intro W
  exact ⟨(((h.set 0 v0).set 1 v1).set 2 v2).set 3 v3,
    fun k hk => (Below.heap_setCell _ ⟨R, 3, none⟩ v3 k hk).trans ((Below.heap_setCell _ ⟨R, 2, none⟩ v2 k hk).trans ((Below.heap_setCell _ ⟨R, 1, none⟩ v1 k hk).trans (Below.heap_setCell _ ⟨R, 0, none⟩ v0 k hk))),
    ((((Below.refl _ wx).setCell (p := ⟨R, 0, none⟩) (Nat.le_refl _) v0).setCell (p := ⟨R, 1, none⟩) (Nat.le_refl _) v1).setCell (p := ⟨R, 2, none⟩) (Nat.le_refl _) v2).setCell (p := ⟨R, 3, none⟩) (Nat.le_refl _) v3⟩
set_option maxRecDepth 100000 in
set_option maxHeartbeats 8000000 in
theorem implReadDeed_any (t : ByteArray) (w : World) (hs : t.size ≤ 1048576) (hv : RdVars w) :
    Calls Tryd.prog 5 #[.string t] w fun e w' => Below w.heap.size w w' ∧ DeedRead t e := by
  have HV := Lib.hid hv
  clear hv
  have HV1 := Lib.hid (fun o => HV.out.up ((Below.refl w.heap.size w).alloc (Nat.le_refl _) o))
  go_enter Tryd.func5, Tryd.ntmps5
  go_wp2_with fail
  refine (split_any t _ hs (HV1.out _)).mono ?_
  rintro e w1 ⟨hb1, v, own, rfl⟩
  have KR1 : Blk w1 w.heap.size #[.int .i64 0, .int .i64 0, .int .i64 0, .int .i64 0] 23 := by have := (Below.unalloc hb1).2; simpa [Blk] using this
  replace hb1 := (Below.unalloc hb1).1
  have hpos : 0 < (splB 32 t).length := by
    unfold splB
    rw [List.length_map]
    exact List.length_pos_iff.2 (spl_pos 32 _ _)
  obtain ⟨g, cL, rfl, _, hgl, hcap, hcell⟩ := own_form own hpos
  have hle : (splB 32 t).length ≤ 1048577 := by
    rw [← splitB_eq, Lib.splitB_all ⟨#[32]⟩ (by decide) 0 _ t rfl]
    have := Lib.countB_le ⟨#[32]⟩ (by decide) t.size t (Nat.le_refl _); omega
  obtain ⟨m, hm⟩ : ∃ m, (splB 32 t).length = m + 1 := ⟨(splB 32 t).length - 1, by omega⟩
  have hml : (tailP t).length = m := by unfold tailP; rw [List.length_tail]; omega
  have hcl : ∀ k : Nat, k < m → w1.cell? ⟨g, 1 + k, none⟩ = some (.string ((tailP t).getD k ⟨#[]⟩)) ∧ ((tailP t).getD k ⟨#[]⟩).size ≤ 1048576 := by
    intro k hk
    have h1 : (splB 32 t)[1 + k]? = some ((tailP t).getD k ⟨#[]⟩) := by
      unfold tailP
      rw [List.getD_eq_getElem?_getD, List.getElem?_tail, Nat.add_comm k 1, List.getElem?_eq_getElem (by omega)]; rfl
    refine ⟨hcell (1 + k) _ (by rw [List.getElem?_map, h1]; rfl), Nat.le_trans (splB_size (List.mem_of_getElem? h1)) hs⟩
  rw [hm]
  have HCL := Lib.hid hcl
  have HML := Lib.hid hml
  have HB1 := Lib.hid hb1
  have HK1 := Lib.hid KR1
  have hmc : (m : Int) + 1 ≤ (cL : Int) := by omega
  have ba := (Below.refl w1.heap.size w1).alloc (Nat.le_refl _) (Obj.cells #[.int .i64 0, .int .i64 0, .int .i64 0] 37)
  have KN := Lib.hid (Blk.new w1 #[.int .i64 0, .int .i64 0, .int .i64 0] 37)
  have HBA := Lib.hid ba
  clear own hpos hcap hcell hle hm hcl hml hb1 KR1 ba
  go_upto_region 3 with fail
  revert KN HBA
  generalize (w1.alloc (Obj.cells #[.int .i64 0, .int .i64 0, .int .i64 0] 37)) = w2
  intro KN HBA
  have HB2 := Lib.hid (Below.tr HB1.out HBA.out)
  have HK2 := Lib.hid (HK1.out.up HBA.out)
  have zN : w1.heap.size < w2.heap.size := KN.out.lt
  have zR : w.heap.size < w1.heap.size := HK1.out.lt
  have hgz : g < w2.heap.size := by omega
  have hcl2 : (m = 0 ∧ cL = 1) ∨ (m = 0 ∧ ¬ cL = 1) ∨ (¬ m = 0 ∧ ¬ cL = 1) := by omega
  rcases hcl2 with ⟨hm0, hc1⟩ | ⟨hm0, hc1⟩ | ⟨hm0, hc1⟩
  all_goals
    have HM0 := Lib.hid hm0
    clear hm0
    go_wp2_with fail
    clear hc1
  all_goals
    go_loopw [18] (fun i wx => ∃ k : Nat, k ≤ m ∧ k ≤ 3 ∧ i = .int .i64 k ∧ Hid (∀ j : Nat, j < k → psOk ((tailP t).getD j ⟨#[]⟩).data.toList) ∧ Hid (Blk wx w1.heap.size #[.int .i64 (nvK (tailP t) k 0), .int .i64 (nvK (tailP t) k 1), .int .i64 (nvK (tailP t) k 2)] 37) ∧ Hid (But w1.heap.size w2 wx)) (fun i _ => m - (intOf i).toNat)
    case atStart => exact ⟨0, Nat.zero_le _, by omega, rfl, Lib.hid (fun j hj => absurd hj (by omega)), Lib.hid (by simpa [nvK] using KN.out), Lib.hid (But.refl _ _)⟩
    case round =>
      obtain ⟨k, hkm, hk3, rfl, HP, HN, HB⟩ := hrel
      have HBW := Lib.hid (HB2.out.trans (HB.out.below (B := w.heap.size) (by omega) (by omega)))
      by_cases hlt : k < m
      · (first | (exfalso; have := HM0.out; omega) | skip)
        all_goals
          have hki : (k : Int) < (m : Int) := by omega
          obtain ⟨hc, hcs⟩ := HCL.out k hlt
          have cP := (World.cell?_of_block (a := ⟨g, 1 + k, none⟩) (show wr.heap[g]? = w1.heap[g]? from (HB.out.block g hgz (by omega)).trans (HBA.out.block g hgl))).trans hc
          obtain ⟨x, hx⟩ : ∃ x, (tailP t).getD k ⟨#[]⟩ = x := ⟨_, rfl⟩
          rw [hx] at cP hcs
          have HX := Lib.hid hx
          have hgr : g < wr.heap.size := Nat.lt_of_lt_of_le hgz HB.out.size
          clear hc hx
          go_wp2_with fail
          refine (parseIntF_any x _ hcs (HV.out.up HBW.out)).mono ?_
          rintro e w3 ⟨hb3, h3⟩
          have HB3 := Lib.hid (HB.out.trans (But.of hb3))
          have HN3 := Lib.hid (HN.out.up hb3)
          have HR3 := Lib.hid (HK2.out.but HB3.out (by omega))
          have HBW3 := Lib.hid (HB2.out.trans (HB3.out.below (B := w.heap.size) (by omega) (by omega)))
          clear hb3 cP
          have hbad : (2 < k ∨ ¬ psOk x.data.toList) → ∀ k' a b c, ¬ DeedIs t k' a b c := fun h => no_deed (j := k) (by rw [HML.out]; exact hlt) (by rw [HX.out]; exact h)
          have HBAD := Lib.hid hbad
          clear hbad
          rcases h3 with ⟨hok, rfl⟩ | ⟨hno, tp, p, rfl⟩
          · by_cases hk2 : 2 < k
            · have hk2i : (2 : Int) < (k : Int) := by omega
              have f0 := Blk.frozen HR3.out 0
              have f1 := Blk.frozen HR3.out 1
              have f2 := Blk.frozen HR3.out 2
              have f3 := Blk.frozen HR3.out 3
              have g0 := Blk.cell (i := 0) HR3.out rfl
              have g1 := Blk.cell (i := 1) HR3.out rfl
              have g2 := Blk.cell (i := 2) HR3.out rfl
              have g3 := Blk.cell (i := 3) HR3.out rfl
              have lR := HR3.out.lt
              go_wp2_with fail
              obtain ⟨s1, s2, s3⟩ := fin4 HR3.out (.int .i64 0) (.int .i64 0) (.int .i64 0) (.int .i64 0)
              exact bodyPost_ret (v := .tuple #[.agg #[.int .i64 0, .int .i64 0, .int .i64 0, .int .i64 0], .int .i64 5]) (by simp [results, Tryd.results5, go_sem, Blk.cell (i := 0) s1 rfl, Blk.cell (i := 1) s1 rfl, Blk.cell (i := 2) s1 rfl, Blk.cell (i := 3) s1 rfl]) rfl ⟨HBW3.out.trans s3, .inr ⟨HBAD.out (.inl hk2), rfl⟩⟩
            · have hk2i : ¬ (2 : Int) < (k : Int) := by omega
              have HPN : Hid (∀ j : Nat, j < k + 1 → psOk ((tailP t).getD j ⟨#[]⟩).data.toList) := fun j hj => by
                rcases Nat.lt_or_ge j k with h | h
                · exact HP.out j h
                · have : j = k := by omega
                  subst this
                  rw [HX.out]; exact hok
              have f0 := Blk.frozen HN3.out 0
              have f1 := Blk.frozen HN3.out 1
              have f2 := Blk.frozen HN3.out 2
              have g0 := Blk.cell (i := 0) HN3.out rfl
              have g1 := Blk.cell (i := 1) HN3.out rfl
              have g2 := Blk.cell (i := 2) HN3.out rfl
              have lN := HN3.out.lt
              have hk012 : k = 0 ∨ k = 1 ∨ k = 2 := by omega
              have HBS := Lib.hid (fun (o : Nat) (v : Value) => (HB3.out.setCell (o := o) v))
              rcases hk012 with rfl | rfl | rfl
              · have HNS := Lib.hid (show Blk (w3.setCell ⟨w1.heap.size, 0, none⟩ (.int .i64 (pI x.data.toList))) w1.heap.size #[.int .i64 (nvK (tailP t) 1 0), .int .i64 (nvK (tailP t) 1 1), .int .i64 (nvK (tailP t) 1 2)] 37 by
                  have := HN3.out.set 0 (.int .i64 (pI x.data.toList))
                  rw [← HX.out] at this ⊢; simpa [nvK] using this)
                go_wp2_with fail
                go_roundw
                case rel => exact ⟨1, by omega, by omega, by go_num, HPN, HNS, Lib.hid (HBS.out 0 _)⟩
                case measure => simp [intOf]; omega
              · have HNS := Lib.hid (show Blk (w3.setCell ⟨w1.heap.size, 1, none⟩ (.int .i64 (pI x.data.toList))) w1.heap.size #[.int .i64 (nvK (tailP t) 2 0), .int .i64 (nvK (tailP t) 2 1), .int .i64 (nvK (tailP t) 2 2)] 37 by
                  have := HN3.out.set 1 (.int .i64 (pI x.data.toList))
                  rw [← HX.out] at this ⊢; simpa [nvK] using this)
                go_wp2_with fail
                go_roundw
                case rel => exact ⟨2, by omega, by omega, by go_num, HPN, HNS, Lib.hid (HBS.out 1 _)⟩
                case measure => simp [intOf]; omega
              · have HNS := Lib.hid (show Blk (w3.setCell ⟨w1.heap.size, 2, none⟩ (.int .i64 (pI x.data.toList))) w1.heap.size #[.int .i64 (nvK (tailP t) 3 0), .int .i64 (nvK (tailP t) 3 1), .int .i64 (nvK (tailP t) 3 2)] 37 by
                  have := HN3.out.set 2 (.int .i64 (pI x.data.toList))
                  rw [← HX.out] at this ⊢; simpa [nvK] using this)
                go_wp2_with fail
                go_roundw
                case rel => exact ⟨3, by omega, by omega, by go_num, HPN, HNS, Lib.hid (HBS.out 2 _)⟩
                case measure => simp [intOf]; omega
          · have f0 := Blk.frozen HR3.out 0
            have f1 := Blk.frozen HR3.out 1
            have f2 := Blk.frozen HR3.out 2
            have f3 := Blk.frozen HR3.out 3
            have g0 := Blk.cell (i := 0) HR3.out rfl
            have g1 := Blk.cell (i := 1) HR3.out rfl
            have g2 := Blk.cell (i := 2) HR3.out rfl
            have g3 := Blk.cell (i := 3) HR3.out rfl
            have lR := HR3.out.lt
            have hk2i : (2 : Int) < (k : Int) ∨ ¬ (2 : Int) < (k : Int) := by omega
            rcases hk2i with hk2i | hk2i
            all_goals
              go_wp2_with fail
              obtain ⟨s1, s2, s3⟩ := fin4 HR3.out (.int .i64 0) (.int .i64 0) (.int .i64 0) (.int .i64 0)
              exact bodyPost_ret (v := .tuple #[.agg #[.int .i64 0, .int .i64 0, .int .i64 0, .int .i64 0], .int .i64 5]) (by simp [results, Tryd.results5, go_sem, Blk.cell (i := 0) s1 rfl, Blk.cell (i := 1) s1 rfl, Blk.cell (i := 2) s1 rfl, Blk.cell (i := 3) s1 rfl]) rfl ⟨HBW3.out.trans s3, .inr ⟨HBAD.out (.inr hno), rfl⟩⟩
      · have hkm2 : k = m := by omega
        subst hkm2
        have HRR := Lib.hid (HK2.out.but HB.out (by omega))
        rw [← HML.out] at HN
        obtain ⟨n0, hn0⟩ : ∃ n, nvK (tailP t) (tailP t).length 0 = n := ⟨_, rfl⟩
        obtain ⟨n1, hn1⟩ : ∃ n, nvK (tailP t) (tailP t).length 1 = n := ⟨_, rfl⟩
        obtain ⟨n2, hn2⟩ : ∃ n, nvK (tailP t) (tailP t).length 2 = n := ⟨_, rfl⟩
        have HN9 := Lib.hid (no_deed9 (t := t))
        rw [hn0, hn1, hn2] at HN9
        rw [hn0, hn1, hn2] at HN
        clear hn0 hn1 hn2 HP hlt
        obtain ⟨wN, rfl⟩ : ∃ wN : World, wN = wr := ⟨_, rfl⟩
        go_wp2_with fail
        go_loopw [10] (fun κ wx => ∃ q : Nat, 1 ≤ q ∧ q ≤ 10 ∧ κ = .int .i64 q ∧ Hid (∀ j : Nat, 1 ≤ j → j < q → ¬ DeedIs t (j : Int) n0 n1 n2) ∧ Hid (Below wN.heap.size wN wx)) (fun κ _ => 10 - (intOf κ).toNat)
        case atStart => exact ⟨1, Nat.le_refl _, by omega, rfl, Lib.hid (fun j h1 h2 => by omega), Lib.hid (Below.refl _ _)⟩
        case round =>
          obtain ⟨q, hq1, hq10, rfl, HNO, HW⟩ := hrel
          have HNr := Lib.hid (HN.out.up HW.out)
          have HRr := Lib.hid (HRR.out.up HW.out)
          have HBr := Lib.hid (Below.tr HBW.out HW.out)
          by_cases hle : q ≤ 9
          · have hqi : (q : Int) ≤ 9 := by omega
            have c0 := Blk.cell (i := 0) (v := .int .i64 n0) HNr.out rfl
            have c1 := Blk.cell (i := 1) (v := .int .i64 n1) HNr.out rfl
            have c2 := Blk.cell (i := 2) (v := .int .i64 n2) HNr.out rfl
            have lN := HNr.out.lt
            have b5 := (Below.refl _ wr).alloc (Nat.le_refl _) (Obj.cells #[.int .i64 q, .int .i64 n0, .int .i64 n1, .int .i64 n2] 23)
            have HK5 := Lib.hid (Blk.new wr #[.int .i64 q, .int .i64 n0, .int .i64 n1, .int .i64 n2] 23)
            have HW5 := Lib.hid (Below.tr HW.out b5)
            have HR5 := Lib.hid (HRr.out.up b5)
            have HB5 := Lib.hid (Below.tr HBr.out b5)
            clear b5
            go_upto_region 15 with fail
            revert HK5 HW5 HR5 HB5
            generalize (wr.alloc (Obj.cells #[.int .i64 q, .int .i64 n0, .int .i64 n1, .int .i64 n2] 23)) = w5
            intro HK5 HW5 HR5 HB5
            clear c0 c1 c2 lN
            have d0 := Blk.cell (i := 0) (v := .int .i64 q) HK5.out rfl
            have d1 := Blk.cell (i := 1) (v := .int .i64 n0) HK5.out rfl
            have d2 := Blk.cell (i := 2) (v := .int .i64 n1) HK5.out rfl
            have d3 := Blk.cell (i := 3) (v := .int .i64 n2) HK5.out rfl
            have lD := HK5.out.lt
            go_wp2_with fail
            refine (implValidDeed_any (q : Int) n0 n1 n2 _).mono ?_
            rintro e w6 ⟨rfl, hb6⟩
            have HK6 := Lib.hid (HK5.out.up hb6)
            have HW6 := Lib.hid (Below.tr HW5.out hb6)
            have HR6 := Lib.hid (HR5.out.up hb6)
            have HB6 := Lib.hid (Below.tr HB5.out hb6)
            clear hb6 d0 d1 d2 d3 lD HK5 HW5 HR5 HB5 HNr HRr HBr HW
            cases hok : deedOk (q : Int) n0 n1 n2 with
            | false =>
              have HNO2 : Hid (∀ j : Nat, 1 ≤ j → j < q + 1 → ¬ DeedIs t (j : Int) n0 n1 n2) := fun j h1 h2 hd => by
                rcases Nat.lt_or_ge j q with h | h
                · exact HNO.out j h1 h hd
                · have : j = q := by omega
                  subst this
                  have := hd.1
                  rw [hok] at this; cases this
              clear hok
              go_wp2_with fail
              go_roundw
              case rel => exact ⟨q + 1, by omega, by omega, by go_num, HNO2, HW6⟩
              case measure => simp [intOf]; omega
            | true =>
              have HOK := Lib.hid hok
              have d0 := Blk.cell (i := 0) (v := .int .i64 q) HK6.out rfl
              have d1 := Blk.cell (i := 1) (v := .int .i64 n0) HK6.out rfl
              have d2 := Blk.cell (i := 2) (v := .int .i64 n1) HK6.out rfl
              have d3 := Blk.cell (i := 3) (v := .int .i64 n2) HK6.out rfl
              have lD := HK6.out.lt
              clear hok
              go_wp2_with fail
              refine (implDeedText_any (q : Int) n0 n1 n2 _ (HV.out.up HB6.out).tab).mono ?_
              rintro e w7 ⟨rfl, hb7⟩
              have HK7 := Lib.hid (HK6.out.up hb7)
              have HW7 := Lib.hid (Below.tr HW6.out hb7)
              have HRx := Lib.hid (HR6.out.up hb7)
              have HB7 := Lib.hid (Below.tr HB6.out hb7)
              clear hb7 d0 d1 d2 d3 lD HK6 HW6 HR6 HB6
              cases hq : ((textS (q : Int) n0 n1 n2).toList == t.toList) with
              | false =>
                have HNO2 : Hid (∀ j : Nat, 1 ≤ j → j < q + 1 → ¬ DeedIs t (j : Int) n0 n1 n2) := fun j h1 h2 hd => by
                  rcases Nat.lt_or_ge j q with h | h
                  · exact HNO.out j h1 h hd
                  · have : j = q := by omega
                    subst this
                    rw [hd.2] at hq
                    simp at hq
                go_wp2_with fail
                go_roundw
                case rel => exact ⟨q + 1, by omega, by omega, by go_num, HNO2, HW7⟩
                case measure => simp [intOf]; omega
              | true =>
                have HTX := Lib.hid (show textS (q : Int) n0 n1 n2 = t by
                  rw [beq_iff_eq, ByteArray.toList_eq, ByteArray.toList_eq] at hq
                  apply ByteArray.ext
                  exact Array.ext' hq)
                have d0 := Blk.cell (i := 0) (v := .int .i64 q) HK7.out rfl
                have d1 := Blk.cell (i := 1) (v := .int .i64 n0) HK7.out rfl
                have d2 := Blk.cell (i := 2) (v := .int .i64 n1) HK7.out rfl
                have d3 := Blk.cell (i := 3) (v := .int .i64 n2) HK7.out rfl
                have lD := HK7.out.lt
                have f0 := Blk.frozen HRx.out 0
                have f1 := Blk.frozen HRx.out 1
                have f2 := Blk.frozen HRx.out 2
                have f3 := Blk.frozen HRx.out 3
                have g0 := Blk.cell (i := 0) HRx.out rfl
                have g1 := Blk.cell (i := 1) HRx.out rfl
                have g2 := Blk.cell (i := 2) HRx.out rfl
                have g3 := Blk.cell (i := 3) HRx.out rfl
                have lR := HRx.out.lt
                go_wp2_with fail
                obtain ⟨s1, s2, s3⟩ := fin4 HRx.out (.int .i64 q) (.int .i64 n0) (.int .i64 n1) (.int .i64 n2)
                exact bodyPost_ret (v := .tuple #[.agg #[.int .i64 q, .int .i64 n0, .int .i64 n1, .int .i64 n2], .int .i64 0]) (by simp [results, Tryd.results5, go_sem, Blk.cell (i := 0) s1 rfl, Blk.cell (i := 1) s1 rfl, Blk.cell (i := 2) s1 rfl, Blk.cell (i := 3) s1 rfl]) rfl ⟨HB7.out.trans s3, .inl ⟨_, _, _, _, ⟨HOK.out, HTX.out⟩, rfl⟩⟩
          · have HNN := Lib.hid (HN9.out fun κ h1 h2 => HNO.out κ h1 (by omega))
            have hq9 : ¬ (q : Int) ≤ 9 := by omega
            have HRx := HRr
            have f0 := Blk.frozen HRx.out 0
            have f1 := Blk.frozen HRx.out 1
            have f2 := Blk.frozen HRx.out 2
            have f3 := Blk.frozen HRx.out 3
            have g0 := Blk.cell (i := 0) HRx.out rfl
            have g1 := Blk.cell (i := 1) HRx.out rfl
            have g2 := Blk.cell (i := 2) HRx.out rfl
            have g3 := Blk.cell (i := 3) HRx.out rfl
            have lR := HRx.out.lt
            go_wp2_with fail
            obtain ⟨s1, s2, s3⟩ := fin4 HRx.out (.int .i64 0) (.int .i64 0) (.int .i64 0) (.int .i64 0)
            exact bodyPost_ret (v := .tuple #[.agg #[.int .i64 0, .int .i64 0, .int .i64 0, .int .i64 0], .int .i64 5]) (by simp [results, Tryd.results5, go_sem, Blk.cell (i := 0) s1 rfl, Blk.cell (i := 1) s1 rfl, Blk.cell (i := 2) s1 rfl, Blk.cell (i := 3) s1 rfl]) rfl ⟨HBr.out.trans s3, .inr ⟨HNN.out, rfl⟩⟩
def nmB (x : ByteArray) : Int := numV x.data.toList
def nOk (x : ByteArray) : Bool := rdOk x.data.toList && decide (numV x.data.toList ≤ 999)
def NumsPost (l : List ByteArray) (w : World) (e : Ending) (w' : World) : Prop :=
  Below w.heap.size w w' ∧ ((l.tail.all nOk = true ∧ ∃ u, OwnInts w' w.heap.size u (l.tail.map nmB) ∧ e = .returned (.tuple #[u, .bool true])) ∨ (l.tail.all nOk = false ∧ ∃ u, e = .returned (.tuple #[u, .bool false])))
set_option maxRecDepth 100000 in
set_option maxHeartbeats 2000000 in
theorem l08Numbers_any (g c : Nat) (l : List ByteArray) (w : World) (h0 : 0 < l.length) (hl : l.length ≤ 1048577) (hg : g < w.heap.size) (hc : ∀ k x, l[k]? = some x → w.cell? ⟨g, k, none⟩ = some (.string x) ∧ x.size ≤ 1048576) :
    Calls Tryd.prog 9 #[.slice (some ⟨g, 0, none⟩) l.length c, .int .i64 1] w (NumsPost l w) := by
  have HC := Lib.hid hc
  have ba := (Below.refl _ w).alloc (Nat.le_refl _) (Obj.cells #[] 2)
  have HB0 := Lib.hid ba
  have HO0 := Lib.hid (show OwnInts (w.alloc (Obj.cells #[] 2)) w.heap.size (.slice (some ⟨w.heap.size, 0, none⟩) 0 0) [] from World.ownsRow_lit w #[] 0 (Nat.le_refl _) (Nat.zero_le _) rfl)
  clear hc ba
  go_enter Tryd.func9, Tryd.ntmps9
  go_wp2_with fail
  go_loopw [6, 7] (fun o i wx => ∃ (k : Nat) (A : Option Addr) (cA : Nat), k + 1 ≤ l.length ∧ o = .slice A k cA ∧ i = .int .i64 ((k + 1 : Nat) : Int) ∧ Hid (OwnInts wx w.heap.size (.slice A k cA) ((l.tail.take k).map nmB)) ∧ Hid ((l.tail.take k).all nOk = true) ∧ Hid (Below w.heap.size w wx)) (fun _ i _ => l.length - (intOf i).toNat)
  case atStart => exact ⟨0, _, _, by omega, rfl, rfl, HO0, Lib.hid (by simp), HB0⟩
  case round =>
    obtain ⟨k, A, cA, hk, rfl, rfl, HO, HA, HB⟩ := hrel
    by_cases hlt : k + 1 < l.length
    · have hki : ((k + 1 : Nat) : Int) < (l.length : Int) := by omega
      obtain ⟨x, hx⟩ : ∃ x, l[k + 1]? = some x := ⟨_, List.getElem?_eq_getElem hlt⟩
      have hxt : l.tail[k]? = some x := by rw [List.getElem?_tail]; exact hx
      obtain ⟨hcx, hsz⟩ := HC.out _ _ hx
      have cX := (HB.out.cell (p := ⟨g, k + 1, none⟩) hg).trans hcx
      have hgr : g < wr.heap.size := Nat.lt_of_lt_of_le hg HB.out.size
      have HXT := Lib.hid hxt
      clear hcx hx hxt
      go_wp2_with fail
      refine (l01Number_any x _ hsz).mono ?_
      rintro e w3 ⟨hb3, rfl⟩
      have HB3 := Lib.hid (Below.tr HB.out hb3)
      have HO3 := Lib.hid (ownsRow_below HO.out hb3)
      clear hb3 cX HO
      cases hr : rdOk x.data.toList with
      | false =>
        have HF := Lib.hid (show l.tail.all nOk = false by
          rw [List.all_eq_false]
          exact ⟨x, List.mem_of_getElem? HXT.out, by unfold nOk; rw [hr]; simp⟩)
        go_wp2_with fail
        exact bodyPost_ret (v := .tuple #[.slice A k cA, .bool false]) (by simp [results, Tryd.results9, go_sem]) rfl ⟨HB3.out, .inr ⟨HF.out, _, rfl⟩⟩
      | true =>
        by_cases h9 : (999 : Int) < numV x.data.toList
        · have HF := Lib.hid (show l.tail.all nOk = false by
            rw [List.all_eq_false]
            exact ⟨x, List.mem_of_getElem? HXT.out, by unfold nOk; rw [hr]; simp; omega⟩)
          go_wp2_with fail
          exact bodyPost_ret (v := .tuple #[.slice A k cA, .bool false]) (by simp [results, Tryd.results9, go_sem]) rfl ⟨HB3.out, .inr ⟨HF.out, _, rfl⟩⟩
        · have HOX := Lib.hid (show nOk x = true by unfold nOk; rw [hr]; simp; omega)
          have HTK := Lib.hid (show l.tail.take (k + 1) = l.tail.take k ++ [x] by rw [List.take_add_one, HXT.out]; rfl)
          obtain ⟨n, hn⟩ : ∃ n, numV x.data.toList = n := ⟨_, rfl⟩
          rw [hn] at h9
          have HN := Lib.hid (show nmB x = n from hn)
          rw [hn]
          have hlen : ((l.tail.take k).map nmB).length ≤ 1099511627776 := by rw [List.length_map, List.length_take]; omega
          have hz := HB3.out.size
          clear hn hr
          go_wp2_with (first
            | (at_builtin; refine push_ints (y := n) (base := w.heap.size) (v := .slice A k cA) (l := (l.tail.take k).map nmB) rfl _ _ rfl (by rfl) (by rfl) rfl HO3.out hlen hz ?_; intro v' w' own' hg' hb'))
          have HO4 := Lib.hid (show OwnInts w' w.heap.size v' ((l.tail.take (k + 1)).map nmB) by rw [HTK.out, List.map_append, List.map_singleton, HN.out]; exact own')
          obtain ⟨A4, c4, rfl, _⟩ := own_nil HO4.out
          have e4 : ((l.tail.take (k + 1)).map nmB).length = k + 1 := by rw [List.length_map, List.length_take, List.length_tail]; omega
          have HA4 := Lib.hid (show (l.tail.take (k + 1)).all nOk = true by rw [HTK.out, List.all_append, HA.out]; simp [HOX.out])
          have HB4 := Lib.hid (HB3.out.trans hb')
          rw [e4] at HO4
          rw [e4]
          clear own' hg' hb'
          go_wp2_with fail
          go_roundw
          case rel => exact ⟨k + 1, A4, c4, by omega, rfl, by go_num, HO4, HA4, HB4⟩
          case measure => simp [intOf]; omega
    · have hke : k + 1 = l.length := by omega
      have hkt : l.tail.take k = l.tail := List.take_of_length_le (by rw [List.length_tail]; omega)
      rw [hkt] at HO HA
      have hki : ¬ ((k + 1 : Nat) : Int) < (l.length : Int) := by omega
      go_wp2_with fail
      exact bodyPost_ret (v := .tuple #[.slice A k cA, .bool true]) (by simp [results, Tryd.results9, go_sem]) rfl ⟨HB.out, .inl ⟨HA.out, _, HO.out, rfl⟩⟩
end Go.Proofs.YtbifijlenbibmaaDoor
