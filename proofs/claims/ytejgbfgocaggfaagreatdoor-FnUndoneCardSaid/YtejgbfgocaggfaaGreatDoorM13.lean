import Derived.Test.YtejgbfgocaggfaaGreatDoorM12
import Derived.Shelf.Strings.Builder1
import Derived.Shelf.Strings.Builder2
import Derived.Shelf.Strings.BuilderF
import Derived.Shelf.Strings.BuilderK
import Derived.Shelf.Strconv.ParseIntEmpty
import Derived.Shelf.Strconv.Clone
import Derived.Shelf.Strconv.SyntaxError
import Derived.Shelf.LaysC
import Derived.Shelf.Strconv.ToError
import Derived.Shelf.Strconv.Lower
import Derived.Shelf.Strconv.ParseUint10
import Derived.Shelf.Strconv.ParseUint10Empty
import Derived.Shelf.Strconv.ParseUint10Any
import Derived.Shelf.Strconv.ParseInt10
import Derived.Shelf.Strconv.RangeError
import Derived.Shelf.Strconv.ToErrorRange
import Derived.Shelf.Strconv.ParseUintEmpty
import Derived.Shelf.Strconv.ParseUint10b64
import Derived.Shelf.Strconv.ParseUint10b32
import Derived.Shelf.Strconv.ParseUint10b16
import Derived.Shelf.Strconv.ParseUint10b8
import Derived.Shelf.Strconv.ParseUint10At
import Derived.Shelf.Strconv.ParseInt10At64
import Derived.Shelf.Strconv.ParseInt10At32
import Derived.Shelf.Strconv.ParseInt10At16
import Derived.Shelf.Strconv.ParseInt10At8
import Derived.Shelf.Strconv.ParseInt10All
import Derived.Shelf.Strconv.ParseIntPublic10
import Derived.Shelf.Strconv.ErrVarParseInt
import Derived.Shelf.Unicode.Decode
import Derived.Shelf.Bits.Mul64
import Derived.Shelf.Unicode.DecodeSlow
import Derived.Shelf.Unicode.DecodeAny
import Derived.Lib.ParseIntB
import Derived.Lib.ItoaNum
set_option maxRecDepth 100000
set_option maxHeartbeats 8000000
namespace Go.Proofs
open Go.Shelf Go.RowKit
theorem Tryz.strings_Split (s sep : ByteArray) (m : Int) (w : World) (hs : s.size < 4294967281) (hm : w.cell? ⟨2, 0, none⟩ = some (.int .i64 m)) (h1 : 1 ≤ sep.size) :
  Calls Tryz.prog 39 #[.string s, .string sep] w fun e w' =>
   e = .returned (.slice (some ⟨w.heap.size, 0, none⟩) (Lib.countB s sep + 1) (Lib.countB s sep + 1)) ∧ w' = w.alloc (.cells ((Lib.splitB sep 0 (Lib.countB s sep) s).map Value.string).toArray 9) := Any.strings_Split Tryz.lays146 (by kernel_rfl) s sep m w hs hm h1
def Tryz.laysC174_ren : Go.Shelf.Ren := ⟨fun | 174 => 41 | 247 => 72 | 245 => 73 | 287 => 112 | 279 => 113 | 280 => 114 | 281 => 115 | 282 => 116 | 321 => 145 | 322 => 146 | 316 => 147 | 171 => 149 | 205 => 148 | 243 => 171 | 246 => 122 | 283 => 151 | 284 => 152 | 285 => 153 | 286 => 154 | 129 => 174 | 317 => 173 | 318 => 175 | 319 => 176 | 320 => 177 | 337 => 181 | 338 => 182 | n => n, fun | 9 => 9 | 3 => 3 | 2 => 2 | 75 => 70 | 85 => 71 | 4 => 4 | 167 => 146 | 5 => 5 | 53 => 90 | 175 => 147 | 46 => 149 | 168 => 150 | 37 => 22 | 0 => 0 | 210 => 186 | 21 => 21 | 127 => 205 | 145 => 208 | 143 => 206 | 171 => 189 | 173 => 192 | 212 => 210 | 51 => 211 | 20 => 20 | 213 => 212 | 232 => 226 | 233 => 227 | 80 => 199 | n => n, fun | 15 => 0 | 16 => 1 | 17 => 3 | 18 => 6 | 19 => 7 | n => n⟩
theorem Tryz.laysC174 : Go.Proofs.LaysC.n174 Tryz.prog Tryz.laysC174_ren := {
 mixed := by kernel_rfl
 f129 := Tryz.func174.trans (congrArg some (by kernel_rfl))
 f171 := Tryz.func149.trans (congrArg some (by kernel_rfl))
 f174 := Tryz.func41.trans (congrArg some (by kernel_rfl))
 f205 := Tryz.func148.trans (congrArg some (by kernel_rfl))
 f243 := Tryz.func171.trans (congrArg some (by kernel_rfl))
 f245 := Tryz.func73.trans (congrArg some (by kernel_rfl))
 f246 := Tryz.func122.trans (congrArg some (by kernel_rfl))
 f247 := Tryz.func72.trans (congrArg some (by kernel_rfl))
 f279 := Tryz.func113.trans (congrArg some (by kernel_rfl))
 f280 := Tryz.func114.trans (congrArg some (by kernel_rfl))
 f281 := Tryz.func115.trans (congrArg some (by kernel_rfl))
 f282 := Tryz.func116.trans (congrArg some (by kernel_rfl))
 f283 := Tryz.func151.trans (congrArg some (by kernel_rfl))
 f284 := Tryz.func152.trans (congrArg some (by kernel_rfl))
 f285 := Tryz.func153.trans (congrArg some (by kernel_rfl))
 f286 := Tryz.func154.trans (congrArg some (by kernel_rfl))
 f287 := Tryz.func112.trans (congrArg some (by kernel_rfl))
 f316 := Tryz.func147.trans (congrArg some (by kernel_rfl))
 f317 := Tryz.func173.trans (congrArg some (by kernel_rfl))
 f318 := Tryz.func175.trans (congrArg some (by kernel_rfl))
 f319 := Tryz.func176.trans (congrArg some (by kernel_rfl))
 f320 := Tryz.func177.trans (congrArg some (by kernel_rfl))
 f321 := Tryz.func145.trans (congrArg some (by kernel_rfl))
 f322 := Tryz.func146.trans (congrArg some (by kernel_rfl))
 f337 := Tryz.func181.trans (congrArg some (by kernel_rfl))
 f338 := Tryz.func182.trans (congrArg some (by kernel_rfl))
 t0 := Tryz.underlying0
 a0 := Tryz.isAgg0
 z0 := Tryz.sizeOf0
 v0 := Tryz.zeroValue0
 t2 := Tryz.underlying2
 a2 := Tryz.isAgg2
 z2 := Tryz.sizeOf2
 v2 := Tryz.zeroValue2
 t3 := Tryz.underlying3
 a3 := Tryz.isAgg3
 z3 := Tryz.sizeOf3
 v3 := Tryz.zeroValue3
 t4 := Tryz.underlying4
 a4 := Tryz.isAgg4
 z4 := Tryz.sizeOf4
 v4 := Tryz.zeroValue4
 t5 := Tryz.underlying5
 a5 := Tryz.isAgg5
 z5 := Tryz.sizeOf5
 v5 := Tryz.zeroValue5
 t9 := Tryz.underlying9
 a9 := Tryz.isAgg9
 z9 := Tryz.sizeOf9
 v9 := Tryz.zeroValue9
 t20 := Tryz.underlying20
 a20 := Tryz.isAgg20
 z20 := Tryz.sizeOf20
 v20 := Tryz.zeroValue20
 t21 := Tryz.underlying21
 a21 := Tryz.isAgg21
 z21 := Tryz.sizeOf21
 v21 := Tryz.zeroValue21
 t37 := Tryz.underlying22
 a37 := Tryz.isAgg22
 z37 := Tryz.sizeOf22
 v37 := Tryz.zeroValue22
 t46 := Tryz.underlying149
 a46 := Tryz.isAgg149
 z46 := Tryz.sizeOf149
 v46 := Tryz.zeroValue149
 t51 := Tryz.underlying211
 a51 := Tryz.isAgg211
 z51 := Tryz.sizeOf211
 v51 := Tryz.zeroValue211
 t53 := Tryz.underlying90
 a53 := Tryz.isAgg90
 z53 := Tryz.sizeOf90
 v53 := Tryz.zeroValue90
 t75 := Tryz.underlying70
 a75 := Tryz.isAgg70
 z75 := Tryz.sizeOf70
 v75 := Tryz.zeroValue70
 t85 := Tryz.underlying71
 a85 := Tryz.isAgg71
 z85 := Tryz.sizeOf71
 v85 := Tryz.zeroValue71
 t127 := Tryz.underlying205
 a127 := Tryz.isAgg205
 z127 := Tryz.sizeOf205
 v127 := Tryz.zeroValue205
 t143 := Tryz.underlying206
 a143 := Tryz.isAgg206
 z143 := Tryz.sizeOf206
 v143 := Tryz.zeroValue206
 t145 := Tryz.underlying208
 a145 := Tryz.isAgg208
 z145 := Tryz.sizeOf208
 v145 := Tryz.zeroValue208
 t167 := Tryz.underlying146
 a167 := Tryz.isAgg146
 z167 := Tryz.sizeOf146
 v167 := Tryz.zeroValue146
 t168 := Tryz.underlying150
 a168 := Tryz.isAgg150
 z168 := Tryz.sizeOf150
 v168 := Tryz.zeroValue150
 t171 := Tryz.underlying189
 a171 := Tryz.isAgg189
 z171 := Tryz.sizeOf189
 v171 := Tryz.zeroValue189
 t173 := Tryz.underlying192
 a173 := Tryz.isAgg192
 z173 := Tryz.sizeOf192
 v173 := Tryz.zeroValue192
 t175 := Tryz.underlying147
 a175 := Tryz.isAgg147
 z175 := Tryz.sizeOf147
 v175 := Tryz.zeroValue147
 t210 := Tryz.underlying186
 a210 := Tryz.isAgg186
 z210 := Tryz.sizeOf186
 v210 := Tryz.zeroValue186
 t212 := Tryz.underlying210
 a212 := Tryz.isAgg210
 z212 := Tryz.sizeOf210
 v212 := Tryz.zeroValue210
 t213 := Tryz.underlying212
 a213 := Tryz.isAgg212
 z213 := Tryz.sizeOf212
 t232 := Tryz.underlying226
 a232 := Tryz.isAgg226
 z232 := Tryz.sizeOf226
 v232 := Tryz.zeroValue226
 t233 := Tryz.underlying227
 a233 := Tryz.isAgg227
 z233 := Tryz.sizeOf227
 v233 := Tryz.zeroValue227
 g15 := by kernel_rfl
 g16 := by kernel_rfl
 g17 := by kernel_rfl
 g18 := by kernel_rfl
 g19 := by kernel_rfl
 t80 := Tryz.underlying199
 a80 := Tryz.isAgg199
 z80 := Tryz.sizeOf199
 v80 := Tryz.zeroValue199
 i0 := by kernel_rfl
 i2 := by kernel_rfl
 i3 := by kernel_rfl
 i4 := by kernel_rfl
 i5 := by kernel_rfl
 i9 := by kernel_rfl
 i20 := by kernel_rfl
 i21 := by kernel_rfl
 i37 := by kernel_rfl
 i46 := by kernel_rfl
 i51 := by kernel_rfl
 i53 := by kernel_rfl
 i75 := by kernel_rfl
 i80 := by kernel_rfl
 i85 := by kernel_rfl
 i127 := by kernel_rfl
 i143 := by kernel_rfl
 i145 := by kernel_rfl
 i167 := by kernel_rfl
 i168 := by kernel_rfl
 i171 := by kernel_rfl
 i173 := by kernel_rfl
 i175 := by kernel_rfl
 i210 := by kernel_rfl
 i212 := by kernel_rfl
 i232 := by kernel_rfl
 i233 := by kernel_rfl
 m15 := by kernel_rfl
 m16 := by kernel_rfl
 m17 := by kernel_rfl
 m18 := by kernel_rfl
 m19 := by kernel_rfl
 c0 := by kernel_rfl
 c2 := by kernel_rfl
 c3 := by kernel_rfl
 c4 := by kernel_rfl
 c5 := by kernel_rfl
 c9 := by kernel_rfl
 c20 := by kernel_rfl
 c21 := by kernel_rfl
 c37 := by kernel_rfl
 c46 := by kernel_rfl
 c51 := by kernel_rfl
 c53 := by kernel_rfl
 c75 := by kernel_rfl
 c80 := by kernel_rfl
 c85 := by kernel_rfl
 c127 := by kernel_rfl
 c143 := by kernel_rfl
 c145 := by kernel_rfl
 c167 := by kernel_rfl
 c168 := by kernel_rfl
 c171 := by kernel_rfl
 c173 := by kernel_rfl
 c175 := by kernel_rfl
 c210 := by kernel_rfl
 c212 := by kernel_rfl
 c213 := by kernel_rfl
 c232 := by kernel_rfl
 c233 := by kernel_rfl }
theorem Tryz.strconv_ParseInt_10_at64_ok (s : ByteArray) (hmax : s.size ≤ 9223372036854775806) (v : Int) (h : Lib.parseIntB 64 s.data.toList = .ok v) (w : World) :
  Calls Tryz.prog 41 #[.string s, .int .i64 10, .int .i64 64] w fun e w' => e = .returned (.tuple #[.int .i64 v, .nilIface]) ∧ (w' = w ∨ ∃ t, w' = Lib.bytesWorld w 5 t) := Any.strconv_ParseInt_10_at64_ok Tryz.laysC174 s hmax v h w
theorem Tryz.strconv_ParseInt_10_at64_syntax_var (s : ByteArray) (hlim : s.size ≤ 281474976710656) (h : Lib.parseIntB 64 s.data.toList = .«syntax») (tp : TypeId) (p : Value) (w : World) (hvar : w.var? Tryz.prog "strconv.ErrSyntax" = some #[.iface tp p]) :
  Calls Tryz.prog 41 #[.string s, .int .i64 10, .int .i64 64] w fun e w' => ∃ N, e = .returned (.tuple #[.int .i64 (0), .iface 150 (.pointer (some ⟨N, 0, none⟩))]) ∧ w.heap.size ≤ N ∧ w'.heap[N]? = some (.cells #[.string ⟨#[80, 97, 114, 115, 101, 73, 110, 116]⟩, .string s, .iface tp p] 186 (0, 0)) ∧ Below w.heap.size w w' := Any.strconv_ParseInt_10_at64_syntax_var Tryz.laysC174 s hlim h tp p w hvar
theorem Tryz.strconv_ParseInt_10_at64_range_var (s : ByteArray) (hlim : s.size ≤ 281474976710656) (h : Lib.parseIntB 64 s.data.toList = .range) (tp : TypeId) (p : Value) (w : World) (hvar : w.var? Tryz.prog "strconv.ErrRange" = some #[.iface tp p]) :
  Calls Tryz.prog 41 #[.string s, .int .i64 10, .int .i64 64] w fun e w' => ∃ N, e = .returned (.tuple #[.int .i64 (Lib.intSat 64 s.data.toList), .iface 150 (.pointer (some ⟨N, 0, none⟩))]) ∧ w.heap.size ≤ N ∧ w'.heap[N]? = some (.cells #[.string ⟨#[80, 97, 114, 115, 101, 73, 110, 116]⟩, .string s, .iface tp p] 186 (0, 0)) ∧ Below w.heap.size w w' := Any.strconv_ParseInt_10_at64_range_var Tryz.laysC174 s hlim h tp p w hvar
def Tryz.laysM146_ren : Go.Shelf.Ren := ⟨fun | 146 => 39 | 221 => 71 | 268 => 109 | 138 => 110 | 143 => 111 | 195 => 141 | 197 => 142 | 218 => 143 | 219 => 144 | 260 => 167 | 217 => 150 | 225 => 168 | 224 => 169 | 267 => 170 | 266 => 172 | 314 => 180 | n => n, fun | 9 => 9 | 31 => 62 | 3 => 3 | 4 => 4 | 0 => 0 | 105 => 181 | 21 => 21 | 5 => 5 | 46 => 149 | 119 => 217 | 139 => 220 | 138 => 219 | 146 => 221 | 51 => 211 | n => n, fun | 1 => 2 | 3 => 4 | 4 => 5 | n => n⟩
theorem Tryz.laysM146 : Go.Proofs.LaysM.n146 Tryz.prog Tryz.laysM146_ren := {
 mixed := by kernel_rfl
 f138 := Tryz.func110.trans (congrArg some (by kernel_rfl))
 f143 := Tryz.func111.trans (congrArg some (by kernel_rfl))
 f146 := Tryz.func39.trans (congrArg some (by kernel_rfl))
 f195 := Tryz.func141.trans (congrArg some (by kernel_rfl))
 f197 := Tryz.func142.trans (congrArg some (by kernel_rfl))
 f217 := Tryz.func150.trans (congrArg some (by kernel_rfl))
 f218 := Tryz.func143.trans (congrArg some (by kernel_rfl))
 f219 := Tryz.func144.trans (congrArg some (by kernel_rfl))
 f221 := Tryz.func71.trans (congrArg some (by kernel_rfl))
 f224 := Tryz.func169.trans (congrArg some (by kernel_rfl))
 f225 := Tryz.func168.trans (congrArg some (by kernel_rfl))
 f260 := Tryz.func167.trans (congrArg some (by kernel_rfl))
 f266 := Tryz.func172.trans (congrArg some (by kernel_rfl))
 f267 := Tryz.func170.trans (congrArg some (by kernel_rfl))
 f268 := Tryz.func109.trans (congrArg some (by kernel_rfl))
 f314 := Tryz.func180.trans (congrArg some (by kernel_rfl))
 t0 := Tryz.underlying0
 a0 := Tryz.isAgg0
 z0 := Tryz.sizeOf0
 v0 := Tryz.zeroValue0
 t3 := Tryz.underlying3
 a3 := Tryz.isAgg3
 z3 := Tryz.sizeOf3
 v3 := Tryz.zeroValue3
 t4 := Tryz.underlying4
 a4 := Tryz.isAgg4
 z4 := Tryz.sizeOf4
 v4 := Tryz.zeroValue4
 t5 := Tryz.underlying5
 a5 := Tryz.isAgg5
 z5 := Tryz.sizeOf5
 v5 := Tryz.zeroValue5
 t9 := Tryz.underlying9
 a9 := Tryz.isAgg9
 z9 := Tryz.sizeOf9
 v9 := Tryz.zeroValue9
 t21 := Tryz.underlying21
 a21 := Tryz.isAgg21
 z21 := Tryz.sizeOf21
 v21 := Tryz.zeroValue21
 t31 := Tryz.underlying62
 a31 := Tryz.isAgg62
 z31 := Tryz.sizeOf62
 v31 := Tryz.zeroValue62
 t46 := Tryz.underlying149
 a46 := Tryz.isAgg149
 z46 := Tryz.sizeOf149
 v46 := Tryz.zeroValue149
 t51 := Tryz.underlying211
 a51 := Tryz.isAgg211
 z51 := Tryz.sizeOf211
 v51 := Tryz.zeroValue211
 t105 := Tryz.underlying181
 a105 := Tryz.isAgg181
 z105 := Tryz.sizeOf181
 v105 := Tryz.zeroValue181
 t119 := Tryz.underlying217
 a119 := Tryz.isAgg217
 z119 := Tryz.sizeOf217
 t138 := Tryz.underlying219
 a138 := Tryz.isAgg219
 z138 := Tryz.sizeOf219
 v138 := Tryz.zeroValue219
 t139 := Tryz.underlying220
 a139 := Tryz.isAgg220
 z139 := Tryz.sizeOf220
 v139 := Tryz.zeroValue220
 t146 := Tryz.underlying221
 a146 := Tryz.isAgg221
 z146 := Tryz.sizeOf221
 v146 := Tryz.zeroValue221
 g1 := by kernel_rfl
 g3 := by kernel_rfl
 g4 := by kernel_rfl
 i0 := by kernel_rfl
 i3 := by kernel_rfl
 i4 := by kernel_rfl
 i5 := by kernel_rfl
 i9 := by kernel_rfl
 i21 := by kernel_rfl
 i31 := by kernel_rfl
 i46 := by kernel_rfl
 i51 := by kernel_rfl
 i105 := by kernel_rfl
 i138 := by kernel_rfl
 i139 := by kernel_rfl
 i146 := by kernel_rfl
 m1 := by kernel_rfl
 s1_3 := fun w h => Go.Proofs.cell_of_shapedOpen_int (zero := #[.int .i64 0]) (t := 3) h (of_decide_eq_true (by kernel_rfl)) (by kernel_rfl) rfl (by kernel_rfl) (by kernel_rfl) Tryz.underlying3
 m3 := by kernel_rfl
 m4 := by kernel_rfl }
open Go.RowKit Go.Lib in
theorem Tryz.strings_Split_shaped (s sep : ByteArray) (w : World) (h : w.ShapedOpen Tryz.prog) (hs : s.size < 4294967281) (h1 : 1 ≤ sep.size) :
  Calls Tryz.prog 39 #[.string s, .string sep] w fun e w' =>
   e = .returned (.slice (some ⟨w.heap.size, 0, none⟩) (Lib.countB s sep + 1) (Lib.countB s sep + 1)) ∧ w' = w.alloc (.cells ((Lib.splitB sep 0 (Lib.countB s sep) s).map Value.string).toArray 9) := Any.strings_Split_shaped Tryz.laysM146 s sep w h hs h1
theorem Tryz.infoW : (Tryz.prog.info? 9).map (fun i => (i.zero, i.size, i.bytes)) = some (some (.string ⟨#[]⟩), 1, 16) := by kernel_rfl
end Go.Proofs
namespace Go.Proofs.YtejgbfgocaggfaaGreatDoor
open Go.RowKit
def zg0 (w : World) (base : Nat) (v : Value) (l : List ByteArray) : Prop := w.ownsRow base 9 1 v l.length (l.map Value.string)
theorem zg0.empty {w : World} {base N : Nat} (hN : N = w.heap.size) (hb : base <= w.heap.size) : zg0 (w.alloc (Obj.cells #[] 9)) base (Value.slice (some ⟨N, 0, none⟩) 0 0) [] := by
 subst hN; exact World.ownsRow_lit w #[] 0 hb (Nat.zero_le _) rfl
theorem zg0.sl {w : World} {base : Nat} {v : Value} {l : List ByteArray} (h : zg0 w base v l) : Sl zic w w.heap.size v l := by
 have hh : w.ownsRow base 9 1 v l.length (l.map Value.string) := h; obtain ⟨A, cap, rfl, h1, h2⟩ := zae hh; refine ⟨A, cap, rfl, h1, h2, Row.of_own (E := zic) hh rfl (fun g hg => (World.ownsRow.lt hh g hg).2) fun k x hx => ⟨[.string x], rfl, fun j u hu => ?_⟩⟩
 cases j with
 | zero => simp at hu; subst hu; simp [zic, hx]
 | succ j => simp at hu
theorem zmJ {W : World} {ops : Array Oper} {rest : List Oper} {o : Oper} {a : Act} {Q : Exit -> Act -> World -> Prop} (hgd : o.guard = none) (s x : Operand)
  (ho : o.op = .call { callee := .builtin .append, args := #[s, x], argTypes := #[62, 62] }) {y : ByteArray} {base : Nat} {v : Value} {l : List ByteArray}
  (hs : a.eval s = v) {N : Nat} (hx : a.eval x = .slice (some ⟨N, 0, none⟩) 1 1) (hN : N = W.heap.size) (hown : zg0 W base v l) (hlen : l.length <= 1099511627776) (hbase : base <= W.heap.size)
  (h : ∀ g' c' w', zg0 w' base (.slice (some ⟨g', 0, none⟩) (l.length + 1) c') (l ++ [y]) -> Below base W w' -> wpList Tryz.prog ops Q rest (a.put o.dst (.slice (some ⟨g', 0, none⟩) (l.length + 1) c')) w') :
  wpList Tryz.prog ops Q (o :: rest) a (W.alloc (.cells #[.string y] 9)) := by
 subst hN; obtain ⟨i0, hi0, hz0, hz1, hz2⟩ := info_parts Tryz.infoW; refine zdU hgd s x 62 ho i0 (.string ⟨#[]⟩) 1 16 Tryz.underlying62 hi0 hz0 hz1 hz2 rfl (by decide) hs hx rfl (by simp [Value.oneCell']) hown yO yO hbase ?_
 intro v' w' h1 h2 h3; have h4 : zg0 w' base v' (l ++ [y]) := by unfold zg0; simpa using h1
 obtain ⟨g', c', rfl, _⟩ := zbI (show w'.ownsRow base 9 1 v' (l ++ [y]).length ((l ++ [y]).map Value.string) from h4) yS; have e : (l ++ [y]).length = l.length + 1 := by simp
 rw [e] at h4 |-
 exact h g' c' w' h4 h3
theorem zmK {t : ByteArray} {k : Nat} (hk : k < t.size) : (zgg t).take (k + 1) = (zgg t).take k ++ [t.extract k (k + 1)] := by
 have h : (zgg t)[k]? = some (t.extract k (k + 1)) := by
  unfold zgg Lib.charsB Lib.charsUpTo; rw [List.getElem?_map, List.getElem?_range hk]; rfl
 rw [List.take_add_one, h]; rfl
def spl (b : UInt8) : List UInt8 -> List UInt8 -> List (List UInt8)
 | cur, [] => [cur]
 | cur, c :: t => if c = b then cur :: spl b [] t else spl b (cur ++ [c]) t
theorem zkW {b : UInt8} : ∀ (t cur : List UInt8), (∀ c ∈ t, c ≠ b) -> spl b cur t = [cur ++ t] := by
 intro t
 induction t with
 | nil => intro cur _; simp [spl]
 | cons c t ih =>
   intro cur h; rw [spl, if_neg (h c yS), ih _ (fun x hx => h x (by simp [hx]))]; simp
theorem zjm {b : UInt8} : ∀ (u cur t : List UInt8), (∀ c ∈ u, c ≠ b) -> spl b cur (u ++ b :: t) = (cur ++ u) :: spl b [] t := by
 intro u
 induction u with
 | nil => intro cur t _; simp [spl]
 | cons c u ih =>
   intro cur t h; rw [List.cons_append, spl, if_neg (h c yS), ih _ _ (fun x hx => h x (by simp [hx]))]; simp
theorem zo4 (b : UInt8) : ∀ (t cur : List UInt8), spl b cur t ≠ [] := by
 intro t
 induction t with
 | nil => intro cur; simp [spl]
 | cons c t ih =>
   intro cur; rw [spl]; split
   · simp
   · exact ih _
def zn8 (b : UInt8) : List (List UInt8) -> List UInt8
 | [] => []
 | [u] => u
 | u :: v :: r => u ++ b :: zn8 b (v :: r)
theorem zjn {b : UInt8} {u : List UInt8} {r : List (List UInt8)} (h : r ≠ []) : zn8 b (u :: r) = u ++ b :: zn8 b r := by
 cases r with
 | nil => exact absurd rfl h
 | cons v r => rfl
theorem zn9 (b : UInt8) : ∀ (t cur : List UInt8), zn8 b (spl b cur t) = cur ++ t := by
 intro t
 induction t with
 | nil => intro cur; simp [spl, zn8]
 | cons c t ih =>
   intro cur; rw [spl]; split
   · rename_i h
     rw [zjn (zo4 b t []), ih, h]; simp
   · rw [ih]; simp
theorem zkX {b : UInt8} : ∀ (ps : List (List UInt8)), ps ≠ [] -> (∀ u ∈ ps, ∀ c ∈ u, c ≠ b) -> spl b [] (zn8 b ps) = ps := by
 intro ps
 induction ps with
 | nil => intro h; exact absurd rfl h
 | cons u r ih =>
   intro _ h; cases r with
   | nil => rw [zn8, zkW _ _ (h u yS)]; simp
   | cons v r =>
     rw [zjn yS, zjm _ _ _ (h u yS), ih yS (fun x hx => h x (by simp [hx]))]; simp
def dgt (c : UInt8) : Nat := c.toNat - 48
def zfD (c : UInt8) : Bool := decide (48 <= c.toNat) && decide (c.toNat <= 57)
def zfO (u : List UInt8) : Nat := u.foldl (fun n c => n * 10 + dgt c) 0
def zfP (u : List UInt8) : Bool := decide (1 <= u.length) && decide (u.length <= 18) && !(u.head? == some 48 && decide (1 < u.length)) && u.all zfD
def zff (u : List UInt8) : Int := if zfP u then (zfO u : Int) else 0
theorem zg1 (u : List UInt8) (c : UInt8) : zfO (u ++ [c]) = zfO u * 10 + dgt c := by simp [zfO]
theorem zo5 : ∀ (k : Nat) (u : List UInt8), u.length = k -> u.all zfD = true -> zfO u < 10 ^ k := by
 intro k
 induction k with
 | zero => intro u h _; rw [List.length_eq_zero_iff] at h; subst h; simp [zfO]
 | succ k ih =>
   intro u h ha; have h1 : u ≠ [] := by intro e; rw [e] at h; simp at h
   obtain ⟨v, c, rfl⟩ : ∃ v c, u = v ++ [c] := ⟨u.dropLast, u.getLast h1, (List.dropLast_concat_getLast h1).symm⟩
   rw [List.all_append, Bool.and_eq_true] at ha; have h2 := ih v (by simpa using h) ha.1; have h3 : dgt c <= 9 := by have := ha.2; simp [zfD] at this; unfold dgt; omega
   rw [zg1, Nat.pow_succ]; omega
theorem zmL {u : Nat} (h : ¬ u < 10) : Lib.decDigits u = Lib.decDigits (u / 10) ++ [UInt8.ofNat (48 + u % 10)] := by rw [Lib.decDigits, dif_neg h]
theorem zmM {u : Nat} (h : u < 10) : Lib.decDigits u = [UInt8.ofNat (48 + u)] := by rw [Lib.decDigits, dif_pos h]
theorem zoD {d : Nat} (h : d < 10) : dgt (UInt8.ofNat (48 + d)) = d /\ zfD (UInt8.ofNat (48 + d)) = true := by
 have : (UInt8.ofNat (48 + d)).toNat = 48 + d := by rw [UInt8.toNat_ofNat']; omega
 unfold dgt zfD; rw [this]; simp; omega
theorem zpF {c : UInt8} (h : zfD c = true) : UInt8.ofNat (48 + dgt c) = c /\ dgt c < 10 := by
 simp only [zfD, Bool.and_eq_true, decide_eq_true_eq] at h
 unfold dgt; refine ⟨?_, by omega⟩
 rw [show 48 + (c.toNat - 48) = c.toNat by omega]; exact UInt8.ofNat_toNat
theorem zkY : ∀ u : Nat, zfO (Lib.decDigits u) = u /\ (Lib.decDigits u).all zfD = true /\ Lib.decDigits u ≠ [] /\ (1 < (Lib.decDigits u).length -> (Lib.decDigits u).head? ≠ some 48) /\ (0 < u -> (Lib.decDigits u).head? ≠ some 48) := by
 intro u
 induction u using Nat.strongRecOn with
 | _ u ih =>
   by_cases h : u < 10
   · rw [zmM h]
     obtain ⟨h1, h2⟩ := zoD h; have h9 : (UInt8.ofNat (48 + u)).toNat = 48 + u := by rw [UInt8.toNat_ofNat']; omega
     revert h1 h2 h9; generalize UInt8.ofNat (48 + u) = c; intro h1 h2 h9; refine ⟨by simp [zfO, h1], by simp [h2], by simp, by simp, ?_⟩
     intro h0 he; simp only [List.head?_cons, Option.some.injEq] at he
     rw [he] at h9; have h10 : (48 : UInt8).toNat = 48 := rfl; omega
   · obtain ⟨h1, h2, h3, h4, h5⟩ := ih (u / 10) yO
     obtain ⟨d1, d2⟩ := zoD (show u % 10 < 10 by omega)
     have hh : (Lib.decDigits (u / 10) ++ [UInt8.ofNat (48 + u % 10)]).head? = (Lib.decDigits (u / 10)).head? := by
      cases hq : Lib.decDigits (u / 10) with
      | nil => exact absurd hq h3
      | cons x t => rfl
     rw [zmL h]; revert d1 d2 hh; generalize UInt8.ofNat (48 + u % 10) = c; intro d1 d2 hh; refine ⟨by rw [zg1, h1, d1]; omega, by rw [List.all_append, h2]; simp [d2], by simp, fun _ => by rw [hh]; exact h5 yO, fun _ => by rw [hh]; exact h5 yO⟩
theorem zoa : ∀ (k : Nat) (u : List UInt8), u.length = k -> u ≠ [] -> u.all zfD = true -> (1 < u.length -> u.head? ≠ some 48) -> Lib.decDigits (zfO u) = u /\ (u.head? ≠ some 48 -> 0 < zfO u) := by
 intro k
 induction k with
 | zero => intro u h h0; rw [List.length_eq_zero_iff] at h; exact absurd h h0
 | succ k ih =>
   intro u h h0 ha hc; obtain ⟨v, c, rfl⟩ : ∃ v c, u = v ++ [c] := ⟨u.dropLast, u.getLast h0, (List.dropLast_concat_getLast h0).symm⟩
   rw [List.all_append, Bool.and_eq_true] at ha; obtain ⟨e1, e2⟩ := zpF (c := c) (by simpa using ha.2); by_cases hv : v = []
   · subst hv
     have hn : zfO ([] ++ [c]) = dgt c := by simp [zfO]
     rw [hn, zmM e2, e1]; refine ⟨rfl, fun hh => ?_⟩
     rcases Nat.eq_zero_or_pos (dgt c) with hz | hz
     · exfalso
       apply hh
       rw [hz] at e1; rw [<- e1]; rfl
     · exact hz
   · have hl : 0 < v.length := List.length_pos_iff.2 hv
     have hhd : (v ++ [c]).head? = v.head? := by
      cases v with
      | nil => exact absurd rfl hv
      | cons x t => rfl
     have hv48 : v.head? ≠ some 48 := by rw [<- hhd]; exact hc (by simp; omega)
     obtain ⟨i1, i2⟩ := ih v (by simpa using h) hv ha.1 (fun _ => hv48); have i3 := i2 hv48; rw [zg1, zmL yO, show (zfO v * 10 + dgt c) / 10 = zfO v by omega, show (zfO v * 10 + dgt c) % 10 = dgt c by omega, i1, e1]; exact ⟨rfl, fun _ => by omega⟩
theorem ziA (u : List UInt8) : zfP u = true ↔ 1 <= u.length /\ u.length <= 18 /\ ¬ (u.head? = some 48 /\ 1 < u.length) /\ u.all zfD = true := by
 unfold zfP; simp [and_assoc]
 intro _ _ _; constructor
 · rintro (h | h) h2
   · exact absurd h2 h
   · exact h
 · intro h
   by_cases h2 : u.head? = some 48
   · exact Or.inr (h h2)
   · exact Or.inl h2
theorem zdr {u : List UInt8} (h : zfP u = true) : dec (zff u) = u /\ 0 <= zff u := by
 have h' := (ziA u).1 h; obtain ⟨h1, h2, h3, h4⟩ := h'; have h0 : u ≠ [] := by intro e; subst e; simp at h1
 refine ⟨?_, by unfold zff; rw [if_pos h]; omega⟩
 unfold dec zff; rw [if_pos h, Int.toNat_natCast]; exact (zoa u.length u rfl h0 h4 (fun h5 h6 => h3 ⟨h6, h5⟩)).1
theorem zkZ {n : Int} (h0 : 0 <= n) (h1 : n <= 1000000000000000) : zfP (dec n) = true /\ zff (dec n) = n := by
 obtain ⟨k, rfl⟩ := Int.eq_ofNat_of_zero_le h0; obtain ⟨a1, a2, a3, a4, _⟩ := zkY k
 have hok : zfP (dec (k : Int)) = true := by
  rw [ziA]; unfold dec; rw [Int.toNat_natCast]; refine ⟨List.length_pos_iff.2 a3, ?_, fun h => a4 h.2 h.1, a2⟩
  rw [Lib.decDigits_length]; rcases Nat.lt_or_ge 18 (Lib.nDigits k) with h | h
  · exfalso
    have h2 : ∀ m, 1 <= m -> ∀ k, m < Lib.nDigits k -> 10 ^ m <= k := by
     intro m
     induction m with
     | zero => intro h; omega
     | succ m ih =>
       intro _ k hk; by_cases hk9 : k < 10
       · rw [Lib.nDigits_small hk9] at hk; omega
       · rw [Lib.nDigits_big hk9] at hk
         rcases Nat.eq_zero_or_pos m with rfl | hm
         · simp; omega
         · have := ih hm (k / 10) yO
           rw [Nat.pow_succ]; omega
    have := h2 18 (by decide) k h; have h18 : (10 : Nat) ^ 18 = 1000000000000000000 := by decide
    omega
  · exact h
 refine ⟨hok, ?_⟩
 unfold zff; rw [if_pos hok]; unfold dec; rw [Int.toNat_natCast, a1]
def pI (u : List UInt8) : Int :=
 match Lib.parseIntB 64 u with
 | .ok v => v
 | .«syntax» => 0
 | .range => Lib.intSat 64 u
theorem zmN : ∀ (u : List UInt8) (acc : Nat), u.all zfD = true -> acc * 10 ^ u.length + zfO u < 1000000000000000000 -> Lib.parseUintM (2 ^ 64 - 1) acc u = .ok (acc * 10 ^ u.length + zfO u) := by
 intro u
 induction u with
 | nil => intro acc _ _; simp [Lib.parseUintM, zfO]
 | cons c t ih =>
   intro acc ha hb; rw [List.all_cons, Bool.and_eq_true] at ha; have hc := ha.1; simp only [zfD, Bool.and_eq_true, decide_eq_true_eq] at hc
   have hfold : ∀ (l : List UInt8) (a : Nat), l.foldl (fun n c => n * 10 + dgt c) a = a * 10 ^ l.length + zfO l := by
    intro l
    induction l with
    | nil => intro a; simp [zfO]
    | cons x l ihl =>
      intro a
      have e1 : zfO (x :: l) = (0 * 10 + dgt x) * 10 ^ l.length + zfO l := by
       show List.foldl _ _ _ = _
       rw [List.foldl_cons, ihl]
      rw [List.foldl_cons, ihl, e1, List.length_cons, Nat.pow_succ, Nat.add_mul, Nat.zero_mul, Nat.zero_add, Nat.mul_assoc, Nat.mul_comm 10, Nat.add_assoc]
   have e2 : zfO (c :: t) = dgt c * 10 ^ t.length + zfO t := by
    show List.foldl _ _ _ = _
    rw [List.foldl_cons, hfold]; simp
   have e3 : acc * 10 ^ (c :: t).length + zfO (c :: t) = (acc * 10 + dgt c) * 10 ^ t.length + zfO t := by
    rw [e2, List.length_cons, Nat.pow_succ, Nat.add_mul, Nat.mul_assoc, Nat.mul_comm 10, Nat.add_assoc]
   rw [e3] at hb |-
   have hp : 1 <= 10 ^ t.length := Nat.one_le_pow _ _ (by decide); have hle : acc * 10 + dgt c <= (acc * 10 + dgt c) * 10 ^ t.length := Nat.le_mul_of_pos_right _ hp; have hd : c.toNat - 48 = dgt c := rfl; rw [Lib.parseUintM, if_pos hc, if_neg yO, if_neg (by rw [hd]; omega), hd]; exact ih _ ha.2 hb
theorem zgh {u : List UInt8} (h : zfP u = true) : pI u = zff u /\ Lib.parseIntB 64 u = .ok (zff u) := by
 obtain ⟨h1, h2, h3, h4⟩ := (ziA u).1 h; have hlt : zfO u < 10 ^ u.length := zo5 u.length u rfl h4; have h18 : 10 ^ u.length <= 10 ^ 18 := Nat.pow_le_pow_right (by decide) h2; have e18 : (10 : Nat) ^ 18 = 1000000000000000000 := by decide
 have hm := zmN u 0 h4 yO; rw [Nat.zero_mul, Nat.zero_add] at hm; cases u with
 | nil => simp at h1
 | cons c t =>
   have hc : 48 <= c.toNat /\ c.toNat <= 57 := by
    rw [List.all_cons, Bool.and_eq_true] at h4; have := h4.1; simp only [zfD, Bool.and_eq_true, decide_eq_true_eq] at this
    exact this
   have hp : Lib.parseIntB 64 (c :: t) = .ok (zff (c :: t)) := by
    unfold Lib.parseIntB; have e43 : ¬ (c.toNat = 43 \/ c.toNat = 45) := by omega
    have e45 : ¬ c.toNat = 45 := by omega
    simp only [e43, if_false]
    unfold Lib.parseUintB; rw [if_neg yS, hm]; simp only [e45, not_false_eq_true, true_and, false_and, if_false]
    have h63 : ¬ (2 ^ (64 - 1) <= zfO (c :: t)) := by
     have : (2 : Nat) ^ (64 - 1) = 9223372036854775808 := by decide
     omega
    rw [if_neg h63]; unfold zff; rw [if_pos h]
   exact ⟨by unfold pI; rw [hp], hp⟩
theorem zlx (l : List ByteArray) : (l.map (·.data.toList)).map (fun u => (⟨u.toArray⟩ : ByteArray)) = l := by
 rw [List.map_map]
 conv => rhs; rw [<- List.map_id l]
 apply List.map_congr_left
 intro x _; rfl
def zcl (b : UInt8) (s : ByteArray) : List ByteArray := (spl b [] s.data.toList).map (fun u => ⟨u.toArray⟩)
theorem zo6 {b : UInt8} {s : ByteArray} {l : List ByteArray} (h : spl b [] s.data.toList = l.map (·.data.toList)) : zcl b s = l := by
 unfold zcl; rw [h, zlx]
end Go.Proofs.YtejgbfgocaggfaaGreatDoor
namespace Go.Proofs
open Go.Shelf
def YtejgbfgocaggfaaGreatDoor.lays169_ren : Go.Shelf.Ren := ⟨fun | 169 => 157 | n => n, fun | 70 => 194 | 9 => 9 | 0 => 0 | 72 => 196 | 37 => 22 | 127 => 205 | 3 => 3 | 5 => 5 | n => n, fun | n => n⟩
theorem YtejgbfgocaggfaaGreatDoor.lays169 : Go.Proofs.Lays.n169 Tryz.prog YtejgbfgocaggfaaGreatDoor.lays169_ren := {
 mixed := by kernel_rfl
 f169 := Tryz.func157.trans (congrArg some (by kernel_rfl))
 t0 := Tryz.underlying0
 a0 := Tryz.isAgg0
 z0 := Tryz.sizeOf0
 v0 := Tryz.zeroValue0
 t3 := Tryz.underlying3
 a3 := Tryz.isAgg3
 z3 := Tryz.sizeOf3
 v3 := Tryz.zeroValue3
 t9 := Tryz.underlying9
 a9 := Tryz.isAgg9
 z9 := Tryz.sizeOf9
 v9 := Tryz.zeroValue9
 t37 := Tryz.underlying22
 a37 := Tryz.isAgg22
 z37 := Tryz.sizeOf22
 v37 := Tryz.zeroValue22
 t70 := Tryz.underlying194
 a70 := Tryz.isAgg194
 z70 := Tryz.sizeOf194
 v70 := Tryz.zeroValue194
 t72 := Tryz.underlying196
 a72 := Tryz.isAgg196
 z72 := Tryz.sizeOf196
 v72 := Tryz.zeroValue196
 t127 := Tryz.underlying205
 a127 := Tryz.isAgg205
 z127 := Tryz.sizeOf205
 v127 := Tryz.zeroValue205 }
theorem YtejgbfgocaggfaaGreatDoor.Builder_Extra_169 : Builder.Extra Tryz.prog YtejgbfgocaggfaaGreatDoor.lays169_ren := {
 sizeBuilder := by kernel_rfl
 liesBuilder := by kernel_rfl
 t5 := Tryz.underlying5
 a5 := Tryz.isAgg5
 z5 := Tryz.sizeOf5
 v5 := Tryz.zeroValue5
 infoByte := by kernel_rfl
 cellsByte := by kernel_rfl
 sizeByte := by kernel_rfl
 neB5 := by decide }
end Go.Proofs
namespace Go.Proofs.YtejgbfgocaggfaaGreatDoor
open Go.RowKit
def zey (B b : Nat) (l : List UInt8) (w : World) : Prop := Lib.IsBuilder 196 5 B b (Lib.byteCells l) w
theorem zey.string {B b : Nat} {l : List UInt8} {w : World} (h : zey B b l w) (hBw : B <= w.heap.size) :
  Calls Tryz.prog 157 #[.pointer (some ⟨b, 0, none⟩)] w fun e w' => e = .returned (.string ⟨l.toArray⟩) /\ Below B w w' := Any.Builder_String_any YtejgbfgocaggfaaGreatDoor.lays169 YtejgbfgocaggfaaGreatDoor.Builder_Extra_169 B b l w h hBw
theorem Tryz.infoBu : (Tryz.prog.info? 196).map (·.size) = some 2 := by kernel_rfl
theorem Tryz.liesBu : liesAt Tryz.prog Tryz.prog.depth 196 (2 / Tryz.prog.cellsOf 196) 0 196 1 = true := by kernel_rfl
theorem Tryz.infoU8 : (Tryz.prog.info? 5).map (fun i => (i.zero, i.size, i.bytes)) = some (some (.int .u8 0), 1, 1) := by kernel_rfl
theorem zhA (b : Nat) (w : World) (h0 : w.cell? ⟨b, 0, none⟩ = some (.pointer (some ⟨b, 0, none⟩))) :
  Calls Tryz.prog 178 #[.pointer (some ⟨b, 0, none⟩)] w fun e w' => e = .returned (.tuple #[]) /\ w' = w := by
 obtain ⟨j, hj, _⟩ := Option.map_eq_some_iff.1 Tryz.infoBu; go_enter Tryz.func178, Tryz.ntmps178
 go_wp2
 rw [Lib.run_neq_ptr_same w _ Tryz.underlying194 hj]; go_wp2
 go_end0
 exact ⟨rfl, rfl⟩
theorem zg2 (b : Nat) (w : World) (h0 : w.cell? ⟨b, 0, none⟩ = some (.pointer none)) (hsh : w.shape? b = some (196, 2)) (hfz : w.frozen? ⟨b, 0, none⟩ = false) :
  Calls Tryz.prog 178 #[.pointer (some ⟨b, 0, none⟩)] w fun e w' => e = .returned (.tuple #[]) /\ w' = w.setCell ⟨b, 0, none⟩ (.pointer (some ⟨b, 0, none⟩)) := by
 obtain ⟨j, hj, hjs⟩ := Option.map_eq_some_iff.1 Tryz.infoBu; go_enter Tryz.func178, Tryz.ntmps178
 go_wp2
 rw [Lib.run_to_unsafe w ⟨b, 0, none⟩ Tryz.underlying194 Tryz.underlying224 hj (by rw [hjs]; decide) hsh (Nat.zero_lt_succ 1)]; simp only [Result.andThen]
 rw [Oper.upon_value]; go_wp2
 rw [run_callFunc_extern Tryz.func183 yk yk yk (e := Extern.AbiNoEscape.same) yk]; rw [Lib.run_noEscape]; simp only [Result.andThen]
 rw [Oper.upon_value]; go_wp2
 rw [Lib.run_from_unsafe w ⟨b, 0, none⟩ Tryz.underlying224 Tryz.underlying194 hj hsh Tryz.liesBu]; simp only [Result.andThen]
 rw [Oper.upon_value]; go_wp2
 go_end0
 exact ⟨rfl, rfl⟩
theorem zkj (B b : Nat) (l : List UInt8) (w : World) (h : zey B b l w) :
  Calls Tryz.prog 178 #[.pointer (some ⟨b, 0, none⟩)] w fun e w' => e = .returned (.tuple #[]) /\ Lib.BuilderAt 196 5 B b (.pointer (some ⟨b, 0, none⟩)) (Lib.byteCells l) w' /\ Below B w w' /\ Lib.OthersKept 5 (some b) w w' := by
 rcases h with h | h
 · refine (zg2 b w h.cell0 h.shape h.frozen0).mono ?_
   rintro e w' ⟨rfl, rfl⟩; exact ⟨rfl, h.used _, (Below.refl B w).setCell (p := ⟨b, 0, none⟩) h.1 _, (Lib.OthersKept.refl _ _ w).setCell ⟨b, 0, none⟩ rfl _⟩
 · refine (zhA b w h.cell0).mono ?_
   rintro e w' ⟨rfl, rfl⟩; exact ⟨rfl, h, Below.refl B _, Lib.OthersKept.refl _ _ _⟩
theorem zg3 (B b : Nat) (l : List UInt8) (s : ByteArray) (w : World) (h : zey B b l w) (hlen : l.length + s.size <= 140737488355328) (hBw : B <= w.heap.size) :
  Calls Tryz.prog 156 #[.pointer (some ⟨b, 0, none⟩), .string s] w fun e w' => e = .returned (.tuple #[.int .i64 s.size, .nilIface]) /\ zey B b (l ++ s.data.toList) w' /\ Below B w w' /\ Lib.OthersKept 5 (some b) w w' := by
 obtain ⟨i0, hi, hz0, hz1, hz2⟩ := info_parts Tryz.infoU8; have hbl : (Lib.byteCells l).length = l.length := by simp [Lib.byteCells]
 go_enter Tryz.func156, Tryz.ntmps156
 go_wp2_with fail
 refine (zkj B b l _ h).mono ?_
 rintro e w1 ⟨rfl, h1, hb1, hk1⟩; obtain ⟨hB, v, hbk, hown, hne⟩ := h1; rw [hbl] at hown; have c0 : w1.cell? ⟨b, 0, none⟩ = some (.pointer (some ⟨b, 0, none⟩)) := by simp [World.cell?, hbk]
 have c1 : w1.cell? ⟨b, 1, none⟩ = some v := by simp [World.cell?, hbk]
 go_wp2_with (at_builtin; refine Lib.wpList_append_own_string _ rfl _ _ 22 9 rfl B 5 i0 Tryz.underlying22 Tryz.underlying9 hi hz0 hz1 hz2 v l.length (Lib.byteCells l) rfl hown s rfl ?c3 ?c4 ?c5 ?_)
 case c3 => unfold maxLen; omega
 case c4 => omega
 case c5 => have := hb1.size; omega
 intro v' w2 hown' hgrow _; have hlt : b < w1.heap.size := (Array.getElem?_eq_some_iff.1 hbk).1
 have hb2 : w2.heap[b]? = some (.cells #[.pointer (some ⟨b, 0, none⟩), v] 196 (0, 0)) := by
  rw [hgrow.block b hlt (fun e => hne e.symm)]; exact hbk
 have d0 : w2.cell? ⟨b, 0, none⟩ = some (.pointer (some ⟨b, 0, none⟩)) := by simp [World.cell?, hb2]
 have d1 : w2.cell? ⟨b, 1, none⟩ = some v := by simp [World.cell?, hb2]
 have f1 : w2.frozen? ⟨b, 1, none⟩ = false := by simp [World.frozen?, hb2]
 obtain ⟨ao, cap, rfl, _⟩ := zae hown'; go_wp2
 go_ret2
 refine ⟨rfl, .inr ?_, ?_, (hk1.grown hgrow ?_).setCell ⟨b, 1, none⟩ rfl _⟩
 · have e : Lib.byteCells (l ++ s.data.toList) = Lib.byteCells l ++ Lib.strCells s := by simp [Lib.byteCells, Lib.strCells]
   rw [e]; exact Lib.BuilderAt.put hB hb2 (bs' := Lib.byteCells l ++ Lib.strCells s) (by rw [show (Lib.byteCells l ++ Lib.strCells s).length = l.length + s.size by rw [List.length_append, hbl, Lib.strCells_length]]; exact hown') (by decide)
 · exact (hb1.grown hgrow (by have := hb1.size; omega) (fun k hk => (World.ownsRow.lt hown k hk).1)).setCell (p := ⟨b, 1, none⟩) hB _
 · intro g hg
   rcases hown.2 with ⟨rfl, _⟩ | ⟨g', cap', cur, rfl, _, hb', _⟩
   · cases hg
   · have : g' = g := by simpa [Value.ownBlock] using hg
     subst this; exact ⟨cur, _, hb'⟩
structure BJ (xs : List zaa) (vR : Value) (bg bs b B : Nat) (C : Nat -> Prop) (s : List UInt8) (w : World) : Prop where
 bld : zey B b s w
 hB : B <= w.heap.size
 nb : ¬ C b
 no : ∀ k, C k -> B <= k -> ∀ c fz, w.heap[k]? ≠ some (.cells c 5 fz)
 mg : C bg
 ms : C bs
 cg : w.cell? ⟨bg, 0, none⟩ = some vR
 cs : w.cell? ⟨bs, 0, none⟩ = some (.func (.func 155) #[] #[.pointer (some ⟨bg, 0, none⟩), .pointer (some ⟨bs, 0, none⟩), .pointer (some ⟨b, 0, none⟩)])
 sl : SlS zar w C vR xs
theorem zey.lt {B b : Nat} {l : List UInt8} {w : World} (h : zey B b l w) : b < w.heap.size := by
 rcases h with h | h
 · exact h.lt
 · exact h.lt
theorem zly {B b : Nat} {l : List UInt8} {w w' : World} (h : zey B b l w) (hb : Below w.heap.size w w') : zey B b l w' := by
 rcases h with ⟨h1, v, h2, h3, h4⟩ | ⟨h1, v, h2, h3, h4⟩
 · exact .inl ⟨h1, v, (hb.block b (Array.getElem?_eq_some_iff.1 h2).1).trans h2, zaI h3 hb, h4⟩
 · exact .inr ⟨h1, v, (hb.block b (Array.getElem?_eq_some_iff.1 h2).1).trans h2, zaI h3 hb, h4⟩
section
variable {xs : List zaa} {vR : Value} {bg bs b B : Nat}
theorem BJ.ext : ∀ (C : Nat -> Prop) (s : List UInt8) (w w' : World), BJ xs vR bg bs b B C s w -> Below w.heap.size w w' -> zdo w.heap.size w' -> (∀ k, C k -> k < w.heap.size) -> BJ xs vR bg bs b B (ext C w.heap.size w'.heap.size) s w' := by
 intro C s w w' h hb hn hC; refine ⟨zly h.bld hb, Nat.le_trans h.hB hb.size, ?_, ?_, .inl h.mg, .inl h.ms, (hb.cell (p := ⟨bg, 0, none⟩) (hC _ h.mg)).trans h.cg, (hb.cell (p := ⟨bs, 0, none⟩) (hC _ h.ms)).trans h.cs, (h.sl.keep fun k hk => hb.block k (hC k hk)).more fun k hk => .inl hk⟩
 · rintro (h1 | h1)
   · exact h.nb h1
   · have := h.bld.lt; omega
 · rintro k (h1 | h1) hk c fz
   · rw [hb.block k (hC k h1)]; exact h.no k h1 hk c fz
   · exact hn k h1.1 c fz
theorem BJ.written {C : Nat -> Prop} {s s' : List UInt8} {w w' : World} (h : BJ xs vR bg bs b B C s w) (hbl : zey B b s' w') (hb : Below B w w') (hk : Lib.OthersKept 5 (some b) w w') (hC : ∀ k, C k -> k < w.heap.size) : BJ xs vR bg bs b B C s' w' /\ Wk C w w' := by
 have hblk : ∀ k, C k -> w'.heap[k]? = w.heap[k]? := fun k hk' => by
  rcases Nat.lt_or_ge k B with hkB | hkB
  · exact hb.block k hkB
  obtain ⟨o, ho⟩ : ∃ o, w.heap[k]? = some o := ⟨_, Array.getElem?_eq_getElem (hC k hk')⟩
  rw [ho]; exact hk k o ho (fun e => h.nb (by have : k = b := Option.some.inj e; rw [<- this]; exact hk')) (fun c fz e => h.no k hk' hkB c fz (by rw [ho, e]))
 have hw : Wk C w w' := ⟨hb.os, hb.tape, hb.output, hb.size, hblk⟩
 exact ⟨⟨hbl, Nat.le_trans h.hB hb.size, h.nb, fun k hk' hkB c fz => by rw [hblk k hk']; exact h.no k hk' hkB c fz, h.mg, h.ms, hw.cell h.mg h.cg, hw.cell h.ms h.cs, h.sl.keep hw.keep⟩, hw⟩
theorem zmO (ls : List Int) (hl : zaW xs = some ls) : ∀ (r : Nat) (s : List UInt8) (C : Nat -> Prop) (w : World), r < xs.length -> BJ xs vR bg bs b B C s w -> (∀ k, C k -> k < w.heap.size) -> s.length + (W1 xs r).length <= 1099511627776 ->
  Calls Tryz.prog 155 #[.int .i64 r, .pointer (some ⟨bg, 0, none⟩), .pointer (some ⟨bs, 0, none⟩), .pointer (some ⟨b, 0, none⟩)] w (zdV (BJ xs vR bg bs b B) C (s ++ W1 xs r) w) := by
 intro r
 induction r using Nat.strongRecOn with
 | _ r ih =>
   intro s C w hr hJ hC hlen; have HJ := yq hJ; have HC := yq hC; have Ih := yq ih; have hcg := hJ.cg; have hcs := hJ.cs; obtain ⟨AR, cR, rfl, _, _, hrowR⟩ := hJ.sl; obtain ⟨b2, o2, rfl, hb2, hcellR⟩ := hrowR.rule hr; obtain ⟨k0, k1, k2⟩ := hcellR r _ (zcm hr); have hrx : (r : Int) < (xs.length : Int) := by omega
   have lbg : bg < w.heap.size := hC _ hJ.mg; have lbs : bs < w.heap.size := hC _ hJ.ms; have lb2 : b2 < w.heap.size := hC _ hb2; have eg : ∀ args w, (callFunc 155 args).run Tryz.prog w = .ok (.enter 155 args) w := enters_of Tryz.func155 yk rfl; obtain ⟨R, hR⟩ : ∃ R, zaA xs r = R := ⟨_, rfl⟩
   rw [hR] at k0 k1 k2; have HR := yq hR; have Hlen := yq hlen; clear ih hJ hC hrowR hcellR hb2 hR hlen; have hBA : ∀ o o', Below w.heap.size w ((w.alloc o).alloc o') := fun o o' => ((Below.refl _ _).alloc yL _).alloc yS _; have HBA := yq hBA; clear hBA; go_enter Tryz.func155, Tryz.ntmps155
   go_wp2_with fail
   refine (zbF _ _ _ _).mono ?_
   rintro e w1 ⟨rfl, rfl⟩; have hN : zdo w.heap.size ((w.alloc (Obj.cells #[Value.string R.letter, Value.int IntKind.i64 R.left, Value.int IntKind.i64 R.right] 88)).alloc (Obj.cells #[Value.string R.letter, Value.int IntKind.i64 R.left, Value.int IntKind.i64 R.right] 88)) := ((zdo.same w).alloc (NoB.cells (by decide))).alloc (NoB.cells (by decide)); have hB2 := HBA.o (Obj.cells #[Value.string R.letter, Value.int IntKind.i64 R.left, Value.int IntKind.i64 R.right] 88) (Obj.cells #[Value.string R.letter, Value.int IntKind.i64 R.left, Value.int IntKind.i64 R.right] 88); have e0 : ((w.alloc (Obj.cells #[Value.string R.letter, Value.int IntKind.i64 R.left, Value.int IntKind.i64 R.right] 88)).alloc (Obj.cells #[Value.string R.letter, Value.int IntKind.i64 R.left, Value.int IntKind.i64 R.right] 88)).heap[w.heap.size]? = some (Obj.cells #[Value.string R.letter, Value.int IntKind.i64 R.left, Value.int IntKind.i64 R.right] 88 (0, 0)) := ((Below.refl _ _).alloc yL _).block w.heap.size yS |>.trans (heap_alloc_new _ _)
   generalize (w.alloc (Obj.cells #[Value.string R.letter, Value.int IntKind.i64 R.left, Value.int IntKind.i64 R.right] 88)).alloc (Obj.cells #[Value.string R.letter, Value.int IntKind.i64 R.left, Value.int IntKind.i64 R.right] 88) = W2 at *; have l0 : w.heap.size < W2.heap.size := (Array.getElem?_eq_some_iff.1 e0).1
   have d0 : W2.cell? ⟨w.heap.size, 0, none⟩ = some (.string R.letter) := by simp [World.cell?, e0]
   have d1 : W2.cell? ⟨w.heap.size, 1, none⟩ = some (.int .i64 R.left) := by simp [World.cell?, e0]
   have d2 : W2.cell? ⟨w.heap.size, 2, none⟩ = some (.int .i64 R.right) := by simp [World.cell?, e0]
   have J2 := BJ.ext C s w W2 HJ.o hB2 hN HC.o
   have hCx : ∀ k, ext C w.heap.size W2.heap.size k -> k < W2.heap.size := fun k hk => by
    rcases hk with hk | hk
    · have := HC.o k hk; omega
    · exact hk.2
   have HJ2 := yq J2; have HCx := yq hCx; have HB2 := yq hB2; have hcg2 := J2.cg; have hcs2 := J2.cs; clear hN hB2 e0 J2 hCx hcg hcs k0 k1 k2; by_cases hp : R.letter.toList.isEmpty = true
   · rw [hp]
     have hpr : (zaA xs r).pair = true := by rw [HR.o]; rw [zaq] at hp; exact hp
     obtain ⟨q1, q2, q3, q4, q5⟩ := zbi hl hr hpr; have hW := zes hl hr hpr; rw [HR.o] at q1 q2 q3 q4 hW; obtain ⟨la, hla⟩ := Int.eq_ofNat_of_zero_le q1; obtain ⟨ra, hra⟩ := Int.eq_ofNat_of_zero_le q3; rw [hla] at q2 d1; rw [hra] at q4 d2; rw [hla, hra] at hW; simp only [Int.toNat_natCast] at q2 q4 hW
     have HW := yq hW; have hlenA : s.length + (W1 xs la).length <= 1099511627776 := by have := Hlen.o; rw [hW, List.length_append] at this; omega
     have hlenB : (s ++ W1 xs la).length + (W1 xs ra).length <= 1099511627776 := by have := Hlen.o; rw [hW, List.length_append] at this; rw [List.length_append]; omega
     have HlA := yq hlenA; have HlB := yq hlenB; clear hpr hp q5 hW q1 q3 hla hra hlenA hlenB; go_wp2_with fail
     refine (Ih.o la q2 s _ W2 yO HJ2.o HCx.o HlA.o).mono ?_
     rintro e w3 ⟨rfl, C3, g1, g2, g3, g4⟩; have d2' : w3.cell? ⟨w.heap.size, 2, none⟩ = some (.int .i64 ra) := g4.cell (Or.inr ⟨Nat.le_refl _, l0⟩) d2; have hcs3 := g3.cs; have HJ3 := yq g3; have G1 := yq g1; have G2 := yq g2; have G4 := yq g4; clear g1 g2 g3 g4 hcs2 hcg2 d1 d2 d0; go_wp2_with fail
     refine (Ih.o ra q4 (s ++ W1 xs la) _ w3 yO HJ3.o G2.o HlB.o).mono ?_
     rintro e w4 ⟨rfl, C4, k1, k2, k3, k4⟩; go_wp2_with fail
     go_end0
     refine ⟨rfl, C4, fun k hk => k1 _ (G1.o _ (.inl hk)), k2, ?_, ?_⟩
     · rw [HW.o, <- List.append_assoc]; exact k3
     · exact ((Wk.of_below HB2.o HC.o).trans (G4.o.mono fun k hk => .inl hk)).trans (k4.mono fun k hk => G1.o _ (.inl hk))
   · have hp2 : R.letter.toList.isEmpty = false := by simpa using hp
     have hpr : (zaA xs r).pair = false := by rw [HR.o]; rw [zaq] at hp2; exact hp2
     have hW := zda hpr; have hsz := zc7 (zc6 hl hr hpr); rw [HR.o] at hW hsz; have HW := yq hW
     have hlenA : s.length + R.letter.size <= 140737488355328 := by
      have := Hlen.o; omega
     rw [hp2]; clear hp hpr hW hp2 hcs2 hcg2; have W := yq (zg3 B b s R.letter W2 HJ2.o.bld hlenA HJ2.o.hB); go_wp2_with fail
     refine W.o.mono ?_
     rintro e w3 ⟨rfl, hb3, hbl3, ho3⟩; obtain ⟨J3, hw3⟩ := HJ2.o.written hb3 hbl3 ho3 HCx.o; go_wp2_with fail
     go_end0
     refine ⟨rfl, _, fun k hk => .inl hk, fun k hk => Nat.lt_of_lt_of_le (HCx.o k hk) hw3.size, ?_, (Wk.of_below HB2.o HC.o).trans (hw3.mono fun k hk => .inl hk)⟩
     rw [HW.o]; exact J3
end
theorem zh1 (f : Nat -> List UInt8) (l : List Nat) (s : List UInt8) : l.foldl (fun s r => s ++ f r) s = s ++ l.flatMap f := by
 induction l generalizing s with
 | nil => simp
 | cons a l ih => rw [List.foldl_cons, ih]; simp
theorem zlz (vR vL : Value) (xs : List zaa) (ls : List Int) (i j : Int) (w : World) (hR : Sl zar w w.heap.size vR xs) (hL : Sl zgt w w.heap.size vL ls) (hl : zaW xs = some ls) (hn : xs.length <= 1099511627776)
  (hlen : (zb4 (zau xs) i j).length <= 1099511627776) :
  Calls Tryz.prog 123 #[.agg #[vR], vL, .int .i64 i, .int .i64 j] w fun e w' => e = .returned (.string ⟨(zb4 (zau xs) i j).toArray⟩) /\ Below w.heap.size w w' := by
 have HR := yq hR; have HL := yq hL; obtain ⟨AR, cR, rfl, _⟩ := hR; obtain ⟨AL, cL, rfl, _⟩ := hL; have hword := zgR hl (i := i) (j := j); have Hword := yq hword; have Hl := yq hl; clear hword hl; go_enter Tryz.func123, Tryz.ntmps123
 go_wp2_with fail
 have hz0 : (((w.alloc (Obj.cells #[Value.slice AR xs.length cR] 26)).alloc (Obj.cells #[Value.pointer none, Value.slice none 0 0] 196)).alloc (Obj.cells #[Value.func (Fn.func 155) #[] #[Value.pointer (some ⟨w.heap.size, 0, none⟩), Value.pointer (some ⟨w.heap.size + 1 + 1, 0, none⟩), Value.pointer (some ⟨w.heap.size + 1, 0, none⟩)]] 179)).heap.size = w.heap.size + 3 := by simp
 have hB0 : Below w.heap.size w (((w.alloc (Obj.cells #[Value.slice AR xs.length cR] 26)).alloc (Obj.cells #[Value.pointer none, Value.slice none 0 0] 196)).alloc (Obj.cells #[Value.func (Fn.func 155) #[] #[Value.pointer (some ⟨w.heap.size, 0, none⟩), Value.pointer (some ⟨w.heap.size + 1 + 1, 0, none⟩), Value.pointer (some ⟨w.heap.size + 1, 0, none⟩)]] 179)) := yb; have hx0 : (((w.alloc (Obj.cells #[Value.slice AR xs.length cR] 26)).alloc (Obj.cells #[Value.pointer none, Value.slice none 0 0] 196)).alloc (Obj.cells #[Value.func (Fn.func 155) #[] #[Value.pointer (some ⟨w.heap.size, 0, none⟩), Value.pointer (some ⟨w.heap.size + 1 + 1, 0, none⟩), Value.pointer (some ⟨w.heap.size + 1, 0, none⟩)]] 179)).cell? ⟨w.heap.size, 0, none⟩ = some (.slice AR xs.length cR) := by simp [go_sem]
 have hx2 : (((w.alloc (Obj.cells #[Value.slice AR xs.length cR] 26)).alloc (Obj.cells #[Value.pointer none, Value.slice none 0 0] 196)).alloc (Obj.cells #[Value.func (Fn.func 155) #[] #[Value.pointer (some ⟨w.heap.size, 0, none⟩), Value.pointer (some ⟨w.heap.size + 1 + 1, 0, none⟩), Value.pointer (some ⟨w.heap.size + 1, 0, none⟩)]] 179)).cell? ⟨w.heap.size + 2, 0, none⟩ = some (.func (.func 155) #[] #[.pointer (some ⟨w.heap.size, 0, none⟩), .pointer (some ⟨w.heap.size + 2, 0, none⟩), .pointer (some ⟨w.heap.size + 1, 0, none⟩)]) := by simp [go_sem]
 have hx1 : (((w.alloc (Obj.cells #[Value.slice AR xs.length cR] 26)).alloc (Obj.cells #[Value.pointer none, Value.slice none 0 0] 196)).alloc (Obj.cells #[Value.func (Fn.func 155) #[] #[Value.pointer (some ⟨w.heap.size, 0, none⟩), Value.pointer (some ⟨w.heap.size + 1 + 1, 0, none⟩), Value.pointer (some ⟨w.heap.size + 1, 0, none⟩)]] 179)).heap[w.heap.size + 1]? = some (.cells #[.pointer none, .slice none 0 0] 196 (0, 0)) := by
  have h1 : ((w.alloc (Obj.cells #[Value.slice AR xs.length cR] 26)).alloc (Obj.cells #[Value.pointer none, Value.slice none 0 0] 196)).heap[w.heap.size + 1]? = some (.cells #[.pointer none, .slice none 0 0] 196 (0, 0)) := by
   have := heap_alloc_new (w.alloc (Obj.cells #[Value.slice AR xs.length cR] 26)) (Obj.cells #[Value.pointer none, Value.slice none 0 0] 196); rwa [show (w.alloc (Obj.cells #[Value.slice AR xs.length cR] 26)).heap.size = w.heap.size + 1 by simp] at this
  exact (Below.heap_alloc _ _ _ yS).trans h1
 have hnb : ∀ c fz, (((w.alloc (Obj.cells #[Value.slice AR xs.length cR] 26)).alloc (Obj.cells #[Value.pointer none, Value.slice none 0 0] 196)).alloc (Obj.cells #[Value.func (Fn.func 155) #[] #[Value.pointer (some ⟨w.heap.size, 0, none⟩), Value.pointer (some ⟨w.heap.size + 1 + 1, 0, none⟩), Value.pointer (some ⟨w.heap.size + 1, 0, none⟩)]] 179)).heap[w.heap.size + 2]? ≠ some (.cells c 5 fz) := fun c fz => (((((zdo.same w).alloc (NoB.cells (by decide))).alloc (NoB.cells (by decide))).alloc (NoB.cells (by decide)))) (w.heap.size + 2) yO c fz; generalize ((w.alloc (Obj.cells #[Value.slice AR xs.length cR] 26)).alloc (Obj.cells #[Value.pointer none, Value.slice none 0 0] 196)).alloc (Obj.cells #[Value.func (Fn.func 155) #[] #[Value.pointer (some ⟨w.heap.size, 0, none⟩), Value.pointer (some ⟨w.heap.size + 1 + 1, 0, none⟩), Value.pointer (some ⟨w.heap.size + 1, 0, none⟩)]] 179) = w0 at *
 have hJ : BJ xs (.slice AR xs.length cR) w.heap.size (w.heap.size + 2) (w.heap.size + 1) (w.heap.size + 1) (fun k => k < w.heap.size + 1 \/ k = w.heap.size + 2) [] w0 := by
  refine ⟨.inl ⟨Nat.le_refl _, _, hx1, World.ownsRow_nil _ _ _ _, by simp [Value.ownBlock]⟩, by omega, by omega, ?_, .inl yO, .inr rfl, hx0, hx2, ?_⟩
  · rintro k (h | h) hk c fz
    · omega
    · subst h; exact hnb c fz
  · exact (HR.o.below hB0).more fun k hk => .inl yO
 have HB0 := yq hB0; have HJ := yq hJ; have HZ0 := yq hz0; clear hz0 hB0 hx0 hx1 hx2 hnb hJ; have hcnt : ∀ l : List Nat, (l.foldl (fun s r => s ++ W1 xs r) []).length = (l.flatMap (W1 xs)).length := fun l => by rw [zh1]; simp
 refine (zfU (BJ xs (.slice AR xs.length cR) w.heap.size (w.heap.size + 2) (w.heap.size + 1) (w.heap.size + 1)) (fun s r => s ++ W1 xs r) (fun s r => s.length + (W1 xs r).length <= 1099511627776) 155 #[.pointer (some ⟨w.heap.size, 0, none⟩), .pointer (some ⟨w.heap.size + 2, 0, none⟩), .pointer (some ⟨w.heap.size + 1, 0, none⟩)] xs ls i j Hl.o hn (enters_of Tryz.func155 yk rfl) BJ.ext
  (fun C s r w' hJ hok hr hC => zmO ls Hl.o r s C w' hr hJ hC hok) (.slice AL ls.length cL) (.slice AR xs.length cR) [] (fun k => k < w.heap.size + 1 \/ k = w.heap.size + 2) w0 HJ.o ?_ ?_ ?_ HJ.o.sl).mono ?_
 · intro l1 r l2 e
   rw [hcnt]; have := congrArg (fun l => (l.flatMap (W1 xs)).length) e; simp only [Hword.o, List.flatMap_append, List.flatMap_cons, List.length_append] at this
   omega
 · intro k hk
   have := HZ0.o; omega
 · exact (HL.o.below HB0.o).more fun k hk => .inl yO
 rintro e w2 ⟨rfl, C2, g1, g2, g3, g4⟩; rw [zh1, List.nil_append, Hword.o] at g3; have hb2 : Below (w.heap.size + 1) w0 w2 := g4.below fun k hk => .inl hk; have HB2 := yq (HB0.o.trans (hb2.mono yO)); have S := yq (g3.bld.string g3.hB); have hs2 : w.heap.size <= w2.heap.size := by have := g3.hB; omega
 clear g1 g2 g3 g4 hb2 hcnt; go_wp2_with fail
 refine S.o.mono ?_
 rintro e w3 ⟨rfl, hb3⟩; go_wp2_with fail
 go_ret
 exact ⟨rfl, HB2.o.trans (hb3.mono yO)⟩
theorem zhB (v : Value) (xs : List zaa) (ls : List Int) (i j : Int) (w : World) (h : Sl zar w w.heap.size v xs) (hn : xs.length <= 400) (hl : zaW xs = some ls) (hij : 0 <= i /\ i <= j /\ j <= zao ls) :
  Calls Tryz.prog 79 #[.agg #[v], .int .i64 i, .int .i64 j] w fun e w' => e = .returned (.tuple #[.string (if j - i > 2000 then ⟨#[]⟩ else ⟨(zb4 (zau xs) i j).toArray⟩), .int .i64 (if j - i > 2000 then 3 else 0)]) /\ Below w.heap.size w w' := by
 have h1 := fun o => (h.below ((Below.refl w.heap.size w).alloc yL o)).le (B' := (w.alloc o).heap.size) yS; have H1 := yq h1; clear h1; obtain ⟨A, c, rfl, _⟩ := h; have Hl := yq hl
 have hcl : (zb4 (zau xs) i j).length = (j - i).toNat := by
  have hw := zbf hl; have := zeS (l := zau xs) hij.1 hij.2.1 yO; omega
 have Hcl := yq hcl
 have hlast : zao ls <= 1000000000000000 := by
  by_cases h0 : 0 < xs.length
  · rw [zkO hl h0]; exact (zaO hl yO).2
  · have : ls = [] := yn (by rw [zaG hl]; omega)
    subst this; decide
 clear hl hcl; go_enter Tryz.func79, Tryz.ntmps79
 go_wp2_with fail
 refine (zcE _ xs _ (H1.o _) yO).mono ?_
 rintro e w1 ⟨hb1, hpost⟩
 have hcase : ∃ vv, e = .returned (.tuple #[vv, .bool true]) /\ Sl zgt w1 w1.heap.size vv ls := by
  rcases hpost with ⟨l2, vv, hl2, he, ho⟩ | ⟨hl2, he⟩
  · have e2 : l2 = ls := by have := Hl.o; rw [hl2] at this; exact Option.some.inj this
    subst e2; exact ⟨vv, by rw [he]; simp [hn], ho.sl⟩
  · rw [Hl.o] at hl2; cases hl2
 obtain ⟨vv, rfl, hL⟩ := hcase; have hz1 : w.heap.size < w1.heap.size := by have := hb1.size; simp at this; omega
 have a1 : w1.cell? ⟨w.heap.size, 0, none⟩ = some (.slice A xs.length c) := (hb1.cell (p := ⟨w.heap.size, 0, none⟩) yS).trans (by simp [go_sem]); have S1 := yq ((H1.o (Obj.cells #[Value.slice A xs.length c] 26)).up hb1); have B1 := yq (((Below.refl w.heap.size w).alloc yL (Obj.cells #[Value.slice A xs.length c] 26)).trans (hb1.mono yS)); have HL := yq hL; obtain ⟨AL, cL, rfl, _⟩ := hL; obtain ⟨i1, i2, i3⟩ := hij; have hw1 : inR i 0 j = true := by simp [inR, i1, i2]
 have hgt : ¬ (j > zao ls) := by omega
 clear hb1 hpost; go_wp2_with fail
 refine (zc5 _ _ _ _ hw1).mono ?_
 rintro e w' ⟨rfl, rfl⟩; go_wp2_with fail
 refine (zdX _ ls _ HL.o).mono ?_
 rintro e w' ⟨rfl, rfl⟩; by_cases hbig : j - i > 2000
 · go_wp2_with fail
   go_ret2
   exact ⟨by first | rfl | (simp only [if_pos hbig]; rfl), B1.o⟩
 · go_wp2_with fail
   refine (zlz _ _ xs ls i j _ S1.o HL.o Hl.o yO (by rw [Hcl.o]; omega)).mono ?_
   rintro e w2 ⟨rfl, hb2⟩; go_wp2_with fail
   go_ret2
   exact ⟨by first | rfl | (simp only [if_neg (show ¬ j - i > 2000 by omega)]; rfl), B1.o.trans (hb2.mono yO)⟩
def upV (xs : List zaa) : List UInt8 := if zag xs && decide ((zau xs).length <= 2000) then zau xs else []
def upC (xs : List zaa) : Int := if zag xs then (if (zau xs).length <= 2000 then 0 else 3) else 1
theorem zhC (v : Value) (xs : List zaa) (w : World) (h : Sl zar w w.heap.size v xs) (hn : xs.length <= 1048576) :
  Calls Tryz.prog 46 #[.agg #[v]] w fun e w' => e = .returned (.tuple #[.string ⟨(upV xs).toArray⟩, .int .i64 (upC xs)]) /\ Below w.heap.size w w' := by
 have h1 := fun o => (h.below ((Below.refl w.heap.size w).alloc yL o)).le (B' := (w.alloc o).heap.size) yS; have H1 := yq h1; clear h1; obtain ⟨A, c, rfl, _⟩ := h; go_enter Tryz.func46, Tryz.ntmps46
 go_wp2_with fail
 refine (zen _ xs _ (H1.o _) yO).mono ?_
 rintro e w1 ⟨rfl, hb1⟩; have hz1 : w.heap.size < w1.heap.size := by have := hb1.size; simp at this; omega
 have a1 : w1.cell? ⟨w.heap.size, 0, none⟩ = some (.slice A xs.length c) := (hb1.cell (p := ⟨w.heap.size, 0, none⟩) yS).trans (by simp [go_sem]); have S1 := yq ((H1.o (Obj.cells #[Value.slice A xs.length c] 26)).up hb1); have B1 := yq (((Below.refl w.heap.size w).alloc yL (Obj.cells #[Value.slice A xs.length c] 26)).trans (hb1.mono yS)); clear hb1; by_cases hok : zag xs = true
 · obtain ⟨h4, ls, hl⟩ := zai hok
   have hV : zl9 xs = zao ls := by simp [zl9, hok, zaD hl]
   have hC : zma xs = 0 := by simp [zma, hok]
   have hw := zbf hl; have Hl := yq hl; have Hw := yq hw; have Hok := yq hok; rw [hV, hC]; clear hV hC hl hw hok; go_wp2_with fail
   have hp0 : 0 <= zao ls := by have := Hw.o; omega
   have hw := Hw.o; have hcut : zb4 (zau xs) 0 (zao ls) = zau xs := zih (Int.le_refl _) yO; have U := zhB _ xs ls 0 (zao ls) _ S1.o h4 Hl.o ⟨Int.le_refl _, hp0, Int.le_refl _⟩; rw [hcut] at U; by_cases hb : (zau xs).length <= 2000
   · have e1 : upV xs = zau xs := by simp [upV, Hok.o, hb]
     have e2 : upC xs = 0 := by simp [upC, Hok.o, hb]
     have e3 : ¬ (zao ls - 0 > 2000) := by omega
     rw [if_neg e3, if_neg e3] at U; have HU := yq U; have E1 := yq e1; have E2 := yq e2; clear e1 e2 e3 U hcut hw hb hp0; refine HU.o.mono ?_
     rintro e w2 ⟨rfl, hb2⟩; go_wp2_with fail
     go_ret2
     exact ⟨by rw [E1.o, E2.o]; rfl, B1.o.trans (hb2.mono yO)⟩
   · have e1 : upV xs = [] := by simp [upV, hb]
     have e2 : upC xs = 3 := by simp [upC, Hok.o, hb]
     have e3 : zao ls - 0 > 2000 := by omega
     rw [if_pos e3, if_pos e3] at U; have HU := yq U; have E1 := yq e1; have E2 := yq e2; clear e1 e2 e3 U hcut hw hb hp0; refine HU.o.mono ?_
     rintro e w2 ⟨rfl, hb2⟩; go_wp2_with fail
     go_ret2
     exact ⟨by rw [E1.o, E2.o]; rfl, B1.o.trans (hb2.mono yO)⟩
 · have hV : zl9 xs = 0 := by simp [zl9, hok]
   have hC : zma xs = 1 := by simp [zma, hok]
   have e1 : upV xs = [] := by simp [upV, hok]
   have e2 : upC xs = 1 := by simp [upC, hok]
   have E1 := yq e1; have E2 := yq e2; rw [hV, hC]; clear hV hC e1 e2 hok; go_wp2_with fail
   go_ret2
   exact ⟨by rw [E1.o, E2.o]; rfl, B1.o⟩
end Go.Proofs.YtejgbfgocaggfaaGreatDoor
