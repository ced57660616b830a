import Derived.Test.YtejgbfgocaggfaaGreatDoorM30
import Derived.Test.YtejgbfgocaggfaaGreatDoorCards
import Derived.Test.YtejgbfgocaggfaaGreatDoorTie
import Derived.Lay
import Derived.MakeChecks
import Derived.Stop.LaidErr
set_option maxRecDepth 100000
set_option maxHeartbeats 8000000
/- 'laws.FnUndone' returns true at every argument, and leaves its arguments as they were: the card that ties the listed tables of the library to the program's text. Condition: the listed package-level variables hold what the program's text lays. -/
namespace Go.Proofs.YtejgbfgocaggfaaGreatDoor
open Go.ChangeShapes Go.WideShapes Go.ChangeAt Go.RowKit Go.Joins
open Go.ChangeMaps (open_string)
def laidU : List (String × DataW Unit) := [("math/bits.deBruijn32tab", Rows.laid_math_bits_deBruijn32tab), ("math/bits.deBruijn64tab", Rows.laid_math_bits_deBruijn64tab), ("internal/strconv.uint64pow10", Rows.laid_internal_strconv_uint64pow10), ("unicode/utf8.acceptRanges", Rows.laid_unicode_utf8_acceptRanges), ("strconv.ErrRange", Rows.laid_strconv_ErrRange), ("strconv.ErrSyntax", Rows.laid_strconv_ErrSyntax), ("unicode/utf8.first", Rows.laid_unicode_utf8_first)]
theorem err_star : "*" ++ "errors.errorString" = "*errors.errorString" := by decide
theorem err_row (u : TypeId) (h : Tryz.prog.typeName? 3 u = some "*errors.errorString") : u = 206 :=
 typeName_ptr_named (nm := "errors.errorString") (by rw [err_star]; kernel_rfl) yk (by decide) u (by rw [err_star]; exact h)
/-- What the library's variables hold, out of what is listed and of the world's shape. -/
theorem vars_of_laid {W : World} (h : laidMetH Tryz.prog laidU W) (hsh : W.ShapedOpen Tryz.prog) : zfG W := by
 rw [MakeChecks.laidMetH_plain _ _ _ yk] at h; obtain ⟨a1, _, hv1, _⟩ := laid_sentinel (g := 1) (ti := 70) (tp := 206) (te := 208) (ts := 9) (laidMet.tail (laidMet.tail (laidMet.tail (laidMet.tail h)))) yk yk Tryz.underlying70 err_row Tryz.underlying206 Tryz.underlying208 rfl rfl Tryz.underlying9 yk yk; obtain ⟨a2, _, hv2, _⟩ := laid_sentinel (g := 0) (ti := 70) (tp := 206) (te := 208) (ts := 9) (laidMet.tail (laidMet.tail (laidMet.tail (laidMet.tail (laidMet.tail h))))) yk yk Tryz.underlying70 err_row Tryz.underlying206 Tryz.underlying208 rfl rfl Tryz.underlying9 yk yk; exact ⟨Tryz.laysM146.s1_3 W hsh, ⟨_, _, hv2⟩, ⟨_, _, hv1⟩, Lib.tabIs_of_head (g := 3) (t := 210) (e := 90) (n := 20) yk yk Tryz.underlying210 Tryz.underlying90 yk yk (laidMet.tail (laidMet.tail h))⟩
theorem tab_of_laid {W : World} (h : laidMetH Tryz.prog laidU W) : Lib.TabIs Tryz.prog W "math/bits.deBruijn64tab" .u8 zfc := by
 rw [MakeChecks.laidMetH_plain _ _ _ yk] at h; exact Lib.tabIs_of_head (g := 7) (t := 227) (e := 5) (n := 64) yk yk Tryz.underlying227 Tryz.underlying5 yk yk (laidMet.tail h)
/-- From calls to the claim, the listed variables and the world's shape at hand. -/
theorem handed_both {H : Type} {enc : TypeId × Value -> H} {a : Assume} {C : Checked} {os : Os} {f : FuncId} {fn : Func} {s : ChangeSpec} {conds : List PathCond} {apart fresh handsOn again : Bool} {X : World -> Array Value -> Prop}
  (hX : ∀ (w w' : World) (args : Array Value), w.heap = w'.heap -> X w args -> X w' args) (hown : ownKnob C.prog.godebug = none) (started : os.Started) (noInit : C.prog.inits.idxOf? f = none) (hfn : C.prog.funcs[f]? = some fn)
  (wit : ∃ (w : World) (tape : Tape) (i : Input), w.os = os /\ (w.forCall tape i).Shaped C.prog /\ i.vars = [] /\ Input.okWide C.prog (w.forCall tape i) .any w.heap.size f i /\
    ((s.pre enc C.prog fn conds apart (w.forCall tape i).memory i.args /\ X (w.forCall tape i).memory i.args) /\ sizedMet enc C.prog fn (OpenSpec.ofChange s) apart (w.forCall tape i).memory i.args) /\ a.holds C.prog (lone (Frame.enter C.prog f i.args .normal) [] (w.forCall tape i)))
  (calls : ∀ (W : World) (base : Nat) (args : Array Value) (ds gs : List (DataW H)) (before : List MemPlace),
    (∀ (j : Nat) t v, fn.params[j]? = some t -> args[j]? = some v -> Value.okWide C.prog W .any base t v) -> DataW.Whole enc C.prog fn.params.toList s.vars apart W args.toList ds gs before -> X W args -> W.ShapedOpen C.prog ->
    Calls C.prog f args W fun e W' => ∃ v, e = .returned v /\ s.post enc C.prog fn apart fresh handsOn again W args v W') :
  ReturnsInHanded a C os f .any (fun w args => (s.pre enc C.prog fn conds apart w args /\ X w args) /\ sizedMet enc C.prog fn (OpenSpec.ofChange s) apart w args) (s.post enc C.prog fn apart fresh handsOn again) := by
 refine returnsInHanded_of_calls hown started noInit wit fun w tape i _ hsh _ hok hpre _ => ?_
 obtain ⟨_, _, _, g, hg, _, _, _, _, hval⟩ := hok; obtain rfl : g = fn := Option.some.inj (hg.symm.trans hfn); obtain ⟨⟨⟨ds, gs, before, hw, _⟩, hx⟩, _⟩ := hpre; refine (calls _ w.heap.size i.args ds gs before hval (DataW.Whole.of_heap (w' := w.forCall tape i) yR hw) (hX _ _ _ yR hx) hsh).mono ?_
 rintro e W' ⟨v, rfl, hp⟩; exact ChangeSpec.post_blind hp
theorem undone_lifted (os : Os) (started : os.Started) (H : Type) (enc : TypeId × Value -> H) :
  ReturnsInHanded {} Tryz.checked os 3 .any (fun w args => (Rows.fnUndoneSpec.pre enc Tryz.prog Tryz.f3 [] false w args /\ laidMetH Tryz.prog laidU w) /\ sizedMet enc Tryz.prog Tryz.f3 (OpenSpec.ofChange Rows.fnUndoneSpec) false w args)
   (Rows.fnUndoneSpec.post enc Tryz.prog Tryz.f3 false true false false) := by
 refine handed_both (C := Tryz.checked) (X := fun w _ => laidMetH Tryz.prog laidU w) (fun _ _ _ hh h => h.of_heap hh) own started yk Tryz.func3
  (ChangeSpec.witness_shaped (enc := enc) (C := Tryz.checked) (os := os) (X := fun w _ => laidMetH Tryz.prog laidU w) false (World.laidAll Tryz.prog os laidU) #[.slice none 0 0, .slice none 0 0] 8 (World.laidAll_os _ _ _)
    (World.shaped_of_ZipB yk yk) yk yk yk
    (by rw [MakeChecks.laidMetH_plain _ _ _ yk]; exact laidMet_laidAll _ yk yk)) ?_
 intro W base args ds gs before hval0 hW hL hsh; have hval : ∀ (j : Nat) t v, Tryz.f3.params[j]? = some t -> args[j]? = some v -> Value.okWide Tryz.prog W .any base t v := hval0; have hW' := hW; obtain ⟨p, q, hA0, hV, rfl, hfz, hnd⟩ := hW; have hA : DataW.TrodAll enc Tryz.prog W 0 (fun _ => true) true Tryz.f3.params.toList args.toList ds p := hA0; rw [Tryz.params3] at hA hval; obtain ⟨v0, v1, d0, d1, p0, p1, rfl, rfl, rfl, h0, h1⟩ := trodAll_two hA; obtain ⟨rfl, rfl⟩ := trodVars_none hV; obtain ⟨xs0, hsl0⟩ := zib (hval 0 22 v0 rfl rfl) h0; obtain ⟨xs1, hsl1⟩ := zib (hval 1 22 v1 rfl rfl) h1; clear hA0 hval0; refine (ziY v0 v1 xs0 xs1 W hsl0 hsl1 (vars_of_laid hL hsh) (tab_of_laid hL)).mono fun e W' ⟨he, hb⟩ => ?_
 subst he; exact ⟨_, rfl, ziZ (pv := []) hW' (fun _ _ _ => trodAll_mk1 (shut_bool Tryz.underlying4 _)) (fun sp hsp => zfN zpp hb (of_decide_eq_true yk) hA (fun x hx => hW'.lt x (by simpa using hx)) sp (fun x hx => hsp x (by simpa using hx))) (fun _ _ => rfl) rfl hb (ok_one yk rfl (okWide_bool_mk Tryz.underlying4 _))⟩
theorem undone_j1 : (Rows.fnUndoneRow.inPlace == Tryz.pinned.checked.prog.inPlace 3) = true := by kernel_rfl
theorem undone_j2 : (Rows.fnUndoneRow.unfollowed == Tryz.pinned.checked.prog.unfollowed 3) = true := by kernel_rfl
theorem undone_j3 : (Rows.fnUndoneRow.recurses == Tryz.pinned.checked.prog.recurses 3) = true := by kernel_rfl
theorem undone_j4 : (Rows.fnUndoneRow.named == Tryz.pinned.checked.prog.varsNamed 3) = true := by kernel_rfl
theorem undone_joined : joinedFacts Tryz.pinned.checked.prog 3 Tryz.f3 Rows.fnUndoneSpec Rows.fnUndoneRow = true := by
 unfold joinedFacts; rw [undone_j1, undone_j2, undone_j3, undone_j4]
 kernel_rfl
theorem undone_row : Rows.FnUndoneSaid :=
 OpenClaim.holds_of_wide 3 Tryz.f3 rfl rfl rfl rfl rfl rfl rfl ⟨rfl, rfl, rfl, rfl, rfl⟩ rfl rfl rfl rfl rfl yk Tryz.func3 undone_joined
  (of_decide_eq_true yk) (by unfold Func.isWrapper; first | (rw [if_pos (by decide +kernel)]; kernel_rfl) | (rw [if_neg (by decide +kernel)]; exact ⟨rfl, rfl⟩))
  (fun os started H enc _ => undone_lifted os started H enc)
theorem undone_holds : Rows.FnUndoneCardSaid :=
 Claim7.holds_tied_plain_at .later [] [.data, .data, .data, .data, .sentinel, .sentinel, .pinned] true (true, "76cf72e332643c104d46f3e20ddda4812ff7c01930ac1acb4431d6c20b0cdde4") true undone_row (fun _ h => by cases h) yk (fun _ h => by cases h) fnUndone_row_tie rfl ⟨rfl, rfl⟩ yk rfl
  (fun f fn hf hfn => by
    obtain rfl : f = 3 := Option.some.inj ((show Tryz.prog.funcNamed "loop.example/g01133/laws.FnUndone" = some 3 by kernel_rfl).symm.trans hf) |>.symm
    obtain rfl : fn = Tryz.f3 := (Option.some.inj (Tryz.func3.symm.trans hfn)).symm
    exact ⟨by kernel_rfl, fun j t ht => by
     rw [Tryz.params3] at ht; have hm : t ∈ [22] := by simpa using Array.mem_of_getElem? ht
     have hall : ([22].all fun u => !Tryz.prog.wantsStandIn u) = true := by kernel_rfl
     exact (show Tryz.prog.wantsStandIn t = false by simpa using List.all_eq_true.1 hall t hm)⟩)
  (zpq Tryz.no_go rfl)
end Go.Proofs.YtejgbfgocaggfaaGreatDoor

