import Derived.Test.YtdacndamehiglaaGreatDoorM27
import Derived.Test.YtdacndamehiglaaGreatDoorCards
import Derived.Test.YtdacndamehiglaaGreatDoorTie
import Derived.Lay
import Derived.MakeChecks
import Derived.Stop.LaidErr
set_option maxRecDepth 100000
set_option maxHeartbeats 8000000
/- 'laws.FnEdits' returns true at every argument, and leaves its arguments as they were: the card that ties the listed tables of the library to the program's text. Condition: the listed package-level variables hold what the program's text lays. -/
namespace Go.Proofs.YtdacndamehiglaaGreatDoor
open Go.ChangeShapes Go.WideShapes Go.ChangeAt Go.RowKit Go.Joins
open Go.ChangeMaps (open_string)
def laidU : List (String × DataW Unit) := [("math/bits.deBruijn32tab", Rows.laid_math_bits_deBruijn32tab), ("math/bits.deBruijn64tab", Rows.laid_math_bits_deBruijn64tab), ("internal/strconv.uint64pow10", Rows.laid_internal_strconv_uint64pow10), ("unicode/utf8.acceptRanges", Rows.laid_unicode_utf8_acceptRanges), ("unicode/utf8.first", Rows.laid_unicode_utf8_first)]
theorem tab_of_laid {W : World} (h : laidMetH Tryz.prog laidU W) : Lib.TabIs Tryz.prog W "math/bits.deBruijn64tab" .u8 ze4 := by
 rw [MakeChecks.laidMetH_plain _ _ _ yk] at h; exact Lib.tabIs_of_head (g := 7) (t := 249) (e := 5) (n := 64) yk yk Tryz.underlying249 Tryz.underlying5 yk yk (laidMet.tail h)
theorem edits_lifted (os : Os) (started : os.Started) (H : Type) (enc : TypeId × Value -> H) :
  ReturnsInHanded {} Tryz.checked os 3 .any (fun w args => (Rows.fnEditsSpec.pre enc Tryz.prog Tryz.f3 [] false w args /\ laidMetH Tryz.prog laidU w) /\ sizedMet enc Tryz.prog Tryz.f3 (OpenSpec.ofChange Rows.fnEditsSpec) false w args)
   (Rows.fnEditsSpec.post enc Tryz.prog Tryz.f3 false true false false) := by
 refine returnsInHanded_of_change_and (C := Tryz.checked) (X := fun w _ => laidMetH Tryz.prog laidU w) (fun _ _ _ hh h => h.of_heap hh) own started yk Tryz.func3
  (ChangeSpec.witness_shaped (enc := enc) (C := Tryz.checked) (os := os) (X := fun w _ => laidMetH Tryz.prog laidU w) false (World.laidAll Tryz.prog os laidU) #[.slice none 0 0, .slice none 0 0] 8 (World.laidAll_os _ _ _)
    (World.shaped_of_ZipB yk yk) yk yk yk
    (by rw [MakeChecks.laidMetH_plain _ _ _ yk]; exact laidMet_laidAll _ yk yk)) ?_
 intro W base args ds gs before hval0 hW _ _ hL _; have hval : ∀ (j : Nat) t v, Tryz.f3.params[j]? = some t -> args[j]? = some v -> Value.okWide Tryz.prog W .any base t v := hval0; have hW' := hW; obtain ⟨p, q, hA0, hV, rfl, hfz, hnd⟩ := hW; have hA : DataW.TrodAll enc Tryz.prog W 0 (fun _ => true) true Tryz.f3.params.toList args.toList ds p := hA0; rw [Tryz.params3] at hA hval; obtain ⟨v0, v1, d0, d1, p0, p1, rfl, rfl, rfl, h0, h1⟩ := trodAll_two hA; obtain ⟨rfl, rfl⟩ := trodVars_none hV; obtain ⟨xs0, hsl0⟩ := zhr (hval 0 22 v0 rfl rfl) h0; obtain ⟨xs1, hsl1⟩ := zhr (hval 1 22 v1 rfl rfl) h1; clear hA0 hval0; refine (zi0 v0 v1 xs0 xs1 W hsl0 hsl1 (tab_of_laid hL)).mono fun e W' ⟨he, hb⟩ => ?_
 subst he; exact ⟨_, rfl, zh4 (pv := []) hW' (fun _ _ _ => trodAll_mk1 (shut_bool Tryz.underlying4 _)) (fun sp hsp => zfg zoz hb (of_decide_eq_true yk) hA (fun x hx => hW'.lt x (by simpa using hx)) sp (fun x hx => hsp x (by simpa using hx))) (fun _ _ => rfl) rfl hb (ok_one yk rfl (okWide_bool_mk Tryz.underlying4 _))⟩
theorem edits_j1 : (Rows.fnEditsRow.inPlace == Tryz.pinned.checked.prog.inPlace 3) = true := by kernel_rfl
theorem edits_j2 : (Rows.fnEditsRow.unfollowed == Tryz.pinned.checked.prog.unfollowed 3) = true := by kernel_rfl
theorem edits_j3 : (Rows.fnEditsRow.recurses == Tryz.pinned.checked.prog.recurses 3) = true := by kernel_rfl
theorem edits_j4 : (Rows.fnEditsRow.named == Tryz.pinned.checked.prog.varsNamed 3) = true := by kernel_rfl
theorem edits_joined : joinedFacts Tryz.pinned.checked.prog 3 Tryz.f3 Rows.fnEditsSpec Rows.fnEditsRow = true := by
 unfold joinedFacts; rw [edits_j1, edits_j2, edits_j3, edits_j4]
 kernel_rfl
theorem edits_row : Rows.FnEditsSaid :=
 OpenClaim.holds_of_wide 3 Tryz.f3 rfl rfl rfl rfl rfl rfl rfl ⟨rfl, rfl, rfl, rfl, rfl⟩ rfl rfl rfl rfl rfl yk Tryz.func3 edits_joined
  (of_decide_eq_true yk) (by unfold Func.isWrapper; first | (rw [if_pos (by decide +kernel)]; kernel_rfl) | (rw [if_neg (by decide +kernel)]; exact ⟨rfl, rfl⟩))
  (fun os started H enc _ => edits_lifted os started H enc)
theorem edits_holds : Rows.FnEditsCardSaid :=
 Claim7.holds_tied_plain_at .later [] [.data, .data, .data, .data, .pinned] true (true, "220ee84eb48a30861306bb903e28d5bbb12396bdc221255f82ec1b6ba80eb379") true edits_row (fun _ h => by cases h) yk (fun _ h => by cases h) fnEdits_row_tie rfl ⟨rfl, rfl⟩ yk rfl
  (fun f fn hf hfn => by
    obtain rfl : f = 3 := Option.some.inj ((show Tryz.prog.funcNamed "loop.example/g01133/laws.FnEdits" = some 3 by kernel_rfl).symm.trans hf) |>.symm
    obtain rfl : fn = Tryz.f3 := (Option.some.inj (Tryz.func3.symm.trans hfn)).symm
    exact ⟨by kernel_rfl, fun j t ht => by
     rw [Tryz.params3] at ht; have hm : t ∈ [22] := by simpa using Array.mem_of_getElem? ht
     have hall : ([22].all fun u => !Tryz.prog.wantsStandIn u) = true := by kernel_rfl
     exact (show Tryz.prog.wantsStandIn t = false by simpa using List.all_eq_true.1 hall t hm)⟩)
  (zoA Tryz.no_go rfl)
end Go.Proofs.YtdacndamehiglaaGreatDoor

