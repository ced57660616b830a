import Derived.Test.YtfkijaamfmpboaaM5
/- 'laws.FnExactEmbedLast' returns true at every argument, and leaves its arguments as they were. No condition. -/
namespace Go.Proofs.Ytfkijaamfmpboaa
open Go.ChangeShapes Go.WideShapes Go.ChangeAt Go.RowKit Go.Joins
open Go.ChangeMaps (open_string)

set_option maxRecDepth 100000 in
theorem embedLast_lifted (os : Os) (started : os.Started) (H : Type) (enc : TypeId × Value → H) :
    ReturnsInHanded {} Try.checked os 4 .any (Rows.fnExactEmbedLastSpec.pre6 enc Try.prog Try.f4 Rows.fnExactEmbedLastRow.domain false) (Rows.fnExactEmbedLastSpec.post enc Try.prog Try.f4 false true false false) := by
  refine returnsInHanded_of_change (C := Try.checked) own started (by kernel_rfl) Try.func4
    (ChangeSpec.witness6 (enc := enc) (C := Try.checked) false ⟨#[], #[.agg #[.slice none 0 0], .string ⟨#[]⟩], []⟩ 8 (by kernel_rfl) (by kernel_rfl) (by kernel_rfl) (by kernel_rfl)) ?_
  intro W base args ds gs before hval0 hW hcnd _
  have hval : ∀ (j : Nat) t v, Try.f4.params[j]? = some t → args[j]? = some v → Value.okWide Try.prog W .any base t v := hval0
  have hW' := hW
  obtain ⟨p, q, hA0, hV, rfl, hfz, hnd⟩ := hW
  have hA : DataW.TrodAll enc Try.prog W 0 (fun _ => true) true Try.f4.params.toList args.toList ds p := hA0
  rw [Try.params4] at hA hval
  obtain ⟨v0, v1, d0, d1, p0, p1, rfl, rfl, rfl, h0, h1⟩ := trodAll_two hA
  obtain ⟨rfl, rfl⟩ := trodVars_none hV
  obtain ⟨u0, xs0, rfl, hsl0, hsm0⟩ := open_gram (hval 0 24 v0 rfl rfl) h0
  obtain ⟨l1, rfl, ea1, eb1, hl1⟩ := open_string Try.underlying9 (hval 1 9 v1 rfl rfl) h1
  clear hA0 hval0
  refine (lawEmb_any u0 xs0 l1 W hsl0 hsm0 hl1).mono fun e W' ⟨he, hb⟩ => ?_
  subst he
  exact ⟨_, rfl, post_of_below (pv := []) hW' (fun _ _ _ => trodAll_mk1 (shut_bool Try.underlying4 _)) (fun sp hsp => trodAll_below laidOut hb (of_decide_eq_true (by kernel_rfl)) hA (fun x hx => hW'.lt x (by simpa using hx)) sp (fun x hx => hsp x (by simpa using hx))) (fun _ _ => rfl) rfl hb (ok_one (by kernel_rfl) rfl (okWide_bool_mk Try.underlying4 _))⟩

theorem embedLast_j1 : (Rows.fnExactEmbedLastRow.inPlace == Try.pinned.checked.prog.inPlace 4) = true := by kernel_rfl
theorem embedLast_j2 : (Rows.fnExactEmbedLastRow.unfollowed == Try.pinned.checked.prog.unfollowed 4) = true := by kernel_rfl
theorem embedLast_j3 : (Rows.fnExactEmbedLastRow.recurses == Try.pinned.checked.prog.recurses 4) = true := by kernel_rfl
theorem embedLast_j4 : (Rows.fnExactEmbedLastRow.named == Try.pinned.checked.prog.varsNamed 4) = true := by kernel_rfl
theorem embedLast_joined : joinedFacts Try.pinned.checked.prog 4 Try.f4 Rows.fnExactEmbedLastSpec Rows.fnExactEmbedLastRow = true := by
  unfold joinedFacts
  rw [embedLast_j1, embedLast_j2, embedLast_j3, embedLast_j4]
  kernel_rfl

theorem embedLast_holds : Rows.FnExactEmbedLastSaid :=
  OpenClaim.holds_of_wide 4 Try.f4 rfl rfl rfl rfl rfl rfl rfl ⟨rfl, rfl, rfl, rfl, rfl⟩ rfl rfl rfl rfl rfl (by kernel_rfl) Try.func4 embedLast_joined
    (of_decide_eq_true (by kernel_rfl)) (by unfold Func.isWrapper; first | (rw [if_pos (by decide +kernel)]; kernel_rfl) | (rw [if_neg (by decide +kernel)]; exact ⟨rfl, rfl⟩))
    (fun os started H enc _ => embedLast_lifted os started H enc)
end Go.Proofs.Ytfkijaamfmpboaa

