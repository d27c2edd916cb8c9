/-
  'Rows.FnExactValidPersonSaid': for every input the law 'FnExactValidPerson' returns true and leaves its arguments as they were. No condition.
-/
import Derived.Test.YtgibcikihniimaaRo
import Derived.Test.YtgibcikihniimaaWpe
namespace Go.Proofs.Ytgibcikihniimaa
open Go.ChangeShapes Go.WideShapes Go.ChangeAt Go.RowKit Go.Proofs.Fl Go.Proofs.Pl
set_option linter.unusedVariables false

theorem walk_fnExactValidPerson (w : World) (Ba Bb Bc : Nat) :
    Calls Try.prog 3 #[.agg #[.float .f32 Ba, .float .f32 Bb, .float .f32 Bc]] w fun e w' => e = .returned (.bool true) ∧ Below w.heap.size w w' := by
  have kp := hidd (Keep1.start w (personCells Ba Bb Bc) 24)
  go_enter Try.func3, Try.ntmps3
  go_wp2_with (first | (refine wpList_load_all rfl _ _ rfl _ rfl (personCells Ba Bb Bc) 3 agg_lperson rfl kp.out.row ?_) | (go_at_call 8; refine (to_person Ba Bb Bc _).mono ?_; rintro e wn ⟨rfl, hbn⟩; have kn := hidd (kp.out.step hbn); clear kp hbn; have kp := kn; clear kn) | (go_at_call 7; refine (person_spec Ba Bb Bc _).mono ?_; rintro e wn ⟨rfl, hbn⟩; have kn := hidd (kp.out.step hbn); clear kp hbn; have kp := kn; clear kn) | (go_at_call 9; refine (person_impl Ba Bb Bc _).mono ?_; rintro e wn ⟨rfl, hbn⟩; have kn := hidd (kp.out.step hbn); clear kp hbn; have kp := kn; clear kn))
  all_goals (go_ret; exact ⟨by simp, kp.out.below⟩)

set_option maxRecDepth 100000 in
theorem lifted_fnExactValidPerson (os : Os) (started : os.Started) (H : Type) (enc : TypeId × Value → H) :
    ReturnsInHanded {} Try.checked os 3 .any (Rows.fnExactValidPersonSpec.pre6 enc Try.prog Try.f3 Rows.fnExactValidPersonRow.domain false) (Rows.fnExactValidPersonSpec.post enc Try.prog Try.f3 false true false false) := by
  refine returnsInHanded_of_change (C := Try.checked) own started (by kernel_rfl) Try.func3
    (ChangeSpec.witness6 (enc := enc) (C := Try.checked) false ⟨#[], #[.agg #[.float .f32 0, .float .f32 0, .float .f32 0]], []⟩ 60 (by kernel_rfl) (by kernel_rfl) (by kernel_rfl) (by kernel_rfl)) ?_
  intro W base args ds gs before hval0 hW hcnd _
  have hval : ∀ (j : Nat) t v, Try.f3.params[j]? = some t → args[j]? = some v → Value.okWide Try.prog W .any base t v := hval0
  have hW' := hW
  obtain ⟨p, q, hA0, hV, rfl, hfz, hnd⟩ := hW
  have hA : DataW.TrodAll enc Try.prog W 0 (fun _ => true) true Try.f3.params.toList args.toList ds p := hA0
  rw [Try.params3] at hA hval
  obtain ⟨v0, vs0, d0, ds0, p0, q0, hargs, rfl, rfl, h0, r0⟩ := trodAll_cons hA
  obtain ⟨rfl, rfl, rfl⟩ := trodAll_nil r0
  obtain rfl : args = #[v0] := by cases args; simp_all
  obtain ⟨rfl, rfl⟩ := trodVars_none hV
  have lt0 : ∀ x ∈ p0, x.block < W.heap.size := by obtain ⟨m, hm⟩ := h0; exact DataW.trod_lt m _ _ _ hm
  obtain ⟨Ba, Bb, Bc, rfl, _, _, _⟩ := arg_person (hval 0 24 v0 rfl rfl)
  clear hA0 hval0
  refine (walk_fnExactValidPerson W Ba Bb Bc).mono fun e W' ⟨he, bel⟩ => ?_
  subst he
  exact ⟨_, rfl, _, _, _, [], _, [], hW', trodAll_mk1 (shut_bool Try.underlying4 _), (trodAll_cons_mk (Below.trod laidOut (by kernel_rfl) (of_decide_eq_true (by kernel_rfl)) h0 bel lt0) trodAll_mk0), rfl, bel.frame _, fun h => by cases h⟩

/-- THE STATEMENT. -/
theorem fnExactValidPerson_holds : Rows.FnExactValidPersonSaid :=
  OpenClaim.holds_of_wide 3 Try.f3 rfl rfl rfl rfl rfl rfl rfl ⟨rfl, rfl, rfl, rfl, rfl⟩ rfl rfl rfl rfl rfl (by kernel_rfl) Try.func3 (by kernel_rfl)
    (of_decide_eq_true (by kernel_rfl)) (by unfold Func.isWrapper; first | (rw [if_pos (by decide +kernel)]; kernel_rfl) | (rw [if_neg (by decide +kernel)]; exact ⟨rfl, rfl⟩))
    (fun os started H enc _ => lifted_fnExactValidPerson os started H enc)
#print axioms fnExactValidPerson_holds
end Go.Proofs.Ytgibcikihniimaa
