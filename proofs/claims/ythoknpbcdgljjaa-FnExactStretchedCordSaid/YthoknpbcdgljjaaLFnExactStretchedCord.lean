/-
  'Rows.FnExactStretchedCordSaid': for every input the law 'FnExactStretchedCord' returns true and leaves its arguments as they were. No condition.
-/
import Derived.Test.YthoknpbcdgljjaaRo
import Derived.Test.YthoknpbcdgljjaaWcb
namespace Go.Proofs.Ythoknpbcdgljjaa
open Go.ChangeShapes Go.WideShapes Go.ChangeAt Go.RowKit Go.Proofs.Fl Go.Proofs.Pl
set_option linter.unusedVariables false

theorem walk_fnExactStretchedCord (w : World) (Cl Cs : Nat) (Cn : Int) (hC0 : Cl < 4294967296) (hC1 : Cs < 4294967296) (hC2 : -128 ≤ Cn) (hC3 : Cn ≤ 127) (load : Nat) (hload : load < 4294967296) :
    Calls Try.prog 11 #[.agg #[.float .f32 Cl, .float .f32 Cs, .int .i8 Cn], .float .f32 load] w fun e w' => e = .returned (.bool true) ∧ Below w.heap.size w w' := by
  have f1 : Fnt (codeRes (cordCode Cl Cs Cn (isPart load)) 0 (stretched Cl Cs load)).1 := cr_fnt (by decide) fun hc => by
    obtain ⟨ho, hp⟩ := cordCode_zero.1 hc
    exact (stretched_steps (cordOk_of ho).1 (cordOk_of ho).2.1 hp).2.2.2.2.2.1
  have kp := hidd (Keep1.start w (cordCells Cl Cs Cn) 33)
  go_enter Try.func11, Try.ntmps11
  go_wp2_with (first | (refine wpList_load_all rfl _ _ rfl _ rfl (cordCells Cl Cs Cn) 3 agg_lcord rfl kp.out.row ?_) | (go_at_call 29; refine (to_cord Cl Cs Cn _).mono ?_; rintro e wn ⟨rfl, hbn⟩; have kn := hidd (kp.out.step hbn); clear kp hbn; have kp := kn; clear kn) | (go_at_call 31; refine (stretchedCord_spec Cl Cs Cn hC2 hC3 _ _).mono ?_; rintro e wn ⟨rfl, hbn⟩; have kn := hidd (kp.out.step hbn); clear kp hbn; have kp := kn; clear kn) | (go_at_call 32; refine (stretchedCord_impl Cl Cs Cn hC2 hC3 _ _).mono ?_; rintro e wn ⟨rfl, hbn⟩; have kn := hidd (kp.out.step hbn); clear kp hbn; have kp := kn; clear kn) | (go_at_call 25; refine (sameFloat_same _ (widen_fin f1).2 _).mono ?_; rintro e w' ⟨rfl, rfl⟩))
  all_goals (go_ret; exact ⟨by simp, kp.out.below⟩)

set_option maxRecDepth 100000 in
theorem lifted_fnExactStretchedCord (os : Os) (started : os.Started) (H : Type) (enc : TypeId × Value → H) :
    ReturnsInHanded {} Try.checked os 11 .any (Rows.fnExactStretchedCordSpec.pre6 enc Try.prog Try.f11 Rows.fnExactStretchedCordRow.domain false) (Rows.fnExactStretchedCordSpec.post enc Try.prog Try.f11 false true false false) := by
  refine returnsInHanded_of_change (C := Try.checked) own started (by kernel_rfl) Try.func11
    (ChangeSpec.witness6 (enc := enc) (C := Try.checked) false ⟨#[], #[.agg #[.float .f32 0, .float .f32 0, .int .i8 0], .float .f32 0], []⟩ 60 (by kernel_rfl) (by kernel_rfl) (by kernel_rfl) (by kernel_rfl)) ?_
  intro W base args ds gs before hval0 hW hcnd _
  have hval : ∀ (j : Nat) t v, Try.f11.params[j]? = some t → args[j]? = some v → Value.okWide Try.prog W .any base t v := hval0
  have hW' := hW
  obtain ⟨p, q, hA0, hV, rfl, hfz, hnd⟩ := hW
  have hA : DataW.TrodAll enc Try.prog W 0 (fun _ => true) true Try.f11.params.toList args.toList ds p := hA0
  rw [Try.params11] at hA hval
  obtain ⟨v0, vs0, d0, ds0, p0, q0, hargs, rfl, rfl, h0, r0⟩ := trodAll_cons hA
  obtain ⟨v1, vs1, d1, ds1, p1, q1, rfl, rfl, rfl, h1, r1⟩ := trodAll_cons r0
  obtain ⟨rfl, rfl, rfl⟩ := trodAll_nil r1
  obtain rfl : args = #[v0, v1] := by cases args; simp_all
  obtain ⟨rfl, rfl⟩ := trodVars_none hV
  have lt0 : ∀ x ∈ p0, x.block < W.heap.size := by obtain ⟨m, hm⟩ := h0; exact DataW.trod_lt m _ _ _ hm
  have lt1 : ∀ x ∈ p1, x.block < W.heap.size := by obtain ⟨m, hm⟩ := h1; exact DataW.trod_lt m _ _ _ hm
  obtain ⟨Cl, Cs, Cn, rfl, hC0, hC1, hC2, hC3⟩ := arg_cord (hval 0 33 v0 rfl rfl)
  obtain ⟨load, rfl, hload⟩ := arg_float Try.underlying23 (hval 1 23 v1 rfl rfl)
  clear hA0 hval0
  refine (walk_fnExactStretchedCord W Cl Cs Cn hC0 hC1 hC2 hC3 load hload).mono fun e W' ⟨he, bel⟩ => ?_
  subst he
  exact ⟨_, rfl, _, _, _, [], _, [], hW', trodAll_mk1 (shut_bool Try.underlying4 _), (trodAll_cons_mk (Below.trod laidOut (by kernel_rfl) (of_decide_eq_true (by kernel_rfl)) h0 bel lt0) (trodAll_cons_mk (Below.trod laidOut (by kernel_rfl) (of_decide_eq_true (by kernel_rfl)) h1 bel lt1) trodAll_mk0)), rfl, bel.frame _, fun h => by cases h⟩

/-- THE STATEMENT. -/
theorem fnExactStretchedCord_holds : Rows.FnExactStretchedCordSaid :=
  OpenClaim.holds_of_wide 11 Try.f11 rfl rfl rfl rfl rfl rfl rfl ⟨rfl, rfl, rfl, rfl, rfl⟩ rfl rfl rfl rfl rfl (by kernel_rfl) Try.func11 (by kernel_rfl)
    (of_decide_eq_true (by kernel_rfl)) (by unfold Func.isWrapper; first | (rw [if_pos (by decide +kernel)]; kernel_rfl) | (rw [if_neg (by decide +kernel)]; exact ⟨rfl, rfl⟩))
    (fun os started H enc _ => lifted_fnExactStretchedCord os started H enc)
#print axioms fnExactStretchedCord_holds
end Go.Proofs.Ythoknpbcdgljjaa
