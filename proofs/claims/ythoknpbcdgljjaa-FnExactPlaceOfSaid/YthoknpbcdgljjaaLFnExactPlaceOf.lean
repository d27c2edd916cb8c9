/-
  'Rows.FnExactPlaceOfSaid': for every input the law 'FnExactPlaceOf' returns true and leaves its arguments as they were. No condition.
-/
import Derived.Test.YthoknpbcdgljjaaRo
import Derived.Test.YthoknpbcdgljjaaWcb
namespace Go.Proofs.Ythoknpbcdgljjaa
open Go.ChangeShapes Go.WideShapes Go.ChangeAt Go.RowKit Go.Proofs.Fl Go.Proofs.Pl
set_option linter.unusedVariables false

theorem walk_fnExactPlaceOf (w : World) (Cl Cs : Nat) (Cn : Int) (hC0 : Cl < 4294967296) (hC1 : Cs < 4294967296) (hC2 : -128 ≤ Cn) (hC3 : Cn ≤ 127) (load : Nat) (hload : load < 4294967296) (stop : Int) (hstop1 : -9223372036854775808 ≤ stop) (hstop2 : stop ≤ 9223372036854775807) :
    Calls Try.prog 12 #[.agg #[.float .f32 Cl, .float .f32 Cs, .int .i8 Cn], .float .f32 load, .int .i64 stop] w fun e w' => e = .returned (.bool true) ∧ Below w.heap.size w w' := by
  have f1 : Fnt (codeRes (cordCode Cl Cs Cn (isPart load && inR stop 0 Cn)) 0 (place Cl Cs Cn load stop)).1 := cr_fnt (by decide) fun hc => by
    obtain ⟨ho, hp⟩ := cordCode_zero.1 hc
    rw [Bool.and_eq_true] at hp
    obtain ⟨k1, k2⟩ := inR_iff.1 hp.2
    obtain ⟨c1, c2, c3, c4⟩ := cordOk_of ho
    exact (place_steps c1 c2 hp.1 c3 c4 k1 (by omega)).2.2.2.2.1
  have kp := hidd (Keep1.start w (cordCells Cl Cs Cn) 33)
  go_enter Try.func12, Try.ntmps12
  go_wp2_with (first | (refine wpList_load_all rfl _ _ rfl _ rfl (cordCells Cl Cs Cn) 3 agg_lcord rfl kp.out.row ?_) | (go_at_call 29; refine (to_cord Cl Cs Cn _).mono ?_; rintro e wn ⟨rfl, hbn⟩; have kn := hidd (kp.out.step hbn); clear kp hbn; have kp := kn; clear kn) | (go_at_call 33; refine (placeOf_spec Cl Cs Cn hC2 hC3 _ _ _).mono ?_; rintro e wn ⟨rfl, hbn⟩; have kn := hidd (kp.out.step hbn); clear kp hbn; have kp := kn; clear kn) | (go_at_call 34; refine (placeOf_impl Cl Cs Cn hC2 hC3 _ _ _).mono ?_; rintro e wn ⟨rfl, hbn⟩; have kn := hidd (kp.out.step hbn); clear kp hbn; have kp := kn; clear kn) | (go_at_call 25; refine (sameFloat_same _ (widen_fin f1).2 _).mono ?_; rintro e w' ⟨rfl, rfl⟩))
  all_goals (go_ret; exact ⟨by simp, kp.out.below⟩)

set_option maxRecDepth 100000 in
theorem lifted_fnExactPlaceOf (os : Os) (started : os.Started) (H : Type) (enc : TypeId × Value → H) :
    ReturnsInHanded {} Try.checked os 12 .any (Rows.fnExactPlaceOfSpec.pre6 enc Try.prog Try.f12 Rows.fnExactPlaceOfRow.domain false) (Rows.fnExactPlaceOfSpec.post enc Try.prog Try.f12 false true false false) := by
  refine returnsInHanded_of_change (C := Try.checked) own started (by kernel_rfl) Try.func12
    (ChangeSpec.witness6 (enc := enc) (C := Try.checked) false ⟨#[], #[.agg #[.float .f32 0, .float .f32 0, .int .i8 0], .float .f32 0, .int .i64 0], []⟩ 60 (by kernel_rfl) (by kernel_rfl) (by kernel_rfl) (by kernel_rfl)) ?_
  intro W base args ds gs before hval0 hW hcnd _
  have hval : ∀ (j : Nat) t v, Try.f12.params[j]? = some t → args[j]? = some v → Value.okWide Try.prog W .any base t v := hval0
  have hW' := hW
  obtain ⟨p, q, hA0, hV, rfl, hfz, hnd⟩ := hW
  have hA : DataW.TrodAll enc Try.prog W 0 (fun _ => true) true Try.f12.params.toList args.toList ds p := hA0
  rw [Try.params12] at hA hval
  obtain ⟨v0, vs0, d0, ds0, p0, q0, hargs, rfl, rfl, h0, r0⟩ := trodAll_cons hA
  obtain ⟨v1, vs1, d1, ds1, p1, q1, rfl, rfl, rfl, h1, r1⟩ := trodAll_cons r0
  obtain ⟨v2, vs2, d2, ds2, p2, q2, rfl, rfl, rfl, h2, r2⟩ := trodAll_cons r1
  obtain ⟨rfl, rfl, rfl⟩ := trodAll_nil r2
  obtain rfl : args = #[v0, v1, v2] := by cases args; simp_all
  obtain ⟨rfl, rfl⟩ := trodVars_none hV
  have lt0 : ∀ x ∈ p0, x.block < W.heap.size := by obtain ⟨m, hm⟩ := h0; exact DataW.trod_lt m _ _ _ hm
  have lt1 : ∀ x ∈ p1, x.block < W.heap.size := by obtain ⟨m, hm⟩ := h1; exact DataW.trod_lt m _ _ _ hm
  have lt2 : ∀ x ∈ p2, x.block < W.heap.size := by obtain ⟨m, hm⟩ := h2; exact DataW.trod_lt m _ _ _ hm
  obtain ⟨Cl, Cs, Cn, rfl, hC0, hC1, hC2, hC3⟩ := arg_cord (hval 0 33 v0 rfl rfl)
  obtain ⟨load, rfl, hload⟩ := arg_float Try.underlying23 (hval 1 23 v1 rfl rfl)
  obtain ⟨stop, rfl, hstop1, hstop2⟩ := arg_int Try.underlying2 (hval 2 2 v2 rfl rfl)
  clear hA0 hval0
  refine (walk_fnExactPlaceOf W Cl Cs Cn hC0 hC1 hC2 hC3 load hload stop hstop1 hstop2).mono fun e W' ⟨he, bel⟩ => ?_
  subst he
  exact ⟨_, rfl, _, _, _, [], _, [], hW', trodAll_mk1 (shut_bool Try.underlying4 _), (trodAll_cons_mk (Below.trod laidOut (by kernel_rfl) (of_decide_eq_true (by kernel_rfl)) h0 bel lt0) (trodAll_cons_mk (Below.trod laidOut (by kernel_rfl) (of_decide_eq_true (by kernel_rfl)) h1 bel lt1) (trodAll_cons_mk (Below.trod laidOut (by kernel_rfl) (of_decide_eq_true (by kernel_rfl)) h2 bel lt2) trodAll_mk0))), rfl, bel.frame _, fun h => by cases h⟩

/-- THE STATEMENT. -/
theorem fnExactPlaceOf_holds : Rows.FnExactPlaceOfSaid :=
  OpenClaim.holds_of_wide 12 Try.f12 rfl rfl rfl rfl rfl rfl rfl ⟨rfl, rfl, rfl, rfl, rfl⟩ rfl rfl rfl rfl rfl (by kernel_rfl) Try.func12 (by kernel_rfl)
    (of_decide_eq_true (by kernel_rfl)) (by unfold Func.isWrapper; first | (rw [if_pos (by decide +kernel)]; kernel_rfl) | (rw [if_neg (by decide +kernel)]; exact ⟨rfl, rfl⟩))
    (fun os started H enc _ => lifted_fnExactPlaceOf os started H enc)
#print axioms fnExactPlaceOf_holds
end Go.Proofs.Ythoknpbcdgljjaa
