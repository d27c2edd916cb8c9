/-
  'Rows.FnExactStopForSaid': for every input the law 'FnExactStopFor' returns true and leaves its arguments as they were. No condition.
-/
import Derived.Test.YthoknpbcdgljjaaRo
import Derived.Test.YthoknpbcdgljjaaWcs
namespace Go.Proofs.Ythoknpbcdgljjaa
open Go.ChangeShapes Go.WideShapes Go.ChangeAt Go.RowKit Go.Proofs.Fl Go.Proofs.Pl
set_option linter.unusedVariables false

theorem walk_fnExactStopFor (w : World) (Cl Cs : Nat) (Cn : Int) (hC0 : Cl < 4294967296) (hC1 : Cs < 4294967296) (hC2 : -128 ≤ Cn) (hC3 : Cn ≤ 127) (load : Nat) (hload : load < 4294967296) (wanted : Nat) (hwanted : wanted < 4294967296) :
    Calls Try.prog 13 #[.agg #[.float .f32 Cl, .float .f32 Cs, .int .i8 Cn], .float .f32 load, .float .f32 wanted] w fun e w' => e = .returned (.bool true) ∧ Below w.heap.size w w' := by
  have f1 : Fnt (stopAns Cl Cs Cn load wanted).1.2 := by
    unfold stopAns codeRes; split
    · rename_i hc
      obtain ⟨ho, hp⟩ := cordCode_zero.1 hc
      rw [Bool.and_eq_true] at hp
      obtain ⟨c1, c2, c3, c4⟩ := cordOk_of ho
      have hle := least_le (fun i => off Cl Cs Cn load wanted (i : Nat)) Cn.toNat
      exact (place_steps c1 c2 hp.1 c3 c4 (by omega) (by omega)).2.2.2.2.1
    · show Fnt 0; decide
  have kp := hidd (Keep1.start w (cordCells Cl Cs Cn) 33)
  go_enter Try.func13, Try.ntmps13
  go_wp2_with (first | (refine wpList_load_all rfl _ _ rfl _ rfl (cordCells Cl Cs Cn) 3 agg_lcord rfl kp.out.row ?_) | (go_at_call 29; refine (to_cord Cl Cs Cn _).mono ?_; rintro e wn ⟨rfl, hbn⟩; have kn := hidd (kp.out.step hbn); clear kp hbn; have kp := kn; clear kn) | (go_at_call 35; refine (stopFor_spec Cl Cs Cn hC2 hC3 _ _ hwanted _).mono ?_; rintro e wn ⟨rfl, hbn⟩; have kn := hidd (kp.out.step hbn); clear kp hbn; have kp := kn; clear kn) | (go_at_call 36; refine (stopFor_impl Cl Cs Cn hC2 hC3 _ _ _).mono ?_; rintro e wn ⟨rfl, hbn⟩; have kn := hidd (kp.out.step hbn); clear kp hbn; have kp := kn; clear kn) | (go_at_call 25; refine (sameFloat_same _ (widen_fin f1).2 _).mono ?_; rintro e w' ⟨rfl, rfl⟩))
  all_goals (go_ret; exact ⟨by simp, kp.out.below⟩)

set_option maxRecDepth 100000 in
theorem lifted_fnExactStopFor (os : Os) (started : os.Started) (H : Type) (enc : TypeId × Value → H) :
    ReturnsInHanded {} Try.checked os 13 .any (Rows.fnExactStopForSpec.pre6 enc Try.prog Try.f13 Rows.fnExactStopForRow.domain false) (Rows.fnExactStopForSpec.post enc Try.prog Try.f13 false true false false) := by
  refine returnsInHanded_of_change (C := Try.checked) own started (by kernel_rfl) Try.func13
    (ChangeSpec.witness6 (enc := enc) (C := Try.checked) false ⟨#[], #[.agg #[.float .f32 0, .float .f32 0, .int .i8 0], .float .f32 0, .float .f32 0], []⟩ 60 (by kernel_rfl) (by kernel_rfl) (by kernel_rfl) (by kernel_rfl)) ?_
  intro W base args ds gs before hval0 hW hcnd _
  have hval : ∀ (j : Nat) t v, Try.f13.params[j]? = some t → args[j]? = some v → Value.okWide Try.prog W .any base t v := hval0
  have hW' := hW
  obtain ⟨p, q, hA0, hV, rfl, hfz, hnd⟩ := hW
  have hA : DataW.TrodAll enc Try.prog W 0 (fun _ => true) true Try.f13.params.toList args.toList ds p := hA0
  rw [Try.params13] at hA hval
  obtain ⟨v0, vs0, d0, ds0, p0, q0, hargs, rfl, rfl, h0, r0⟩ := trodAll_cons hA
  obtain ⟨v1, vs1, d1, ds1, p1, q1, rfl, rfl, rfl, h1, r1⟩ := trodAll_cons r0
  obtain ⟨v2, vs2, d2, ds2, p2, q2, rfl, rfl, rfl, h2, r2⟩ := trodAll_cons r1
  obtain ⟨rfl, rfl, rfl⟩ := trodAll_nil r2
  obtain rfl : args = #[v0, v1, v2] := by cases args; simp_all
  obtain ⟨rfl, rfl⟩ := trodVars_none hV
  have lt0 : ∀ x ∈ p0, x.block < W.heap.size := by obtain ⟨m, hm⟩ := h0; exact DataW.trod_lt m _ _ _ hm
  have lt1 : ∀ x ∈ p1, x.block < W.heap.size := by obtain ⟨m, hm⟩ := h1; exact DataW.trod_lt m _ _ _ hm
  have lt2 : ∀ x ∈ p2, x.block < W.heap.size := by obtain ⟨m, hm⟩ := h2; exact DataW.trod_lt m _ _ _ hm
  obtain ⟨Cl, Cs, Cn, rfl, hC0, hC1, hC2, hC3⟩ := arg_cord (hval 0 33 v0 rfl rfl)
  obtain ⟨load, rfl, hload⟩ := arg_float Try.underlying23 (hval 1 23 v1 rfl rfl)
  obtain ⟨wanted, rfl, hwanted⟩ := arg_float Try.underlying23 (hval 2 23 v2 rfl rfl)
  clear hA0 hval0
  refine (walk_fnExactStopFor W Cl Cs Cn hC0 hC1 hC2 hC3 load hload wanted hwanted).mono fun e W' ⟨he, bel⟩ => ?_
  subst he
  exact ⟨_, rfl, _, _, _, [], _, [], hW', trodAll_mk1 (shut_bool Try.underlying4 _), (trodAll_cons_mk (Below.trod laidOut (by kernel_rfl) (of_decide_eq_true (by kernel_rfl)) h0 bel lt0) (trodAll_cons_mk (Below.trod laidOut (by kernel_rfl) (of_decide_eq_true (by kernel_rfl)) h1 bel lt1) (trodAll_cons_mk (Below.trod laidOut (by kernel_rfl) (of_decide_eq_true (by kernel_rfl)) h2 bel lt2) trodAll_mk0))), rfl, bel.frame _, fun h => by cases h⟩

/-- THE STATEMENT. -/
theorem fnExactStopFor_holds : Rows.FnExactStopForSaid :=
  OpenClaim.holds_of_wide 13 Try.f13 rfl rfl rfl rfl rfl rfl rfl ⟨rfl, rfl, rfl, rfl, rfl⟩ rfl rfl rfl rfl rfl (by kernel_rfl) Try.func13 (by kernel_rfl)
    (of_decide_eq_true (by kernel_rfl)) (by unfold Func.isWrapper; first | (rw [if_pos (by decide +kernel)]; kernel_rfl) | (rw [if_neg (by decide +kernel)]; exact ⟨rfl, rfl⟩))
    (fun os started H enc _ => lifted_fnExactStopFor os started H enc)
#print axioms fnExactStopFor_holds
end Go.Proofs.Ythoknpbcdgljjaa
