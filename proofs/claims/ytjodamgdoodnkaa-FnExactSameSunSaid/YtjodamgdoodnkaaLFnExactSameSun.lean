/-
  'Rows.FnExactSameSunSaid': for every input the law 'FnExactSameSun' returns true and leaves its arguments as they were. No condition.
-/
import Derived.Test.YtjodamgdoodnkaaRo
import Derived.Test.YtjodamgdoodnkaaWsm
namespace Go.Proofs.Ytjodamgdoodnkaa
open Go.ChangeShapes Go.WideShapes Go.ChangeAt Go.RowKit Go.Proofs.Fl Go.Proofs.Pl
set_option linter.unusedVariables false

set_option maxHeartbeats 1000000 in
theorem walk_fnExactSameSun (w : World) (X : List Int) (hX0 : X.length = 48) (hX1 : ∀ x ∈ X, -32768 ≤ x ∧ x ≤ 32767) (Y : List Int) (hY0 : Y.length = 48) (hY1 : ∀ x ∈ Y, -32768 ≤ x ∧ x ≤ 32767) :
    Calls Try.prog 3 #[.agg (sunCells X), .agg (sunCells Y)] w fun e w' => e = .returned (.bool true) ∧ Below w.heap.size w w' := by
  have kp := hidd (Keep2.start w (sunCells X) (sunCells Y) 25 25)
  have HS := hidd (And.intro hX0 hY0)
  clear hX0 hX1 hY0 hY1
  go_enter Try.func3, Try.ntmps3
  go_wp2_with fail
  refine wp_region_in (fun w' => Keep2 w w' (sunCells X) (sunCells Y)) (by kernel_rfl) (by kernel_rfl) kp.out.drew ?_
  repeat (first | (refine wpQuiet_step (fun K hK => ?_); rw [if_pos (by rfl)]; refine quiet_load_all _ _ rfl _ rfl (sunCells X) _ (agg_laws) (sun_size HS.out.1) (fun w' hw' => hw'.row) ?_; go_simp; refine hK _ ?_; clear hK K) | (refine wpQuiet_step (fun K hK => ?_); rw [if_pos (by rfl)]; refine quiet_load_all _ _ rfl _ rfl (sunCells Y) _ (agg_laws) (sun_size HS.out.2) (fun w' hw' => hw'.row2) ?_; go_simp; refine hK _ ?_; clear hK K) | (refine wpQuiet_step (fun K hK => ?_); go_simp; first | (refine hK _ ?_; clear hK K) | (apply Exists.intro; refine ⟨fun w' hw' => ?_, hK _ ?_⟩; (first | rfl | exact ⟨rfl, rfl⟩ | ((first | (go_at_call 16; exact (to_sun _ (by first | exact HS.out.1 | exact HS.out.2) _).mono fun e w'' h => ⟨h.1, hw'.step h.2⟩) | (go_at_call 15; exact (same_sun_spec X Y HS.out.1 HS.out.2 _).mono fun e w'' h => ⟨h.1, hw'.step h.2⟩)))); clear hK K)))
  refine wpQuiet_nil ?_
  intro w1 j1
  replace kp := hidd j1
  clear j1
  go_wp2_with fail
  refine wp_region_in (fun w' => Keep2 w w' (sunCells X) (sunCells Y)) (by kernel_rfl) (by kernel_rfl) kp.out.drew ?_
  repeat (first | (refine wpQuiet_step (fun K hK => ?_); rw [if_pos (by rfl)]; refine quiet_load_all _ _ rfl _ rfl (sunCells X) _ (agg_laws) (sun_size HS.out.1) (fun w' hw' => hw'.row) ?_; go_simp; refine hK _ ?_; clear hK K) | (refine wpQuiet_step (fun K hK => ?_); rw [if_pos (by rfl)]; refine quiet_load_all _ _ rfl _ rfl (sunCells Y) _ (agg_laws) (sun_size HS.out.2) (fun w' hw' => hw'.row2) ?_; go_simp; refine hK _ ?_; clear hK K) | (refine wpQuiet_step (fun K hK => ?_); go_simp; first | (refine hK _ ?_; clear hK K) | (apply Exists.intro; refine ⟨fun w' hw' => ?_, hK _ ?_⟩; (first | rfl | exact ⟨rfl, rfl⟩ | ((first | (go_at_call 16; exact (to_sun _ (by first | exact HS.out.1 | exact HS.out.2) _).mono fun e w'' h => ⟨h.1, hw'.step h.2⟩) | (go_at_call 17; exact (same_sun_impl X Y HS.out.1 HS.out.2 _).mono fun e w'' h => ⟨h.1, hw'.step h.2⟩)))); clear hK K)))
  refine wpQuiet_nil ?_
  intro w2 j1
  replace kp := hidd j1
  clear j1
  go_wp2
  all_goals (go_ret; exact ⟨by simp, kp.out.below⟩)

set_option maxRecDepth 100000 in
theorem lifted_fnExactSameSun (os : Os) (started : os.Started) (H : Type) (enc : TypeId × Value → H) :
    ReturnsInHanded {} Try.checked os 3 .any (Rows.fnExactSameSunSpec.pre6 enc Try.prog Try.f3 Rows.fnExactSameSunRow.domain false) (Rows.fnExactSameSunSpec.post enc Try.prog Try.f3 false true false false) := by
  refine returnsInHanded_of_change (C := Try.checked) own started (by kernel_rfl) Try.func3
    (ChangeSpec.witness6 (enc := enc) (C := Try.checked) false ⟨#[], #[.agg (Array.replicate 48 (.int .i16 0)), .agg (Array.replicate 48 (.int .i16 0))], []⟩ 60 (by kernel_rfl) (by kernel_rfl) (by kernel_rfl) (by kernel_rfl)) ?_
  intro W base args ds gs before hval0 hW hcnd _
  have hval : ∀ (j : Nat) t v, Try.f3.params[j]? = some t → args[j]? = some v → Value.okWide Try.prog W .any base t v := hval0
  have hW' := hW
  obtain ⟨p, q, hA0, hV, rfl, hfz, hnd⟩ := hW
  have hA : DataW.TrodAll enc Try.prog W 0 (fun _ => true) true Try.f3.params.toList args.toList ds p := hA0
  rw [Try.params3] at hA hval
  obtain ⟨v0, vs0, d0, ds0, p0, q0, hargs, rfl, rfl, h0, r0⟩ := trodAll_cons hA
  obtain ⟨v1, vs1, d1, ds1, p1, q1, rfl, rfl, rfl, h1, r1⟩ := trodAll_cons r0
  obtain ⟨rfl, rfl, rfl⟩ := trodAll_nil r1
  obtain rfl : args = #[v0, v1] := by cases args; simp_all
  obtain ⟨rfl, rfl⟩ := trodVars_none hV
  have lt0 : ∀ x ∈ p0, x.block < W.heap.size := by obtain ⟨m, hm⟩ := h0; exact DataW.trod_lt m _ _ _ hm
  have lt1 : ∀ x ∈ p1, x.block < W.heap.size := by obtain ⟨m, hm⟩ := h1; exact DataW.trod_lt m _ _ _ hm
  obtain ⟨X, rfl, hX0, hX1⟩ := arg_sun (hval 0 25 v0 rfl rfl)
  obtain ⟨Y, rfl, hY0, hY1⟩ := arg_sun (hval 1 25 v1 rfl rfl)
  clear hA0 hval0
  refine (walk_fnExactSameSun W X hX0 hX1 Y hY0 hY1).mono fun e W' ⟨he, bel⟩ => ?_
  subst he
  exact ⟨_, rfl, _, _, _, [], _, [], hW', trodAll_mk1 (shut_bool Try.underlying4 _), (trodAll_cons_mk (Below.trod laidOut (by kernel_rfl) (of_decide_eq_true (by kernel_rfl)) h0 bel lt0) (trodAll_cons_mk (Below.trod laidOut (by kernel_rfl) (of_decide_eq_true (by kernel_rfl)) h1 bel lt1) trodAll_mk0)), rfl, bel.frame _, fun h => by cases h⟩

/-- THE STATEMENT. -/
theorem fnExactSameSun_holds : Rows.FnExactSameSunSaid :=
  OpenClaim.holds_of_wide 3 Try.f3 rfl rfl rfl rfl rfl rfl rfl ⟨rfl, rfl, rfl, rfl, rfl⟩ rfl rfl rfl rfl rfl (by kernel_rfl) Try.func3 (by kernel_rfl)
    (of_decide_eq_true (by kernel_rfl)) (by unfold Func.isWrapper; first | (rw [if_pos (by decide +kernel)]; kernel_rfl) | (rw [if_neg (by decide +kernel)]; exact ⟨rfl, rfl⟩))
    (fun os started H enc _ => lifted_fnExactSameSun os started H enc)
#print axioms fnExactSameSun_holds
end Go.Proofs.Ytjodamgdoodnkaa
