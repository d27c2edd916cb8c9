/-
  'Rows.FnExactBestHourSaid': for every input the law 'FnExactBestHour' returns true and leaves its arguments as they were. No condition.
-/
import Derived.Test.YtjodamgdoodnkaaRo
import Derived.Test.YtjodamgdoodnkaaWx
namespace Go.Proofs.Ytjodamgdoodnkaa
open Go.ChangeShapes Go.WideShapes Go.ChangeAt Go.RowKit Go.Proofs.Fl Go.Proofs.Pl
set_option linter.unusedVariables false

theorem walk_fnExactBestHour (w : World) (S : List Int) (hS0 : S.length = 48) (hS1 : ∀ x ∈ S, -32768 ≤ x ∧ x ≤ 32767) (f : Int) (hf1 : -9223372036854775808 ≤ f) (hf2 : f ≤ 9223372036854775807) :
    Calls Try.prog 12 #[.agg (sunCells S), .int .i64 f] w fun e w' => e = .returned (.bool true) ∧ Below w.heap.size w w' := by
  have f1 : Fnt (sunRes S (inR f 0 255) (0, 0) (bestOf (fun k => fall S k f) 23)).1.2 := by
    unfold sunRes; split
    · exact best_all (P := Fnt) _ fun i _ => (unit_fin (fall_unit S i f)).1
    · show Fnt 0; decide
  have kp := hidd (Keep1.start w (sunCells S) 25)
  have HS := hidd (And.intro hS0 hS1)
  clear hS0 hS1
  go_enter Try.func12, Try.ntmps12
  go_wp2_with (first | (refine wpList_load_all rfl _ _ rfl _ rfl (sunCells S) 48 agg_laws (sun_size HS.out.1) kp.out.row ?_) | (go_at_call 16; refine (to_sun S HS.out.1 _).mono ?_; rintro e wn ⟨rfl, hbn⟩; have kn := hidd (kp.out.step hbn); clear kp hbn; have kp := kn; clear kn) | (go_at_call 36; refine (bestHour_spec S HS.out.1 HS.out.2 _ _).mono ?_; rintro e wn ⟨rfl, hbn⟩; have kn := hidd (kp.out.step hbn); clear kp hbn; have kp := kn; clear kn) | (go_at_call 37; refine (bestHour_impl S HS.out.1 HS.out.2 _ _).mono ?_; rintro e wn ⟨rfl, hbn⟩; have kn := hidd (kp.out.step hbn); clear kp hbn; have kp := kn; clear kn) | (go_at_call 29; refine (sameFloat_same _ (widen_fin f1).2 _).mono ?_; rintro e w' ⟨rfl, rfl⟩))
  all_goals (go_ret; exact ⟨by simp, kp.out.below⟩)

set_option maxRecDepth 100000 in
theorem lifted_fnExactBestHour (os : Os) (started : os.Started) (H : Type) (enc : TypeId × Value → H) :
    ReturnsInHanded {} Try.checked os 12 .any (Rows.fnExactBestHourSpec.pre6 enc Try.prog Try.f12 Rows.fnExactBestHourRow.domain false) (Rows.fnExactBestHourSpec.post enc Try.prog Try.f12 false true false false) := by
  refine returnsInHanded_of_change (C := Try.checked) own started (by kernel_rfl) Try.func12
    (ChangeSpec.witness6 (enc := enc) (C := Try.checked) false ⟨#[], #[.agg (Array.replicate 48 (.int .i16 0)), .int .i64 0], []⟩ 60 (by kernel_rfl) (by kernel_rfl) (by kernel_rfl) (by kernel_rfl)) ?_
  intro W base args ds gs before hval0 hW hcnd _
  have hval : ∀ (j : Nat) t v, Try.f12.params[j]? = some t → args[j]? = some v → Value.okWide Try.prog W .any base t v := hval0
  have hW' := hW
  obtain ⟨p, q, hA0, hV, rfl, hfz, hnd⟩ := hW
  have hA : DataW.TrodAll enc Try.prog W 0 (fun _ => true) true Try.f12.params.toList args.toList ds p := hA0
  rw [Try.params12] at hA hval
  obtain ⟨v0, vs0, d0, ds0, p0, q0, hargs, rfl, rfl, h0, r0⟩ := trodAll_cons hA
  obtain ⟨v1, vs1, d1, ds1, p1, q1, rfl, rfl, rfl, h1, r1⟩ := trodAll_cons r0
  obtain ⟨rfl, rfl, rfl⟩ := trodAll_nil r1
  obtain rfl : args = #[v0, v1] := by cases args; simp_all
  obtain ⟨rfl, rfl⟩ := trodVars_none hV
  have lt0 : ∀ x ∈ p0, x.block < W.heap.size := by obtain ⟨m, hm⟩ := h0; exact DataW.trod_lt m _ _ _ hm
  have lt1 : ∀ x ∈ p1, x.block < W.heap.size := by obtain ⟨m, hm⟩ := h1; exact DataW.trod_lt m _ _ _ hm
  obtain ⟨S, rfl, hS0, hS1⟩ := arg_sun (hval 0 25 v0 rfl rfl)
  obtain ⟨f, rfl, hf1, hf2⟩ := arg_int Try.underlying2 (hval 1 2 v1 rfl rfl)
  clear hA0 hval0
  refine (walk_fnExactBestHour W S hS0 hS1 f hf1 hf2).mono fun e W' ⟨he, bel⟩ => ?_
  subst he
  exact ⟨_, rfl, _, _, _, [], _, [], hW', trodAll_mk1 (shut_bool Try.underlying4 _), (trodAll_cons_mk (Below.trod laidOut (by kernel_rfl) (of_decide_eq_true (by kernel_rfl)) h0 bel lt0) (trodAll_cons_mk (Below.trod laidOut (by kernel_rfl) (of_decide_eq_true (by kernel_rfl)) h1 bel lt1) trodAll_mk0)), rfl, bel.frame _, fun h => by cases h⟩

/-- THE STATEMENT. -/
theorem fnExactBestHour_holds : Rows.FnExactBestHourSaid :=
  OpenClaim.holds_of_wide 12 Try.f12 rfl rfl rfl rfl rfl rfl rfl ⟨rfl, rfl, rfl, rfl, rfl⟩ rfl rfl rfl rfl rfl (by kernel_rfl) Try.func12 (by kernel_rfl)
    (of_decide_eq_true (by kernel_rfl)) (by unfold Func.isWrapper; first | (rw [if_pos (by decide +kernel)]; kernel_rfl) | (rw [if_neg (by decide +kernel)]; exact ⟨rfl, rfl⟩))
    (fun os started H enc _ => lifted_fnExactBestHour os started H enc)
#print axioms fnExactBestHour_holds
end Go.Proofs.Ytjodamgdoodnkaa
