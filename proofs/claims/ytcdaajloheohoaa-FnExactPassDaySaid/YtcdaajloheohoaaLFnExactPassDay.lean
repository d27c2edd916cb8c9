/-
  'Rows.FnExactPassDaySaid': for every input the law 'FnExactPassDay' returns true and leaves its arguments as they were. No condition.
-/
import Derived.Test.YtcdaajloheohoaaRo
import Derived.Test.YtcdaajloheohoaaWq
namespace Go.Proofs.Ytcdaajloheohoaa
open Go.ChangeShapes Go.WideShapes Go.ChangeAt Go.RowKit Go.Proofs.Fl Go.Proofs.Pl
set_option linter.unusedVariables false

theorem walk_fnExactPassDay (w : World) (Bn : Int) (Bw Bg : Nat) (Bt : Int) (Bs : Nat) (hB0 : -128 ≤ Bn) (hB1 : Bn ≤ 127) (hB2 : Bw < 4294967296) (hB3 : Bg < 4294967296) (hB4 : -32768 ≤ Bt) (hB5 : Bt ≤ 32767) (hB6 : Bs < 4294967296) (S : List Int) (hS0 : S.length = 48) (hS1 : ∀ x ∈ S, -32768 ≤ x ∧ x ≤ 32767) (f : Int) (hf1 : -9223372036854775808 ≤ f) (hf2 : f ≤ 9223372036854775807) :
    Calls Try.prog 4 #[.agg #[.int .i8 Bn, .float .f32 Bw, .float .f32 Bg, .int .i16 Bt, .float .f32 Bs], .agg (sunCells S), .int .i64 f] w fun e w' => e = .returned (.bool true) ∧ Below w.heap.size w w' := by
  have f1 : Fnt (codeRes (code2 (blindOk Bn Bw Bg Bt Bs && sunOk S) (inR f 0 255)) 0 (dayPass S f Bw Bg Bt Bs)).1 := cr_fnt (by decide) fun hc => by
    obtain ⟨ho, hz, hp⟩ := both_of hc
    obtain ⟨_, c2, c3, _, c6⟩ := blindOk_of ho
    exact dayPass_fin c2 c3 c6 hz
  have kp := hidd (Keep2.start w (blindCells Bn Bw Bg Bt Bs) (sunCells S) 26 29)
  have HS := hidd (And.intro hS0 hS1)
  clear hS0 hS1
  go_enter Try.func4, Try.ntmps4
  go_wp2_with fail
  refine wp_region_in (fun w' => Keep2 w w' (blindCells Bn Bw Bg Bt Bs) (sunCells S)) (by kernel_rfl) (by kernel_rfl) kp.out.drew ?_
  repeat (first | (refine wpQuiet_step (fun K hK => ?_); rw [if_pos (by rfl)]; refine quiet_load_all _ _ rfl _ rfl (blindCells Bn Bw Bg Bt Bs) _ (agg_lblind) (rfl) (fun w' hw' => hw'.row) ?_; go_simp; refine hK _ ?_; clear hK K) | (refine wpQuiet_step (fun K hK => ?_); rw [if_pos (by rfl)]; refine quiet_load_all _ _ rfl _ rfl (sunCells S) _ (agg_laws) (sun_size HS.out.1) (fun w' hw' => hw'.row2) ?_; go_simp; refine hK _ ?_; clear hK K) | (refine wpQuiet_step (fun K hK => ?_); go_simp; first | (refine hK _ ?_; clear hK K) | (apply Exists.intro; refine ⟨fun w' hw' => ?_, hK _ ?_⟩; (first | rfl | exact ⟨rfl, rfl⟩ | ((first | (go_at_call 6; exact (to_blind Bn Bw Bg Bt Bs _).mono fun e w'' h => ⟨h.1, hw'.step h.2⟩) | (go_at_call 7; exact (to_sun S HS.out.1 _).mono fun e w'' h => ⟨h.1, hw'.step h.2⟩) | (go_at_call 10; exact (passDay_spec Bn Bw Bg Bt Bs hB0 hB1 hB4 hB5 S HS.out.1 HS.out.2 _ _).mono fun e w'' h => ⟨h.1, hw'.step h.2⟩)))); clear hK K)))
  refine wpQuiet_nil ?_
  intro w1 j1
  replace kp := hidd j1
  clear j1
  go_wp2_with fail
  refine wp_region_in (fun w' => Keep2 w w' (blindCells Bn Bw Bg Bt Bs) (sunCells S)) (by kernel_rfl) (by kernel_rfl) kp.out.drew ?_
  repeat (first | (refine wpQuiet_step (fun K hK => ?_); rw [if_pos (by rfl)]; refine quiet_load_all _ _ rfl _ rfl (blindCells Bn Bw Bg Bt Bs) _ (agg_lblind) (rfl) (fun w' hw' => hw'.row) ?_; go_simp; refine hK _ ?_; clear hK K) | (refine wpQuiet_step (fun K hK => ?_); rw [if_pos (by rfl)]; refine quiet_load_all _ _ rfl _ rfl (sunCells S) _ (agg_laws) (sun_size HS.out.1) (fun w' hw' => hw'.row2) ?_; go_simp; refine hK _ ?_; clear hK K) | (refine wpQuiet_step (fun K hK => ?_); go_simp; first | (refine hK _ ?_; clear hK K) | (apply Exists.intro; refine ⟨fun w' hw' => ?_, hK _ ?_⟩; (first | rfl | exact ⟨rfl, rfl⟩ | ((first | (go_at_call 6; exact (to_blind Bn Bw Bg Bt Bs _).mono fun e w'' h => ⟨h.1, hw'.step h.2⟩) | (go_at_call 7; exact (to_sun S HS.out.1 _).mono fun e w'' h => ⟨h.1, hw'.step h.2⟩) | (go_at_call 11; exact (passDay_impl Bn Bw Bg Bt Bs hB0 hB1 hB4 hB5 S HS.out.1 HS.out.2 _ _).mono fun e w'' h => ⟨h.1, hw'.step h.2⟩)))); clear hK K)))
  refine wpQuiet_nil ?_
  intro w2 j1
  replace kp := hidd j1
  clear j1
  go_wp2_with (first | (go_at_call 9; refine (sameFloat_same _ (widen_fin f1).2 _).mono ?_; rintro e w' ⟨rfl, rfl⟩))
  all_goals (go_ret; exact ⟨by simp, kp.out.below⟩)

set_option maxRecDepth 100000 in
theorem lifted_fnExactPassDay (os : Os) (started : os.Started) (H : Type) (enc : TypeId × Value → H) :
    ReturnsInHanded {} Try.checked os 4 .any (Rows.fnExactPassDaySpec.pre6 enc Try.prog Try.f4 Rows.fnExactPassDayRow.domain false) (Rows.fnExactPassDaySpec.post enc Try.prog Try.f4 false true false false) := by
  refine returnsInHanded_of_change (C := Try.checked) own started (by kernel_rfl) Try.func4
    (ChangeSpec.witness6 (enc := enc) (C := Try.checked) false ⟨#[], #[.agg #[.int .i8 0, .float .f32 0, .float .f32 0, .int .i16 0, .float .f32 0], .agg (Array.replicate 48 (.int .i16 0)), .int .i64 0], []⟩ 60 (by kernel_rfl) (by kernel_rfl) (by kernel_rfl) (by kernel_rfl)) ?_
  intro W base args ds gs before hval0 hW hcnd _
  have hval : ∀ (j : Nat) t v, Try.f4.params[j]? = some t → args[j]? = some v → Value.okWide Try.prog W .any base t v := hval0
  have hW' := hW
  obtain ⟨p, q, hA0, hV, rfl, hfz, hnd⟩ := hW
  have hA : DataW.TrodAll enc Try.prog W 0 (fun _ => true) true Try.f4.params.toList args.toList ds p := hA0
  rw [Try.params4] at hA hval
  obtain ⟨v0, vs0, d0, ds0, p0, q0, hargs, rfl, rfl, h0, r0⟩ := trodAll_cons hA
  obtain ⟨v1, vs1, d1, ds1, p1, q1, rfl, rfl, rfl, h1, r1⟩ := trodAll_cons r0
  obtain ⟨v2, vs2, d2, ds2, p2, q2, rfl, rfl, rfl, h2, r2⟩ := trodAll_cons r1
  obtain ⟨rfl, rfl, rfl⟩ := trodAll_nil r2
  obtain rfl : args = #[v0, v1, v2] := by cases args; simp_all
  obtain ⟨rfl, rfl⟩ := trodVars_none hV
  have lt0 : ∀ x ∈ p0, x.block < W.heap.size := by obtain ⟨m, hm⟩ := h0; exact DataW.trod_lt m _ _ _ hm
  have lt1 : ∀ x ∈ p1, x.block < W.heap.size := by obtain ⟨m, hm⟩ := h1; exact DataW.trod_lt m _ _ _ hm
  have lt2 : ∀ x ∈ p2, x.block < W.heap.size := by obtain ⟨m, hm⟩ := h2; exact DataW.trod_lt m _ _ _ hm
  obtain ⟨Bn, Bw, Bg, Bt, Bs, rfl, hB0, hB1, hB2, hB3, hB4, hB5, hB6⟩ := arg_blind (hval 0 26 v0 rfl rfl)
  obtain ⟨S, rfl, hS0, hS1⟩ := arg_sun (hval 1 29 v1 rfl rfl)
  obtain ⟨f, rfl, hf1, hf2⟩ := arg_int Try.underlying2 (hval 2 2 v2 rfl rfl)
  clear hA0 hval0
  refine (walk_fnExactPassDay W Bn Bw Bg Bt Bs hB0 hB1 hB2 hB3 hB4 hB5 hB6 S hS0 hS1 f hf1 hf2).mono fun e W' ⟨he, bel⟩ => ?_
  subst he
  exact ⟨_, rfl, _, _, _, [], _, [], hW', trodAll_mk1 (shut_bool Try.underlying4 _), (trodAll_cons_mk (Below.trod laidOut (by kernel_rfl) (of_decide_eq_true (by kernel_rfl)) h0 bel lt0) (trodAll_cons_mk (Below.trod laidOut (by kernel_rfl) (of_decide_eq_true (by kernel_rfl)) h1 bel lt1) (trodAll_cons_mk (Below.trod laidOut (by kernel_rfl) (of_decide_eq_true (by kernel_rfl)) h2 bel lt2) trodAll_mk0))), rfl, bel.frame _, fun h => by cases h⟩

/-- THE STATEMENT. -/
theorem fnExactPassDay_holds : Rows.FnExactPassDaySaid :=
  OpenClaim.holds_of_wide 4 Try.f4 rfl rfl rfl rfl rfl rfl rfl ⟨rfl, rfl, rfl, rfl, rfl⟩ rfl rfl rfl rfl rfl (by kernel_rfl) Try.func4 (by kernel_rfl)
    (of_decide_eq_true (by kernel_rfl)) (by unfold Func.isWrapper; first | (rw [if_pos (by decide +kernel)]; kernel_rfl) | (rw [if_neg (by decide +kernel)]; exact ⟨rfl, rfl⟩))
    (fun os started H enc _ => lifted_fnExactPassDay os started H enc)
#print axioms fnExactPassDay_holds
end Go.Proofs.Ytcdaajloheohoaa
