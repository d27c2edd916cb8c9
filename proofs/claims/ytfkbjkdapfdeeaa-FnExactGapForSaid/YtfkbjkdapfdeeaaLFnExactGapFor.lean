/-
  'Rows.FnExactGapForSaid': for every input the law 'FnExactGapFor' returns true and leaves its arguments as they were. No condition.
-/
import Derived.Test.YtfkbjkdapfdeeaaRo
import Derived.Test.YtfkbjkdapfdeeaaWbg
namespace Go.Proofs.Ytfkbjkdapfdeeaa
open Go.ChangeShapes Go.WideShapes Go.ChangeAt Go.RowKit Go.Proofs.Fl Go.Proofs.Pl
set_option linter.unusedVariables false

theorem walk_fnExactGapFor (w : World) (Bn : Int) (Bw Bg : Nat) (Bt : Int) (Bs : Nat) (hB0 : -128 ≤ Bn) (hB1 : Bn ≤ 127) (hB2 : Bw < 4294967296) (hB3 : Bg < 4294967296) (hB4 : -32768 ≤ Bt) (hB5 : Bt ≤ 32767) (hB6 : Bs < 4294967296) (h : Int) (hh1 : -9223372036854775808 ≤ h) (hh2 : h ≤ 9223372036854775807) (wanted : Nat) (hwanted : wanted < 4294967296) :
    Calls Try.prog 11 #[.agg #[.int .i8 Bn, .float .f32 Bw, .float .f32 Bg, .int .i16 Bt, .float .f32 Bs], .int .i64 h, .float .f32 wanted] w fun e w' => e = .returned (.bool true) ∧ Below w.heap.size w w' := by
  have f1 : Fnt (gapAns (code2 (blindOk Bn Bw Bg Bt Bs) (inR h 1 64 && isPart wanted)) Bw Bt h wanted).1 := ga_fnt _ _ _ _ _
  have kp := hidd (Keep1.start w (blindCells Bn Bw Bg Bt Bs) 26)
  go_enter Try.func11, Try.ntmps11
  go_wp2_with (first | (refine wpList_load_all rfl _ _ rfl _ rfl (blindCells Bn Bw Bg Bt Bs) 5 agg_lblind rfl kp.out.row ?_) | (go_at_call 18; refine (to_blind Bn Bw Bg Bt Bs _).mono ?_; rintro e wn ⟨rfl, hbn⟩; have kn := hidd (kp.out.step hbn); clear kp hbn; have kp := kn; clear kn) | (go_at_call 42; refine (gapFor_spec Bn Bw Bg Bt Bs hB0 hB1 hB4 hB5 _ _ _).mono ?_; rintro e wn ⟨rfl, hbn⟩; have kn := hidd (kp.out.step hbn); clear kp hbn; have kp := kn; clear kn) | (go_at_call 43; refine (gapFor_impl Bn Bw Bg Bt Bs hB0 hB1 hB4 hB5 _ _ _).mono ?_; rintro e wn ⟨rfl, hbn⟩; have kn := hidd (kp.out.step hbn); clear kp hbn; have kp := kn; clear kn) | (go_at_call 27; refine (sameFloat_same _ (widen_fin f1).2 _).mono ?_; rintro e w' ⟨rfl, rfl⟩))
  all_goals (go_ret; exact ⟨by simp, kp.out.below⟩)

set_option maxRecDepth 100000 in
theorem lifted_fnExactGapFor (os : Os) (started : os.Started) (H : Type) (enc : TypeId × Value → H) :
    ReturnsInHanded {} Try.checked os 11 .any (Rows.fnExactGapForSpec.pre6 enc Try.prog Try.f11 Rows.fnExactGapForRow.domain false) (Rows.fnExactGapForSpec.post enc Try.prog Try.f11 false true false false) := by
  refine returnsInHanded_of_change (C := Try.checked) own started (by kernel_rfl) Try.func11
    (ChangeSpec.witness6 (enc := enc) (C := Try.checked) false ⟨#[], #[.agg #[.int .i8 0, .float .f32 0, .float .f32 0, .int .i16 0, .float .f32 0], .int .i64 0, .float .f32 0], []⟩ 60 (by kernel_rfl) (by kernel_rfl) (by kernel_rfl) (by kernel_rfl)) ?_
  intro W base args ds gs before hval0 hW hcnd _
  have hval : ∀ (j : Nat) t v, Try.f11.params[j]? = some t → args[j]? = some v → Value.okWide Try.prog W .any base t v := hval0
  have hW' := hW
  obtain ⟨p, q, hA0, hV, rfl, hfz, hnd⟩ := hW
  have hA : DataW.TrodAll enc Try.prog W 0 (fun _ => true) true Try.f11.params.toList args.toList ds p := hA0
  rw [Try.params11] at hA hval
  obtain ⟨v0, vs0, d0, ds0, p0, q0, hargs, rfl, rfl, h0, r0⟩ := trodAll_cons hA
  obtain ⟨v1, vs1, d1, ds1, p1, q1, rfl, rfl, rfl, h1, r1⟩ := trodAll_cons r0
  obtain ⟨v2, vs2, d2, ds2, p2, q2, rfl, rfl, rfl, h2, r2⟩ := trodAll_cons r1
  obtain ⟨rfl, rfl, rfl⟩ := trodAll_nil r2
  obtain rfl : args = #[v0, v1, v2] := by cases args; simp_all
  obtain ⟨rfl, rfl⟩ := trodVars_none hV
  have lt0 : ∀ x ∈ p0, x.block < W.heap.size := by obtain ⟨m, hm⟩ := h0; exact DataW.trod_lt m _ _ _ hm
  have lt1 : ∀ x ∈ p1, x.block < W.heap.size := by obtain ⟨m, hm⟩ := h1; exact DataW.trod_lt m _ _ _ hm
  have lt2 : ∀ x ∈ p2, x.block < W.heap.size := by obtain ⟨m, hm⟩ := h2; exact DataW.trod_lt m _ _ _ hm
  obtain ⟨Bn, Bw, Bg, Bt, Bs, rfl, hB0, hB1, hB2, hB3, hB4, hB5, hB6⟩ := arg_blind (hval 0 26 v0 rfl rfl)
  obtain ⟨h, rfl, hh1, hh2⟩ := arg_int Try.underlying2 (hval 1 2 v1 rfl rfl)
  obtain ⟨wanted, rfl, hwanted⟩ := arg_float Try.underlying23 (hval 2 23 v2 rfl rfl)
  clear hA0 hval0
  refine (walk_fnExactGapFor W Bn Bw Bg Bt Bs hB0 hB1 hB2 hB3 hB4 hB5 hB6 h hh1 hh2 wanted hwanted).mono fun e W' ⟨he, bel⟩ => ?_
  subst he
  exact ⟨_, rfl, _, _, _, [], _, [], hW', trodAll_mk1 (shut_bool Try.underlying4 _), (trodAll_cons_mk (Below.trod laidOut (by kernel_rfl) (of_decide_eq_true (by kernel_rfl)) h0 bel lt0) (trodAll_cons_mk (Below.trod laidOut (by kernel_rfl) (of_decide_eq_true (by kernel_rfl)) h1 bel lt1) (trodAll_cons_mk (Below.trod laidOut (by kernel_rfl) (of_decide_eq_true (by kernel_rfl)) h2 bel lt2) trodAll_mk0))), rfl, bel.frame _, fun h => by cases h⟩

/-- THE STATEMENT. -/
theorem fnExactGapFor_holds : Rows.FnExactGapForSaid :=
  OpenClaim.holds_of_wide 11 Try.f11 rfl rfl rfl rfl rfl rfl rfl ⟨rfl, rfl, rfl, rfl, rfl⟩ rfl rfl rfl rfl rfl (by kernel_rfl) Try.func11 (by kernel_rfl)
    (of_decide_eq_true (by kernel_rfl)) (by unfold Func.isWrapper; first | (rw [if_pos (by decide +kernel)]; kernel_rfl) | (rw [if_neg (by decide +kernel)]; exact ⟨rfl, rfl⟩))
    (fun os started H enc _ => lifted_fnExactGapFor os started H enc)
#print axioms fnExactGapFor_holds
end Go.Proofs.Ytfkbjkdapfdeeaa
