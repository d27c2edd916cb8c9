/-
  'Rows.FnExactSameBlindSaid': for every input the law 'FnExactSameBlind' returns true and leaves its arguments as they were. No condition.
-/
import Derived.Test.YtfkbjkdapfdeeaaRo
import Derived.Test.YtfkbjkdapfdeeaaWbc
namespace Go.Proofs.Ytfkbjkdapfdeeaa
open Go.ChangeShapes Go.WideShapes Go.ChangeAt Go.RowKit Go.Proofs.Fl Go.Proofs.Pl
set_option linter.unusedVariables false

theorem walk_fnExactSameBlind (w : World) (Xn : Int) (Xw Xg : Nat) (Xt : Int) (Xs : Nat) (hX0 : -128 ≤ Xn) (hX1 : Xn ≤ 127) (hX2 : Xw < 4294967296) (hX3 : Xg < 4294967296) (hX4 : -32768 ≤ Xt) (hX5 : Xt ≤ 32767) (hX6 : Xs < 4294967296) (Yn : Int) (Yw Yg : Nat) (Yt : Int) (Ys : Nat) (hY0 : -128 ≤ Yn) (hY1 : Yn ≤ 127) (hY2 : Yw < 4294967296) (hY3 : Yg < 4294967296) (hY4 : -32768 ≤ Yt) (hY5 : Yt ≤ 32767) (hY6 : Ys < 4294967296) :
    Calls Try.prog 3 #[.agg #[.int .i8 Xn, .float .f32 Xw, .float .f32 Xg, .int .i16 Xt, .float .f32 Xs], .agg #[.int .i8 Yn, .float .f32 Yw, .float .f32 Yg, .int .i16 Yt, .float .f32 Ys]] w fun e w' => e = .returned (.bool true) ∧ Below w.heap.size w w' := by
  have kp := hidd (Keep2.start w (blindCells Xn Xw Xg Xt Xs) (blindCells Yn Yw Yg Yt Ys) 26 26)
  go_enter Try.func3, Try.ntmps3
  go_wp2_with fail
  refine wp_region_in (fun w' => Keep2 w w' (blindCells Xn Xw Xg Xt Xs) (blindCells Yn Yw Yg Yt Ys)) (by kernel_rfl) (by kernel_rfl) kp.out.drew ?_
  repeat (first | (refine wpQuiet_step (fun K hK => ?_); rw [if_pos (by rfl)]; refine quiet_load_all _ _ rfl _ rfl (blindCells Xn Xw Xg Xt Xs) _ (agg_lblind) (rfl) (fun w' hw' => hw'.row) ?_; go_simp; refine hK _ ?_; clear hK K) | (refine wpQuiet_step (fun K hK => ?_); rw [if_pos (by rfl)]; refine quiet_load_all _ _ rfl _ rfl (blindCells Yn Yw Yg Yt Ys) _ (agg_lblind) (rfl) (fun w' hw' => hw'.row2) ?_; go_simp; refine hK _ ?_; clear hK K) | (refine wpQuiet_step (fun K hK => ?_); go_simp; first | (refine hK _ ?_; clear hK K) | (apply Exists.intro; refine ⟨fun w' hw' => ?_, hK _ ?_⟩; (first | rfl | exact ⟨rfl, rfl⟩ | ((first | (go_at_call 18; exact (to_blind _ _ _ _ _ _).mono fun e w'' h => ⟨h.1, hw'.step h.2⟩) | (go_at_call 17; exact (same_blind_spec _ _ _ _ _ _ _ _ _ _ _).mono fun e w'' h => ⟨h.1, hw'.step h.2⟩)))); clear hK K)))
  refine wpQuiet_nil ?_
  intro w1 j1
  replace kp := hidd j1
  clear j1
  go_wp2_with fail
  refine wp_region_in (fun w' => Keep2 w w' (blindCells Xn Xw Xg Xt Xs) (blindCells Yn Yw Yg Yt Ys)) (by kernel_rfl) (by kernel_rfl) kp.out.drew ?_
  repeat (first | (refine wpQuiet_step (fun K hK => ?_); rw [if_pos (by rfl)]; refine quiet_load_all _ _ rfl _ rfl (blindCells Xn Xw Xg Xt Xs) _ (agg_lblind) (rfl) (fun w' hw' => hw'.row) ?_; go_simp; refine hK _ ?_; clear hK K) | (refine wpQuiet_step (fun K hK => ?_); rw [if_pos (by rfl)]; refine quiet_load_all _ _ rfl _ rfl (blindCells Yn Yw Yg Yt Ys) _ (agg_lblind) (rfl) (fun w' hw' => hw'.row2) ?_; go_simp; refine hK _ ?_; clear hK K) | (refine wpQuiet_step (fun K hK => ?_); go_simp; first | (refine hK _ ?_; clear hK K) | (apply Exists.intro; refine ⟨fun w' hw' => ?_, hK _ ?_⟩; (first | rfl | exact ⟨rfl, rfl⟩ | ((first | (go_at_call 18; exact (to_blind _ _ _ _ _ _).mono fun e w'' h => ⟨h.1, hw'.step h.2⟩) | (go_at_call 19; exact (same_blind_impl _ _ _ _ _ _ _ _ _ _ _).mono fun e w'' h => ⟨h.1, hw'.step h.2⟩)))); clear hK K)))
  refine wpQuiet_nil ?_
  intro w2 j1
  replace kp := hidd j1
  clear j1
  go_wp2
  all_goals (go_ret; exact ⟨by simp, kp.out.below⟩)

set_option maxRecDepth 100000 in
theorem lifted_fnExactSameBlind (os : Os) (started : os.Started) (H : Type) (enc : TypeId × Value → H) :
    ReturnsInHanded {} Try.checked os 3 .any (Rows.fnExactSameBlindSpec.pre6 enc Try.prog Try.f3 Rows.fnExactSameBlindRow.domain false) (Rows.fnExactSameBlindSpec.post enc Try.prog Try.f3 false true false false) := by
  refine returnsInHanded_of_change (C := Try.checked) own started (by kernel_rfl) Try.func3
    (ChangeSpec.witness6 (enc := enc) (C := Try.checked) false ⟨#[], #[.agg #[.int .i8 0, .float .f32 0, .float .f32 0, .int .i16 0, .float .f32 0], .agg #[.int .i8 0, .float .f32 0, .float .f32 0, .int .i16 0, .float .f32 0]], []⟩ 60 (by kernel_rfl) (by kernel_rfl) (by kernel_rfl) (by kernel_rfl)) ?_
  intro W base args ds gs before hval0 hW hcnd _
  have hval : ∀ (j : Nat) t v, Try.f3.params[j]? = some t → args[j]? = some v → Value.okWide Try.prog W .any base t v := hval0
  have hW' := hW
  obtain ⟨p, q, hA0, hV, rfl, hfz, hnd⟩ := hW
  have hA : DataW.TrodAll enc Try.prog W 0 (fun _ => true) true Try.f3.params.toList args.toList ds p := hA0
  rw [Try.params3] at hA hval
  obtain ⟨v0, vs0, d0, ds0, p0, q0, hargs, rfl, rfl, h0, r0⟩ := trodAll_cons hA
  obtain ⟨v1, vs1, d1, ds1, p1, q1, rfl, rfl, rfl, h1, r1⟩ := trodAll_cons r0
  obtain ⟨rfl, rfl, rfl⟩ := trodAll_nil r1
  obtain rfl : args = #[v0, v1] := by cases args; simp_all
  obtain ⟨rfl, rfl⟩ := trodVars_none hV
  have lt0 : ∀ x ∈ p0, x.block < W.heap.size := by obtain ⟨m, hm⟩ := h0; exact DataW.trod_lt m _ _ _ hm
  have lt1 : ∀ x ∈ p1, x.block < W.heap.size := by obtain ⟨m, hm⟩ := h1; exact DataW.trod_lt m _ _ _ hm
  obtain ⟨Xn, Xw, Xg, Xt, Xs, rfl, hX0, hX1, hX2, hX3, hX4, hX5, hX6⟩ := arg_blind (hval 0 26 v0 rfl rfl)
  obtain ⟨Yn, Yw, Yg, Yt, Ys, rfl, hY0, hY1, hY2, hY3, hY4, hY5, hY6⟩ := arg_blind (hval 1 26 v1 rfl rfl)
  clear hA0 hval0
  refine (walk_fnExactSameBlind W Xn Xw Xg Xt Xs hX0 hX1 hX2 hX3 hX4 hX5 hX6 Yn Yw Yg Yt Ys hY0 hY1 hY2 hY3 hY4 hY5 hY6).mono fun e W' ⟨he, bel⟩ => ?_
  subst he
  exact ⟨_, rfl, _, _, _, [], _, [], hW', trodAll_mk1 (shut_bool Try.underlying4 _), (trodAll_cons_mk (Below.trod laidOut (by kernel_rfl) (of_decide_eq_true (by kernel_rfl)) h0 bel lt0) (trodAll_cons_mk (Below.trod laidOut (by kernel_rfl) (of_decide_eq_true (by kernel_rfl)) h1 bel lt1) trodAll_mk0)), rfl, bel.frame _, fun h => by cases h⟩

/-- THE STATEMENT. -/
theorem fnExactSameBlind_holds : Rows.FnExactSameBlindSaid :=
  OpenClaim.holds_of_wide 3 Try.f3 rfl rfl rfl rfl rfl rfl rfl ⟨rfl, rfl, rfl, rfl, rfl⟩ rfl rfl rfl rfl rfl (by kernel_rfl) Try.func3 (by kernel_rfl)
    (of_decide_eq_true (by kernel_rfl)) (by unfold Func.isWrapper; first | (rw [if_pos (by decide +kernel)]; kernel_rfl) | (rw [if_neg (by decide +kernel)]; exact ⟨rfl, rfl⟩))
    (fun os started H enc _ => lifted_fnExactSameBlind os started H enc)
#print axioms fnExactSameBlind_holds
end Go.Proofs.Ytfkbjkdapfdeeaa
