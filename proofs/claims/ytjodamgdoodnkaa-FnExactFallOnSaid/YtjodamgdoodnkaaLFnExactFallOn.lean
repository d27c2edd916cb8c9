/-
  'Rows.FnExactFallOnSaid': for every input the law 'FnExactFallOn' returns true and leaves its arguments as they were. No condition.
-/
import Derived.Test.YtjodamgdoodnkaaRo
import Derived.Test.YtjodamgdoodnkaaWv
namespace Go.Proofs.Ytjodamgdoodnkaa
open Go.ChangeShapes Go.WideShapes Go.ChangeAt Go.RowKit Go.Proofs.Fl Go.Proofs.Pl
set_option linter.unusedVariables false

theorem walk_fnExactFallOn (w : World) (S : List Int) (hS0 : S.length = 48) (hS1 : ∀ x ∈ S, -32768 ≤ x ∧ x ≤ 32767) (h : Int) (hh1 : -9223372036854775808 ≤ h) (hh2 : h ≤ 9223372036854775807) (f : Int) (hf1 : -9223372036854775808 ≤ f) (hf2 : f ≤ 9223372036854775807) :
    Calls Try.prog 10 #[.agg (sunCells S), .int .i64 h, .int .i64 f] w fun e w' => e = .returned (.bool true) ∧ Below w.heap.size w w' := by
  have f1 : Fnt (sunRes S (inR h 0 23 && inR f 0 255) 0 (fall S h.toNat f)).1 := res_fnt (by decide) fun hc => (unit_fin (fall_unit _ _ _)).1
  have kp := hidd (Keep1.start w (sunCells S) 25)
  have HS := hidd (And.intro hS0 hS1)
  clear hS0 hS1
  go_enter Try.func10, Try.ntmps10
  go_wp2_with (first | (refine wpList_load_all rfl _ _ rfl _ rfl (sunCells S) 48 agg_laws (sun_size HS.out.1) kp.out.row ?_) | (go_at_call 16; refine (to_sun S HS.out.1 _).mono ?_; rintro e wn ⟨rfl, hbn⟩; have kn := hidd (kp.out.step hbn); clear kp hbn; have kp := kn; clear kn) | (go_at_call 32; refine (fallOn_spec S HS.out.1 HS.out.2 _ _ _).mono ?_; rintro e wn ⟨rfl, hbn⟩; have kn := hidd (kp.out.step hbn); clear kp hbn; have kp := kn; clear kn) | (go_at_call 33; refine (fallOn_impl S HS.out.1 HS.out.2 _ _ _).mono ?_; rintro e wn ⟨rfl, hbn⟩; have kn := hidd (kp.out.step hbn); clear kp hbn; have kp := kn; clear kn) | (go_at_call 29; refine (sameFloat_same _ (widen_fin f1).2 _).mono ?_; rintro e w' ⟨rfl, rfl⟩))
  all_goals (go_ret; exact ⟨by simp, kp.out.below⟩)

set_option maxRecDepth 100000 in
theorem lifted_fnExactFallOn (os : Os) (started : os.Started) (H : Type) (enc : TypeId × Value → H) :
    ReturnsInHanded {} Try.checked os 10 .any (Rows.fnExactFallOnSpec.pre6 enc Try.prog Try.f10 Rows.fnExactFallOnRow.domain false) (Rows.fnExactFallOnSpec.post enc Try.prog Try.f10 false true false false) := by
  refine returnsInHanded_of_change (C := Try.checked) own started (by kernel_rfl) Try.func10
    (ChangeSpec.witness6 (enc := enc) (C := Try.checked) false ⟨#[], #[.agg (Array.replicate 48 (.int .i16 0)), .int .i64 0, .int .i64 0], []⟩ 60 (by kernel_rfl) (by kernel_rfl) (by kernel_rfl) (by kernel_rfl)) ?_
  intro W base args ds gs before hval0 hW hcnd _
  have hval : ∀ (j : Nat) t v, Try.f10.params[j]? = some t → args[j]? = some v → Value.okWide Try.prog W .any base t v := hval0
  have hW' := hW
  obtain ⟨p, q, hA0, hV, rfl, hfz, hnd⟩ := hW
  have hA : DataW.TrodAll enc Try.prog W 0 (fun _ => true) true Try.f10.params.toList args.toList ds p := hA0
  rw [Try.params10] at hA hval
  obtain ⟨v0, vs0, d0, ds0, p0, q0, hargs, rfl, rfl, h0, r0⟩ := trodAll_cons hA
  obtain ⟨v1, vs1, d1, ds1, p1, q1, rfl, rfl, rfl, h1, r1⟩ := trodAll_cons r0
  obtain ⟨v2, vs2, d2, ds2, p2, q2, rfl, rfl, rfl, h2, r2⟩ := trodAll_cons r1
  obtain ⟨rfl, rfl, rfl⟩ := trodAll_nil r2
  obtain rfl : args = #[v0, v1, v2] := by cases args; simp_all
  obtain ⟨rfl, rfl⟩ := trodVars_none hV
  have lt0 : ∀ x ∈ p0, x.block < W.heap.size := by obtain ⟨m, hm⟩ := h0; exact DataW.trod_lt m _ _ _ hm
  have lt1 : ∀ x ∈ p1, x.block < W.heap.size := by obtain ⟨m, hm⟩ := h1; exact DataW.trod_lt m _ _ _ hm
  have lt2 : ∀ x ∈ p2, x.block < W.heap.size := by obtain ⟨m, hm⟩ := h2; exact DataW.trod_lt m _ _ _ hm
  obtain ⟨S, rfl, hS0, hS1⟩ := arg_sun (hval 0 25 v0 rfl rfl)
  obtain ⟨h, rfl, hh1, hh2⟩ := arg_int Try.underlying2 (hval 1 2 v1 rfl rfl)
  obtain ⟨f, rfl, hf1, hf2⟩ := arg_int Try.underlying2 (hval 2 2 v2 rfl rfl)
  clear hA0 hval0
  refine (walk_fnExactFallOn W S hS0 hS1 h hh1 hh2 f hf1 hf2).mono fun e W' ⟨he, bel⟩ => ?_
  subst he
  exact ⟨_, rfl, _, _, _, [], _, [], hW', trodAll_mk1 (shut_bool Try.underlying4 _), (trodAll_cons_mk (Below.trod laidOut (by kernel_rfl) (of_decide_eq_true (by kernel_rfl)) h0 bel lt0) (trodAll_cons_mk (Below.trod laidOut (by kernel_rfl) (of_decide_eq_true (by kernel_rfl)) h1 bel lt1) (trodAll_cons_mk (Below.trod laidOut (by kernel_rfl) (of_decide_eq_true (by kernel_rfl)) h2 bel lt2) trodAll_mk0))), rfl, bel.frame _, fun h => by cases h⟩

/-- THE STATEMENT. -/
theorem fnExactFallOn_holds : Rows.FnExactFallOnSaid :=
  OpenClaim.holds_of_wide 10 Try.f10 rfl rfl rfl rfl rfl rfl rfl ⟨rfl, rfl, rfl, rfl, rfl⟩ rfl rfl rfl rfl rfl (by kernel_rfl) Try.func10 (by kernel_rfl)
    (of_decide_eq_true (by kernel_rfl)) (by unfold Func.isWrapper; first | (rw [if_pos (by decide +kernel)]; kernel_rfl) | (rw [if_neg (by decide +kernel)]; exact ⟨rfl, rfl⟩))
    (fun os started H enc _ => lifted_fnExactFallOn os started H enc)
#print axioms fnExactFallOn_holds
end Go.Proofs.Ytjodamgdoodnkaa
