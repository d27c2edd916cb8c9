/-
  'Rows.FnExactSunHoursSaid': for every input the law 'FnExactSunHours' returns true and leaves its arguments as they were. No condition.
-/
import Derived.Test.YtjodamgdoodnkaaRo
import Derived.Test.YtjodamgdoodnkaaWsh
namespace Go.Proofs.Ytjodamgdoodnkaa
open Go.ChangeShapes Go.WideShapes Go.ChangeAt Go.RowKit Go.Proofs.Fl Go.Proofs.Pl
set_option linter.unusedVariables false

set_option maxHeartbeats 1000000 in
theorem walk_fnExactSunHours (w : World) (S : List Int) (hS0 : S.length = 48) (hS1 : ∀ x ∈ S, -32768 ≤ x ∧ x ≤ 32767) (f : Int) (hf1 : -9223372036854775808 ≤ f) (hf2 : f ≤ 9223372036854775807) (least : Nat) (hleast : least < 4294967296) :
    Calls Try.prog 14 #[.agg (sunCells S), .int .i64 f, .float .f32 least] w fun e w' => e = .returned (.bool true) ∧ Below w.heap.size w w' := by
  have kp := hidd (Keep1.start w (sunCells S) 25)
  have HS := hidd (And.intro hS0 hS1)
  clear hS0 hS1
  have hl := ha_len (sunCode S (inR f 0 255 && isPart least)) (hourSo S f least)
  go_enter Try.func14, Try.ntmps14
  go_wp2_with (first | (refine wpList_load_all rfl _ _ rfl _ rfl (sunCells S) 48 agg_laws (sun_size HS.out.1) kp.out.row ?_) | (go_at_call 16; refine (to_sun S HS.out.1 _).mono ?_; rintro e wn ⟨rfl, hbn⟩; have kn := hidd (kp.out.step hbn); clear kp hbn; have kp := kn; clear kn))
  refine (sunHours_spec S HS.out.1 HS.out.2 f least _).mono ?_
  rintro e w1 ⟨v0, rfl, hb, ho⟩
  obtain ⟨ad0, c0, rfl, i0, _, b0⟩ := (made_of ho).ints
  have I0 := hidd i0
  have B0 := hidd b0
  replace kp := hidd (kp.out.step hb)
  clear i0 b0 hb ho
  go_wp2_with (refine wpList_load_all rfl _ _ rfl _ rfl (sunCells S) 48 agg_laws (sun_size HS.out.1) kp.out.row ?_)
  refine (to_sun S HS.out.1 _).mono ?_
  rintro e w2 ⟨rfl, hb⟩
  replace kp := hidd (kp.out.step hb)
  replace I0 := hidd (I0.out.below hb)
  have S2 := hidd hb.size
  clear hb
  have Z2 := hidd (show w.heap.size + 1 ≤ w2.heap.size from by have := kp.out.row.lt; omega)
  go_wp2_with fail
  refine (sunHours_impl S HS.out.1 HS.out.2 f least _).mono ?_
  rintro e w3 ⟨v1, rfl, hb, ho⟩
  obtain ⟨ad1, c1, rfl, i1, m1, b1⟩ := (made_of ho).ints
  have I1 := hidd i1
  have M1 := hidd m1
  have B1 := hidd b1
  have NE := hidd (show ∀ g, ad0 = some ⟨g, 0, none⟩ → ad1 ≠ some ⟨g, 0, none⟩ from fun g e1 e2 => by have q1 := (B0.out g e1).2; have q2 := (b1 g e2).1; have := S2.out; omega)
  replace kp := hidd (kp.out.step hb)
  replace I0 := hidd (I0.out.below hb)
  clear i1 m1 b1 hb ho
  go_wp2_with fail
  refine (eq_ints ad1 ad0 c1 c0 _ (by omega) _ I1.out I0.out).mono ?_
  rintro e w4 ⟨rfl, hb⟩
  replace kp := hidd (kp.out.step hb)
  replace I0 := hidd (I0.out.below hb)
  replace I1 := hidd (I1.out.below hb)
  replace M1 := hidd (M1.out.below hb)
  clear hb
  go_wp2_with fail
  refine (mark_ints ad1 c1 _ (by omega) _ _ M1.out).mono ?_
  rintro e w5 ⟨rfl, hw5, j1⟩
  have J1 := hidd j1
  replace I0 := hidd (hw5.ints I0.out NE.out)
  replace kp := hidd (keep1_stepB kp.out (hw5.below fun g e => by have := (B1.out g e).1; have := Z2.out; omega))
  clear hw5 j1
  go_wp2_with fail
  refine (held_ints ad1 c1 _ (by omega) _ J1.out).mono ?_
  rintro e w6 ⟨rfl, rfl⟩
  go_wp2_with (refine wpList_load_all rfl _ _ rfl _ rfl (sunCells S) 48 agg_laws (sun_size HS.out.1) kp.out.row ?_)
  refine (to_sun S HS.out.1 _).mono ?_
  rintro e w7 ⟨rfl, hb⟩
  replace kp := hidd (kp.out.step hb)
  replace I0 := hidd (I0.out.below hb)
  replace J1 := hidd (J1.out.below hb)
  clear hb
  go_wp2_with fail
  refine (sunHours_impl S HS.out.1 HS.out.2 f least _).mono ?_
  rintro e w8 ⟨v2, rfl, hb, ho⟩
  obtain ⟨ad2, c2, rfl, i2, _, _⟩ := (made_of ho).ints
  have I2 := hidd i2
  replace kp := hidd (kp.out.step hb)
  replace I0 := hidd (I0.out.below hb)
  replace J1 := hidd (J1.out.below hb)
  clear i2 hb ho
  go_wp2_with fail
  refine (eq_ints ad2 ad0 c2 c0 _ (by omega) _ I2.out I0.out).mono ?_
  rintro e w9 ⟨rfl, hb⟩
  replace kp := hidd (kp.out.step hb)
  replace J1 := hidd (J1.out.below hb)
  clear hb
  go_wp2_with fail
  refine (held_ints ad1 c1 _ (by omega) _ J1.out).mono ?_
  rintro e w10 ⟨rfl, rfl⟩
  go_wp2
  all_goals (go_ret; exact ⟨by simp, kp.out.below⟩)

set_option maxRecDepth 100000 in
theorem lifted_fnExactSunHours (os : Os) (started : os.Started) (H : Type) (enc : TypeId × Value → H) :
    ReturnsInHanded {} Try.checked os 14 .any (Rows.fnExactSunHoursSpec.pre6 enc Try.prog Try.f14 Rows.fnExactSunHoursRow.domain false) (Rows.fnExactSunHoursSpec.post enc Try.prog Try.f14 false true false false) := by
  refine returnsInHanded_of_change (C := Try.checked) own started (by kernel_rfl) Try.func14
    (ChangeSpec.witness6 (enc := enc) (C := Try.checked) false ⟨#[], #[.agg (Array.replicate 48 (.int .i16 0)), .int .i64 0, .float .f32 0], []⟩ 60 (by kernel_rfl) (by kernel_rfl) (by kernel_rfl) (by kernel_rfl)) ?_
  intro W base args ds gs before hval0 hW hcnd _
  have hval : ∀ (j : Nat) t v, Try.f14.params[j]? = some t → args[j]? = some v → Value.okWide Try.prog W .any base t v := hval0
  have hW' := hW
  obtain ⟨p, q, hA0, hV, rfl, hfz, hnd⟩ := hW
  have hA : DataW.TrodAll enc Try.prog W 0 (fun _ => true) true Try.f14.params.toList args.toList ds p := hA0
  rw [Try.params14] at hA hval
  obtain ⟨v0, vs0, d0, ds0, p0, q0, hargs, rfl, rfl, h0, r0⟩ := trodAll_cons hA
  obtain ⟨v1, vs1, d1, ds1, p1, q1, rfl, rfl, rfl, h1, r1⟩ := trodAll_cons r0
  obtain ⟨v2, vs2, d2, ds2, p2, q2, rfl, rfl, rfl, h2, r2⟩ := trodAll_cons r1
  obtain ⟨rfl, rfl, rfl⟩ := trodAll_nil r2
  obtain rfl : args = #[v0, v1, v2] := by cases args; simp_all
  obtain ⟨rfl, rfl⟩ := trodVars_none hV
  have lt0 : ∀ x ∈ p0, x.block < W.heap.size := by obtain ⟨m, hm⟩ := h0; exact DataW.trod_lt m _ _ _ hm
  have lt1 : ∀ x ∈ p1, x.block < W.heap.size := by obtain ⟨m, hm⟩ := h1; exact DataW.trod_lt m _ _ _ hm
  have lt2 : ∀ x ∈ p2, x.block < W.heap.size := by obtain ⟨m, hm⟩ := h2; exact DataW.trod_lt m _ _ _ hm
  obtain ⟨S, rfl, hS0, hS1⟩ := arg_sun (hval 0 25 v0 rfl rfl)
  obtain ⟨f, rfl, hf1, hf2⟩ := arg_int Try.underlying2 (hval 1 2 v1 rfl rfl)
  obtain ⟨least, rfl, hleast⟩ := arg_float Try.underlying38 (hval 2 38 v2 rfl rfl)
  clear hA0 hval0
  refine (walk_fnExactSunHours W S hS0 hS1 f hf1 hf2 least hleast).mono fun e W' ⟨he, bel⟩ => ?_
  subst he
  exact ⟨_, rfl, _, _, _, [], _, [], hW', trodAll_mk1 (shut_bool Try.underlying4 _), (trodAll_cons_mk (Below.trod laidOut (by kernel_rfl) (of_decide_eq_true (by kernel_rfl)) h0 bel lt0) (trodAll_cons_mk (Below.trod laidOut (by kernel_rfl) (of_decide_eq_true (by kernel_rfl)) h1 bel lt1) (trodAll_cons_mk (Below.trod laidOut (by kernel_rfl) (of_decide_eq_true (by kernel_rfl)) h2 bel lt2) trodAll_mk0))), rfl, bel.frame _, fun h => by cases h⟩

/-- THE STATEMENT. -/
theorem fnExactSunHours_holds : Rows.FnExactSunHoursSaid :=
  OpenClaim.holds_of_wide 14 Try.f14 rfl rfl rfl rfl rfl rfl rfl ⟨rfl, rfl, rfl, rfl, rfl⟩ rfl rfl rfl rfl rfl (by kernel_rfl) Try.func14 (by kernel_rfl)
    (of_decide_eq_true (by kernel_rfl)) (by unfold Func.isWrapper; first | (rw [if_pos (by decide +kernel)]; kernel_rfl) | (rw [if_neg (by decide +kernel)]; exact ⟨rfl, rfl⟩))
    (fun os started H enc _ => lifted_fnExactSunHours os started H enc)
#print axioms fnExactSunHours_holds
end Go.Proofs.Ytjodamgdoodnkaa
