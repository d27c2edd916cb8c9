/-
  'Rows.FnExactTiltToSaid': for every input the law 'FnExactTiltTo' returns true and leaves its arguments as they were. No condition.
-/
import Derived.Test.YtfkbjkdapfdeeaaRo
import Derived.Test.YtfkbjkdapfdeeaaWbd
namespace Go.Proofs.Ytfkbjkdapfdeeaa
open Go.ChangeShapes Go.WideShapes Go.ChangeAt Go.RowKit Go.Proofs.Fl Go.Proofs.Pl
set_option linter.unusedVariables false

theorem walk_fnExactTiltTo (w : World) (Bn : Int) (Bw Bg : Nat) (Bt : Int) (Bs : Nat) (hB0 : -128 ≤ Bn) (hB1 : Bn ≤ 127) (hB2 : Bw < 4294967296) (hB3 : Bg < 4294967296) (hB4 : -32768 ≤ Bt) (hB5 : Bt ≤ 32767) (hB6 : Bs < 4294967296) (u : Int) (hu1 : -9223372036854775808 ≤ u) (hu2 : u ≤ 9223372036854775807) :
    Calls Try.prog 5 #[.agg #[.int .i8 Bn, .float .f32 Bw, .float .f32 Bg, .int .i16 Bt, .float .f32 Bs], .int .i64 u] w fun e w' => e = .returned (.bool true) ∧ Below w.heap.size w w' := by
  have kp := hidd (Keep1.start w (blindCells Bn Bw Bg Bt Bs) 26)
  have o1 := hidd (ta_one Bn Bw Bg Bt Bs u)
  have o2 := hidd (ta_size Bn Bw Bg Bt Bs u)
  go_enter Try.func5, Try.ntmps5
  go_wp2_with (first | (refine wpList_load_all rfl _ _ rfl _ rfl (blindCells Bn Bw Bg Bt Bs) 5 agg_lblind rfl kp.out.row ?_) | (go_at_call 18; refine (to_blind Bn Bw Bg Bt Bs _).mono ?_; rintro e wn ⟨rfl, hbn⟩; have kn := hidd (kp.out.step hbn); clear kp hbn; have kp := kn; clear kn))
  refine (tiltTo_spec Bn Bw Bg Bt Bs hB0 hB1 hB4 hB5 _ _).mono ?_
  rintro e w3 ⟨rfl, hb3⟩
  replace kp := hidd (kp.out.step hb3)
  clear hb3
  go_wp2_with (first | (refine wpList_store_at rfl _ _ _ rfl _ 0 rfl 5 zeroBlind (tiltAns Bn Bw Bg Bt Bs u).1 rfl agg_blind (Row.new w3 zeroBlind 28) o2.out (by decide) o1.out ?_; intro w4 hw4 r4; rw [over_all (cs := zeroBlind) (xs := (tiltAns Bn Bw Bg Bt Bs u).1) o2.out] at r4; have R4 := hidd r4; replace kp := hidd (kp.out.step (((Below.refl _ _).alloc (Nat.le_refl _) _).trans (hw4.below (Nat.le_refl _)))); have e4 := hidd hw4.size; clear hw4 r4) | (refine wpList_load_all rfl _ _ rfl _ rfl (blindCells Bn Bw Bg Bt Bs) 5 agg_lblind rfl kp.out.row ?_))
  refine (to_blind Bn Bw Bg Bt Bs _).mono ?_
  rintro e w5 ⟨rfl, hb5⟩
  replace kp := hidd (kp.out.step hb5)
  have R5 := hidd (R4.out.below hb5 R4.out.lt)
  clear hb5
  go_wp2_with fail
  refine (tiltTo_impl Bn Bw Bg Bt Bs hB0 hB1 hB4 hB5 _ _).mono ?_
  rintro e w6 ⟨rfl, hb6⟩
  replace kp := hidd (kp.out.step hb6)
  have R6 := hidd (R5.out.below hb6 R5.out.lt)
  clear hb6
  go_wp2_with (first | (refine wpList_store_at rfl _ _ _ rfl _ 0 rfl 5 zeroBlind (tiltAns Bn Bw Bg Bt Bs u).1 rfl agg_blind (Row.new w6 zeroBlind 28) o2.out (by decide) o1.out ?_; intro w7 hw7 r7; rw [over_all (cs := zeroBlind) (xs := (tiltAns Bn Bw Bg Bt Bs u).1) o2.out] at r7; have R7 := hidd r7; have S7 := hidd (hw7.row (R6.out.alloc _) (by have := R6.out.lt; omega)); replace kp := hidd (kp.out.step (((Below.refl _ _).alloc (Nat.le_refl _) _).trans (hw7.below (Nat.le_refl _)))); clear hw7 r7) | (refine wpList_load_all rfl _ _ rfl _ rfl (tiltAns Bn Bw Bg Bt Bs u).1 5 agg_blind o2.out R7.out ?_) | (refine wpList_load_all rfl _ _ rfl _ rfl (tiltAns Bn Bw Bg Bt Bs u).1 5 agg_blind o2.out S7.out ?_) | (go_at_call 24; refine (eq_tilt _ _ _ _ _ _ _).mono ?_; rintro e wn ⟨rfl, hbn⟩; have kn := hidd (kp.out.step hbn); clear kp hbn; have kp := kn; clear kn))
  all_goals (go_ret; exact ⟨by simp, kp.out.below⟩)

set_option maxRecDepth 100000 in
theorem lifted_fnExactTiltTo (os : Os) (started : os.Started) (H : Type) (enc : TypeId × Value → H) :
    ReturnsInHanded {} Try.checked os 5 .any (Rows.fnExactTiltToSpec.pre6 enc Try.prog Try.f5 Rows.fnExactTiltToRow.domain false) (Rows.fnExactTiltToSpec.post enc Try.prog Try.f5 false true false false) := by
  refine returnsInHanded_of_change (C := Try.checked) own started (by kernel_rfl) Try.func5
    (ChangeSpec.witness6 (enc := enc) (C := Try.checked) false ⟨#[], #[.agg #[.int .i8 0, .float .f32 0, .float .f32 0, .int .i16 0, .float .f32 0], .int .i64 0], []⟩ 60 (by kernel_rfl) (by kernel_rfl) (by kernel_rfl) (by kernel_rfl)) ?_
  intro W base args ds gs before hval0 hW hcnd _
  have hval : ∀ (j : Nat) t v, Try.f5.params[j]? = some t → args[j]? = some v → Value.okWide Try.prog W .any base t v := hval0
  have hW' := hW
  obtain ⟨p, q, hA0, hV, rfl, hfz, hnd⟩ := hW
  have hA : DataW.TrodAll enc Try.prog W 0 (fun _ => true) true Try.f5.params.toList args.toList ds p := hA0
  rw [Try.params5] at hA hval
  obtain ⟨v0, vs0, d0, ds0, p0, q0, hargs, rfl, rfl, h0, r0⟩ := trodAll_cons hA
  obtain ⟨v1, vs1, d1, ds1, p1, q1, rfl, rfl, rfl, h1, r1⟩ := trodAll_cons r0
  obtain ⟨rfl, rfl, rfl⟩ := trodAll_nil r1
  obtain rfl : args = #[v0, v1] := by cases args; simp_all
  obtain ⟨rfl, rfl⟩ := trodVars_none hV
  have lt0 : ∀ x ∈ p0, x.block < W.heap.size := by obtain ⟨m, hm⟩ := h0; exact DataW.trod_lt m _ _ _ hm
  have lt1 : ∀ x ∈ p1, x.block < W.heap.size := by obtain ⟨m, hm⟩ := h1; exact DataW.trod_lt m _ _ _ hm
  obtain ⟨Bn, Bw, Bg, Bt, Bs, rfl, hB0, hB1, hB2, hB3, hB4, hB5, hB6⟩ := arg_blind (hval 0 26 v0 rfl rfl)
  obtain ⟨u, rfl, hu1, hu2⟩ := arg_int Try.underlying2 (hval 1 2 v1 rfl rfl)
  clear hA0 hval0
  refine (walk_fnExactTiltTo W Bn Bw Bg Bt Bs hB0 hB1 hB2 hB3 hB4 hB5 hB6 u hu1 hu2).mono fun e W' ⟨he, bel⟩ => ?_
  subst he
  exact ⟨_, rfl, _, _, _, [], _, [], hW', trodAll_mk1 (shut_bool Try.underlying4 _), (trodAll_cons_mk (Below.trod laidOut (by kernel_rfl) (of_decide_eq_true (by kernel_rfl)) h0 bel lt0) (trodAll_cons_mk (Below.trod laidOut (by kernel_rfl) (of_decide_eq_true (by kernel_rfl)) h1 bel lt1) trodAll_mk0)), rfl, bel.frame _, fun h => by cases h⟩

/-- THE STATEMENT. -/
theorem fnExactTiltTo_holds : Rows.FnExactTiltToSaid :=
  OpenClaim.holds_of_wide 5 Try.f5 rfl rfl rfl rfl rfl rfl rfl ⟨rfl, rfl, rfl, rfl, rfl⟩ rfl rfl rfl rfl rfl (by kernel_rfl) Try.func5 (by kernel_rfl)
    (of_decide_eq_true (by kernel_rfl)) (by unfold Func.isWrapper; first | (rw [if_pos (by decide +kernel)]; kernel_rfl) | (rw [if_neg (by decide +kernel)]; exact ⟨rfl, rfl⟩))
    (fun os started H enc _ => lifted_fnExactTiltTo os started H enc)
#print axioms fnExactTiltTo_holds
end Go.Proofs.Ytfkbjkdapfdeeaa
