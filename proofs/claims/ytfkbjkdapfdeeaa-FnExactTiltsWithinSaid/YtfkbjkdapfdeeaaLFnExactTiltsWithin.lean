/-
  'Rows.FnExactTiltsWithinSaid': for every input the law 'FnExactTiltsWithin' returns true and leaves its arguments as they were. No condition.
-/
import Derived.Test.YtfkbjkdapfdeeaaRo
import Derived.Test.YtfkbjkdapfdeeaaWbw
namespace Go.Proofs.Ytfkbjkdapfdeeaa
open Go.ChangeShapes Go.WideShapes Go.ChangeAt Go.RowKit Go.Proofs.Fl Go.Proofs.Pl
set_option linter.unusedVariables false

set_option maxHeartbeats 1000000 in
theorem walk_fnExactTiltsWithin (w : World) (Bn : Int) (Bw Bg : Nat) (Bt : Int) (Bs : Nat) (hB0 : -128 ≤ Bn) (hB1 : Bn ≤ 127) (hB2 : Bw < 4294967296) (hB3 : Bg < 4294967296) (hB4 : -32768 ≤ Bt) (hB5 : Bt ≤ 32767) (hB6 : Bs < 4294967296) (h : Int) (hh1 : -9223372036854775808 ≤ h) (hh2 : h ≤ 9223372036854775807) (lo : Nat) (hlo : lo < 4294967296) (hh : Nat) (hhh : hh < 4294967296) :
    Calls Try.prog 15 #[.agg #[.int .i8 Bn, .float .f32 Bw, .float .f32 Bg, .int .i16 Bt, .float .f32 Bs], .int .i64 h, .float .f32 lo, .float .f32 hh] w fun e w' => e = .returned (.bool true) ∧ Below w.heap.size w w' := by
  have kp := hidd (Keep1.start w (blindCells Bn Bw Bg Bt Bs) 26)
  have hl := la_len (code2 (blindOk Bn Bw Bg Bt Bs) ((inR h 1 64 && isPart lo) && isPart hh)) (inSo Bw Bg Bs h lo hh)
  go_enter Try.func15, Try.ntmps15
  go_wp2_with (first | (refine wpList_load_all rfl _ _ rfl _ rfl (blindCells Bn Bw Bg Bt Bs) 5 agg_lblind rfl kp.out.row ?_) | (go_at_call 18; refine (to_blind Bn Bw Bg Bt Bs _).mono ?_; rintro e wn ⟨rfl, hbn⟩; have kn := hidd (kp.out.step hbn); clear kp hbn; have kp := kn; clear kn))
  refine (tiltsWithin_spec Bn Bw Bg Bt Bs hB0 hB1 hB4 hB5 h lo hh _).mono ?_
  rintro e w1 ⟨v0, rfl, hb, ho⟩
  obtain ⟨ad0, c0, rfl, i0, _, b0⟩ := (made_of ho).ints
  have I0 := hidd i0
  have B0 := hidd b0
  replace kp := hidd (kp.out.step hb)
  clear i0 b0 hb ho
  go_wp2_with (refine wpList_load_all rfl _ _ rfl _ rfl (blindCells Bn Bw Bg Bt Bs) 5 agg_lblind rfl kp.out.row ?_)
  refine (to_blind Bn Bw Bg Bt Bs _).mono ?_
  rintro e w2 ⟨rfl, hb⟩
  replace kp := hidd (kp.out.step hb)
  replace I0 := hidd (I0.out.below hb)
  have S2 := hidd hb.size
  clear hb
  have Z2 := hidd (show w.heap.size + 1 ≤ w2.heap.size from by have := kp.out.row.lt; omega)
  go_wp2_with fail
  refine (tiltsWithin_impl Bn Bw Bg Bt Bs hB0 hB1 hB4 hB5 h lo hh _).mono ?_
  rintro e w3 ⟨v1, rfl, hb, ho⟩
  obtain ⟨ad1, c1, rfl, i1, m1, b1⟩ := (made_of ho).ints
  have I1 := hidd i1
  have M1 := hidd m1
  have B1 := hidd b1
  have NE := hidd (show ∀ g, ad0 = some ⟨g, 0, none⟩ → ad1 ≠ some ⟨g, 0, none⟩ from fun g e1 e2 => by have q1 := (B0.out g e1).2; have q2 := (b1 g e2).1; have := S2.out; omega)
  replace kp := hidd (kp.out.step hb)
  replace I0 := hidd (I0.out.below hb)
  clear i1 m1 b1 hb ho
  go_wp2_with fail
  refine (eq_ints ad1 ad0 c1 c0 _ (by omega) _ I1.out I0.out).mono ?_
  rintro e w4 ⟨rfl, hb⟩
  replace kp := hidd (kp.out.step hb)
  replace I0 := hidd (I0.out.below hb)
  replace I1 := hidd (I1.out.below hb)
  replace M1 := hidd (M1.out.below hb)
  clear hb
  go_wp2_with fail
  refine (mark_ints ad1 c1 _ (by omega) _ _ M1.out).mono ?_
  rintro e w5 ⟨rfl, hw5, j1⟩
  have J1 := hidd j1
  replace I0 := hidd (hw5.ints I0.out NE.out)
  replace kp := hidd (keep1_stepB kp.out (hw5.below fun g e => by have := (B1.out g e).1; have := Z2.out; omega))
  clear hw5 j1
  go_wp2_with fail
  refine (held_ints ad1 c1 _ (by omega) _ J1.out).mono ?_
  rintro e w6 ⟨rfl, rfl⟩
  go_wp2_with (refine wpList_load_all rfl _ _ rfl _ rfl (blindCells Bn Bw Bg Bt Bs) 5 agg_lblind rfl kp.out.row ?_)
  refine (to_blind Bn Bw Bg Bt Bs _).mono ?_
  rintro e w7 ⟨rfl, hb⟩
  replace kp := hidd (kp.out.step hb)
  replace I0 := hidd (I0.out.below hb)
  replace J1 := hidd (J1.out.below hb)
  clear hb
  go_wp2_with fail
  refine (tiltsWithin_impl Bn Bw Bg Bt Bs hB0 hB1 hB4 hB5 h lo hh _).mono ?_
  rintro e w8 ⟨v2, rfl, hb, ho⟩
  obtain ⟨ad2, c2, rfl, i2, _, _⟩ := (made_of ho).ints
  have I2 := hidd i2
  replace kp := hidd (kp.out.step hb)
  replace I0 := hidd (I0.out.below hb)
  replace J1 := hidd (J1.out.below hb)
  clear i2 hb ho
  go_wp2_with fail
  refine (eq_ints ad2 ad0 c2 c0 _ (by omega) _ I2.out I0.out).mono ?_
  rintro e w9 ⟨rfl, hb⟩
  replace kp := hidd (kp.out.step hb)
  replace J1 := hidd (J1.out.below hb)
  clear hb
  go_wp2_with fail
  refine (held_ints ad1 c1 _ (by omega) _ J1.out).mono ?_
  rintro e w10 ⟨rfl, rfl⟩
  go_wp2
  all_goals (go_ret; exact ⟨by simp, kp.out.below⟩)

set_option maxRecDepth 100000 in
theorem lifted_fnExactTiltsWithin (os : Os) (started : os.Started) (H : Type) (enc : TypeId × Value → H) :
    ReturnsInHanded {} Try.checked os 15 .any (Rows.fnExactTiltsWithinSpec.pre6 enc Try.prog Try.f15 Rows.fnExactTiltsWithinRow.domain false) (Rows.fnExactTiltsWithinSpec.post enc Try.prog Try.f15 false true false false) := by
  refine returnsInHanded_of_change (C := Try.checked) own started (by kernel_rfl) Try.func15
    (ChangeSpec.witness6 (enc := enc) (C := Try.checked) false ⟨#[], #[.agg #[.int .i8 0, .float .f32 0, .float .f32 0, .int .i16 0, .float .f32 0], .int .i64 0, .float .f32 0, .float .f32 0], []⟩ 60 (by kernel_rfl) (by kernel_rfl) (by kernel_rfl) (by kernel_rfl)) ?_
  intro W base args ds gs before hval0 hW hcnd _
  have hval : ∀ (j : Nat) t v, Try.f15.params[j]? = some t → args[j]? = some v → Value.okWide Try.prog W .any base t v := hval0
  have hW' := hW
  obtain ⟨p, q, hA0, hV, rfl, hfz, hnd⟩ := hW
  have hA : DataW.TrodAll enc Try.prog W 0 (fun _ => true) true Try.f15.params.toList args.toList ds p := hA0
  rw [Try.params15] at hA hval
  obtain ⟨v0, vs0, d0, ds0, p0, q0, hargs, rfl, rfl, h0, r0⟩ := trodAll_cons hA
  obtain ⟨v1, vs1, d1, ds1, p1, q1, rfl, rfl, rfl, h1, r1⟩ := trodAll_cons r0
  obtain ⟨v2, vs2, d2, ds2, p2, q2, rfl, rfl, rfl, h2, r2⟩ := trodAll_cons r1
  obtain ⟨v3, vs3, d3, ds3, p3, q3, rfl, rfl, rfl, h3, r3⟩ := trodAll_cons r2
  obtain ⟨rfl, rfl, rfl⟩ := trodAll_nil r3
  obtain rfl : args = #[v0, v1, v2, v3] := by cases args; simp_all
  obtain ⟨rfl, rfl⟩ := trodVars_none hV
  have lt0 : ∀ x ∈ p0, x.block < W.heap.size := by obtain ⟨m, hm⟩ := h0; exact DataW.trod_lt m _ _ _ hm
  have lt1 : ∀ x ∈ p1, x.block < W.heap.size := by obtain ⟨m, hm⟩ := h1; exact DataW.trod_lt m _ _ _ hm
  have lt2 : ∀ x ∈ p2, x.block < W.heap.size := by obtain ⟨m, hm⟩ := h2; exact DataW.trod_lt m _ _ _ hm
  have lt3 : ∀ x ∈ p3, x.block < W.heap.size := by obtain ⟨m, hm⟩ := h3; exact DataW.trod_lt m _ _ _ hm
  obtain ⟨Bn, Bw, Bg, Bt, Bs, rfl, hB0, hB1, hB2, hB3, hB4, hB5, hB6⟩ := arg_blind (hval 0 26 v0 rfl rfl)
  obtain ⟨h, rfl, hh1, hh2⟩ := arg_int Try.underlying2 (hval 1 2 v1 rfl rfl)
  obtain ⟨lo, rfl, hlo⟩ := arg_float Try.underlying23 (hval 2 23 v2 rfl rfl)
  obtain ⟨hh, rfl, hhh⟩ := arg_float Try.underlying23 (hval 3 23 v3 rfl rfl)
  clear hA0 hval0
  refine (walk_fnExactTiltsWithin W Bn Bw Bg Bt Bs hB0 hB1 hB2 hB3 hB4 hB5 hB6 h hh1 hh2 lo hlo hh hhh).mono fun e W' ⟨he, bel⟩ => ?_
  subst he
  exact ⟨_, rfl, _, _, _, [], _, [], hW', trodAll_mk1 (shut_bool Try.underlying4 _), (trodAll_cons_mk (Below.trod laidOut (by kernel_rfl) (of_decide_eq_true (by kernel_rfl)) h0 bel lt0) (trodAll_cons_mk (Below.trod laidOut (by kernel_rfl) (of_decide_eq_true (by kernel_rfl)) h1 bel lt1) (trodAll_cons_mk (Below.trod laidOut (by kernel_rfl) (of_decide_eq_true (by kernel_rfl)) h2 bel lt2) (trodAll_cons_mk (Below.trod laidOut (by kernel_rfl) (of_decide_eq_true (by kernel_rfl)) h3 bel lt3) trodAll_mk0)))), rfl, bel.frame _, fun h => by cases h⟩

/-- THE STATEMENT. -/
theorem fnExactTiltsWithin_holds : Rows.FnExactTiltsWithinSaid :=
  OpenClaim.holds_of_wide 15 Try.f15 rfl rfl rfl rfl rfl rfl rfl ⟨rfl, rfl, rfl, rfl, rfl⟩ rfl rfl rfl rfl rfl (by kernel_rfl) Try.func15 (by kernel_rfl)
    (of_decide_eq_true (by kernel_rfl)) (by unfold Func.isWrapper; first | (rw [if_pos (by decide +kernel)]; kernel_rfl) | (rw [if_neg (by decide +kernel)]; exact ⟨rfl, rfl⟩))
    (fun os started H enc _ => lifted_fnExactTiltsWithin os started H enc)
#print axioms fnExactTiltsWithin_holds
end Go.Proofs.Ytfkbjkdapfdeeaa
