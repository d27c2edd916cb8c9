/-
  'Rows.FnExactPassAllSaid': for every input the law 'FnExactPassAll' returns true and leaves its arguments as they were. No condition.
-/
import Derived.Test.YtfkbjkdapfdeeaaRo
import Derived.Test.YtfkbjkdapfdeeaaWpa
import Derived.Test.YtfkbjkdapfdeeaaWbc
import Derived.Test.YtfkbjkdapfdeeaaRi
namespace Go.Proofs.Ytfkbjkdapfdeeaa
open Go.ChangeShapes Go.WideShapes Go.ChangeAt Go.RowKit Go.Proofs.Fl Go.Proofs.Pl
set_option linter.unusedVariables false

set_option maxHeartbeats 4000000 in
theorem walk_fnExactPassAll (w : World) (Bn : Int) (Bw Bg : Nat) (Bt : Int) (Bs : Nat) (hB0 : -128 ≤ Bn) (hB1 : Bn ≤ 127) (hB2 : Bw < 4294967296) (hB3 : Bg < 4294967296) (hB4 : -32768 ≤ Bt) (hB5 : Bt ≤ 32767) (hB6 : Bs < 4294967296) (xa : Option Addr) (xc : Nat) (x : List Int) (hx : ArgInts w xa x) :
    Calls Try.prog 10 #[.agg #[.int .i8 Bn, .float .f32 Bw, .float .f32 Bg, .int .i16 Bt, .float .f32 Bs], .slice xa x.length xc] w fun e w' => e = .returned (.bool true) ∧ Below w.heap.size w w' := by
  have kp := hidd (Keep1.start w (blindCells Bn Bw Bg Bt Bs) 26)
  by_cases hbig : 1048576 < x.length
  · have hbig' : (1048576 : Int) < (x.length : Int) := by omega
    go_enter Try.func10, Try.ntmps10
    go_wp2
    go_ret; exact ⟨rfl, kp.out.below⟩
  · have hbig' : (x.length : Int) ≤ 1048576 := by omega
    have HN := hidd (show x.length ≤ 1048576 by omega)
    have HA := hidd (hx.below (((Below.refl _ _).alloc (Nat.le_refl _) (.cells (blindCells Bn Bw Bg Bt Bs) 26))))
    have hal := pans_len (blindOk Bn Bw Bg Bt Bs) Bw Bg Bt Bs x
    have HF := hidd (pans_fnt Bn Bw Bg Bt Bs x)
    clear hx
    go_enter Try.func10, Try.ntmps10
    go_wp2_with (refine wpList_load_all rfl _ _ rfl _ rfl (blindCells Bn Bw Bg Bt Bs) 5 agg_lblind rfl kp.out.row ?_)
    refine (to_blind Bn Bw Bg Bt Bs _).mono ?_
    rintro e w1 ⟨rfl, hb⟩
    replace kp := hidd (kp.out.step hb)
    replace HA := hidd (HA.out.below hb)
    clear hb
    go_wp2_with fail
    refine (to_ints xa xc x HN.out _ HA.out).mono ?_
    rintro e w2 ⟨vA, rfl, hb, ho⟩
    obtain ⟨adA, cA, rfl, iA, mA, bA⟩ := (made_of ho).ints
    have IA := hidd iA
    have MA := hidd mA
    have BA := hidd bA
    have SA := hidd hb.size
    replace kp := hidd (kp.out.step hb)
    replace HA := hidd (HA.out.below hb)
    clear hb ho iA mA bA
    have HA2 := hidd (show ∀ a : Addr, xa = some a → x.length ≠ 0 → a.block < w2.heap.size from fun a e hne => by obtain ⟨a2, e2, q, _⟩ := HA.out 0 (by omega); rw [e] at e2; cases e2; exact q)
    have W2 := hidd (show w.heap.size + 1 ≤ w2.heap.size from by have := kp.out.row.lt; omega)
    go_wp2_with fail
    refine (passAll_spec Bn Bw Bg Bt Bs hB0 hB1 hB4 hB5 adA cA x HN.out _ IA.out).mono ?_
    rintro e w3 ⟨v0, rfl, hb, ho⟩
    obtain ⟨ad0, c0, rfl, i0, m0, b0⟩ := made_flts ho
    have I0 := hidd i0
    have M0 := hidd m0
    have B0 := hidd b0
    have S0 := hidd hb.size
    replace kp := hidd (kp.out.step hb)
    replace HA := hidd (HA.out.below hb)
    clear hb ho i0 m0 b0
    go_wp2_with fail
    refine (to_ints xa xc x HN.out _ HA.out).mono ?_
    rintro e w4 ⟨vX, rfl, hb, ho⟩
    obtain ⟨adX, cX, rfl, iX, mX, bX⟩ := (made_of ho).ints
    have IX := hidd iX
    have MX := hidd mX
    have BX := hidd bX
    have SX := hidd hb.size
    replace kp := hidd (kp.out.step hb)
    replace HA := hidd (HA.out.below hb)
    replace I0 := hidd (I0.out.below hb)
    clear hb ho iX mX bX
    go_wp2_with (refine wpList_load_all rfl _ _ rfl _ rfl (blindCells Bn Bw Bg Bt Bs) 5 agg_lblind rfl kp.out.row ?_)
    refine (to_blind Bn Bw Bg Bt Bs _).mono ?_
    rintro e w5 ⟨rfl, hb⟩
    have S5 := hidd hb.size
    replace kp := hidd (kp.out.step hb)
    replace HA := hidd (HA.out.below hb)
    replace I0 := hidd (I0.out.below hb)
    replace IX := hidd (IX.out.below hb)
    replace MX := hidd (MX.out.below hb)
    clear hb
    go_wp2_with fail
    refine (passAll_impl Bn Bw Bg Bt Bs hB0 hB1 hB4 hB5 adX cX x HN.out _ IX.out).mono ?_
    rintro e w6 ⟨v1, rfl, hb, ho⟩
    obtain ⟨ad1, c1, rfl, i1, m1, b1⟩ := made_flts ho
    have I1 := hidd i1
    have M1 := hidd m1
    have B1 := hidd b1
    have S1 := hidd hb.size
    replace kp := hidd (kp.out.step hb)
    replace HA := hidd (HA.out.below hb)
    replace I0 := hidd (I0.out.below hb)
    replace IX := hidd (IX.out.below hb)
    replace MX := hidd (MX.out.below hb)
    clear hb ho i1 m1 b1
    go_wp2_with fail
    refine (eq_floats ad1 ad0 c1 c0 _ (by omega) HF.out _ I1.out I0.out).mono ?_
    rintro e w7 ⟨rfl, hb⟩
    replace kp := hidd (kp.out.step hb)
    replace HA := hidd (HA.out.below hb)
    replace I0 := hidd (I0.out.below hb)
    replace I1 := hidd (I1.out.below hb)
    replace M1 := hidd (M1.out.below hb)
    replace IX := hidd (IX.out.below hb)
    replace MX := hidd (MX.out.below hb)
    clear hb
    go_wp2_with fail
    refine (to_ints xa xc x HN.out _ HA.out).mono ?_
    rintro e w8 ⟨vB, rfl, hb, ho⟩
    obtain ⟨adY, cY, rfl, iY, mY, bY⟩ := (made_of ho).ints
    have IY := hidd iY
    have MY := hidd mY
    have BY := hidd bY
    have SY := hidd hb.size
    replace kp := hidd (kp.out.step hb)
    replace HA := hidd (HA.out.below hb)
    replace I0 := hidd (I0.out.below hb)
    replace I1 := hidd (I1.out.below hb)
    replace M1 := hidd (M1.out.below hb)
    replace IX := hidd (IX.out.below hb)
    replace MX := hidd (MX.out.below hb)
    clear hb ho iY mY bY
    go_wp2_with fail
    refine (eq_ints adX adY cX cY _ (by omega) _ IX.out IY.out).mono ?_
    rintro e w9 ⟨rfl, hb⟩
    replace kp := hidd (kp.out.step hb)
    replace HA := hidd (HA.out.below hb)
    replace I0 := hidd (I0.out.below hb)
    replace I1 := hidd (I1.out.below hb)
    replace M1 := hidd (M1.out.below hb)
    replace MX := hidd (MX.out.below hb)
    clear hb
    go_wp2_with fail
    have NX0 := hidd (show ∀ g, ad0 = some ⟨g, 0, none⟩ → adX ≠ some ⟨g, 0, none⟩ from fun g e1 e2 => by have q1 := (B0.out g e1).2; have q2 := (BX.out g e2).1; omega)
    have NX1 := hidd (show ∀ g, ad1 = some ⟨g, 0, none⟩ → adX ≠ some ⟨g, 0, none⟩ from fun g e1 e2 => by have q1 := (B1.out g e1).1; have q2 := (BX.out g e2).2; have := S5.out; omega)
    have N10 := hidd (show ∀ g, ad0 = some ⟨g, 0, none⟩ → ad1 ≠ some ⟨g, 0, none⟩ from fun g e1 e2 => by have q1 := (B0.out g e1).2; have q2 := (B1.out g e2).1; have := S5.out; have := SX.out; omega)
    refine (mark_ints adX cX _ (by omega) _ _ MX.out).mono ?_
    rintro e w10 ⟨rfl, hw10, _⟩
    replace I0 := hidd (hw10.flts I0.out NX0.out)
    replace I1 := hidd (hw10.flts I1.out NX1.out)
    replace M1 := hidd (mine_wrote M1.out hw10 NX1.out)
    have HX2 := hidd (show Below w2.heap.size w9 w10 from hw10.below fun g e => by have := (BX.out g e).1; have := S0.out; omega)
    replace kp := hidd (keep1_stepB kp.out (HX2.out.mono W2.out))
    replace HA := hidd (argints_wrote HA.out HX2.out HA2.out)
    clear hw10
    go_wp2_with fail
    refine (eq_floats ad1 ad0 c1 c0 _ (by omega) HF.out _ I1.out I0.out).mono ?_
    rintro e w11 ⟨rfl, hb⟩
    replace kp := hidd (kp.out.step hb)
    replace HA := hidd (HA.out.below hb)
    replace I0 := hidd (I0.out.below hb)
    replace I1 := hidd (I1.out.below hb)
    replace M1 := hidd (M1.out.below hb)
    clear hb
    go_wp2_with fail
    refine (mark_floats ad1 c1 _ (by omega) _ _ M1.out).mono ?_
    rintro e w12 ⟨rfl, hw12, j1⟩
    have J1 := hidd j1
    replace I0 := hidd (hw12.flts I0.out N10.out)
    have HX3 := hidd (show Below w2.heap.size w11 w12 from hw12.below fun g e => by have := (B1.out g e).1; have := S0.out; have := SX.out; have := S5.out; omega)
    replace kp := hidd (keep1_stepB kp.out (HX3.out.mono W2.out))
    replace HA := hidd (argints_wrote HA.out HX3.out HA2.out)
    clear hw12 j1
    go_wp2_with fail
    refine (held_floats ad1 c1 _ (by omega) _ J1.out).mono ?_
    rintro e w13 ⟨rfl, rfl⟩
    go_wp2_with (refine wpList_load_all rfl _ _ rfl _ rfl (blindCells Bn Bw Bg Bt Bs) 5 agg_lblind rfl kp.out.row ?_)
    refine (to_blind Bn Bw Bg Bt Bs _).mono ?_
    rintro e w14 ⟨rfl, hb⟩
    replace kp := hidd (kp.out.step hb)
    replace HA := hidd (HA.out.below hb)
    replace I0 := hidd (I0.out.below hb)
    replace J1 := hidd (J1.out.below hb)
    clear hb
    go_wp2_with fail
    refine (to_ints xa xc x HN.out _ HA.out).mono ?_
    rintro e w15 ⟨vC, rfl, hb, ho⟩
    obtain ⟨adC, cC, rfl, iC, mC, bC⟩ := (made_of ho).ints
    have IC := hidd iC
    have MC := hidd mC
    have BC := hidd bC
    have SC := hidd hb.size
    replace kp := hidd (kp.out.step hb)
    replace HA := hidd (HA.out.below hb)
    replace I0 := hidd (I0.out.below hb)
    replace J1 := hidd (J1.out.below hb)
    clear hb ho iC mC bC
    go_wp2_with fail
    refine (passAll_impl Bn Bw Bg Bt Bs hB0 hB1 hB4 hB5 adC cC x HN.out _ IC.out).mono ?_
    rintro e w16 ⟨v2, rfl, hb, ho⟩
    obtain ⟨ad2, c2, rfl, i2, m2, b2⟩ := made_flts ho
    have I2 := hidd i2
    have M2 := hidd m2
    have B2 := hidd b2
    have S2 := hidd hb.size
    replace kp := hidd (kp.out.step hb)
    replace I0 := hidd (I0.out.below hb)
    replace J1 := hidd (J1.out.below hb)
    clear hb ho i2 m2 b2
    go_wp2_with fail
    refine (eq_floats ad2 ad0 c2 c0 _ (by omega) HF.out _ I2.out I0.out).mono ?_
    rintro e w17 ⟨rfl, hb⟩
    replace kp := hidd (kp.out.step hb)
    replace J1 := hidd (J1.out.below hb)
    clear hb
    go_wp2_with fail
    refine (held_floats ad1 c1 _ (by omega) _ J1.out).mono ?_
    rintro e w18 ⟨rfl, rfl⟩
    go_wp2
    all_goals (go_ret; exact ⟨by simp, kp.out.below⟩)

set_option maxRecDepth 100000 in
theorem lifted_fnExactPassAll (os : Os) (started : os.Started) (H : Type) (enc : TypeId × Value → H) :
    ReturnsInHanded {} Try.checked os 10 .any (Rows.fnExactPassAllSpec.pre6 enc Try.prog Try.f10 Rows.fnExactPassAllRow.domain false) (Rows.fnExactPassAllSpec.post enc Try.prog Try.f10 false true false false) := by
  refine returnsInHanded_of_change (C := Try.checked) own started (by kernel_rfl) Try.func10
    (ChangeSpec.witness6 (enc := enc) (C := Try.checked) false ⟨#[], #[.agg #[.int .i8 0, .float .f32 0, .float .f32 0, .int .i16 0, .float .f32 0], .slice none 0 0], []⟩ 60 (by kernel_rfl) (by kernel_rfl) (by kernel_rfl) (by kernel_rfl)) ?_
  intro W base args ds gs before hval0 hW hcnd _
  have hval : ∀ (j : Nat) t v, Try.f10.params[j]? = some t → args[j]? = some v → Value.okWide Try.prog W .any base t v := hval0
  have hW' := hW
  obtain ⟨p, q, hA0, hV, rfl, hfz, hnd⟩ := hW
  have hA : DataW.TrodAll enc Try.prog W 0 (fun _ => true) true Try.f10.params.toList args.toList ds p := hA0
  rw [Try.params10] at hA hval
  obtain ⟨v0, vs0, d0, ds0, p0, q0, hargs, rfl, rfl, h0, r0⟩ := trodAll_cons hA
  obtain ⟨v1, vs1, d1, ds1, p1, q1, rfl, rfl, rfl, h1, r1⟩ := trodAll_cons r0
  obtain ⟨rfl, rfl, rfl⟩ := trodAll_nil r1
  obtain rfl : args = #[v0, v1] := by cases args; simp_all
  obtain ⟨rfl, rfl⟩ := trodVars_none hV
  have lt0 : ∀ x ∈ p0, x.block < W.heap.size := by obtain ⟨m, hm⟩ := h0; exact DataW.trod_lt m _ _ _ hm
  have lt1 : ∀ x ∈ p1, x.block < W.heap.size := by obtain ⟨m, hm⟩ := h1; exact DataW.trod_lt m _ _ _ hm
  obtain ⟨Bn, Bw, Bg, Bt, Bs, rfl, hB0, hB1, hB2, hB3, hB4, hB5, hB6⟩ := arg_blind (hval 0 26 v0 rfl rfl)
  obtain ⟨xa, xc, x, rfl, hx⟩ := arg_ints (hval 1 41 v1 rfl rfl) h1
  clear hA0 hval0
  refine (walk_fnExactPassAll W Bn Bw Bg Bt Bs hB0 hB1 hB2 hB3 hB4 hB5 hB6 xa xc x hx).mono fun e W' ⟨he, bel⟩ => ?_
  subst he
  exact ⟨_, rfl, _, _, _, [], _, [], hW', trodAll_mk1 (shut_bool Try.underlying4 _), (trodAll_cons_mk (Below.trod laidOut (by kernel_rfl) (of_decide_eq_true (by kernel_rfl)) h0 bel lt0) (trodAll_cons_mk (Below.trod laidOut (by kernel_rfl) (of_decide_eq_true (by kernel_rfl)) h1 bel lt1) trodAll_mk0)), rfl, bel.frame _, fun h => by cases h⟩

/-- THE STATEMENT. -/
theorem fnExactPassAll_holds : Rows.FnExactPassAllSaid :=
  OpenClaim.holds_of_wide 10 Try.f10 rfl rfl rfl rfl rfl rfl rfl ⟨rfl, rfl, rfl, rfl, rfl⟩ rfl rfl rfl rfl rfl (by kernel_rfl) Try.func10 (by kernel_rfl)
    (of_decide_eq_true (by kernel_rfl)) (by unfold Func.isWrapper; first | (rw [if_pos (by decide +kernel)]; kernel_rfl) | (rw [if_neg (by decide +kernel)]; exact ⟨rfl, rfl⟩))
    (fun os started H enc _ => lifted_fnExactPassAll os started H enc)
#print axioms fnExactPassAll_holds
end Go.Proofs.Ytfkbjkdapfdeeaa
