/-
  'Rows.FnExactLaterSunSaid': for every input the law 'FnExactLaterSun' returns true and leaves its arguments as they were. No condition.
-/
import Derived.Test.YtjodamgdoodnkaaRo
import Derived.Test.YtjodamgdoodnkaaWla
import Derived.Test.YtjodamgdoodnkaaWse
namespace Go.Proofs.Ytjodamgdoodnkaa
open Go.ChangeShapes Go.WideShapes Go.ChangeAt Go.RowKit Go.Proofs.Fl Go.Proofs.Pl
set_option linter.unusedVariables false

set_option maxHeartbeats 1000000 in
theorem walk_fnExactLaterSun (w : World) (S : List Int) (hS0 : S.length = 48) (hS1 : ∀ x ∈ S, -32768 ≤ x ∧ x ≤ 32767) (n : Int) (hn1 : -9223372036854775808 ≤ n) (hn2 : n ≤ 9223372036854775807) :
    Calls Try.prog 7 #[.agg (sunCells S), .int .i64 n] w fun e w' => e = .returned (.bool true) ∧ Below w.heap.size w w' := by
  have kp := hidd (Keep1.start w (sunCells S) 25)
  have HS := hidd (And.intro hS0 hS1)
  clear hS0 hS1
  have o2 : Hid ((sunMade (sunCode S (inR n 0 23)) (latF S n) (latG S n)).1.length = 48) := sm_len _ _ _
  have s2 := hidd (sun_size o2.out)
  go_enter Try.func7, Try.ntmps7
  go_wp2_with (first | (refine wpList_load_all rfl _ _ rfl _ rfl (sunCells S) 48 agg_laws (sun_size HS.out.1) kp.out.row ?_) | (go_at_call 16; refine (to_sun S HS.out.1 _).mono ?_; rintro e wn ⟨rfl, hbn⟩; have kn := hidd (kp.out.step hbn); clear kp hbn; have kp := kn; clear kn))
  refine (later_spec S HS.out.1 HS.out.2 n _).mono ?_
  rintro e w3 ⟨rfl, hb3⟩
  replace kp := hidd (kp.out.step hb3)
  clear hb3
  go_wp2_with (first | (refine wpList_store_at rfl _ _ _ rfl _ 0 rfl 48 (sunCells zeroSun) (sunCells (sunMade (sunCode S (inR n 0 23)) (latF S n) (latG S n)).1) rfl agg_impl (Row.new w3 (sunCells zeroSun) 27) s2.out (by decide) (sun_one _) ?_; intro w4 hw4 r4; rw [over_all (cs := (sunCells zeroSun)) (xs := sunCells (sunMade (sunCode S (inR n 0 23)) (latF S n) (latG S n)).1) s2.out] at r4; have R4 := hidd r4; replace kp := hidd (kp.out.step (((Below.refl _ _).alloc (Nat.le_refl _) _).trans (hw4.below (Nat.le_refl _)))); have e4 := hidd hw4.size; clear hw4 r4) | (refine wpList_load_all rfl _ _ rfl _ rfl (sunCells S) 48 agg_laws (sun_size HS.out.1) kp.out.row ?_))
  refine (to_sun S HS.out.1 _).mono ?_
  rintro e w5 ⟨rfl, hb5⟩
  replace kp := hidd (kp.out.step hb5)
  have R5 := hidd (R4.out.below hb5 R4.out.lt)
  clear hb5
  go_wp2_with fail
  refine (later_impl S HS.out.1 HS.out.2 n _).mono ?_
  rintro e w6 ⟨rfl, hb6⟩
  replace kp := hidd (kp.out.step hb6)
  have R6 := hidd (R5.out.below hb6 R5.out.lt)
  clear hb6
  go_wp2_with (first | (refine wpList_store_at rfl _ _ _ rfl _ 0 rfl 48 (sunCells zeroSun) (sunCells (sunMade (sunCode S (inR n 0 23)) (latF S n) (latG S n)).1) rfl agg_impl (Row.new w6 (sunCells zeroSun) 27) s2.out (by decide) (sun_one _) ?_; intro w7 hw7 r7; rw [over_all (cs := (sunCells zeroSun)) (xs := sunCells (sunMade (sunCode S (inR n 0 23)) (latF S n) (latG S n)).1) s2.out] at r7; have R7 := hidd r7; have S7 := hidd (hw7.row (R6.out.alloc _) (by have := R6.out.lt; omega)); replace kp := hidd (kp.out.step (((Below.refl _ _).alloc (Nat.le_refl _) _).trans (hw7.below (Nat.le_refl _)))); clear hw7 r7) | (refine wpList_load_all rfl _ _ rfl w6.heap.size rfl (sunCells (sunMade (sunCode S (inR n 0 23)) (latF S n) (latG S n)).1) 48 agg_impl s2.out R7.out ?_) | (refine wpList_load_all rfl _ _ rfl w3.heap.size rfl (sunCells (sunMade (sunCode S (inR n 0 23)) (latF S n) (latG S n)).1) 48 agg_impl s2.out S7.out ?_) | (go_at_call 24; refine (eq_sun _ o2.out _).mono ?_; rintro e wn ⟨rfl, hbn⟩; have kn := hidd (kp.out.step hbn); clear kp hbn; have kp := kn; clear kn))
  all_goals (go_ret; exact ⟨by simp, kp.out.below⟩)

set_option maxRecDepth 100000 in
theorem lifted_fnExactLaterSun (os : Os) (started : os.Started) (H : Type) (enc : TypeId × Value → H) :
    ReturnsInHanded {} Try.checked os 7 .any (Rows.fnExactLaterSunSpec.pre6 enc Try.prog Try.f7 Rows.fnExactLaterSunRow.domain false) (Rows.fnExactLaterSunSpec.post enc Try.prog Try.f7 false true false false) := by
  refine returnsInHanded_of_change (C := Try.checked) own started (by kernel_rfl) Try.func7
    (ChangeSpec.witness6 (enc := enc) (C := Try.checked) false ⟨#[], #[.agg (Array.replicate 48 (.int .i16 0)), .int .i64 0], []⟩ 60 (by kernel_rfl) (by kernel_rfl) (by kernel_rfl) (by kernel_rfl)) ?_
  intro W base args ds gs before hval0 hW hcnd _
  have hval : ∀ (j : Nat) t v, Try.f7.params[j]? = some t → args[j]? = some v → Value.okWide Try.prog W .any base t v := hval0
  have hW' := hW
  obtain ⟨p, q, hA0, hV, rfl, hfz, hnd⟩ := hW
  have hA : DataW.TrodAll enc Try.prog W 0 (fun _ => true) true Try.f7.params.toList args.toList ds p := hA0
  rw [Try.params7] at hA hval
  obtain ⟨v0, vs0, d0, ds0, p0, q0, hargs, rfl, rfl, h0, r0⟩ := trodAll_cons hA
  obtain ⟨v1, vs1, d1, ds1, p1, q1, rfl, rfl, rfl, h1, r1⟩ := trodAll_cons r0
  obtain ⟨rfl, rfl, rfl⟩ := trodAll_nil r1
  obtain rfl : args = #[v0, v1] := by cases args; simp_all
  obtain ⟨rfl, rfl⟩ := trodVars_none hV
  have lt0 : ∀ x ∈ p0, x.block < W.heap.size := by obtain ⟨m, hm⟩ := h0; exact DataW.trod_lt m _ _ _ hm
  have lt1 : ∀ x ∈ p1, x.block < W.heap.size := by obtain ⟨m, hm⟩ := h1; exact DataW.trod_lt m _ _ _ hm
  obtain ⟨S, rfl, hS0, hS1⟩ := arg_sun (hval 0 25 v0 rfl rfl)
  obtain ⟨n, rfl, hn1, hn2⟩ := arg_int Try.underlying2 (hval 1 2 v1 rfl rfl)
  clear hA0 hval0
  refine (walk_fnExactLaterSun W S hS0 hS1 n hn1 hn2).mono fun e W' ⟨he, bel⟩ => ?_
  subst he
  exact ⟨_, rfl, _, _, _, [], _, [], hW', trodAll_mk1 (shut_bool Try.underlying4 _), (trodAll_cons_mk (Below.trod laidOut (by kernel_rfl) (of_decide_eq_true (by kernel_rfl)) h0 bel lt0) (trodAll_cons_mk (Below.trod laidOut (by kernel_rfl) (of_decide_eq_true (by kernel_rfl)) h1 bel lt1) trodAll_mk0)), rfl, bel.frame _, fun h => by cases h⟩

/-- THE STATEMENT. -/
theorem fnExactLaterSun_holds : Rows.FnExactLaterSunSaid :=
  OpenClaim.holds_of_wide 7 Try.f7 rfl rfl rfl rfl rfl rfl rfl ⟨rfl, rfl, rfl, rfl, rfl⟩ rfl rfl rfl rfl rfl (by kernel_rfl) Try.func7 (by kernel_rfl)
    (of_decide_eq_true (by kernel_rfl)) (by unfold Func.isWrapper; first | (rw [if_pos (by decide +kernel)]; kernel_rfl) | (rw [if_neg (by decide +kernel)]; exact ⟨rfl, rfl⟩))
    (fun os started H enc _ => lifted_fnExactLaterSun os started H enc)
#print axioms fnExactLaterSun_holds
end Go.Proofs.Ytjodamgdoodnkaa
