/-
  'Rows.FnExactReadNumberSaid': for every input the law 'FnExactReadNumber' returns true and leaves its arguments as they were. No condition.
-/
import Derived.Test.YtfiifnlnkedahaaDoorRo
import Derived.Test.YtfiifnlnkedahaaDoorRs5
import Derived.Test.YtfiifnlnkedahaaDoorWnn
namespace Go.Proofs.YtfiifnlnkedahaaDoor
open Go.ChangeShapes Go.WideShapes Go.ChangeAt Go.RowKit Go.Proofs.Fl Go.Proofs.Pl
set_option linter.unusedVariables false

set_option maxRecDepth 100000 in
theorem walk_fnExactReadNumber (w : World) (t : ByteArray) (ht : t.size ≤ 9223372036854775807) (hT : Tabs w) (hE : Errs w) :
    Calls Tryd.prog 4 #[.string t] w fun e w' => e = .returned (.bool true) ∧ Below w.heap.size w w' := by
  have e1 := hidd (fun w => num_spec t ht w)
  have e2 := hidd (fun w h1 h2 => num_impl t ht w (Tabs.tz h1) h2)
  have HT := hidd hT
  have HE := hidd hE
  clear hT hE
  by_cases hbig : t.size ≤ 1048576
  · go_enter Tryd.func4, Tryd.ntmps4
    go_wp2_with fail
    refine (e1.out _).mono ?_
    rintro e w1 ⟨rfl, rfl⟩
    obtain ⟨r, hr⟩ : ∃ r, Hx.numRead t.data.toList = r := ⟨_, rfl⟩
    rw [hr]
    have e2' := hidd (e2.out w1 HT.out HE.out)
    clear e2
    rw [hr] at e2'
    clear hr
    cases r with
    | some v =>
      unfold Hx.numRes at e2' ⊢
      go_wp2_with fail
      refine e2'.out.mono ?_
      rintro e w2 ⟨rfl, b2⟩
      have B2 := hidd b2
      clear b2
      go_wp2_with (refine wpList_widen rfl _ _ _ rfl _ rfl Tryd.underlying22 Tryd.underlying28 ?_; intro r1 w3 hr1 hw1; have B := hidd (show Below w1.heap.size w1 w3 from by (rcases hw1 with rfl | rfl); exact B2.out; exact B2.out.drew); have Rn := hidd hr1; clear hw1 hr1 B2; have B2 := B; clear B)
      refine (sameFloat_wid v _ _ (Hid.out (by assumption)) (Hid.out (by assumption)) _).mono ?_
      rintro e w4 ⟨rfl, rfl⟩
      go_wp2
      go_ret
      exact ⟨rfl, B2.out⟩
    | none =>
      unfold Hx.numRes at e2' ⊢
      go_wp2_with fail
      refine e2'.out.mono ?_
      rintro e w2 ⟨rfl, b2⟩
      have B2 := hidd b2
      clear b2
      go_wp2_with (refine wpList_widen rfl _ _ _ rfl _ rfl Tryd.underlying22 Tryd.underlying28 ?_; intro r1 w3 hr1 hw1; have B := hidd (show Below w1.heap.size w1 w3 from by (rcases hw1 with rfl | rfl); exact B2.out; exact B2.out.drew); have Rn := hidd hr1; clear hw1 hr1 B2; have B2 := B; clear B)
      refine (sameFloat_wid 0 _ _ (Hid.out (by assumption)) (Hid.out (by assumption)) _).mono ?_
      rintro e w4 ⟨rfl, rfl⟩
      go_wp2
      go_ret
      exact ⟨rfl, B2.out⟩
  · go_enter Tryd.func4, Tryd.ntmps4
    go_wp2
    go_ret
    exact ⟨rfl, Below.refl _ _⟩

theorem tabs_fnExactReadNumber {W : World} (h : laidMetH Tryd.prog Rows.fnExactReadNumberRow.laid W) : Tabs W ∧ Errs W := by
  rw [MakeChecks.laidMetH_plain _ _ _ (by kernel_rfl)] at h
  exact ⟨tabs_of h, errs_of5 h⟩
set_option maxRecDepth 100000 in
theorem lifted_fnExactReadNumber (os : Os) (started : os.Started) (H : Type) (enc : TypeId × Value → H) :
    ReturnsInHanded {} Tryd.checked os 4 .any (fun w args => (Rows.fnExactReadNumberSpec.pre enc Tryd.prog Tryd.f4 [] false w args ∧ laidMetH Tryd.prog Rows.fnExactReadNumberRow.laid w) ∧ sizedMet enc Tryd.prog Tryd.f4 (OpenSpec.ofChange Rows.fnExactReadNumberSpec) false w args) (Rows.fnExactReadNumberSpec.post enc Tryd.prog Tryd.f4 false true false false) := by
  refine returnsInHanded_of_change_and (C := Tryd.checked) (X := fun w _ => laidMetH Tryd.prog Rows.fnExactReadNumberRow.laid w) (fun _ _ _ hh h => h.of_heap hh) own started (by kernel_rfl) Tryd.func4
    (ChangeSpec.witness_shaped (enc := enc) (C := Tryd.checked) (os := os) (X := fun w _ => laidMetH Tryd.prog Rows.fnExactReadNumberRow.laid w) false (World.doorLaid Tryd.prog 400 os) #[.string ByteArray.empty] 60 rfl (World.shaped_of_RefB (by kernel_rfl) (by kernel_rfl)) (by kernel_rfl) (by kernel_rfl) (by kernel_rfl) (door5 os _)) ?_
  intro W base args ds gs before hval0 hW _ _ hL _
  have hval : ∀ (j : Nat) t v, Tryd.f4.params[j]? = some t → args[j]? = some v → Value.okWide Tryd.prog W .any base t v := hval0
  have hW' := hW
  obtain ⟨p, q, hA0, hV, rfl, hfz, hnd⟩ := hW
  have hA : DataW.TrodAll enc Tryd.prog W 0 (fun _ => true) true Tryd.f4.params.toList args.toList ds p := hA0
  rw [Tryd.params4] at hA hval
  obtain ⟨v0, vs0, d0, ds0, p0, q0, hargs, rfl, rfl, h0, r0⟩ := trodAll_cons hA
  obtain ⟨rfl, rfl, rfl⟩ := trodAll_nil r0
  obtain rfl : args = #[v0] := by cases args; simp_all
  obtain ⟨rfl, rfl⟩ := trodVars_none hV
  have lt0 : ∀ x ∈ p0, x.block < W.heap.size := by obtain ⟨m, hm⟩ := h0; exact DataW.trod_lt m _ _ _ hm
  obtain ⟨t, rfl, ht⟩ := arg_string Tryd.underlying9 (hval 0 9 v0 rfl rfl)
  clear hA0 hval0
  refine (walk_fnExactReadNumber W t ht (tabs_fnExactReadNumber hL).1 (tabs_fnExactReadNumber hL).2).mono fun e W' ⟨he, bel⟩ => ?_
  subst he
  exact ⟨_, rfl, _, _, _, [], _, [], hW', trodAll_mk1 (shut_bool Tryd.underlying4 _), (trodAll_cons_mk (Below.trod laidOut (by kernel_rfl) (of_decide_eq_true (by kernel_rfl)) h0 bel lt0) trodAll_mk0), rfl, bel.frame _, fun h => by cases h⟩

/-- THE STATEMENT. -/
theorem fnExactReadNumber_holds : Rows.FnExactReadNumberSaid :=
  OpenClaim.holds_of_wide 4 Tryd.f4 rfl rfl rfl rfl rfl rfl rfl ⟨rfl, rfl, rfl, rfl, rfl⟩ rfl rfl rfl rfl rfl (by kernel_rfl) Tryd.func4 (by kernel_rfl)
    (of_decide_eq_true (by kernel_rfl)) (by unfold Func.isWrapper; first | (rw [if_pos (by decide +kernel)]; kernel_rfl) | (rw [if_neg (by decide +kernel)]; exact ⟨rfl, rfl⟩))
    (fun os started H enc _ => lifted_fnExactReadNumber os started H enc)
#print axioms fnExactReadNumber_holds
theorem fnExactReadNumber_card : Rows.FnExactReadNumberCardSaid :=
  Claim7.holds_tied_plain_at .later [] [.data, .data, .data, .sentinel, .sentinel] true (true, "3ddcbc6a90d5bb611202715297ab8f2307c173e61f76468aa0765b63b0391659") true
    fnExactReadNumber_holds (fun _ h => by cases h) (by kernel_rfl) (fun _ h => by cases h) fnExactReadNumber_row_tie rfl ⟨rfl, rfl⟩ (by kernel_rfl) rfl
    (fun f fn hf hfn => by
      obtain rfl : f = 4 := Option.some.inj ((show Tryd.prog.funcNamed Rows.fnExactReadNumberRow.func = some 4 by kernel_rfl).symm.trans hf) |>.symm
      obtain rfl : fn = Tryd.f4 := (Option.some.inj (Tryd.func4.symm.trans hfn)).symm
      exact ⟨by kernel_rfl, fun j t ht => by
        rw [Tryd.params4] at ht
        have hm : t ∈ [9] := by simpa using Array.mem_of_getElem? ht
        have hall : ([9].all fun u => !Tryd.prog.wantsStandIn u) = true := by kernel_rfl
        exact (show Tryd.prog.wantsStandIn t = false by simpa using List.all_eq_true.1 hall t hm)⟩)
    (by kernel_rfl)
#print axioms fnExactReadNumber_card
end Go.Proofs.YtfiifnlnkedahaaDoor
