/-
  'Rows.FnExactSunTextSaid': for every input the law 'FnExactSunText' returns true and leaves its arguments as they were. No condition.
-/
import Derived.Test.YtfiifnlnkedahaaDoorRo
import Derived.Test.YtfiifnlnkedahaaDoorRt
import Derived.Test.YtfiifnlnkedahaaDoorWsi
namespace Go.Proofs.YtfiifnlnkedahaaDoor
open Go.ChangeShapes Go.WideShapes Go.ChangeAt Go.RowKit Go.Proofs.Fl Go.Proofs.Pl
set_option linter.unusedVariables false

theorem walk_fnExactSunText (w : World) (S : List Int) (hS0 : S.length = 48) (hS1 : ∀ x ∈ S, -32768 ≤ x ∧ x ≤ 32767) (hT : Tabs w) :
    Calls Tryd.prog 5 #[.agg (sunCells S)] w fun e w' => e = .returned (.bool true) ∧ Below w.heap.size w w' := by
  have kp := hidd (Keep1.start w (sunCells S) 33)
  have HS := hidd (And.intro hS0 hS1)
  have HT := hidd hT
  have e1 := hidd (fun w => sunText_spec S hS0 hS1 w)
  have e2 := hidd (fun w h => sunText_impl S hS0 hS1 w h)
  clear hS0 hS1 hT
  obtain ⟨R, hR⟩ : ∃ R, Hx.sunT S = R := ⟨_, rfl⟩
  rw [hR] at e1 e2
  clear hR
  go_enter Tryd.func5, Tryd.ntmps5
  go_wp2_with (first | (refine wpList_load_all rfl _ _ rfl _ rfl (sunCells S) 48 agg_laws (sun_size HS.out.1) kp.out.row ?_) | (go_at_call 16; refine (to_sun S HS.out.1 _).mono ?_; rintro e wn ⟨rfl, hbn⟩; have kn := hidd (kp.out.step hbn); clear kp hbn; have kp := kn; clear kn) | (go_at_call 15; refine (e1.out _).mono ?_; rintro e wn ⟨rfl, hbn⟩; have kn := hidd (kp.out.step hbn); clear kp hbn; have kp := kn; clear kn) | (go_at_call 17; refine (e2.out _ (HT.out.below kp.out.below)).mono ?_; rintro e wn ⟨rfl, hbn⟩; have kn := hidd (kp.out.step hbn); clear kp hbn; have kp := kn; clear kn))
  all_goals (go_ret; exact ⟨by simp, kp.out.below⟩)

theorem tabs_fnExactSunText {W : World} (h : laidMetH Tryd.prog Rows.fnExactSunTextRow.laid W) : Tabs W := by
  rw [MakeChecks.laidMetH_plain _ _ _ (by kernel_rfl)] at h
  exact tabs_of h
set_option maxRecDepth 100000 in
theorem lifted_fnExactSunText (os : Os) (started : os.Started) (H : Type) (enc : TypeId × Value → H) :
    ReturnsInHanded {} Tryd.checked os 5 .any (fun w args => (Rows.fnExactSunTextSpec.pre enc Tryd.prog Tryd.f5 [] false w args ∧ laidMetH Tryd.prog Rows.fnExactSunTextRow.laid w) ∧ sizedMet enc Tryd.prog Tryd.f5 (OpenSpec.ofChange Rows.fnExactSunTextSpec) false w args) (Rows.fnExactSunTextSpec.post enc Tryd.prog Tryd.f5 false true false false) := by
  refine returnsInHanded_of_change_and (C := Tryd.checked) (X := fun w _ => laidMetH Tryd.prog Rows.fnExactSunTextRow.laid w) (fun _ _ _ hh h => h.of_heap hh) own started (by kernel_rfl) Tryd.func5
    (ChangeSpec.witness_shaped (enc := enc) (C := Tryd.checked) (os := os) (X := fun w _ => laidMetH Tryd.prog Rows.fnExactSunTextRow.laid w) false (World.doorLaid Tryd.prog 400 os) #[.agg (Array.replicate 48 (.int .i16 0))] 60 rfl (World.shaped_of_RefB (by kernel_rfl) (by kernel_rfl)) (by kernel_rfl) (by kernel_rfl) (by kernel_rfl) (door3 os _)) ?_
  intro W base args ds gs before hval0 hW _ _ hL _
  have hval : ∀ (j : Nat) t v, Tryd.f5.params[j]? = some t → args[j]? = some v → Value.okWide Tryd.prog W .any base t v := hval0
  have hW' := hW
  obtain ⟨p, q, hA0, hV, rfl, hfz, hnd⟩ := hW
  have hA : DataW.TrodAll enc Tryd.prog W 0 (fun _ => true) true Tryd.f5.params.toList args.toList ds p := hA0
  rw [Tryd.params5] at hA hval
  obtain ⟨v0, vs0, d0, ds0, p0, q0, hargs, rfl, rfl, h0, r0⟩ := trodAll_cons hA
  obtain ⟨rfl, rfl, rfl⟩ := trodAll_nil r0
  obtain rfl : args = #[v0] := by cases args; simp_all
  obtain ⟨rfl, rfl⟩ := trodVars_none hV
  have lt0 : ∀ x ∈ p0, x.block < W.heap.size := by obtain ⟨m, hm⟩ := h0; exact DataW.trod_lt m _ _ _ hm
  obtain ⟨S, rfl, hS0, hS1⟩ := arg_sun (hval 0 33 v0 rfl rfl)
  clear hA0 hval0
  refine (walk_fnExactSunText W S hS0 hS1 (tabs_fnExactSunText hL)).mono fun e W' ⟨he, bel⟩ => ?_
  subst he
  exact ⟨_, rfl, _, _, _, [], _, [], hW', trodAll_mk1 (shut_bool Tryd.underlying4 _), (trodAll_cons_mk (Below.trod laidOut (by kernel_rfl) (of_decide_eq_true (by kernel_rfl)) h0 bel lt0) trodAll_mk0), rfl, bel.frame _, fun h => by cases h⟩

/-- THE STATEMENT. -/
theorem fnExactSunText_holds : Rows.FnExactSunTextSaid :=
  OpenClaim.holds_of_wide 5 Tryd.f5 rfl rfl rfl rfl rfl rfl rfl ⟨rfl, rfl, rfl, rfl, rfl⟩ rfl rfl rfl rfl rfl (by kernel_rfl) Tryd.func5 (by kernel_rfl)
    (of_decide_eq_true (by kernel_rfl)) (by unfold Func.isWrapper; first | (rw [if_pos (by decide +kernel)]; kernel_rfl) | (rw [if_neg (by decide +kernel)]; exact ⟨rfl, rfl⟩))
    (fun os started H enc _ => lifted_fnExactSunText os started H enc)
#print axioms fnExactSunText_holds
theorem fnExactSunText_card : Rows.FnExactSunTextCardSaid :=
  Claim7.holds_tied_plain_at .later [] [.data, .data, .data] true (true, "3ddcbc6a90d5bb611202715297ab8f2307c173e61f76468aa0765b63b0391659") true
    fnExactSunText_holds (fun _ h => by cases h) (by kernel_rfl) (fun _ h => by cases h) fnExactSunText_row_tie rfl ⟨rfl, rfl⟩ (by kernel_rfl) rfl
    (fun f fn hf hfn => by
      obtain rfl : f = 5 := Option.some.inj ((show Tryd.prog.funcNamed Rows.fnExactSunTextRow.func = some 5 by kernel_rfl).symm.trans hf) |>.symm
      obtain rfl : fn = Tryd.f5 := (Option.some.inj (Tryd.func5.symm.trans hfn)).symm
      exact ⟨by kernel_rfl, fun j t ht => by
        rw [Tryd.params5] at ht
        have hm : t ∈ [33] := by simpa using Array.mem_of_getElem? ht
        have hall : ([33].all fun u => !Tryd.prog.wantsStandIn u) = true := by kernel_rfl
        exact (show Tryd.prog.wantsStandIn t = false by simpa using List.all_eq_true.1 hall t hm)⟩)
    (by kernel_rfl)
#print axioms fnExactSunText_card
end Go.Proofs.YtfiifnlnkedahaaDoor
