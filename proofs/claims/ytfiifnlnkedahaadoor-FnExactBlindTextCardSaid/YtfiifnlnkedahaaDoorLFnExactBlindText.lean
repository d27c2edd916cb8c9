/-
  'Rows.FnExactBlindTextSaid': for every input the law 'FnExactBlindText' returns true and leaves its arguments as they were. No condition.
-/
import Derived.Test.YtfiifnlnkedahaaDoorRo
import Derived.Test.YtfiifnlnkedahaaDoorRt
import Derived.Test.YtfiifnlnkedahaaDoorWbv
namespace Go.Proofs.YtfiifnlnkedahaaDoor
open Go.ChangeShapes Go.WideShapes Go.ChangeAt Go.RowKit Go.Proofs.Fl Go.Proofs.Pl
set_option linter.unusedVariables false

theorem walk_fnExactBlindText (w : World) (Bn : Int) (Bw Bg : Nat) (Bt : Int) (Bs : Nat) (hB0 : -128 ≤ Bn) (hB1 : Bn ≤ 127) (hB2 : Bw < 4294967296) (hB3 : Bg < 4294967296) (hB4 : -32768 ≤ Bt) (hB5 : Bt ≤ 32767) (hB6 : Bs < 4294967296) (hT : Tabs w) :
    Calls Tryd.prog 6 #[.agg #[.int .i8 Bn, .float .f32 Bw, .float .f32 Bg, .int .i16 Bt, .float .f32 Bs]] w fun e w' => e = .returned (.bool true) ∧ Below w.heap.size w w' := by
  have kp := hidd (Keep1.start w (blindCells Bn Bw Bg Bt Bs) 40)
  have HT := hidd hT
  have e1 := hidd (fun w => blindText_spec Bn Bw Bg Bt Bs hB0 hB1 hB2 hB3 hB4 hB5 hB6 w)
  have e2 := hidd (fun w h => blindText_impl Bn Bw Bg Bt Bs hB0 hB1 hB2 hB3 hB4 hB5 hB6 w h)
  clear hT
  obtain ⟨R, hR⟩ : ∃ R, Hx.blindT Bn Bw Bg Bt Bs = R := ⟨_, rfl⟩
  rw [hR] at e1 e2
  clear hR
  go_enter Tryd.func6, Tryd.ntmps6
  go_wp2_with (first | (refine wpList_load_all rfl _ _ rfl _ rfl (blindCells Bn Bw Bg Bt Bs) 5 agg_lblind rfl kp.out.row ?_) | (go_at_call 19; refine (to_blind Bn Bw Bg Bt Bs _).mono ?_; rintro e wn ⟨rfl, hbn⟩; have kn := hidd (kp.out.step hbn); clear kp hbn; have kp := kn; clear kn) | (go_at_call 18; refine (e1.out _).mono ?_; rintro e wn ⟨rfl, hbn⟩; have kn := hidd (kp.out.step hbn); clear kp hbn; have kp := kn; clear kn) | (go_at_call 20; refine (e2.out _ (HT.out.below kp.out.below)).mono ?_; rintro e wn ⟨rfl, hbn⟩; have kn := hidd (kp.out.step hbn); clear kp hbn; have kp := kn; clear kn))
  all_goals (go_ret; exact ⟨by simp, kp.out.below⟩)

theorem tabs_fnExactBlindText {W : World} (h : laidMetH Tryd.prog Rows.fnExactBlindTextRow.laid W) : Tabs W := by
  rw [MakeChecks.laidMetH_plain _ _ _ (by kernel_rfl)] at h
  exact tabs_of h
set_option maxRecDepth 100000 in
theorem lifted_fnExactBlindText (os : Os) (started : os.Started) (H : Type) (enc : TypeId × Value → H) :
    ReturnsInHanded {} Tryd.checked os 6 .any (fun w args => (Rows.fnExactBlindTextSpec.pre enc Tryd.prog Tryd.f6 [] false w args ∧ laidMetH Tryd.prog Rows.fnExactBlindTextRow.laid w) ∧ sizedMet enc Tryd.prog Tryd.f6 (OpenSpec.ofChange Rows.fnExactBlindTextSpec) false w args) (Rows.fnExactBlindTextSpec.post enc Tryd.prog Tryd.f6 false true false false) := by
  refine returnsInHanded_of_change_and (C := Tryd.checked) (X := fun w _ => laidMetH Tryd.prog Rows.fnExactBlindTextRow.laid w) (fun _ _ _ hh h => h.of_heap hh) own started (by kernel_rfl) Tryd.func6
    (ChangeSpec.witness_shaped (enc := enc) (C := Tryd.checked) (os := os) (X := fun w _ => laidMetH Tryd.prog Rows.fnExactBlindTextRow.laid w) false (World.doorLaid Tryd.prog 400 os) #[.agg #[.int .i8 0, .float .f32 0, .float .f32 0, .int .i16 0, .float .f32 0]] 60 rfl (World.shaped_of_RefB (by kernel_rfl) (by kernel_rfl)) (by kernel_rfl) (by kernel_rfl) (by kernel_rfl) (door3 os _)) ?_
  intro W base args ds gs before hval0 hW _ _ hL _
  have hval : ∀ (j : Nat) t v, Tryd.f6.params[j]? = some t → args[j]? = some v → Value.okWide Tryd.prog W .any base t v := hval0
  have hW' := hW
  obtain ⟨p, q, hA0, hV, rfl, hfz, hnd⟩ := hW
  have hA : DataW.TrodAll enc Tryd.prog W 0 (fun _ => true) true Tryd.f6.params.toList args.toList ds p := hA0
  rw [Tryd.params6] at hA hval
  obtain ⟨v0, vs0, d0, ds0, p0, q0, hargs, rfl, rfl, h0, r0⟩ := trodAll_cons hA
  obtain ⟨rfl, rfl, rfl⟩ := trodAll_nil r0
  obtain rfl : args = #[v0] := by cases args; simp_all
  obtain ⟨rfl, rfl⟩ := trodVars_none hV
  have lt0 : ∀ x ∈ p0, x.block < W.heap.size := by obtain ⟨m, hm⟩ := h0; exact DataW.trod_lt m _ _ _ hm
  obtain ⟨Bn, Bw, Bg, Bt, Bs, rfl, hB0, hB1, hB2, hB3, hB4, hB5, hB6⟩ := arg_blind (hval 0 40 v0 rfl rfl)
  clear hA0 hval0
  refine (walk_fnExactBlindText W Bn Bw Bg Bt Bs hB0 hB1 hB2 hB3 hB4 hB5 hB6 (tabs_fnExactBlindText hL)).mono fun e W' ⟨he, bel⟩ => ?_
  subst he
  exact ⟨_, rfl, _, _, _, [], _, [], hW', trodAll_mk1 (shut_bool Tryd.underlying4 _), (trodAll_cons_mk (Below.trod laidOut (by kernel_rfl) (of_decide_eq_true (by kernel_rfl)) h0 bel lt0) trodAll_mk0), rfl, bel.frame _, fun h => by cases h⟩

/-- THE STATEMENT. -/
theorem fnExactBlindText_holds : Rows.FnExactBlindTextSaid :=
  OpenClaim.holds_of_wide 6 Tryd.f6 rfl rfl rfl rfl rfl rfl rfl ⟨rfl, rfl, rfl, rfl, rfl⟩ rfl rfl rfl rfl rfl (by kernel_rfl) Tryd.func6 (by kernel_rfl)
    (of_decide_eq_true (by kernel_rfl)) (by unfold Func.isWrapper; first | (rw [if_pos (by decide +kernel)]; kernel_rfl) | (rw [if_neg (by decide +kernel)]; exact ⟨rfl, rfl⟩))
    (fun os started H enc _ => lifted_fnExactBlindText os started H enc)
#print axioms fnExactBlindText_holds
theorem fnExactBlindText_card : Rows.FnExactBlindTextCardSaid :=
  Claim7.holds_tied_plain_at .later [] [.data, .data, .data] true (true, "3ddcbc6a90d5bb611202715297ab8f2307c173e61f76468aa0765b63b0391659") true
    fnExactBlindText_holds (fun _ h => by cases h) (by kernel_rfl) (fun _ h => by cases h) fnExactBlindText_row_tie rfl ⟨rfl, rfl⟩ (by kernel_rfl) rfl
    (fun f fn hf hfn => by
      obtain rfl : f = 6 := Option.some.inj ((show Tryd.prog.funcNamed Rows.fnExactBlindTextRow.func = some 6 by kernel_rfl).symm.trans hf) |>.symm
      obtain rfl : fn = Tryd.f6 := (Option.some.inj (Tryd.func6.symm.trans hfn)).symm
      exact ⟨by kernel_rfl, fun j t ht => by
        rw [Tryd.params6] at ht
        have hm : t ∈ [40] := by simpa using Array.mem_of_getElem? ht
        have hall : ([40].all fun u => !Tryd.prog.wantsStandIn u) = true := by kernel_rfl
        exact (show Tryd.prog.wantsStandIn t = false by simpa using List.all_eq_true.1 hall t hm)⟩)
    (by kernel_rfl)
#print axioms fnExactBlindText_card
end Go.Proofs.YtfiifnlnkedahaaDoor
