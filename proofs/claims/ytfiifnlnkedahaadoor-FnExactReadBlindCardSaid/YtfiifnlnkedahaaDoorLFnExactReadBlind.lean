/-
  'Rows.FnExactReadBlindSaid': for every input the law 'FnExactReadBlind' returns true and leaves its arguments as they were. No condition.
-/
import Derived.Test.YtfiifnlnkedahaaDoorRo
import Derived.Test.YtfiifnlnkedahaaDoorRw7
import Derived.Test.YtfiifnlnkedahaaDoorWvs
import Derived.Test.YtfiifnlnkedahaaDoorWbd
namespace Go.Proofs.YtfiifnlnkedahaaDoor
open Go.ChangeShapes Go.WideShapes Go.ChangeAt Go.RowKit Go.Proofs.Fl Go.Proofs.Pl
set_option linter.unusedVariables false

theorem eq_rb (l : List UInt8) (w : World) :
    Calls Tryd.prog 26 #[.agg (blindOf (Hx.rbOf l)).1, .agg (blindOf (Hx.rbOf l)).1] w fun e w' => e = .returned (.bool true) ∧ Below w.heap.size w w' := by
  rcases rb_cases l with e | ⟨b, e, ho⟩ <;> rw [e]
  · exact eq_blind 0 0 0 0 0 (by decide) (by decide) (by decide) w
  · obtain ⟨_, c2, c3, _, c6⟩ := blindOk_of ho
    exact eq_blind _ _ _ _ _ (len_of c2).1 (len_of c3).1 (part_of c6).1 w
set_option maxHeartbeats 1000000 in
set_option maxRecDepth 100000 in
theorem walk_fnExactReadBlind (w : World) (t : ByteArray) (ht : t.size ≤ 9223372036854775807) (hT : Tabs w) (hE : Errs w) (hM : Mx w) :
    Calls Tryd.prog 8 #[.string t] w fun e w' => e = .returned (.bool true) ∧ Below w.heap.size w w' := by
  have HT := hidd hT
  have HE := hidd hE
  have HM := hidd hM
  clear hT hE hM
  by_cases hbig : t.size ≤ 1048576
  · have e1 := hidd (fun w => readBlind_spec t hbig w)
    have e2 := hidd (fun w h1 h2 h3 => readBlind_impl t hbig w h1 h2 h3)
    have hb2 : (t.size : Int) ≤ 1048576 := by omega
    obtain ⟨l, hl⟩ : ∃ l, t.data.toList = l := ⟨_, rfl⟩
    rw [hl] at e1 e2
    clear hl
    have o1 := hidd (rb_one l)
    have s2 := hidd (rb_size l)
    have EQ := hidd (fun w => eq_rb l w)
    obtain ⟨A, hA⟩ : ∃ A, (blindOf (Hx.rbOf l)).1 = A := ⟨_, rfl⟩
    obtain ⟨c, hc⟩ : ∃ c, (blindOf (Hx.rbOf l)).2 = c := ⟨_, rfl⟩
    rw [hA] at e1 e2 o1 s2 EQ
    rw [hc] at e1 e2
    clear hA hc
    go_enter Tryd.func8, Tryd.ntmps8
    go_wp2_with fail
    refine (e1.out _).mono ?_
    rintro e w3 ⟨rfl, hb3⟩
    have B := hidd hb3
    clear hb3
    go_wp2_with (refine wpList_store_at rfl _ _ _ rfl _ 0 rfl 5 zeroBlind A rfl agg_blind (Row.new w3 zeroBlind 42) s2.out (by decide) o1.out ?_; intro w4 hw4 r4; rw [over_all (cs := zeroBlind) (xs := A) s2.out] at r4; have R4 := hidd r4; have B4 := hidd ((B.out.alloc B.out.size (.cells zeroBlind 42)).trans (hw4.below B.out.size)); clear hw4 r4)
    refine (e2.out _ (HT.out.below B4.out) (HE.out.below B4.out) (HM.out.below B4.out)).mono ?_
    rintro e w6 ⟨rfl, hb6⟩
    have B6 := hidd (B4.out.trans (hb6.mono B4.out.size))
    have R6 := hidd (R4.out.below hb6 R4.out.lt)
    clear hb6
    go_wp2_with (first | (refine wpList_store_at rfl _ _ _ rfl _ 0 rfl 5 zeroBlind A rfl agg_blind (Row.new w6 zeroBlind 42) s2.out (by decide) o1.out ?_; intro w7 hw7 r7; rw [over_all (cs := zeroBlind) (xs := A) s2.out] at r7; have R7 := hidd r7; have S7 := hidd (hw7.row (R6.out.alloc _) (by have := R6.out.lt; omega)); have B7 := hidd ((B6.out.alloc B6.out.size (.cells zeroBlind 42)).trans (hw7.below B6.out.size)); clear hw7 r7) | (refine wpList_load_all rfl _ _ rfl w6.heap.size rfl A 5 agg_blind s2.out R7.out ?_) | (refine wpList_load_all rfl _ _ rfl w3.heap.size rfl A 5 agg_blind s2.out S7.out ?_) | (go_at_call 26; refine (EQ.out _).mono ?_; rintro e w8 ⟨rfl, hb8⟩; have B8 := hidd (B7.out.trans (hb8.mono B7.out.size)); clear hb8))
    all_goals (go_ret; exact ⟨by simp, B8.out⟩)
  · have hb2 : (1048576 : Int) < t.size := by omega
    go_enter Tryd.func8, Tryd.ntmps8
    go_wp2
    go_ret
    exact ⟨rfl, Below.refl _ _⟩

theorem tabs_fnExactReadBlind {W : World} (h : laidMetH Tryd.prog Rows.fnExactReadBlindRow.laid W) : Tabs W ∧ Errs W := by
  rw [MakeChecks.laidMetH_plain _ _ _ (by kernel_rfl)] at h
  exact ⟨tabs_of h, errs_of7 h⟩
set_option maxRecDepth 100000 in
theorem lifted_fnExactReadBlind (os : Os) (started : os.Started) (H : Type) (enc : TypeId × Value → H) :
    ReturnsInHanded {} Tryd.checked os 8 .any (fun w args => (Rows.fnExactReadBlindSpec.pre enc Tryd.prog Tryd.f8 [] false w args ∧ laidMetH Tryd.prog Rows.fnExactReadBlindRow.laid w) ∧ sizedMet enc Tryd.prog Tryd.f8 (OpenSpec.ofChange Rows.fnExactReadBlindSpec) false w args) (Rows.fnExactReadBlindSpec.post enc Tryd.prog Tryd.f8 false true false false) := by
  refine handed_both (C := Tryd.checked) (X := fun w _ => laidMetH Tryd.prog Rows.fnExactReadBlindRow.laid w) (fun _ _ _ hh h => h.of_heap hh) own started (by kernel_rfl) Tryd.func8
    (ChangeSpec.witness_shaped (enc := enc) (C := Tryd.checked) (os := os) (X := fun w _ => laidMetH Tryd.prog Rows.fnExactReadBlindRow.laid w) false (World.laidAll Tryd.prog os Rows.fnExactReadBlindRow.laid) #[.string ByteArray.empty] 60 (World.laidAll_os _ _ _) (World.shaped_of_ZipB (by kernel_rfl) (by kernel_rfl)) (by kernel_rfl) (by kernel_rfl) (by kernel_rfl) (door7 os _)) ?_
  intro W base args ds gs before hval0 hW _ hL hSh
  have hval : ∀ (j : Nat) t v, Tryd.f8.params[j]? = some t → args[j]? = some v → Value.okWide Tryd.prog W .any base t v := hval0
  have hW' := hW
  obtain ⟨p, q, hA0, hV, rfl, hfz, hnd⟩ := hW
  have hA : DataW.TrodAll enc Tryd.prog W 0 (fun _ => true) true Tryd.f8.params.toList args.toList ds p := hA0
  rw [Tryd.params8] at hA hval
  obtain ⟨v0, vs0, d0, ds0, p0, q0, hargs, rfl, rfl, h0, r0⟩ := trodAll_cons hA
  obtain ⟨rfl, rfl, rfl⟩ := trodAll_nil r0
  obtain rfl : args = #[v0] := by cases args; simp_all
  obtain ⟨rfl, rfl⟩ := trodVars_none hV
  have lt0 : ∀ x ∈ p0, x.block < W.heap.size := by obtain ⟨m, hm⟩ := h0; exact DataW.trod_lt m _ _ _ hm
  obtain ⟨t, rfl, ht⟩ := arg_string Tryd.underlying9 (hval 0 9 v0 rfl rfl)
  clear hA0 hval0
  refine (walk_fnExactReadBlind W t ht (tabs_fnExactReadBlind hL).1 (tabs_fnExactReadBlind hL).2 (mx_of hSh)).mono fun e W' ⟨he, bel⟩ => ?_
  subst he
  exact ⟨_, rfl, _, _, _, [], _, [], hW', trodAll_mk1 (shut_bool Tryd.underlying4 _), (trodAll_cons_mk (Below.trod laidOut (by kernel_rfl) (of_decide_eq_true (by kernel_rfl)) h0 bel lt0) trodAll_mk0), rfl, bel.frame _, fun h => by cases h⟩

/-- THE STATEMENT. -/
theorem fnExactReadBlind_holds : Rows.FnExactReadBlindSaid :=
  OpenClaim.holds_of_wide 8 Tryd.f8 rfl rfl rfl rfl rfl rfl rfl ⟨rfl, rfl, rfl, rfl, rfl⟩ rfl rfl rfl rfl rfl (by kernel_rfl) Tryd.func8 (by kernel_rfl)
    (of_decide_eq_true (by kernel_rfl)) (by unfold Func.isWrapper; first | (rw [if_pos (by decide +kernel)]; kernel_rfl) | (rw [if_neg (by decide +kernel)]; exact ⟨rfl, rfl⟩))
    (fun os started H enc _ => lifted_fnExactReadBlind os started H enc)
#print axioms fnExactReadBlind_holds
theorem fnExactReadBlind_card : Rows.FnExactReadBlindCardSaid :=
  Claim7.holds_tied_plain_at .later [] [.data, .data, .data, .data, .sentinel, .sentinel, .pinned] true (true, "3ddcbc6a90d5bb611202715297ab8f2307c173e61f76468aa0765b63b0391659") true
    fnExactReadBlind_holds (fun _ h => by cases h) (by kernel_rfl) (fun _ h => by cases h) fnExactReadBlind_row_tie rfl ⟨rfl, rfl⟩ (by kernel_rfl) rfl
    (fun f fn hf hfn => by
      obtain rfl : f = 8 := Option.some.inj ((show Tryd.prog.funcNamed Rows.fnExactReadBlindRow.func = some 8 by kernel_rfl).symm.trans hf) |>.symm
      obtain rfl : fn = Tryd.f8 := (Option.some.inj (Tryd.func8.symm.trans hfn)).symm
      exact ⟨by kernel_rfl, fun j t ht => by
        rw [Tryd.params8] at ht
        have hm : t ∈ [9] := by simpa using Array.mem_of_getElem? ht
        have hall : ([9].all fun u => !Tryd.prog.wantsStandIn u) = true := by kernel_rfl
        exact (show Tryd.prog.wantsStandIn t = false by simpa using List.all_eq_true.1 hall t hm)⟩)
    (by kernel_rfl)
#print axioms fnExactReadBlind_card
end Go.Proofs.YtfiifnlnkedahaaDoor
