/-
  'Rows.FnExactValidRoomSaid': for every input the law 'FnExactValidRoom' returns true and leaves its arguments as they were. No condition.
-/
import Derived.Test.YtgibcikihniimaaRo
import Derived.Test.YtgibcikihniimaaRr
namespace Go.Proofs.Ytgibcikihniimaa
open Go.ChangeShapes Go.WideShapes Go.ChangeAt Go.RowKit Go.Proofs.Fl Go.Proofs.Pl
set_option linter.unusedVariables false

set_option maxHeartbeats 4000000 in
theorem walk_fnExactValidRoom (w : World) (Rw Rg : Int) (Ra : Option Addr) (Rc : Nat) (R : List Win) (hR1 : -128 ≤ Rw) (hR2 : Rw ≤ 127) (hR3 : -128 ≤ Rg) (hR4 : Rg ≤ 127) (hR5 : R.length ≤ 9223372036854775807) (hR : Wins w Ra R) (hRb : ∀ k, k < R.length → WinB (R.getD k wd0)) :
    Calls Try.prog 5 #[.agg #[.int .i8 Rw, .int .i8 Rg, .slice Ra R.length Rc]] w fun e w' => e = .returned (.bool true) ∧ Below w.heap.size w w' := by
  have kp := hidd (Keep1.start w (roomCells Rw Rg (.slice Ra R.length Rc)) 32)
  have HA := hidd (hR.step kp.out.below)
  have HB := hidd hRb
  clear hR hRb
  by_cases hbig : R.length ≤ 1048576
  · have hb2 : (R.length : Int) ≤ 1048576 := by omega
    go_enter Try.func5, Try.ntmps5
    go_wp2_with (refine wpList_load_all rfl _ _ rfl _ rfl (roomCells Rw Rg (.slice Ra R.length Rc)) 3 agg_lroom rfl kp.out.row ?_)
    refine (sz_ok Rw Rg Ra R.length Rc 1048576 (by omega) (by omega) _).mono ?_
    rintro e w1 ⟨rfl, hb⟩
    replace HA := hidd (HA.out.step hb)
    replace kp := hidd (kp.out.step hb)
    clear hb
    go_wp2_with (refine wpList_load_all rfl _ _ rfl _ rfl (roomCells Rw Rg (.slice Ra R.length Rc)) 3 agg_lroom rfl kp.out.row ?_)
    refine (to_room Rw Rg Ra Rc R hbig _ HA.out).mono ?_
    rintro e w2 ⟨ad, c, rfl, hb, hw, hnew⟩
    have HW := hidd hw
    replace HA := hidd (HA.out.step hb)
    replace kp := hidd (kp.out.step hb)
    clear hb hw hnew
    go_wp2_with fail
    refine (valid_room_spec Rw Rg ad c R hbig _ HW.out HB.out hR1 hR2 hR3 hR4).mono ?_
    rintro e w3 ⟨rfl, hb⟩
    replace HA := hidd (HA.out.step hb)
    replace kp := hidd (kp.out.step hb)
    clear hb HW
    go_wp2_with (refine wpList_load_all rfl _ _ rfl _ rfl (roomCells Rw Rg (.slice Ra R.length Rc)) 3 agg_lroom rfl kp.out.row ?_)
    refine (to_room Rw Rg Ra Rc R hbig _ HA.out).mono ?_
    rintro e w4 ⟨ad2, c2, rfl, hb, hw, hnew⟩
    have HW := hidd hw
    replace HA := hidd (HA.out.step hb)
    replace kp := hidd (kp.out.step hb)
    clear hb hw hnew
    have X := hidd (Row.new w4 (roomCells Rw Rg (.slice ad2 R.length c2)) 37)
    have AL := hidd ((Below.refl w4.heap.size w4).alloc (Nat.le_refl _) (.cells (roomCells Rw Rg (.slice ad2 R.length c2)) 37))
    have XL := hidd (show w4.heap.size < (w4.alloc (.cells (roomCells Rw Rg (.slice ad2 R.length c2)) 37)).heap.size from X.out.lt)
    replace HA := hidd (HA.out.step AL.out)
    replace HW := hidd (HW.out.step AL.out)
    replace kp := hidd (kp.out.step AL.out)
    clear AL
    go_wp2_with (refine wpList_load_all rfl _ _ rfl _ rfl (roomCells Rw Rg (.slice ad2 R.length c2)) 3 agg_room rfl X.out ?_)
    refine (valid_room_impl Rw Rg ad2 c2 R hbig _ HW.out hR1 hR2 hR3 hR4).mono ?_
    rintro e w5 ⟨rfl, hb⟩
    replace HA := hidd (HA.out.step hb)
    replace HW := hidd (HW.out.step hb)
    replace kp := hidd (kp.out.step hb)
    replace X := hidd (X.out.below hb XL.out)
    clear hb XL
    go_wp2_with fail
    refine wp_region_held_drew (S := RoomS w w.heap.size w4.heap.size Rw Rg Ra Rc ad2 c2 R) (by kernel_rfl) ⟨kp.out.below.drew, kp.out.row, X.out, HA.out, HW.out⟩ (fun hHeld => ?_)
    refine wpAnyH_take (i := 0) rfl (by kernel_rfl) (by kernel_rfl) (by kernel_rfl) (fun _ _ _ h => h) (take_load_all _ _ rfl _ rfl (roomCells Rw Rg (.slice ad2 R.length c2)) 3 agg_room rfl (fun w hw => hw.rowx) (by rfl)) (by assumption) ?_
    try simp only [Act.put, List.setIfInBounds_toArray, List.set_cons_zero, List.set_cons_succ]
    refine wpAnyH_take (i := 1) rfl (by kernel_rfl) (by kernel_rfl) (by kernel_rfl) (fun _ _ _ h => h) (take_load_all _ _ rfl _ rfl (roomCells Rw Rg (.slice Ra R.length Rc)) 3 agg_lroom rfl (fun w hw => hw.row) (by rfl)) (by assumption) ?_
    try simp only [Act.put, List.setIfInBounds_toArray, List.set_cons_zero, List.set_cons_succ]
    refine wpAnyH_ready (rs := [2]) (by kernel_rfl) (by simp) ?_
    refine AllReadyH.cons rfl (fun K hK => ?_) AllReadyH.nil
    go_simp
    go_at_call 12
    refine (to_room Rw Rg Ra Rc R hbig _ hHeld.arg).mono ?_
    rintro e w6 ⟨ad3, c3, rfl, hb, hw, hnew⟩
    have HW3 := hidd hw
    refine hK.out _ _ (hHeld.step hb) (fun hHeld => ?_)
    clear hK K hb hw hnew
    try simp only [Act.put, List.setIfInBounds_toArray, List.set_cons_zero, List.set_cons_succ]
    refine wpAnyH_ready (rs := [3]) (by kernel_rfl) (by simp) ?_
    refine AllReadyH.cons rfl (fun K hK => ?_) AllReadyH.nil
    go_simp
    go_at_call 14
    refine (eq_room Rw Rg ad2 ad3 c2 c3 R hbig _ hHeld.win HW3.out).mono ?_
    rintro e w7 ⟨rfl, hb⟩
    refine hK.out _ _ (hHeld.step hb) (fun hHeld => ?_)
    clear hK K hb
    try simp only [Act.put, List.setIfInBounds_toArray, List.set_cons_zero, List.set_cons_succ]
    refine wpAnyH_take (i := 4) rfl (by kernel_rfl) (by kernel_rfl) (by kernel_rfl) (fun _ _ _ h => h) (take_not _ _ rfl true rfl (by rfl)) (by assumption) ?_
    try simp only [Act.put, List.setIfInBounds_toArray, List.set_cons_zero, List.set_cons_succ]
    refine wpAnyH_done (by kernel_rfl) ?_ _
    have HH := hidd hHeld.below
    clear hHeld
    go_wp2
    go_ret; exact ⟨rfl, HH.out⟩
  · have hb2 : (1048576 : Int) < (R.length : Int) := by omega
    go_enter Try.func5, Try.ntmps5
    go_wp2_with (refine wpList_load_all rfl _ _ rfl _ rfl (roomCells Rw Rg (.slice Ra R.length Rc)) 3 agg_lroom rfl kp.out.row ?_)
    refine (sz_no Rw Rg Ra R.length Rc 1048576 (by omega) (by omega) hR5 (by omega) _).mono ?_
    rintro e w1 ⟨rfl, hb⟩
    replace kp := hidd (kp.out.step hb)
    clear hb
    go_wp2
    go_ret; exact ⟨rfl, kp.out.below⟩

set_option maxRecDepth 100000 in
theorem lifted_fnExactValidRoom (os : Os) (started : os.Started) (H : Type) (enc : TypeId × Value → H) :
    ReturnsInHanded {} Try.checked os 5 .any (Rows.fnExactValidRoomSpec.pre6 enc Try.prog Try.f5 Rows.fnExactValidRoomRow.domain false) (Rows.fnExactValidRoomSpec.post enc Try.prog Try.f5 false true false false) := by
  refine returnsInHanded_of_change (C := Try.checked) own started (by kernel_rfl) Try.func5
    (ChangeSpec.witness6 (enc := enc) (C := Try.checked) false ⟨#[], #[.agg #[.int .i8 0, .int .i8 0, .slice none 0 0]], []⟩ 60 (by kernel_rfl) (by kernel_rfl) (by kernel_rfl) (by kernel_rfl)) ?_
  intro W base args ds gs before hval0 hW hcnd _
  have hval : ∀ (j : Nat) t v, Try.f5.params[j]? = some t → args[j]? = some v → Value.okWide Try.prog W .any base t v := hval0
  have hW' := hW
  obtain ⟨p, q, hA0, hV, rfl, hfz, hnd⟩ := hW
  have hA : DataW.TrodAll enc Try.prog W 0 (fun _ => true) true Try.f5.params.toList args.toList ds p := hA0
  rw [Try.params5] at hA hval
  obtain ⟨v0, vs0, d0, ds0, p0, q0, hargs, rfl, rfl, h0, r0⟩ := trodAll_cons hA
  obtain ⟨rfl, rfl, rfl⟩ := trodAll_nil r0
  obtain rfl : args = #[v0] := by cases args; simp_all
  obtain ⟨rfl, rfl⟩ := trodVars_none hV
  have lt0 : ∀ x ∈ p0, x.block < W.heap.size := by obtain ⟨m, hm⟩ := h0; exact DataW.trod_lt m _ _ _ hm
  obtain ⟨Rw, Rg, Ra, Rc, R, rfl, hR1, hR2, hR3, hR4, hR5, hR, hRb⟩ := arg_room (hval 0 32 v0 rfl rfl) h0
  clear hA0 hval0
  refine (walk_fnExactValidRoom W Rw Rg Ra Rc R hR1 hR2 hR3 hR4 hR5 hR hRb).mono fun e W' ⟨he, bel⟩ => ?_
  subst he
  exact ⟨_, rfl, _, _, _, [], _, [], hW', trodAll_mk1 (shut_bool Try.underlying4 _), (trodAll_cons_mk (Below.trod laidOut (by kernel_rfl) (of_decide_eq_true (by kernel_rfl)) h0 bel lt0) trodAll_mk0), rfl, bel.frame _, fun h => by cases h⟩

/-- THE STATEMENT. -/
theorem fnExactValidRoom_holds : Rows.FnExactValidRoomSaid :=
  OpenClaim.holds_of_wide 5 Try.f5 rfl rfl rfl rfl rfl rfl rfl ⟨rfl, rfl, rfl, rfl, rfl⟩ rfl rfl rfl rfl rfl (by kernel_rfl) Try.func5 (by kernel_rfl)
    (of_decide_eq_true (by kernel_rfl)) (by unfold Func.isWrapper; first | (rw [if_pos (by decide +kernel)]; kernel_rfl) | (rw [if_neg (by decide +kernel)]; exact ⟨rfl, rfl⟩))
    (fun os started H enc _ => lifted_fnExactValidRoom os started H enc)
#print axioms fnExactValidRoom_holds
end Go.Proofs.Ytgibcikihniimaa
