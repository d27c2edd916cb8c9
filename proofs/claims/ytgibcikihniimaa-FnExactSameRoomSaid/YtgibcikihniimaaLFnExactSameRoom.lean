/-
  'Rows.FnExactSameRoomSaid': for every input the law 'FnExactSameRoom' returns true and leaves its arguments as they were. No condition.
-/
import Derived.Test.YtgibcikihniimaaRo
import Derived.Test.YtgibcikihniimaaRr
import Derived.Test.YtgibcikihniimaaWrs
namespace Go.Proofs.Ytgibcikihniimaa
open Go.ChangeShapes Go.WideShapes Go.ChangeAt Go.RowKit Go.Proofs.Fl Go.Proofs.Pl
set_option linter.unusedVariables false

set_option maxHeartbeats 8000000 in
theorem walk_fnExactSameRoom (w : World) (Aw Ag : Int) (Aa : Option Addr) (Ac : Nat) (A : List Win) (hA1 : -128 ≤ Aw) (hA2 : Aw ≤ 127) (hA3 : -128 ≤ Ag) (hA4 : Ag ≤ 127) (hA5 : A.length ≤ 9223372036854775807) (hA6 : Wins w Aa A) (hAb : ∀ k, k < A.length → WinB (A.getD k wd0)) (Bw Bg : Int) (Ba : Option Addr) (Bc : Nat) (B : List Win) (hB1 : -128 ≤ Bw) (hB2 : Bw ≤ 127) (hB3 : -128 ≤ Bg) (hB4 : Bg ≤ 127) (hB5 : B.length ≤ 9223372036854775807) (hB6 : Wins w Ba B) (hBb : ∀ k, k < B.length → WinB (B.getD k wd0)) :
    Calls Try.prog 4 #[.agg #[.int .i8 Aw, .int .i8 Ag, .slice Aa A.length Ac], .agg #[.int .i8 Bw, .int .i8 Bg, .slice Ba B.length Bc]] w fun e w' => e = .returned (.bool true) ∧ Below w.heap.size w w' := by
  have K := hidd (show RS2 w Aw Ag Aa Ac A Bw Bg Ba Bc B ((w.alloc (.cells (roomCells Aw Ag (.slice Aa A.length Ac)) 32)).alloc (.cells (roomCells Bw Bg (.slice Ba B.length Bc)) 32)) from by
    have k := Keep2.start w (roomCells Aw Ag (.slice Aa A.length Ac)) (roomCells Bw Bg (.slice Ba B.length Bc)) 32 32
    exact ⟨k.below, k.row, k.row2, hA6.step k.below, hB6.step k.below⟩)
  clear hA6 hB6 hAb hBb
  by_cases hbig : A.length ≤ 1048576
  · by_cases hbig2 : (B.length : Int) ≤ 1048576 - A.length
    · skip
      go_enter Try.func4, Try.ntmps4
      go_wp2_with (refine wpList_load_all rfl _ _ rfl _ rfl (roomCells Aw Ag (.slice Aa A.length Ac)) 3 agg_lroom rfl K.out.rowA ?_)
      refine (sz_ok Aw Ag Aa A.length Ac 1048576 (by omega) (by omega) _).mono ?_
      rintro e w1 ⟨rfl, hb⟩
      replace K := hidd (K.out.step hb)
      clear hb
      go_wp2_with (refine wpList_load_all rfl _ _ rfl _ rfl (roomCells Bw Bg (.slice Ba B.length Bc)) 3 agg_lroom rfl K.out.rowB ?_)
      refine (sz_ok Bw Bg Ba B.length Bc _ (by omega) (by omega) _).mono ?_
      rintro e w2 ⟨rfl, hb⟩
      replace K := hidd (K.out.step hb)
      clear hb
      go_wp2_with fail
      refine wp_region_held_drew (S := RS2 w Aw Ag Aa Ac A Bw Bg Ba Bc B) (by kernel_rfl) (K.out.step (below_dr (Below.refl _ _) 1)) (fun hHeld => ?_)
      refine wpAnyH_take (i := 0) rfl (by kernel_rfl) (by kernel_rfl) (by kernel_rfl) (fun _ _ _ h => h) (take_load_all _ _ rfl _ rfl (roomCells Aw Ag (.slice Aa A.length Ac)) 3 agg_lroom rfl (fun w hw => hw.rowA) (by rfl)) (by assumption) ?_
      try simp only [Act.put, List.setIfInBounds_toArray, List.set_cons_zero, List.set_cons_succ]
      refine wpAnyH_take (i := 2) rfl (by kernel_rfl) (by kernel_rfl) (by kernel_rfl) (fun _ _ _ h => h) (take_load_all _ _ rfl _ rfl (roomCells Bw Bg (.slice Ba B.length Bc)) 3 agg_lroom rfl (fun w hw => hw.rowB) (by rfl)) (by assumption) ?_
      try simp only [Act.put, List.setIfInBounds_toArray, List.set_cons_zero, List.set_cons_succ]
      refine wpAnyH_ready (rs := [1]) (by kernel_rfl) (by simp) ?_
      refine AllReadyH.cons rfl (fun K hK => ?_) AllReadyH.nil
      go_simp
      go_at_call 12
      refine (to_room Aw Ag Aa Ac A hbig _ hHeld.argA).mono ?_
      rintro e w3 ⟨ad, c, rfl, hb, hw, hnew⟩
      have WA := hidd hw
      refine hK.out _ _ (hHeld.step hb) (fun hHeld => ?_)
      clear hK K hb hw hnew
      try simp only [Act.put, List.setIfInBounds_toArray, List.set_cons_zero, List.set_cons_succ]
      refine wpAnyH_ready (rs := [3]) (by kernel_rfl) (by simp) ?_
      refine AllReadyH.cons rfl (fun K hK => ?_) AllReadyH.nil
      go_simp
      go_at_call 12
      refine (to_room Bw Bg Ba Bc B (by omega) _ hHeld.argB).mono ?_
      rintro e w4 ⟨bd, d, rfl, hb, hw, hnew⟩
      have WB := hidd hw
      replace WA := hidd (WA.out.step hb)
      refine hK.out _ _ (hHeld.step hb) (fun hHeld => ?_)
      clear hK K hb hw hnew
      try simp only [Act.put, List.setIfInBounds_toArray, List.set_cons_zero, List.set_cons_succ]
      refine wpAnyH_ready (rs := [4]) (by kernel_rfl) (by simp) ?_
      refine AllReadyH.cons rfl (fun K hK => ?_) AllReadyH.nil
      go_simp
      go_at_call 11
      refine (same_room_spec Aw Ag ad c A Bw Bg bd d B A.length B.length rfl rfl hbig (by omega) _ WA.out WB.out).mono ?_
      rintro e w5 ⟨rfl, hb⟩
      refine hK.out _ _ (hHeld.step hb) (fun hHeld => ?_)
      clear hK K hb WA WB
      try simp only [Act.put, List.setIfInBounds_toArray, List.set_cons_zero, List.set_cons_succ]
      refine wpAnyH_take (i := 5) (oi := ⟨some 6, _, _, _, _, _⟩) rfl (by kernel_rfl) (by kernel_rfl) (by kernel_rfl) (fun _ _ _ h => h) (take_assign _ rfl (by rfl)) (by assumption) ?_
      try simp only [Act.put, List.setIfInBounds_toArray, List.set_cons_zero, List.set_cons_succ]
      refine wpAnyH_done (by kernel_rfl) ?_ _
      have K := hidd hHeld
      clear hHeld
      go_wp2_with (refine wpList_load_all rfl _ _ rfl _ rfl (roomCells Aw Ag (.slice Aa A.length Ac)) 3 agg_lroom rfl K.out.rowA ?_)
      refine (to_room Aw Ag Aa Ac A hbig _ K.out.argA).mono ?_
      rintro e w6 ⟨xd, xc, rfl, hb, hw, hnew⟩
      have X := hidd (RV.new Aw Ag xd xc A w6 37 hw)
      replace K := hidd (K.out.step hb)
      clear hb hw hnew
      replace K := hidd (K.out.step (below_new w6 (.cells (roomCells Aw Ag (.slice xd A.length xc)) 37)))
      go_wp2_with (refine wpList_load_all rfl _ _ rfl _ rfl (roomCells Bw Bg (.slice Ba B.length Bc)) 3 agg_lroom rfl K.out.rowB ?_)
      refine (to_room Bw Bg Ba Bc B (by omega) _ K.out.argB).mono ?_
      rintro e w7 ⟨yd, yc, rfl, hb, hw, hnew⟩
      have Y := hidd (RV.new Bw Bg yd yc B w7 37 hw)
      replace K := hidd (K.out.step hb)
      replace X := hidd (X.out.step hb)
      clear hb hw hnew
      replace K := hidd (K.out.step (below_new w7 (.cells (roomCells Bw Bg (.slice yd B.length yc)) 37)))
      replace X := hidd (X.out.step (below_new w7 (.cells (roomCells Bw Bg (.slice yd B.length yc)) 37)))
      go_wp2_with (first | (refine wpList_load_all rfl _ _ rfl _ rfl (roomCells Aw Ag (.slice xd A.length xc)) 3 agg_room rfl X.out.row ?_) | (refine wpList_load_all rfl _ _ rfl _ rfl (roomCells Bw Bg (.slice yd B.length yc)) 3 agg_room rfl Y.out.row ?_))
      refine (same_room_impl Aw Ag xd xc A Bw Bg yd yc B A.length B.length rfl rfl hbig (by omega) _ X.out.win Y.out.win).mono ?_
      rintro e w8 ⟨rfl, hb⟩
      replace K := hidd (K.out.step hb)
      replace X := hidd (X.out.step hb)
      replace Y := hidd (Y.out.step hb)
      clear hb
      go_wp2_with fail
      refine wp_region_held_drew (S := fun w' => RS2 w Aw Ag Aa Ac A Bw Bg Ba Bc B w' ∧ RV w6.heap.size Aw Ag xd xc A w' ∧ RV w7.heap.size Bw Bg yd yc B w') (by kernel_rfl) ⟨K.out.step (below_dr (Below.refl _ _) 1), X.out.step (below_dr (Below.refl _ _) 1), Y.out.step (below_dr (Below.refl _ _) 1)⟩ (fun hHeld => ?_)
      refine wpAnyH_take (i := 0) rfl (by kernel_rfl) (by kernel_rfl) (by kernel_rfl) (fun _ _ _ h => h) (take_load_all _ _ rfl _ rfl (roomCells Aw Ag (.slice xd A.length xc)) 3 agg_room rfl (fun w hw => hw.2.1.row) (by rfl)) (by assumption) ?_
      try simp only [Act.put, List.setIfInBounds_toArray, List.set_cons_zero, List.set_cons_succ]
      refine wpAnyH_take (i := 1) rfl (by kernel_rfl) (by kernel_rfl) (by kernel_rfl) (fun _ _ _ h => h) (take_load_all _ _ rfl _ rfl (roomCells Aw Ag (.slice Aa A.length Ac)) 3 agg_lroom rfl (fun w hw => hw.1.rowA) (by rfl)) (by assumption) ?_
      try simp only [Act.put, List.setIfInBounds_toArray, List.set_cons_zero, List.set_cons_succ]
      refine wpAnyH_ready (rs := [2]) (by kernel_rfl) (by simp) ?_
      refine AllReadyH.cons rfl (fun K hK => ?_) AllReadyH.nil
      go_simp
      go_at_call 12
      refine (to_room Aw Ag Aa Ac A hbig _ hHeld.1.argA).mono ?_
      rintro e waX ⟨adX, cX, rfl, hb, hw, hnew⟩
      have WN := hidd hw
      refine hK.out _ _ ⟨hHeld.1.step hb, hHeld.2.1.step hb, hHeld.2.2.step hb⟩ (fun hHeld => ?_)
      clear hK hb hw hnew
      try simp only [Act.put, List.setIfInBounds_toArray, List.set_cons_zero, List.set_cons_succ]
      refine wpAnyH_ready (rs := [3]) (by kernel_rfl) (by simp) ?_
      refine AllReadyH.cons rfl (fun K hK => ?_) AllReadyH.nil
      go_simp
      go_at_call 14
      refine (eq_room Aw Ag xd adX xc cX A hbig _ hHeld.2.1.win WN.out).mono ?_
      rintro e wbX ⟨rfl, hb⟩
      refine hK.out _ _ ⟨hHeld.1.step hb, hHeld.2.1.step hb, hHeld.2.2.step hb⟩ (fun hHeld => ?_)
      clear hK hb WN
      try simp only [Act.put, List.setIfInBounds_toArray, List.set_cons_zero, List.set_cons_succ]
      refine wpAnyH_take (i := 4) (oi := ⟨some 39, _, _, _, _, _⟩) rfl (by kernel_rfl) (by kernel_rfl) (by kernel_rfl) (fun _ _ _ h => h) (take_not _ _ rfl rfl (by rfl)) (by assumption) ?_
      simp only [Act.put, List.setIfInBounds_toArray, List.set_cons_zero, List.set_cons_succ]
      refine wpAnyH_done (by kernel_rfl) ?_ _
      replace K := hidd hHeld.1
      replace X := hidd hHeld.2.1
      replace Y := hidd hHeld.2.2
      clear hHeld
      go_wp2_with fail
      refine wp_region_held_drew (S := fun w' => RS2 w Aw Ag Aa Ac A Bw Bg Ba Bc B w' ∧ RV w6.heap.size Aw Ag xd xc A w' ∧ RV w7.heap.size Bw Bg yd yc B w') (by kernel_rfl) ⟨K.out.step (below_dr (Below.refl _ _) 1), X.out.step (below_dr (Below.refl _ _) 1), Y.out.step (below_dr (Below.refl _ _) 1)⟩ (fun hHeld => ?_)
      refine wpAnyH_take (i := 0) rfl (by kernel_rfl) (by kernel_rfl) (by kernel_rfl) (fun _ _ _ h => h) (take_load_all _ _ rfl _ rfl (roomCells Bw Bg (.slice yd B.length yc)) 3 agg_room rfl (fun w hw => hw.2.2.row) (by rfl)) (by assumption) ?_
      try simp only [Act.put, List.setIfInBounds_toArray, List.set_cons_zero, List.set_cons_succ]
      refine wpAnyH_take (i := 1) rfl (by kernel_rfl) (by kernel_rfl) (by kernel_rfl) (fun _ _ _ h => h) (take_load_all _ _ rfl _ rfl (roomCells Bw Bg (.slice Ba B.length Bc)) 3 agg_lroom rfl (fun w hw => hw.1.rowB) (by rfl)) (by assumption) ?_
      try simp only [Act.put, List.setIfInBounds_toArray, List.set_cons_zero, List.set_cons_succ]
      refine wpAnyH_ready (rs := [2]) (by kernel_rfl) (by simp) ?_
      refine AllReadyH.cons rfl (fun K hK => ?_) AllReadyH.nil
      go_simp
      go_at_call 12
      refine (to_room Bw Bg Ba Bc B (by omega) _ hHeld.1.argB).mono ?_
      rintro e waY ⟨adY, cY, rfl, hb, hw, hnew⟩
      have WN := hidd hw
      refine hK.out _ _ ⟨hHeld.1.step hb, hHeld.2.1.step hb, hHeld.2.2.step hb⟩ (fun hHeld => ?_)
      clear hK hb hw hnew
      try simp only [Act.put, List.setIfInBounds_toArray, List.set_cons_zero, List.set_cons_succ]
      refine wpAnyH_ready (rs := [3]) (by kernel_rfl) (by simp) ?_
      refine AllReadyH.cons rfl (fun K hK => ?_) AllReadyH.nil
      go_simp
      go_at_call 14
      refine (eq_room Bw Bg yd adY yc cY B (by omega) _ hHeld.2.2.win WN.out).mono ?_
      rintro e wbY ⟨rfl, hb⟩
      refine hK.out _ _ ⟨hHeld.1.step hb, hHeld.2.1.step hb, hHeld.2.2.step hb⟩ (fun hHeld => ?_)
      clear hK hb WN
      try simp only [Act.put, List.setIfInBounds_toArray, List.set_cons_zero, List.set_cons_succ]
      refine wpAnyH_take (i := 4) (oi := ⟨some 44, _, _, _, _, _⟩) rfl (by kernel_rfl) (by kernel_rfl) (by kernel_rfl) (fun _ _ _ h => h) (take_not _ _ rfl rfl (by rfl)) (by assumption) ?_
      simp only [Act.put, List.setIfInBounds_toArray, List.set_cons_zero, List.set_cons_succ]
      refine wpAnyH_done (by kernel_rfl) ?_ _
      replace K := hidd hHeld.1
      replace X := hidd hHeld.2.1
      replace Y := hidd hHeld.2.2
      clear hHeld
      go_wp2
      go_ret; exact ⟨rfl, K.out.below⟩
    · skip
      go_enter Try.func4, Try.ntmps4
      go_wp2_with (refine wpList_load_all rfl _ _ rfl _ rfl (roomCells Aw Ag (.slice Aa A.length Ac)) 3 agg_lroom rfl K.out.rowA ?_)
      refine (sz_ok Aw Ag Aa A.length Ac 1048576 (by omega) (by omega) _).mono ?_
      rintro e w1 ⟨rfl, hb⟩
      replace K := hidd (K.out.step hb)
      clear hb
      go_wp2_with (refine wpList_load_all rfl _ _ rfl _ rfl (roomCells Bw Bg (.slice Ba B.length Bc)) 3 agg_lroom rfl K.out.rowB ?_)
      refine (sz_no Bw Bg Ba B.length Bc _ (by omega) (by omega) hB5 (by omega) _).mono ?_
      rintro e w2 ⟨rfl, hb⟩
      replace K := hidd (K.out.step hb)
      clear hb
      go_wp2
      go_ret; exact ⟨rfl, K.out.below⟩
  · skip
    go_enter Try.func4, Try.ntmps4
    go_wp2_with (refine wpList_load_all rfl _ _ rfl _ rfl (roomCells Aw Ag (.slice Aa A.length Ac)) 3 agg_lroom rfl K.out.rowA ?_)
    refine (sz_no Aw Ag Aa A.length Ac 1048576 (by omega) (by omega) hA5 (by omega) _).mono ?_
    rintro e w1 ⟨rfl, hb⟩
    replace K := hidd (K.out.step hb)
    clear hb
    go_wp2
    go_ret; exact ⟨rfl, K.out.below⟩

set_option maxRecDepth 100000 in
theorem lifted_fnExactSameRoom (os : Os) (started : os.Started) (H : Type) (enc : TypeId × Value → H) :
    ReturnsInHanded {} Try.checked os 4 .any (Rows.fnExactSameRoomSpec.pre6 enc Try.prog Try.f4 Rows.fnExactSameRoomRow.domain false) (Rows.fnExactSameRoomSpec.post enc Try.prog Try.f4 false true false false) := by
  refine returnsInHanded_of_change (C := Try.checked) own started (by kernel_rfl) Try.func4
    (ChangeSpec.witness6 (enc := enc) (C := Try.checked) false ⟨#[], #[.agg #[.int .i8 0, .int .i8 0, .slice none 0 0], .agg #[.int .i8 0, .int .i8 0, .slice none 0 0]], []⟩ 60 (by kernel_rfl) (by kernel_rfl) (by kernel_rfl) (by kernel_rfl)) ?_
  intro W base args ds gs before hval0 hW hcnd _
  have hval : ∀ (j : Nat) t v, Try.f4.params[j]? = some t → args[j]? = some v → Value.okWide Try.prog W .any base t v := hval0
  have hW' := hW
  obtain ⟨p, q, hA0, hV, rfl, hfz, hnd⟩ := hW
  have hA : DataW.TrodAll enc Try.prog W 0 (fun _ => true) true Try.f4.params.toList args.toList ds p := hA0
  rw [Try.params4] at hA hval
  obtain ⟨v0, vs0, d0, ds0, p0, q0, hargs, rfl, rfl, h0, r0⟩ := trodAll_cons hA
  obtain ⟨v1, vs1, d1, ds1, p1, q1, rfl, rfl, rfl, h1, r1⟩ := trodAll_cons r0
  obtain ⟨rfl, rfl, rfl⟩ := trodAll_nil r1
  obtain rfl : args = #[v0, v1] := by cases args; simp_all
  obtain ⟨rfl, rfl⟩ := trodVars_none hV
  have lt0 : ∀ x ∈ p0, x.block < W.heap.size := by obtain ⟨m, hm⟩ := h0; exact DataW.trod_lt m _ _ _ hm
  have lt1 : ∀ x ∈ p1, x.block < W.heap.size := by obtain ⟨m, hm⟩ := h1; exact DataW.trod_lt m _ _ _ hm
  obtain ⟨Aw, Ag, Aa, Ac, A, rfl, hA1, hA2, hA3, hA4, hA5, hA6, hAb⟩ := arg_room (hval 0 32 v0 rfl rfl) h0
  obtain ⟨Bw, Bg, Ba, Bc, B, rfl, hB1, hB2, hB3, hB4, hB5, hB6, hBb⟩ := arg_room (hval 1 32 v1 rfl rfl) h1
  clear hA0 hval0
  refine (walk_fnExactSameRoom W Aw Ag Aa Ac A hA1 hA2 hA3 hA4 hA5 hA6 hAb Bw Bg Ba Bc B hB1 hB2 hB3 hB4 hB5 hB6 hBb).mono fun e W' ⟨he, bel⟩ => ?_
  subst he
  exact ⟨_, rfl, _, _, _, [], _, [], hW', trodAll_mk1 (shut_bool Try.underlying4 _), (trodAll_cons_mk (Below.trod laidOut (by kernel_rfl) (of_decide_eq_true (by kernel_rfl)) h0 bel lt0) (trodAll_cons_mk (Below.trod laidOut (by kernel_rfl) (of_decide_eq_true (by kernel_rfl)) h1 bel lt1) trodAll_mk0)), rfl, bel.frame _, fun h => by cases h⟩

/-- THE STATEMENT. -/
theorem fnExactSameRoom_holds : Rows.FnExactSameRoomSaid :=
  OpenClaim.holds_of_wide 4 Try.f4 rfl rfl rfl rfl rfl rfl rfl ⟨rfl, rfl, rfl, rfl, rfl⟩ rfl rfl rfl rfl rfl (by kernel_rfl) Try.func4 (by kernel_rfl)
    (of_decide_eq_true (by kernel_rfl)) (by unfold Func.isWrapper; first | (rw [if_pos (by decide +kernel)]; kernel_rfl) | (rw [if_neg (by decide +kernel)]; exact ⟨rfl, rfl⟩))
    (fun os started H enc _ => lifted_fnExactSameRoom os started H enc)
#print axioms fnExactSameRoom_holds
end Go.Proofs.Ytgibcikihniimaa
