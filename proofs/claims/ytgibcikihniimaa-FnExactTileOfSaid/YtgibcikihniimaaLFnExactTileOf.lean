/-
  'Rows.FnExactTileOfSaid': for every input the law 'FnExactTileOf' returns true and leaves its arguments as they were. No condition.
-/
import Derived.Test.YtgibcikihniimaaRo
import Derived.Test.YtgibcikihniimaaRr
import Derived.Test.YtgibcikihniimaaWru
namespace Go.Proofs.Ytgibcikihniimaa
open Go.ChangeShapes Go.WideShapes Go.ChangeAt Go.RowKit Go.Proofs.Fl Go.Proofs.Pl
set_option linter.unusedVariables false

set_option maxHeartbeats 8000000 in
theorem walk_fnExactTileOf (w : World) (Rw Rg : Int) (Ra : Option Addr) (Rc : Nat) (R : List Win) (hR1 : -128 ≤ Rw) (hR2 : Rw ≤ 127) (hR3 : -128 ≤ Rg) (hR4 : Rg ≤ 127) (hR5 : R.length ≤ 9223372036854775807) (hR6 : Wins w Ra R) (hRb : ∀ k, k < R.length → WinB (R.getD k wd0)) (Ww Wt : Int) (Wl : Nat) (hW1 : -128 ≤ Ww) (hW2 : Ww ≤ 127) (hW3 : -128 ≤ Wt) (hW4 : Wt ≤ 127) :
    Calls Try.prog 6 #[.agg #[.int .i8 Rw, .int .i8 Rg, .slice Ra R.length Rc], .agg #[.int .i8 Ww, .int .i8 Wt, .float .f32 Wl]] w fun e w' => e = .returned (.bool true) ∧ Below w.heap.size w w' := by
  have K := hidd (show TS w Rw Rg Ra Rc R Ww Wt Wl ((w.alloc (.cells (roomCells Rw Rg (.slice Ra R.length Rc)) 32)).alloc (.cells (winCells Ww Wt Wl) 43)) from by
    have k := Keep2.start w (roomCells Rw Rg (.slice Ra R.length Rc)) (winCells Ww Wt Wl) 32 43
    exact ⟨k.below, k.row, k.row2, hR6.step k.below⟩)
  have HX := hidd hRb
  clear hR6 hRb
  by_cases hbig : R.length ≤ 1048576
  · have hb2 : (R.length : Int) ≤ 1048576 := by omega
    go_enter Try.func6, Try.ntmps6
    go_wp2_with (refine wpList_load_all rfl _ _ rfl _ rfl (roomCells Rw Rg (.slice Ra R.length Rc)) 3 agg_lroom rfl K.out.rowA ?_)
    refine (sz_ok Rw Rg Ra R.length Rc 1048576 (by omega) (by omega) _).mono ?_
    rintro e w1 ⟨rfl, hb⟩
    replace K := hidd (K.out.step hb)
    clear hb
    go_upto_region 5 with fail
    go_cut [6, 7] (fun s6 s7 wx => TileCut s6 s7 (tileAns Rw Rg R Ww Wt Wl) (toCode (roomOk Rw Rg R) (fitsIn Rw Rg Ww Wt Wl)) (TS w Rw Rg Ra Rc R Ww Wt Wl) wx)
    case first =>
      refine wp_region_held_drew (S := TS w Rw Rg Ra Rc R Ww Wt Wl) (by kernel_rfl) (K.out.step (below_dr (Below.refl _ _) 1)) (fun hHeld => ?_)
      refine wpAnyH_take (i := 0) rfl (by kernel_rfl) (by kernel_rfl) (by kernel_rfl) (fun _ _ _ h => h) (take_load_all _ _ rfl _ rfl (roomCells Rw Rg (.slice Ra R.length Rc)) 3 agg_lroom rfl (fun w hw => hw.rowA) (by rfl)) (by assumption) ?_
      try simp only [Act.put, List.setIfInBounds_toArray, List.set_cons_zero, List.set_cons_succ]
      refine wpAnyH_take (i := 2) rfl (by kernel_rfl) (by kernel_rfl) (by kernel_rfl) (fun _ _ _ h => h) (take_load_all _ _ rfl _ rfl (winCells Ww Wt Wl) 3 agg_lwin rfl (fun w hw => hw.rowW) (by rfl)) (by assumption) ?_
      try simp only [Act.put, List.setIfInBounds_toArray, List.set_cons_zero, List.set_cons_succ]
      refine wpAnyH_ready (rs := [1, 8]) (by kernel_rfl) (by simp) ?_
      refine AllReadyH.cons rfl (fun K hK => ?_) (AllReadyH.cons rfl (fun K hK => ?_) AllReadyH.nil)
      · skip
        go_simp
        go_at_call 12
        refine (to_room Rw Rg Ra Rc R hbig _ hHeld.argA).mono ?_
        rintro e wn ⟨ad, c, rfl, hb, hw, hnew⟩
        have WN := hidd hw
        refine hK.out _ _ (hHeld.step hb) (fun hHeld => ?_)
        clear hK K hb hw hnew
        try simp only [Act.put, List.setIfInBounds_toArray, List.set_cons_zero, List.set_cons_succ]
        refine wpAnyH_ready (rs := [3, 8]) (by kernel_rfl) (by simp) ?_
        refine AllReadyH.cons rfl (fun K hK => ?_) (AllReadyH.cons rfl (fun K hK => ?_) AllReadyH.nil)
        · skip
          go_simp
          go_at_call 18
          refine (to_window Ww Wt Wl _).mono ?_
          rintro e wn ⟨rfl, hb⟩
          replace WN := hidd (WN.out.step hb)
          refine hK.out _ _ (hHeld.step hb) (fun hHeld => ?_)
          clear hK K hb
          try simp only [Act.put, List.setIfInBounds_toArray, List.set_cons_zero, List.set_cons_succ]
          refine wpAnyH_ready (rs := [4, 8]) (by kernel_rfl) (by simp) ?_
          refine AllReadyH.cons rfl (fun K hK => ?_) (AllReadyH.cons rfl (fun K hK => ?_) AllReadyH.nil)
          · skip
            go_simp
            go_at_call 17
            refine (tileOf_spec Rw Rg ad c R Ww Wt Wl hbig _ WN.out HX.out hR1 hR2 hR3 hR4 hW1 hW2 hW3 hW4).mono ?_
            rintro e wn ⟨rfl, hb⟩
            replace WN := hidd (WN.out.step hb)
            refine hK.out _ _ (hHeld.step hb) (fun hHeld => ?_)
            clear hK K hb WN
            try simp only [Act.put, List.setIfInBounds_toArray, List.set_cons_zero, List.set_cons_succ]
            refine wpAnyH_take (i := 5) (oi := ⟨some 16, _, _, _, _, _⟩) rfl (by kernel_rfl) (by kernel_rfl) (by kernel_rfl) (fun _ _ _ h => h) (take_move _ rfl (by rfl)) (by assumption) ?_
            simp only [Act.put, List.setIfInBounds_toArray, List.set_cons_zero, List.set_cons_succ]
            refine wpAnyH_take (i := 6) (oi := ⟨some 22, _, _, _, _, _⟩) rfl (by kernel_rfl) (by kernel_rfl) (by kernel_rfl) (fun _ _ _ h => h) (take_extract _ _ rfl _ rfl _ rfl (by rfl)) (by assumption) ?_
            simp only [Act.put, List.setIfInBounds_toArray, List.set_cons_zero, List.set_cons_succ]
            refine wpAnyH_take (i := 7) (oi := ⟨some 23, _, _, _, _, _⟩) rfl (by kernel_rfl) (by kernel_rfl) (by kernel_rfl) (fun _ _ _ h => h) (take_extract _ _ rfl _ rfl _ rfl (by rfl)) (by assumption) ?_
            simp only [Act.put, List.setIfInBounds_toArray, List.set_cons_zero, List.set_cons_succ]
            refine wpAnyH_ready (rs := [8]) (by kernel_rfl) (by simp) ?_
            refine AllReadyH.cons rfl (fun K hK => ?_) AllReadyH.nil
            go_simp
            have GA := hidd hHeld.lim
            have RG := hidd (hHeld.new (tileCells (0, 0)) 45)
            refine hK.out _ _ (hHeld.step (below_new _ _)) (fun hHeld => ?_)
            clear hK K
            try simp only [Act.put, List.setIfInBounds_toArray, List.set_cons_zero, List.set_cons_succ]
            refine wpAnyH_ready (rs := [9]) (by kernel_rfl) (by simp) ?_
            refine AllReadyH.cons rfl (fun K hK => ?_) AllReadyH.nil
            rw [if_pos (by rfl)]
            refine wp_store_at _ _ _ rfl _ 0 rfl 2 (tileCells (0, 0)) (tileCells (tileAns Rw Rg R Ww Wt Wl)) rfl agg_tile (by first | exact RG.out | (have q := RG.out; simp at q; exact q)) rfl (by decide) (tile_one _) ?_
            intro ws hws hrs
            rw [over_all (by rfl)] at hrs
            have RT := hidd hrs
            refine hK.out _ _ (hHeld.stepB GA.out (by first | exact hws | simpa using hws)) (fun hHeld => ?_)
            clear hK K hrs hws
            try simp only [Act.put, List.setIfInBounds_toArray, List.set_cons_zero, List.set_cons_succ]
            refine wpAnyH_take (i := 10) (oi := ⟨some 7, _, _, _, _, _⟩) rfl (by kernel_rfl) (by kernel_rfl) (by kernel_rfl) (fun _ _ _ h => h) (take_assign _ rfl (by rfl)) (by assumption) ?_
            simp only [Act.put, List.setIfInBounds_toArray, List.set_cons_zero, List.set_cons_succ]
            refine wpAnyH_done (by kernel_rfl) ?_ _
            have HD := hidd hHeld
            clear hHeld
            go_wp2_with fail
            go_meet
            exact ⟨_, rfl, rfl, RT.out, HD.out⟩
          · skip
            go_simp
            have GA := hidd hHeld.lim
            have RG := hidd (hHeld.new (tileCells (0, 0)) 45)
            refine hK.out _ _ (hHeld.step (below_new _ _)) (fun hHeld => ?_)
            clear hK K
            try simp only [Act.put, List.setIfInBounds_toArray, List.set_cons_zero, List.set_cons_succ]
            replace WN := hidd (WN.out.step (below_new _ (.cells (tileCells (0, 0)) 45)))
            refine wpAnyH_ready (rs := [4]) (by kernel_rfl) (by simp) ?_
            refine AllReadyH.cons rfl (fun K hK => ?_) AllReadyH.nil
            go_simp
            go_at_call 17
            refine (tileOf_spec Rw Rg ad c R Ww Wt Wl hbig _ WN.out HX.out hR1 hR2 hR3 hR4 hW1 hW2 hW3 hW4).mono ?_
            rintro e wn ⟨rfl, hb⟩
            replace WN := hidd (WN.out.step hb)
            replace RG := hidd (RG.out.below hb RG.out.lt)
            refine hK.out _ _ (hHeld.step hb) (fun hHeld => ?_)
            clear hK K hb WN
            try simp only [Act.put, List.setIfInBounds_toArray, List.set_cons_zero, List.set_cons_succ]
            refine wpAnyH_take (i := 5) (oi := ⟨some 16, _, _, _, _, _⟩) rfl (by kernel_rfl) (by kernel_rfl) (by kernel_rfl) (fun _ _ _ h => h) (take_move _ rfl (by rfl)) (by assumption) ?_
            simp only [Act.put, List.setIfInBounds_toArray, List.set_cons_zero, List.set_cons_succ]
            refine wpAnyH_take (i := 6) (oi := ⟨some 22, _, _, _, _, _⟩) rfl (by kernel_rfl) (by kernel_rfl) (by kernel_rfl) (fun _ _ _ h => h) (take_extract _ _ rfl _ rfl _ rfl (by rfl)) (by assumption) ?_
            simp only [Act.put, List.setIfInBounds_toArray, List.set_cons_zero, List.set_cons_succ]
            refine wpAnyH_take (i := 7) (oi := ⟨some 23, _, _, _, _, _⟩) rfl (by kernel_rfl) (by kernel_rfl) (by kernel_rfl) (fun _ _ _ h => h) (take_extract _ _ rfl _ rfl _ rfl (by rfl)) (by assumption) ?_
            simp only [Act.put, List.setIfInBounds_toArray, List.set_cons_zero, List.set_cons_succ]
            refine wpAnyH_ready (rs := [9]) (by kernel_rfl) (by simp) ?_
            refine AllReadyH.cons rfl (fun K hK => ?_) AllReadyH.nil
            rw [if_pos (by rfl)]
            refine wp_store_at _ _ _ rfl _ 0 rfl 2 (tileCells (0, 0)) (tileCells (tileAns Rw Rg R Ww Wt Wl)) rfl agg_tile (by first | exact RG.out | (have q := RG.out; simp at q; exact q)) rfl (by decide) (tile_one _) ?_
            intro ws hws hrs
            rw [over_all (by rfl)] at hrs
            have RT := hidd hrs
            refine hK.out _ _ (hHeld.stepB GA.out (by first | exact hws | simpa using hws)) (fun hHeld => ?_)
            clear hK K hrs hws
            try simp only [Act.put, List.setIfInBounds_toArray, List.set_cons_zero, List.set_cons_succ]
            refine wpAnyH_take (i := 10) (oi := ⟨some 7, _, _, _, _, _⟩) rfl (by kernel_rfl) (by kernel_rfl) (by kernel_rfl) (fun _ _ _ h => h) (take_assign _ rfl (by rfl)) (by assumption) ?_
            simp only [Act.put, List.setIfInBounds_toArray, List.set_cons_zero, List.set_cons_succ]
            refine wpAnyH_done (by kernel_rfl) ?_ _
            have HD := hidd hHeld
            clear hHeld
            go_wp2_with fail
            go_meet
            exact ⟨_, rfl, rfl, RT.out, HD.out⟩
        · skip
          go_simp
          have GA := hidd hHeld.lim
          have RG := hidd (hHeld.new (tileCells (0, 0)) 45)
          refine hK.out _ _ (hHeld.step (below_new _ _)) (fun hHeld => ?_)
          clear hK K
          try simp only [Act.put, List.setIfInBounds_toArray, List.set_cons_zero, List.set_cons_succ]
          replace WN := hidd (WN.out.step (below_new _ (.cells (tileCells (0, 0)) 45)))
          refine wpAnyH_ready (rs := [3]) (by kernel_rfl) (by simp) ?_
          refine AllReadyH.cons rfl (fun K hK => ?_) AllReadyH.nil
          go_simp
          go_at_call 18
          refine (to_window Ww Wt Wl _).mono ?_
          rintro e wn ⟨rfl, hb⟩
          replace WN := hidd (WN.out.step hb)
          replace RG := hidd (RG.out.below hb RG.out.lt)
          refine hK.out _ _ (hHeld.step hb) (fun hHeld => ?_)
          clear hK K hb
          try simp only [Act.put, List.setIfInBounds_toArray, List.set_cons_zero, List.set_cons_succ]
          refine wpAnyH_ready (rs := [4]) (by kernel_rfl) (by simp) ?_
          refine AllReadyH.cons rfl (fun K hK => ?_) AllReadyH.nil
          go_simp
          go_at_call 17
          refine (tileOf_spec Rw Rg ad c R Ww Wt Wl hbig _ WN.out HX.out hR1 hR2 hR3 hR4 hW1 hW2 hW3 hW4).mono ?_
          rintro e wn ⟨rfl, hb⟩
          replace WN := hidd (WN.out.step hb)
          replace RG := hidd (RG.out.below hb RG.out.lt)
          refine hK.out _ _ (hHeld.step hb) (fun hHeld => ?_)
          clear hK K hb WN
          try simp only [Act.put, List.setIfInBounds_toArray, List.set_cons_zero, List.set_cons_succ]
          refine wpAnyH_take (i := 5) (oi := ⟨some 16, _, _, _, _, _⟩) rfl (by kernel_rfl) (by kernel_rfl) (by kernel_rfl) (fun _ _ _ h => h) (take_move _ rfl (by rfl)) (by assumption) ?_
          simp only [Act.put, List.setIfInBounds_toArray, List.set_cons_zero, List.set_cons_succ]
          refine wpAnyH_take (i := 6) (oi := ⟨some 22, _, _, _, _, _⟩) rfl (by kernel_rfl) (by kernel_rfl) (by kernel_rfl) (fun _ _ _ h => h) (take_extract _ _ rfl _ rfl _ rfl (by rfl)) (by assumption) ?_
          simp only [Act.put, List.setIfInBounds_toArray, List.set_cons_zero, List.set_cons_succ]
          refine wpAnyH_take (i := 7) (oi := ⟨some 23, _, _, _, _, _⟩) rfl (by kernel_rfl) (by kernel_rfl) (by kernel_rfl) (fun _ _ _ h => h) (take_extract _ _ rfl _ rfl _ rfl (by rfl)) (by assumption) ?_
          simp only [Act.put, List.setIfInBounds_toArray, List.set_cons_zero, List.set_cons_succ]
          refine wpAnyH_ready (rs := [9]) (by kernel_rfl) (by simp) ?_
          refine AllReadyH.cons rfl (fun K hK => ?_) AllReadyH.nil
          rw [if_pos (by rfl)]
          refine wp_store_at _ _ _ rfl _ 0 rfl 2 (tileCells (0, 0)) (tileCells (tileAns Rw Rg R Ww Wt Wl)) rfl agg_tile (by first | exact RG.out | (have q := RG.out; simp at q; exact q)) rfl (by decide) (tile_one _) ?_
          intro ws hws hrs
          rw [over_all (by rfl)] at hrs
          have RT := hidd hrs
          refine hK.out _ _ (hHeld.stepB GA.out (by first | exact hws | simpa using hws)) (fun hHeld => ?_)
          clear hK K hrs hws
          try simp only [Act.put, List.setIfInBounds_toArray, List.set_cons_zero, List.set_cons_succ]
          refine wpAnyH_take (i := 10) (oi := ⟨some 7, _, _, _, _, _⟩) rfl (by kernel_rfl) (by kernel_rfl) (by kernel_rfl) (fun _ _ _ h => h) (take_assign _ rfl (by rfl)) (by assumption) ?_
          simp only [Act.put, List.setIfInBounds_toArray, List.set_cons_zero, List.set_cons_succ]
          refine wpAnyH_done (by kernel_rfl) ?_ _
          have HD := hidd hHeld
          clear hHeld
          go_wp2_with fail
          go_meet
          exact ⟨_, rfl, rfl, RT.out, HD.out⟩
      · skip
        go_simp
        have GA := hidd hHeld.lim
        have RG := hidd (hHeld.new (tileCells (0, 0)) 45)
        refine hK.out _ _ (hHeld.step (below_new _ _)) (fun hHeld => ?_)
        clear hK K
        try simp only [Act.put, List.setIfInBounds_toArray, List.set_cons_zero, List.set_cons_succ]
        refine wpAnyH_ready (rs := [1]) (by kernel_rfl) (by simp) ?_
        refine AllReadyH.cons rfl (fun K hK => ?_) AllReadyH.nil
        go_simp
        go_at_call 12
        refine (to_room Rw Rg Ra Rc R hbig _ hHeld.argA).mono ?_
        rintro e wn ⟨ad, c, rfl, hb, hw, hnew⟩
        have WN := hidd hw
        replace RG := hidd (RG.out.below hb RG.out.lt)
        refine hK.out _ _ (hHeld.step hb) (fun hHeld => ?_)
        clear hK K hb hw hnew
        try simp only [Act.put, List.setIfInBounds_toArray, List.set_cons_zero, List.set_cons_succ]
        refine wpAnyH_ready (rs := [3]) (by kernel_rfl) (by simp) ?_
        refine AllReadyH.cons rfl (fun K hK => ?_) AllReadyH.nil
        go_simp
        go_at_call 18
        refine (to_window Ww Wt Wl _).mono ?_
        rintro e wn ⟨rfl, hb⟩
        replace RG := hidd (RG.out.below hb RG.out.lt)
        replace WN := hidd (WN.out.step hb)
        refine hK.out _ _ (hHeld.step hb) (fun hHeld => ?_)
        clear hK K hb
        try simp only [Act.put, List.setIfInBounds_toArray, List.set_cons_zero, List.set_cons_succ]
        refine wpAnyH_ready (rs := [4]) (by kernel_rfl) (by simp) ?_
        refine AllReadyH.cons rfl (fun K hK => ?_) AllReadyH.nil
        go_simp
        go_at_call 17
        refine (tileOf_spec Rw Rg ad c R Ww Wt Wl hbig _ WN.out HX.out hR1 hR2 hR3 hR4 hW1 hW2 hW3 hW4).mono ?_
        rintro e wn ⟨rfl, hb⟩
        replace RG := hidd (RG.out.below hb RG.out.lt)
        replace WN := hidd (WN.out.step hb)
        refine hK.out _ _ (hHeld.step hb) (fun hHeld => ?_)
        clear hK K hb WN
        try simp only [Act.put, List.setIfInBounds_toArray, List.set_cons_zero, List.set_cons_succ]
        refine wpAnyH_take (i := 5) (oi := ⟨some 16, _, _, _, _, _⟩) rfl (by kernel_rfl) (by kernel_rfl) (by kernel_rfl) (fun _ _ _ h => h) (take_move _ rfl (by rfl)) (by assumption) ?_
        simp only [Act.put, List.setIfInBounds_toArray, List.set_cons_zero, List.set_cons_succ]
        refine wpAnyH_take (i := 6) (oi := ⟨some 22, _, _, _, _, _⟩) rfl (by kernel_rfl) (by kernel_rfl) (by kernel_rfl) (fun _ _ _ h => h) (take_extract _ _ rfl _ rfl _ rfl (by rfl)) (by assumption) ?_
        simp only [Act.put, List.setIfInBounds_toArray, List.set_cons_zero, List.set_cons_succ]
        refine wpAnyH_take (i := 7) (oi := ⟨some 23, _, _, _, _, _⟩) rfl (by kernel_rfl) (by kernel_rfl) (by kernel_rfl) (fun _ _ _ h => h) (take_extract _ _ rfl _ rfl _ rfl (by rfl)) (by assumption) ?_
        simp only [Act.put, List.setIfInBounds_toArray, List.set_cons_zero, List.set_cons_succ]
        refine wpAnyH_ready (rs := [9]) (by kernel_rfl) (by simp) ?_
        refine AllReadyH.cons rfl (fun K hK => ?_) AllReadyH.nil
        rw [if_pos (by rfl)]
        refine wp_store_at _ _ _ rfl _ 0 rfl 2 (tileCells (0, 0)) (tileCells (tileAns Rw Rg R Ww Wt Wl)) rfl agg_tile (by first | exact RG.out | (have q := RG.out; simp at q; exact q)) rfl (by decide) (tile_one _) ?_
        intro ws hws hrs
        rw [over_all (by rfl)] at hrs
        have RT := hidd hrs
        refine hK.out _ _ (hHeld.stepB GA.out (by first | exact hws | simpa using hws)) (fun hHeld => ?_)
        clear hK K hrs hws
        try simp only [Act.put, List.setIfInBounds_toArray, List.set_cons_zero, List.set_cons_succ]
        refine wpAnyH_take (i := 10) (oi := ⟨some 7, _, _, _, _, _⟩) rfl (by kernel_rfl) (by kernel_rfl) (by kernel_rfl) (fun _ _ _ h => h) (take_assign _ rfl (by rfl)) (by assumption) ?_
        simp only [Act.put, List.setIfInBounds_toArray, List.set_cons_zero, List.set_cons_succ]
        refine wpAnyH_done (by kernel_rfl) ?_ _
        have HD := hidd hHeld
        clear hHeld
        go_wp2_with fail
        go_meet
        exact ⟨_, rfl, rfl, RT.out, HD.out⟩
    case rest =>
      obtain ⟨g, rfl, rfl, ht, hk⟩ := hcut
      replace K := hidd hk
      have T := hidd ht
      clear hk ht
      go_wp2_with (refine wpList_load_all rfl _ _ rfl _ rfl (roomCells Rw Rg (.slice Ra R.length Rc)) 3 agg_lroom rfl K.out.rowA ?_)
      refine (to_room Rw Rg Ra Rc R hbig _ K.out.argA).mono ?_
      rintro e w4 ⟨xd, xc, rfl, hb, hw, hnew⟩
      replace K := hidd (K.out.step hb)
      replace T := hidd (T.out.below hb T.out.lt)
      have X := hidd (show TS2 (TS w Rw Rg Ra Rc R Ww Wt Wl) w4.heap.size Rw Rg xd xc R g (tileAns Rw Rg R Ww Wt Wl) (w4.alloc (.cells (roomCells Rw Rg (.slice xd R.length xc)) 37)) from ⟨K.out.step (below_new _ _), Row.new _ _ _, hw.step (below_new _ _), T.out.alloc _⟩)
      clear hb hw hnew K T
      go_upto_region 7 with fail
      go_cut [9, 10] (fun s6 s7 wx => TileCut s6 s7 (tileAns Rw Rg R Ww Wt Wl) (toCode (roomOk Rw Rg R) (fitsIn Rw Rg Ww Wt Wl)) (TS2 (TS w Rw Rg Ra Rc R Ww Wt Wl) w4.heap.size Rw Rg xd xc R g (tileAns Rw Rg R Ww Wt Wl)) wx)
      case first =>
        refine wp_region_held_drew (S := TS2 (TS w Rw Rg Ra Rc R Ww Wt Wl) w4.heap.size Rw Rg xd xc R g (tileAns Rw Rg R Ww Wt Wl)) (by kernel_rfl) (X.out.step (fun h => h.step (below_dr (Below.refl _ _) 1)) (below_dr (Below.refl _ _) 1)) (fun hHeld => ?_)
        refine wpAnyH_take (i := 0) rfl (by kernel_rfl) (by kernel_rfl) (by kernel_rfl) (fun _ _ _ h => h) (take_load_all _ _ rfl _ rfl (roomCells Rw Rg (.slice xd R.length xc)) 3 agg_room rfl (fun w hw => hw.row) (by rfl)) (by assumption) ?_
        try simp only [Act.put, List.setIfInBounds_toArray, List.set_cons_zero, List.set_cons_succ]
        refine wpAnyH_take (i := 1) rfl (by kernel_rfl) (by kernel_rfl) (by kernel_rfl) (fun _ _ _ h => h) (take_load_all _ _ rfl _ rfl (winCells Ww Wt Wl) 3 agg_lwin rfl (fun w hw => hw.s.rowW) (by rfl)) (by assumption) ?_
        try simp only [Act.put, List.setIfInBounds_toArray, List.set_cons_zero, List.set_cons_succ]
        refine wpAnyH_ready (rs := [2, 7]) (by kernel_rfl) (by simp) ?_
        refine AllReadyH.cons rfl (fun K hK => ?_) (AllReadyH.cons rfl (fun K hK => ?_) AllReadyH.nil)
        · skip
          go_simp
          go_at_call 18
          refine (to_window Ww Wt Wl _).mono ?_
          rintro e wn ⟨rfl, hb⟩
          refine hK.out _ _ (hHeld.step (fun h => h.step hb) hb) (fun hHeld => ?_)
          clear hK K hb
          try simp only [Act.put, List.setIfInBounds_toArray, List.set_cons_zero, List.set_cons_succ]
          refine wpAnyH_ready (rs := [3, 7]) (by kernel_rfl) (by simp) ?_
          refine AllReadyH.cons rfl (fun K hK => ?_) (AllReadyH.cons rfl (fun K hK => ?_) AllReadyH.nil)
          · skip
            go_simp
            go_at_call 19
            refine (tileOf_impl Rw Rg xd xc R Ww Wt Wl hbig _ hHeld.win hR1 hR2 hR3 hR4).mono ?_
            rintro e wn ⟨rfl, hb⟩
            refine hK.out _ _ (hHeld.step (fun h => h.step hb) hb) (fun hHeld => ?_)
            clear hK K hb
            try simp only [Act.put, List.setIfInBounds_toArray, List.set_cons_zero, List.set_cons_succ]
            refine wpAnyH_take (i := 4) (oi := ⟨some 26, _, _, _, _, _⟩) rfl (by kernel_rfl) (by kernel_rfl) (by kernel_rfl) (fun _ _ _ h => h) (take_move _ rfl (by rfl)) (by assumption) ?_
            simp only [Act.put, List.setIfInBounds_toArray, List.set_cons_zero, List.set_cons_succ]
            refine wpAnyH_take (i := 5) (oi := ⟨some 31, _, _, _, _, _⟩) rfl (by kernel_rfl) (by kernel_rfl) (by kernel_rfl) (fun _ _ _ h => h) (take_extract _ _ rfl _ rfl _ rfl (by rfl)) (by assumption) ?_
            simp only [Act.put, List.setIfInBounds_toArray, List.set_cons_zero, List.set_cons_succ]
            refine wpAnyH_take (i := 6) (oi := ⟨some 32, _, _, _, _, _⟩) rfl (by kernel_rfl) (by kernel_rfl) (by kernel_rfl) (fun _ _ _ h => h) (take_extract _ _ rfl _ rfl _ rfl (by rfl)) (by assumption) ?_
            simp only [Act.put, List.setIfInBounds_toArray, List.set_cons_zero, List.set_cons_succ]
            refine wpAnyH_ready (rs := [7]) (by kernel_rfl) (by simp) ?_
            refine AllReadyH.cons rfl (fun K hK => ?_) AllReadyH.nil
            go_simp
            have GA := hidd (And.intro hHeld.s.lim hHeld.lim)
            have RG := hidd (hHeld.new (tileCells (0, 0)) 45)
            refine hK.out _ _ (hHeld.step (fun h => h.step (below_new _ _)) (below_new _ _)) (fun hHeld => ?_)
            clear hK K
            try simp only [Act.put, List.setIfInBounds_toArray, List.set_cons_zero, List.set_cons_succ]
            refine wpAnyH_ready (rs := [8]) (by kernel_rfl) (by simp) ?_
            refine AllReadyH.cons rfl (fun K hK => ?_) AllReadyH.nil
            rw [if_pos (by rfl)]
            refine wp_store_at _ _ _ rfl _ 0 rfl 2 (tileCells (0, 0)) (tileCells (tileAns Rw Rg R Ww Wt Wl)) rfl agg_tile (by first | exact RG.out | (have q := RG.out; simp at q; exact q)) rfl (by decide) (tile_one _) ?_
            intro ws hws hrs
            rw [over_all (by rfl)] at hrs
            have RT := hidd hrs
            refine hK.out _ _ (hHeld.stepB (fun h => h.stepB GA.out.1 (by first | exact hws | simpa using hws)) GA.out.2 (by first | exact hws | simpa using hws)) (fun hHeld => ?_)
            clear hK K hrs hws
            try simp only [Act.put, List.setIfInBounds_toArray, List.set_cons_zero, List.set_cons_succ]
            refine wpAnyH_take (i := 9) (oi := ⟨some 10, _, _, _, _, _⟩) rfl (by kernel_rfl) (by kernel_rfl) (by kernel_rfl) (fun _ _ _ h => h) (take_assign _ rfl (by rfl)) (by assumption) ?_
            simp only [Act.put, List.setIfInBounds_toArray, List.set_cons_zero, List.set_cons_succ]
            refine wpAnyH_done (by kernel_rfl) ?_ _
            have HD := hidd hHeld
            clear hHeld
            go_wp2_with fail
            go_meet
            exact ⟨_, rfl, rfl, RT.out, HD.out⟩
          · skip
            go_simp
            have GA := hidd (And.intro hHeld.s.lim hHeld.lim)
            have RG := hidd (hHeld.new (tileCells (0, 0)) 45)
            refine hK.out _ _ (hHeld.step (fun h => h.step (below_new _ _)) (below_new _ _)) (fun hHeld => ?_)
            clear hK K
            try simp only [Act.put, List.setIfInBounds_toArray, List.set_cons_zero, List.set_cons_succ]
            refine wpAnyH_ready (rs := [3]) (by kernel_rfl) (by simp) ?_
            refine AllReadyH.cons rfl (fun K hK => ?_) AllReadyH.nil
            go_simp
            go_at_call 19
            refine (tileOf_impl Rw Rg xd xc R Ww Wt Wl hbig _ hHeld.win hR1 hR2 hR3 hR4).mono ?_
            rintro e wn ⟨rfl, hb⟩
            replace RG := hidd (RG.out.below hb RG.out.lt)
            refine hK.out _ _ (hHeld.step (fun h => h.step hb) hb) (fun hHeld => ?_)
            clear hK K hb
            try simp only [Act.put, List.setIfInBounds_toArray, List.set_cons_zero, List.set_cons_succ]
            refine wpAnyH_take (i := 4) (oi := ⟨some 26, _, _, _, _, _⟩) rfl (by kernel_rfl) (by kernel_rfl) (by kernel_rfl) (fun _ _ _ h => h) (take_move _ rfl (by rfl)) (by assumption) ?_
            simp only [Act.put, List.setIfInBounds_toArray, List.set_cons_zero, List.set_cons_succ]
            refine wpAnyH_take (i := 5) (oi := ⟨some 31, _, _, _, _, _⟩) rfl (by kernel_rfl) (by kernel_rfl) (by kernel_rfl) (fun _ _ _ h => h) (take_extract _ _ rfl _ rfl _ rfl (by rfl)) (by assumption) ?_
            simp only [Act.put, List.setIfInBounds_toArray, List.set_cons_zero, List.set_cons_succ]
            refine wpAnyH_take (i := 6) (oi := ⟨some 32, _, _, _, _, _⟩) rfl (by kernel_rfl) (by kernel_rfl) (by kernel_rfl) (fun _ _ _ h => h) (take_extract _ _ rfl _ rfl _ rfl (by rfl)) (by assumption) ?_
            simp only [Act.put, List.setIfInBounds_toArray, List.set_cons_zero, List.set_cons_succ]
            refine wpAnyH_ready (rs := [8]) (by kernel_rfl) (by simp) ?_
            refine AllReadyH.cons rfl (fun K hK => ?_) AllReadyH.nil
            rw [if_pos (by rfl)]
            refine wp_store_at _ _ _ rfl _ 0 rfl 2 (tileCells (0, 0)) (tileCells (tileAns Rw Rg R Ww Wt Wl)) rfl agg_tile (by first | exact RG.out | (have q := RG.out; simp at q; exact q)) rfl (by decide) (tile_one _) ?_
            intro ws hws hrs
            rw [over_all (by rfl)] at hrs
            have RT := hidd hrs
            refine hK.out _ _ (hHeld.stepB (fun h => h.stepB GA.out.1 (by first | exact hws | simpa using hws)) GA.out.2 (by first | exact hws | simpa using hws)) (fun hHeld => ?_)
            clear hK K hrs hws
            try simp only [Act.put, List.setIfInBounds_toArray, List.set_cons_zero, List.set_cons_succ]
            refine wpAnyH_take (i := 9) (oi := ⟨some 10, _, _, _, _, _⟩) rfl (by kernel_rfl) (by kernel_rfl) (by kernel_rfl) (fun _ _ _ h => h) (take_assign _ rfl (by rfl)) (by assumption) ?_
            simp only [Act.put, List.setIfInBounds_toArray, List.set_cons_zero, List.set_cons_succ]
            refine wpAnyH_done (by kernel_rfl) ?_ _
            have HD := hidd hHeld
            clear hHeld
            go_wp2_with fail
            go_meet
            exact ⟨_, rfl, rfl, RT.out, HD.out⟩
        · skip
          go_simp
          have GA := hidd (And.intro hHeld.s.lim hHeld.lim)
          have RG := hidd (hHeld.new (tileCells (0, 0)) 45)
          refine hK.out _ _ (hHeld.step (fun h => h.step (below_new _ _)) (below_new _ _)) (fun hHeld => ?_)
          clear hK K
          try simp only [Act.put, List.setIfInBounds_toArray, List.set_cons_zero, List.set_cons_succ]
          refine wpAnyH_ready (rs := [2]) (by kernel_rfl) (by simp) ?_
          refine AllReadyH.cons rfl (fun K hK => ?_) AllReadyH.nil
          go_simp
          go_at_call 18
          refine (to_window Ww Wt Wl _).mono ?_
          rintro e wn ⟨rfl, hb⟩
          replace RG := hidd (RG.out.below hb RG.out.lt)
          refine hK.out _ _ (hHeld.step (fun h => h.step hb) hb) (fun hHeld => ?_)
          clear hK K hb
          try simp only [Act.put, List.setIfInBounds_toArray, List.set_cons_zero, List.set_cons_succ]
          refine wpAnyH_ready (rs := [3]) (by kernel_rfl) (by simp) ?_
          refine AllReadyH.cons rfl (fun K hK => ?_) AllReadyH.nil
          go_simp
          go_at_call 19
          refine (tileOf_impl Rw Rg xd xc R Ww Wt Wl hbig _ hHeld.win hR1 hR2 hR3 hR4).mono ?_
          rintro e wn ⟨rfl, hb⟩
          replace RG := hidd (RG.out.below hb RG.out.lt)
          refine hK.out _ _ (hHeld.step (fun h => h.step hb) hb) (fun hHeld => ?_)
          clear hK K hb
          try simp only [Act.put, List.setIfInBounds_toArray, List.set_cons_zero, List.set_cons_succ]
          refine wpAnyH_take (i := 4) (oi := ⟨some 26, _, _, _, _, _⟩) rfl (by kernel_rfl) (by kernel_rfl) (by kernel_rfl) (fun _ _ _ h => h) (take_move _ rfl (by rfl)) (by assumption) ?_
          simp only [Act.put, List.setIfInBounds_toArray, List.set_cons_zero, List.set_cons_succ]
          refine wpAnyH_take (i := 5) (oi := ⟨some 31, _, _, _, _, _⟩) rfl (by kernel_rfl) (by kernel_rfl) (by kernel_rfl) (fun _ _ _ h => h) (take_extract _ _ rfl _ rfl _ rfl (by rfl)) (by assumption) ?_
          simp only [Act.put, List.setIfInBounds_toArray, List.set_cons_zero, List.set_cons_succ]
          refine wpAnyH_take (i := 6) (oi := ⟨some 32, _, _, _, _, _⟩) rfl (by kernel_rfl) (by kernel_rfl) (by kernel_rfl) (fun _ _ _ h => h) (take_extract _ _ rfl _ rfl _ rfl (by rfl)) (by assumption) ?_
          simp only [Act.put, List.setIfInBounds_toArray, List.set_cons_zero, List.set_cons_succ]
          refine wpAnyH_ready (rs := [8]) (by kernel_rfl) (by simp) ?_
          refine AllReadyH.cons rfl (fun K hK => ?_) AllReadyH.nil
          rw [if_pos (by rfl)]
          refine wp_store_at _ _ _ rfl _ 0 rfl 2 (tileCells (0, 0)) (tileCells (tileAns Rw Rg R Ww Wt Wl)) rfl agg_tile (by first | exact RG.out | (have q := RG.out; simp at q; exact q)) rfl (by decide) (tile_one _) ?_
          intro ws hws hrs
          rw [over_all (by rfl)] at hrs
          have RT := hidd hrs
          refine hK.out _ _ (hHeld.stepB (fun h => h.stepB GA.out.1 (by first | exact hws | simpa using hws)) GA.out.2 (by first | exact hws | simpa using hws)) (fun hHeld => ?_)
          clear hK K hrs hws
          try simp only [Act.put, List.setIfInBounds_toArray, List.set_cons_zero, List.set_cons_succ]
          refine wpAnyH_take (i := 9) (oi := ⟨some 10, _, _, _, _, _⟩) rfl (by kernel_rfl) (by kernel_rfl) (by kernel_rfl) (fun _ _ _ h => h) (take_assign _ rfl (by rfl)) (by assumption) ?_
          simp only [Act.put, List.setIfInBounds_toArray, List.set_cons_zero, List.set_cons_succ]
          refine wpAnyH_done (by kernel_rfl) ?_ _
          have HD := hidd hHeld
          clear hHeld
          go_wp2_with fail
          go_meet
          exact ⟨_, rfl, rfl, RT.out, HD.out⟩
      case rest =>
        obtain ⟨g2, rfl, rfl, ht, hk⟩ := hcut
        have T := hidd ht
        replace X := hidd hk
        clear hk ht
        go_wp2_with (first | (refine wpList_load_all rfl _ _ rfl _ rfl (tileCells (tileAns Rw Rg R Ww Wt Wl)) 2 agg_tile rfl T.out ?_) | (refine wpList_load_all rfl _ _ rfl _ rfl (tileCells (tileAns Rw Rg R Ww Wt Wl)) 2 agg_tile rfl X.out.tile ?_))
        refine (eq_tile _ _ _).mono ?_
        rintro e w8 ⟨rfl, hb⟩
        replace X := hidd (X.out.step (fun h => h.step hb) hb)
        clear hb T
        go_wp2_with fail
        refine wp_region_held_drew (S := TS2 (TS w Rw Rg Ra Rc R Ww Wt Wl) w4.heap.size Rw Rg xd xc R g (tileAns Rw Rg R Ww Wt Wl)) (by kernel_rfl) (X.out.step (fun h => h.step (below_dr (Below.refl _ _) 1)) (below_dr (Below.refl _ _) 1)) (fun hHeld => ?_)
        refine wpAnyH_take (i := 0) rfl (by kernel_rfl) (by kernel_rfl) (by kernel_rfl) (fun _ _ _ h => h) (take_load_all _ _ rfl _ rfl (roomCells Rw Rg (.slice xd R.length xc)) 3 agg_room rfl (fun w hw => hw.row) (by rfl)) (by assumption) ?_
        try simp only [Act.put, List.setIfInBounds_toArray, List.set_cons_zero, List.set_cons_succ]
        refine wpAnyH_take (i := 1) rfl (by kernel_rfl) (by kernel_rfl) (by kernel_rfl) (fun _ _ _ h => h) (take_load_all _ _ rfl _ rfl (roomCells Rw Rg (.slice Ra R.length Rc)) 3 agg_lroom rfl (fun w hw => hw.s.rowA) (by rfl)) (by assumption) ?_
        try simp only [Act.put, List.setIfInBounds_toArray, List.set_cons_zero, List.set_cons_succ]
        refine wpAnyH_ready (rs := [2]) (by kernel_rfl) (by simp) ?_
        refine AllReadyH.cons rfl (fun K hK => ?_) AllReadyH.nil
        go_simp
        go_at_call 12
        refine (to_room Rw Rg Ra Rc R hbig _ hHeld.s.argA).mono ?_
        rintro e w9 ⟨ad3, c3, rfl, hb, hw, hnew⟩
        have WN := hidd hw
        refine hK.out _ _ (hHeld.step (fun h => h.step hb) hb) (fun hHeld => ?_)
        clear hK K hb hw hnew
        try simp only [Act.put, List.setIfInBounds_toArray, List.set_cons_zero, List.set_cons_succ]
        refine wpAnyH_ready (rs := [3]) (by kernel_rfl) (by simp) ?_
        refine AllReadyH.cons rfl (fun K hK => ?_) AllReadyH.nil
        go_simp
        go_at_call 14
        refine (eq_room Rw Rg xd ad3 xc c3 R hbig _ hHeld.win WN.out).mono ?_
        rintro e w10 ⟨rfl, hb⟩
        refine hK.out _ _ (hHeld.step (fun h => h.step hb) hb) (fun hHeld => ?_)
        clear hK K hb WN
        try simp only [Act.put, List.setIfInBounds_toArray, List.set_cons_zero, List.set_cons_succ]
        refine wpAnyH_take (i := 4) (oi := ⟨some 46, _, _, _, _, _⟩) rfl (by kernel_rfl) (by kernel_rfl) (by kernel_rfl) (fun _ _ _ h => h) (take_not _ _ rfl rfl (by rfl)) (by assumption) ?_
        simp only [Act.put, List.setIfInBounds_toArray, List.set_cons_zero, List.set_cons_succ]
        refine wpAnyH_done (by kernel_rfl) ?_ _
        have HH := hidd hHeld.s.below
        clear hHeld
        go_wp2
        all_goals (go_ret; exact ⟨by simp, HH.out⟩)
  · have hb2 : (1048576 : Int) < (R.length : Int) := by omega
    go_enter Try.func6, Try.ntmps6
    go_wp2_with (refine wpList_load_all rfl _ _ rfl _ rfl (roomCells Rw Rg (.slice Ra R.length Rc)) 3 agg_lroom rfl K.out.rowA ?_)
    refine (sz_no Rw Rg Ra R.length Rc 1048576 (by omega) (by omega) hR5 (by omega) _).mono ?_
    rintro e w1 ⟨rfl, hb⟩
    replace K := hidd (K.out.step hb)
    clear hb
    go_wp2
    go_ret; exact ⟨rfl, K.out.below⟩

set_option maxRecDepth 100000 in
theorem lifted_fnExactTileOf (os : Os) (started : os.Started) (H : Type) (enc : TypeId × Value → H) :
    ReturnsInHanded {} Try.checked os 6 .any (Rows.fnExactTileOfSpec.pre6 enc Try.prog Try.f6 Rows.fnExactTileOfRow.domain false) (Rows.fnExactTileOfSpec.post enc Try.prog Try.f6 false true false false) := by
  refine returnsInHanded_of_change (C := Try.checked) own started (by kernel_rfl) Try.func6
    (ChangeSpec.witness6 (enc := enc) (C := Try.checked) false ⟨#[], #[.agg #[.int .i8 0, .int .i8 0, .slice none 0 0], .agg #[.int .i8 0, .int .i8 0, .float .f32 0]], []⟩ 60 (by kernel_rfl) (by kernel_rfl) (by kernel_rfl) (by kernel_rfl)) ?_
  intro W base args ds gs before hval0 hW hcnd _
  have hval : ∀ (j : Nat) t v, Try.f6.params[j]? = some t → args[j]? = some v → Value.okWide Try.prog W .any base t v := hval0
  have hW' := hW
  obtain ⟨p, q, hA0, hV, rfl, hfz, hnd⟩ := hW
  have hA : DataW.TrodAll enc Try.prog W 0 (fun _ => true) true Try.f6.params.toList args.toList ds p := hA0
  rw [Try.params6] at hA hval
  obtain ⟨v0, vs0, d0, ds0, p0, q0, hargs, rfl, rfl, h0, r0⟩ := trodAll_cons hA
  obtain ⟨v1, vs1, d1, ds1, p1, q1, rfl, rfl, rfl, h1, r1⟩ := trodAll_cons r0
  obtain ⟨rfl, rfl, rfl⟩ := trodAll_nil r1
  obtain rfl : args = #[v0, v1] := by cases args; simp_all
  obtain ⟨rfl, rfl⟩ := trodVars_none hV
  have lt0 : ∀ x ∈ p0, x.block < W.heap.size := by obtain ⟨m, hm⟩ := h0; exact DataW.trod_lt m _ _ _ hm
  have lt1 : ∀ x ∈ p1, x.block < W.heap.size := by obtain ⟨m, hm⟩ := h1; exact DataW.trod_lt m _ _ _ hm
  obtain ⟨Rw, Rg, Ra, Rc, R, rfl, hR1, hR2, hR3, hR4, hR5, hR6, hRb⟩ := arg_room (hval 0 32 v0 rfl rfl) h0
  obtain ⟨Ww, Wt, Wl, rfl, hW1, hW2, hW3, hW4⟩ := arg_window (hval 1 43 v1 rfl rfl)
  clear hA0 hval0
  refine (walk_fnExactTileOf W Rw Rg Ra Rc R hR1 hR2 hR3 hR4 hR5 hR6 hRb Ww Wt Wl hW1 hW2 hW3 hW4).mono fun e W' ⟨he, bel⟩ => ?_
  subst he
  exact ⟨_, rfl, _, _, _, [], _, [], hW', trodAll_mk1 (shut_bool Try.underlying4 _), (trodAll_cons_mk (Below.trod laidOut (by kernel_rfl) (of_decide_eq_true (by kernel_rfl)) h0 bel lt0) (trodAll_cons_mk (Below.trod laidOut (by kernel_rfl) (of_decide_eq_true (by kernel_rfl)) h1 bel lt1) trodAll_mk0)), rfl, bel.frame _, fun h => by cases h⟩

/-- THE STATEMENT. -/
theorem fnExactTileOf_holds : Rows.FnExactTileOfSaid :=
  OpenClaim.holds_of_wide 6 Try.f6 rfl rfl rfl rfl rfl rfl rfl ⟨rfl, rfl, rfl, rfl, rfl⟩ rfl rfl rfl rfl rfl (by kernel_rfl) Try.func6 (by kernel_rfl)
    (of_decide_eq_true (by kernel_rfl)) (by unfold Func.isWrapper; first | (rw [if_pos (by decide +kernel)]; kernel_rfl) | (rw [if_neg (by decide +kernel)]; exact ⟨rfl, rfl⟩))
    (fun os started H enc _ => lifted_fnExactTileOf os started H enc)
#print axioms fnExactTileOf_holds
end Go.Proofs.Ytgibcikihniimaa
