/-
  'Rows.FnSlatsSaid': for every input the law 'FnSlats' returns true and leaves its arguments as they were. No condition.
-/
import Derived.Test.YtddkiemipedgcaaGreatDoorRo
import Derived.Test.YtddkiemipedgcaaGreatDoorRib
import Derived.Test.YtddkiemipedgcaaGreatDoorRw7
import Derived.Test.YtddkiemipedgcaaGreatDoorWsx
namespace Go.Proofs.YtddkiemipedgcaaGreatDoor
open Go.ChangeShapes Go.WideShapes Go.ChangeAt Go.RowKit Go.Proofs.Fl Go.Proofs.Pl
set_option linter.unusedVariables false

open Go.Proofs.Hx
structure SlK (w : World) (b : Nat) (cs : Array Value) (Ca : Option Addr) (C : List Int) (Da : Option Addr) (D : List Int) (w' : World) : Prop where
  below : Below w.heap.size w w'
  row : Row w' b cs
  argC : ArgBytes w' Ca C
  argD : ArgBytes w' Da D
theorem SlK.step {w w1 w2 : World} {b : Nat} {cs : Array Value} {Ca Da : Option Addr} {C D : List Int} (h : SlK w b cs Ca C Da D w1) (hb : Below w1.heap.size w1 w2) : SlK w b cs Ca C Da D w2 :=
  ⟨h.below.trans (hb.mono h.below.size), h.row.below hb h.row.lt, h.argC.step hb, h.argD.step hb⟩
theorem sl_new (w : World) (o : Obj) : Below w.heap.size w (w.alloc o) := (Below.refl _ _).alloc (Nat.le_refl _) o
set_option maxRecDepth 100000 in
set_option maxHeartbeats 8000000 in
theorem walk_fnSlats (w : World) (Ca : Option Addr) (Cc : Nat) (C : List Int) (hC5 : C.length ≤ 9223372036854775807) (hC6 : ArgBytes w Ca C) (Da : Option Addr) (Dc : Nat) (D : List Int) (hD5 : D.length ≤ 9223372036854775807) (hD6 : ArgBytes w Da D) (hT : Tabs w) (hE : Errs w) (hM : Mx w) :
    Calls Tryz.prog 4 #[.slice Ca C.length Cc, .slice Da D.length Dc] w fun e w' => e = .returned (.bool true) ∧ Below w.heap.size w w' := by
  by_cases hbig : C.length ≤ 3000 ∧ D.length ≤ 3000
  · obtain ⟨hC3, hD3⟩ := hbig
    have HC := hidd hC6
    have HD := hidd hD6
    have HT := hidd hT
    have HE := hidd hE
    have HM := hidd hM
    clear hC6 hD6 hT hE hM
    go_enter Tryz.func4, Tryz.ntmps4
    go_wp2_with (go_at_call 5; refine (long_no Ca Da _ _ Cc Dc hC3 hD3 _).mono ?_; rintro e w' ⟨rfl, rfl⟩)
    refine (blind_any Ca Cc C hC3 _ HC.out).mono ?_
    rintro e w1 ⟨n, wd, g, t, s, rfl, hd, hb⟩
    have hd' := hidd hd
    have K := hidd (show SlK w w1.heap.size (blindCells n wd g t s) Ca C Da D (w1.alloc (.cells (blindCells n wd g t s) 56)) from ⟨hb.alloc hb.size _, Row.new _ _ _, (HC.out.step hb).step (sl_new _ _), (HD.out.step hb).step (sl_new _ _)⟩)
    clear hb HC HD hd
    go_wp2_with fail
    refine (at_any Da Dc D hD3 0 (by omega) 64 (by omega) _ K.out.argD).mono ?_
    rintro e w2 ⟨x, rfl, x0, x1, x2, rfl⟩
    have hh1 : 1 ≤ 1 + x := by omega
    have hh2 : 1 + x ≤ 64 := by omega
    go_wp2_with (refine wpList_load_all rfl _ _ rfl _ rfl (blindCells n wd g t s) 5 agg_blind rfl K.out.row ?_)
    generalize hH : 1 + x = h at *
    clear hH x0 x1 x2
    refine (sl_t_i n wd g t s hd'.out _ (HT.out.below K.out.below)).mono ?_
    rintro e w3 ⟨rfl, hb⟩
    replace K := hidd (K.out.step hb)
    clear hb
    go_wp2_with fail
    refine (sl_r_i n wd g t s hd'.out _ (HT.out.below K.out.below) (HE.out.below K.out.below) (HM.out.below K.out.below)).mono ?_
    rintro e w4 ⟨rfl, hb⟩
    replace K := hidd (K.out.step hb)
    have R := hidd (Row.new w4 (blindCells n wd g t s) 56)
    replace K := hidd (K.out.step (sl_new w4 (.cells (blindCells n wd g t s) 56)))
    clear hb HT HE HM
    go_wp2_with (refine wpList_load_all rfl _ _ rfl _ rfl (blindCells n wd g t s) 5 agg_blind rfl K.out.row ?_)
    refine (sl_b_i n wd g t s hd'.out h hh1 hh2 _).mono ?_
    rintro e w5 ⟨rfl, hb⟩
    replace K := hidd (K.out.step hb)
    replace R := hidd (R.out.below hb R.out.lt)
    clear hb
    go_wp2_with (refine wpList_load_all rfl _ _ rfl _ rfl (blindCells n wd g t s) 5 agg_blind rfl K.out.row ?_)
    refine (sl_b_s n wd g t s hd'.out h hh1 hh2 _).mono ?_
    rintro e w6 ⟨rfl, hb⟩
    replace K := hidd (K.out.step hb)
    replace R := hidd (R.out.below hb R.out.lt)
    clear hb
    go_wp2_with (refine wpList_load_all rfl _ _ rfl _ rfl (blindCells n wd g t s) 5 agg_blind rfl K.out.row ?_)
    refine (sl_o_i n wd g t s hd'.out h hh1 hh2 _ g hd'.out.hg).mono ?_
    rintro e w7 ⟨rfl, hb⟩
    replace K := hidd (K.out.step hb)
    replace R := hidd (R.out.below hb R.out.lt)
    clear hb
    go_wp2_with (refine wpList_load_all rfl _ _ rfl _ rfl (blindCells n wd g t s) 5 agg_blind rfl K.out.row ?_)
    refine (sl_o_s n wd g t s hd'.out h hh1 hh2 _).mono ?_
    rintro e w8 ⟨rfl, hb⟩
    replace K := hidd (K.out.step hb)
    replace R := hidd (R.out.below hb R.out.lt)
    clear hb
    go_wp2_with (refine wpList_load_all rfl _ _ rfl _ rfl (blindCells n wd g t s) 5 agg_blind rfl K.out.row ?_)
    refine (sl_p_i n wd g t s hd'.out h hh1 hh2 _).mono ?_
    rintro e w9 ⟨rfl, hb⟩
    replace K := hidd (K.out.step hb)
    replace R := hidd (R.out.below hb R.out.lt)
    clear hb
    go_wp2_with (refine wpList_load_all rfl _ _ rfl _ rfl (blindCells n wd g t s) 5 agg_blind rfl K.out.row ?_)
    refine (sl_p_s n wd g t s hd'.out h hh1 hh2 _).mono ?_
    rintro e w10 ⟨rfl, hb⟩
    replace K := hidd (K.out.step hb)
    replace R := hidd (R.out.below hb R.out.lt)
    clear hb
    go_wp2_with (refine wpList_load_all rfl _ _ rfl _ rfl (blindCells n wd g t s) 5 agg_blind rfl K.out.row ?_)
    refine (sl_a_i n wd g t s hd'.out h hh1 hh2 _ _ _ (sl_ints _ _ _)).mono ?_
    rintro e w11 ⟨ad', c', rfl, hb, hF⟩
    replace hb := (sl_new _ _).trans (hb.mono (by simp))
    replace K := hidd (K.out.step hb)
    replace R := hidd (R.out.below hb R.out.lt)
    have F := hidd hF
    clear hb hF
    have y0 := bl_0 R.out
    have y1 := bl_1 R.out
    have y2 := bl_2 R.out
    have y3 := bl_3 R.out
    have y4 := bl_4 R.out
    have z0 := bl_0 K.out.row
    have z1 := bl_1 K.out.row
    have z2 := bl_2 K.out.row
    have z3 := bl_3 K.out.row
    have z4 := bl_4 K.out.row
    go_wp2_with fail
    clear y0 y1 y2 y3 y4 z0 z1 z2 z3 z4
    refine (sl_s_s n wd g t s hd'.out _).mono ?_
    rintro e w12 ⟨rfl, hb⟩
    replace K := hidd (K.out.step hb)
    replace R := hidd (R.out.below hb R.out.lt)
    replace F := hidd (F.out.below hb)
    clear hb
    have y0 := bl_0 R.out
    have y1 := bl_1 R.out
    have y2 := bl_2 R.out
    have y3 := bl_3 R.out
    have y4 := bl_4 R.out
    have z0 := bl_0 K.out.row
    have z1 := bl_1 K.out.row
    have z2 := bl_2 K.out.row
    have z3 := bl_3 K.out.row
    have z4 := bl_4 K.out.row
    go_wp2_with fail
    clear y0 y1 y2 y3 y4 z0 z1 z2 z3 z4
    refine (sl_s_i n wd g t s hd'.out _).mono ?_
    rintro e w13 ⟨rfl, hb⟩
    replace K := hidd (K.out.step hb)
    replace F := hidd (F.out.below hb)
    clear hb R
    have z0 := bl_0 K.out.row
    have z1 := bl_1 K.out.row
    have z2 := bl_2 K.out.row
    have z3 := bl_3 K.out.row
    have z4 := bl_4 K.out.row
    go_wp2_with fail
    clear z0 z1 z2 z3 z4
    refine (sl_v_i n wd g t s hd'.out _).mono ?_
    rintro e w14 ⟨rfl, hb⟩
    replace K := hidd (K.out.step hb)
    replace F := hidd (F.out.below hb)
    clear hb
    have bu := blocked_unit (t := t) hd'.out.hw hd'.out.hg hh1 hh2
    have ou := opn_unit (t := t) hd'.out.hw hd'.out.hg hh1 hh2
    have fb := (unit_fin bu).1
    have fo := (unit_fin ou).1
    have pb := unit_part bu
    have po := unit_part ou
    obtain ⟨fp, p1, p2⟩ := pass_laws (t := t) hd'.out.hw hd'.out.hg hd'.out.hs hh1 hh2
    replace p1 : fle (pass wd g t s h) 1065353216 = true := p1
    have q1 : Fnt 1065353216 := by decide
    have q0 : Fnt 0 := by decide
    have sb := same_fin' fb
    have so := same_fin' fo
    have sp := same_fin' fp
    have ne : fne (opn wd g t h) (fsub 1065353216 (blk wd g t h)) = false := fne_same fo
    have fso : Fnt (fsub 1065353216 (blk wd g t h)) := fo
    have np : fne (pass wd g t s h) (pass wd g t s h) = false := fne_same fp
    obtain ⟨g0, e0, _, c0⟩ := F.out 0 (by simp)
    obtain ⟨g2, e2, _, c2⟩ := F.out 2 (by simp)
    subst e0
    obtain rfl : g0 = g2 := by injection e2 with e2; injection e2
    replace c0 : w14.cell? ⟨g0, 0, none⟩ = some (.float .f32 (pass wd g t s h)) := c0
    replace c2 : w14.cell? ⟨g0, 2, none⟩ = some (.float .f32 (pass wd g t s h)) := c2
    clear F e2 bu ou
    have H64 : (h == 64) = true ∧ fne (opn wd g t h) 0 = false ∨ (h == 64) = false := by
      by_cases e : h = 64
      · subst e; exact .inl ⟨rfl, opn_64⟩
      · exact .inr (by simp; omega)
    rcases H64 with ⟨ha, hb⟩ | ha
    all_goals
      as_aux_lemma =>
        have VA := Row.new w14 #[.int .i8 n, .float .f32 wd, .float .f32 g, .int .i16 t, .float .f32 s] 56
        have a0 : (w14.alloc (.cells #[.int .i8 n, .float .f32 wd, .float .f32 g, .int .i16 t, .float .f32 s] 56)).cell? ⟨w1.heap.size, 2, none⟩ = some (.float .f32 g) := bl_2 (K.out.step (sl_new w14 (.cells #[.int .i8 n, .float .f32 wd, .float .f32 g, .int .i16 t, .float .f32 s] 56))).row
        have a1 : (w14.alloc (.cells #[.int .i8 n, .float .f32 wd, .float .f32 g, .int .i16 t, .float .f32 s] 56)).cell? ⟨w14.heap.size, 2, none⟩ = some (.float .f32 g) := bl_2 (show Row _ _ (blindCells n wd g t s) from VA)
        have a2 := VA.frozen 2
        have V := hidd (Row.new w14 #[.int .i8 n, .float .f32 wd, .float .f32 (fadd g (fdiv (fsub 1115684864 g) 1073741824)), .int .i16 t, .float .f32 s] 56)
        have KB := hidd (K.out.step (sl_new w14 (.cells #[.int .i8 n, .float .f32 wd, .float .f32 (fadd g (fdiv (fsub 1115684864 g) 1073741824)), .int .i16 t, .float .f32 s] 56)))
        clear VA
        obtain ⟨g1, g2, g3, g4, g5⟩ := wide_laws hd'.out.hg
        have q64 : Fnt 1115684864 := by decide
        have two : Fnt 1073741824 := by decide
        have two' : rung 1073741824 ≠ 0 := by decide
        have ow : fge (opn wd (fadd g (fdiv (fsub 1115684864 g) 1073741824)) t h) (opn wd g t h) = true := opn_mono (k := wide g) hd'.out.hw hd'.out.hg g4 hh1 hh2 g5
        have fw : Fnt (opn wd (fadd g (fdiv (fsub 1115684864 g) 1073741824)) t h) := opn_fnt (g := wide g) hd'.out.hw g4 hh1 hh2
        have G4 := hidd g4
        have fg : Fnt (fadd g (fdiv (fsub 1115684864 g) 1073741824)) := (len_of g4).1
        clear g4 g5
        go_wp2_with (first | (go_at_call 21; refine (same_spec _ _ _).mono ?_; rintro e w' ⟨rfl, rfl⟩) | (go_at_call 45; refine (part_spec _ _).mono ?_; rintro e w' ⟨rfl, rfl⟩) | (refine wpList_load_all rfl _ _ rfl w1.heap.size rfl #[.int .i8 n, .float .f32 wd, .float .f32 g, .int .i16 t, .float .f32 s] 5 agg_blind rfl K.out.row ?_) | (refine wpList_load_all rfl _ _ rfl w14.heap.size rfl (blindCells n wd (fadd g (fdiv (fsub 1115684864 g) 1073741824)) t s) 5 agg_blind rfl V.out ?_))
        refine (sl_o_i n wd g t s hd'.out h hh1 hh2 _ (fadd g (fdiv (fsub 1115684864 g) 1073741824)) G4.out).mono ?_
        rintro e w15 ⟨rfl, hb'⟩
        replace K := hidd (KB.out.step hb')
        clear hb' a0 a1 a2 V KB c0 c2
        go_wp2_with fail
        clear ow fw G4 fg g2 g3 two two' sb so sp ne fso np pb po fb fo p1 p2 fp ha
        refine (part_any Da Dc D hD3 _ K.out.argD).mono ?_
        rintro e w16 ⟨wn, rfl, hwn, hb'⟩
        replace K := hidd (K.out.step hb')
        clear hb'
        have GI := hidd (fun w => sl_g_i n wd g t s hd'.out h hh1 hh2 w wn hwn.part)
        have GS := hidd (fun w => sl_g_s n wd g t s hd'.out h hh1 hh2 w wn hwn.part)
        have fn := hwn.1
        have f64 : Fnt (opn wd 1115684864 t h) := opn_fnt hd'.out.hw full_len hh1 hh2
        obtain ⟨x1, x2, x3⟩ := high_steps hd'.out.n1 hd'.out.n2 hd'.out.hg
        replace x3 : Fnt (fmul (floatOfInt .f32 n) g) := x3
        have x4 : feq (fmul (floatOfInt .f32 n) g) (fmul (floatOfInt .f32 n) g) = true := by rw [feq_fin x3 x3]; simp
        have s0 : same 0 0 = true := by decide +kernel
        rcases gap_way (t := t) hd'.out.hw hh1 hh2 fn with ⟨e1, e2⟩ | ⟨y, e1, hy, fy, e2⟩
        · rw [e1] at GI GS
          dsimp only at GI GS
          clear e1
          have HY := hidd full_len
          go_wp2_with (refine wpList_load_all rfl _ _ rfl w1.heap.size rfl (blindCells n wd g t s) 5 agg_blind rfl K.out.row ?_)
          refine (GI.out _).mono ?_
          rintro e w17 ⟨rfl, hb⟩
          replace K := hidd (K.out.step hb)
          clear hb
          go_wp2_with (refine wpList_load_all rfl _ _ rfl w1.heap.size rfl (blindCells n wd g t s) 5 agg_blind rfl K.out.row ?_)
          refine (GS.out _).mono ?_
          rintro e w18 ⟨rfl, hb⟩
          replace K := hidd (K.out.step hb)
          clear hb
          have VA := Row.new w18 #[.int .i8 n, .float .f32 wd, .float .f32 g, .int .i16 t, .float .f32 s] 56
          have a1 : (w18.alloc (.cells #[.int .i8 n, .float .f32 wd, .float .f32 g, .int .i16 t, .float .f32 s] 56)).cell? ⟨w18.heap.size, 2, none⟩ = some (.float .f32 g) := bl_2 (show Row _ _ (blindCells n wd g t s) from VA)
          have a2 := VA.frozen 2
          have V := hidd (Row.new w18 #[.int .i8 n, .float .f32 wd, .float .f32 1115684864, .int .i16 t, .float .f32 s] 56)
          have KB := hidd (K.out.step (sl_new w18 (.cells #[.int .i8 n, .float .f32 wd, .float .f32 1115684864, .int .i16 t, .float .f32 s] 56)))
          clear VA
          go_wp2_with (first | (go_at_call 21; refine (same_spec _ _ _).mono ?_; rintro e w' ⟨rfl, rfl⟩) | (refine wpList_load_all rfl _ _ rfl w1.heap.size rfl #[.int .i8 n, .float .f32 wd, .float .f32 g, .int .i16 t, .float .f32 s] 5 agg_blind rfl K.out.row ?_) | (refine wpList_load_all rfl _ _ rfl w18.heap.size rfl (blindCells n wd 1115684864 t s) 5 agg_blind rfl V.out ?_))
          refine (sl_o_i n wd g t s hd'.out h hh1 hh2 _ 1115684864 HY.out).mono ?_
          rintro e w19 ⟨rfl, hb'⟩
          replace K := hidd (KB.out.step hb')
          clear hb' a1 a2 V KB
          go_wp2_with (refine wpList_load_all rfl _ _ rfl w1.heap.size rfl (blindCells n wd g t s) 5 agg_blind rfl K.out.row ?_)
          refine (sl_h_i n wd g t s hd'.out _).mono ?_
          rintro e w20 ⟨rfl, hb⟩
          replace K := hidd (K.out.step hb)
          clear hb
          have z0 := bl_0 K.out.row
          have z2 := bl_2 K.out.row
          go_wp2_with fail
          all_goals (go_ret; exact ⟨by simp [*], K.out.below⟩)
        · rw [e1] at GI GS
          dsimp only at GI GS
          clear e1
          have HY := hidd hy
          have sy := same_fin' fy
          have fy2 : Fnt (opn wd y t h) := opn_fnt hd'.out.hw hy hh1 hh2
          clear hy
          go_wp2_with (refine wpList_load_all rfl _ _ rfl w1.heap.size rfl (blindCells n wd g t s) 5 agg_blind rfl K.out.row ?_)
          refine (GI.out _).mono ?_
          rintro e w17 ⟨rfl, hb⟩
          replace K := hidd (K.out.step hb)
          clear hb
          go_wp2_with (refine wpList_load_all rfl _ _ rfl w1.heap.size rfl (blindCells n wd g t s) 5 agg_blind rfl K.out.row ?_)
          refine (GS.out _).mono ?_
          rintro e w18 ⟨rfl, hb⟩
          replace K := hidd (K.out.step hb)
          clear hb
          have VA := Row.new w18 #[.int .i8 n, .float .f32 wd, .float .f32 g, .int .i16 t, .float .f32 s] 56
          have a1 : (w18.alloc (.cells #[.int .i8 n, .float .f32 wd, .float .f32 g, .int .i16 t, .float .f32 s] 56)).cell? ⟨w18.heap.size, 2, none⟩ = some (.float .f32 g) := bl_2 (show Row _ _ (blindCells n wd g t s) from VA)
          have a2 := VA.frozen 2
          have V := hidd (Row.new w18 #[.int .i8 n, .float .f32 wd, .float .f32 y, .int .i16 t, .float .f32 s] 56)
          have KB := hidd (K.out.step (sl_new w18 (.cells #[.int .i8 n, .float .f32 wd, .float .f32 y, .int .i16 t, .float .f32 s] 56)))
          clear VA
          go_wp2_with (first | (go_at_call 21; refine (same_spec _ _ _).mono ?_; rintro e w' ⟨rfl, rfl⟩) | (refine wpList_load_all rfl _ _ rfl w1.heap.size rfl #[.int .i8 n, .float .f32 wd, .float .f32 g, .int .i16 t, .float .f32 s] 5 agg_blind rfl K.out.row ?_) | (refine wpList_load_all rfl _ _ rfl w18.heap.size rfl (blindCells n wd y t s) 5 agg_blind rfl V.out ?_))
          refine (sl_o_i n wd g t s hd'.out h hh1 hh2 _ y HY.out).mono ?_
          rintro e w19 ⟨rfl, hb'⟩
          replace K := hidd (KB.out.step hb')
          clear hb' a1 a2 V KB
          go_wp2_with (refine wpList_load_all rfl _ _ rfl w1.heap.size rfl (blindCells n wd g t s) 5 agg_blind rfl K.out.row ?_)
          refine (sl_h_i n wd g t s hd'.out _).mono ?_
          rintro e w20 ⟨rfl, hb⟩
          replace K := hidd (K.out.step hb)
          clear hb
          have z0 := bl_0 K.out.row
          have z2 := bl_2 K.out.row
          go_wp2_with fail
          all_goals (go_ret; exact ⟨by simp [*], K.out.below⟩)
  · have hb2 : (decide (3000 < C.length) || decide (3000 < D.length)) = true := by
      rw [Bool.or_eq_true, decide_eq_true_eq, decide_eq_true_eq]; omega
    have HL := hidd (fun w => long_any Ca Da C.length D.length Cc Dc hC5 hD5 w)
    rw [hb2] at HL
    clear hb2
    go_enter Tryz.func4, Tryz.ntmps4
    go_wp2_with (go_at_call 5; refine (HL.out _).mono ?_; rintro e w2 ⟨rfl, rfl⟩)
    go_ret
    exact ⟨rfl, Below.refl _ _⟩

theorem tabs_fnSlats {W : World} (h : laidMetH Tryz.prog Rows.fnSlatsRow.laid W) : Tabs W ∧ Errs W := by
  rw [MakeChecks.laidMetH_plain _ _ _ (by kernel_rfl)] at h
  exact ⟨tabs_of h, errs_of7 h⟩
set_option maxRecDepth 100000 in
theorem lifted_fnSlats (os : Os) (started : os.Started) (H : Type) (enc : TypeId × Value → H) :
    ReturnsInHanded {} Tryz.checked os 4 .any (fun w args => (Rows.fnSlatsSpec.pre enc Tryz.prog Tryz.f4 [] false w args ∧ laidMetH Tryz.prog Rows.fnSlatsRow.laid w) ∧ sizedMet enc Tryz.prog Tryz.f4 (OpenSpec.ofChange Rows.fnSlatsSpec) false w args) (Rows.fnSlatsSpec.post enc Tryz.prog Tryz.f4 false true false false) := by
  refine handed_both (C := Tryz.checked) (X := fun w _ => laidMetH Tryz.prog Rows.fnSlatsRow.laid w) (fun _ _ _ hh h => h.of_heap hh) own started (by kernel_rfl) Tryz.func4
    (ChangeSpec.witness_shaped (enc := enc) (C := Tryz.checked) (os := os) (X := fun w _ => laidMetH Tryz.prog Rows.fnSlatsRow.laid w) false (World.laidAll Tryz.prog os Rows.fnSlatsRow.laid) #[.slice none 0 0, .slice none 0 0] 60 (World.laidAll_os _ _ _) (World.shaped_of_ZipB (by kernel_rfl) (by kernel_rfl)) (by kernel_rfl) (by kernel_rfl) (by kernel_rfl) (door7 os _)) ?_
  intro W base args ds gs before hval0 hW _ hL hSh
  have hval : ∀ (j : Nat) t v, Tryz.f4.params[j]? = some t → args[j]? = some v → Value.okWide Tryz.prog W .any base t v := hval0
  have hW' := hW
  obtain ⟨p, q, hA0, hV, rfl, hfz, hnd⟩ := hW
  have hA : DataW.TrodAll enc Tryz.prog W 0 (fun _ => true) true Tryz.f4.params.toList args.toList ds p := hA0
  rw [Tryz.params4] at hA hval
  obtain ⟨v0, vs0, d0, ds0, p0, q0, hargs, rfl, rfl, h0, r0⟩ := trodAll_cons hA
  obtain ⟨v1, vs1, d1, ds1, p1, q1, rfl, rfl, rfl, h1, r1⟩ := trodAll_cons r0
  obtain ⟨rfl, rfl, rfl⟩ := trodAll_nil r1
  obtain rfl : args = #[v0, v1] := by cases args; simp_all
  obtain ⟨rfl, rfl⟩ := trodVars_none hV
  have lt0 : ∀ x ∈ p0, x.block < W.heap.size := by obtain ⟨m, hm⟩ := h0; exact DataW.trod_lt m _ _ _ hm
  have lt1 : ∀ x ∈ p1, x.block < W.heap.size := by obtain ⟨m, hm⟩ := h1; exact DataW.trod_lt m _ _ _ hm
  obtain ⟨Ca, Cc, C, rfl, hC5, hC6⟩ := arg_bytes (hval 0 22 v0 rfl rfl) h0
  obtain ⟨Da, Dc, D, rfl, hD5, hD6⟩ := arg_bytes (hval 1 22 v1 rfl rfl) h1
  clear hA0 hval0
  refine (walk_fnSlats W Ca Cc C hC5 hC6 Da Dc D hD5 hD6 (tabs_fnSlats hL).1 (tabs_fnSlats hL).2 (mx_of hSh)).mono fun e W' ⟨he, bel⟩ => ?_
  subst he
  exact ⟨_, rfl, _, _, _, [], _, [], hW', trodAll_mk1 (shut_bool Tryz.underlying4 _), (trodAll_cons_mk (Below.trod laidOut (by kernel_rfl) (of_decide_eq_true (by kernel_rfl)) h0 bel lt0) (trodAll_cons_mk (Below.trod laidOut (by kernel_rfl) (of_decide_eq_true (by kernel_rfl)) h1 bel lt1) trodAll_mk0)), rfl, bel.frame _, fun h => by cases h⟩

/-- THE STATEMENT. -/
theorem fnSlats_holds : Rows.FnSlatsSaid :=
  OpenClaim.holds_of_wide 4 Tryz.f4 rfl rfl rfl rfl rfl rfl rfl ⟨rfl, rfl, rfl, rfl, rfl⟩ rfl rfl rfl rfl rfl (by kernel_rfl) Tryz.func4 (by kernel_rfl)
    (of_decide_eq_true (by kernel_rfl)) (by unfold Func.isWrapper; first | (rw [if_pos (by decide +kernel)]; kernel_rfl) | (rw [if_neg (by decide +kernel)]; exact ⟨rfl, rfl⟩))
    (fun os started H enc _ => lifted_fnSlats os started H enc)
#print axioms fnSlats_holds
theorem fnSlats_card : Rows.FnSlatsCardSaid :=
  Claim7.holds_tied_plain_at .later [] [.data, .data, .data, .data, .sentinel, .sentinel, .pinned] true (true, "c24d4c2ffe5179f8771ce7123cd2a130918d0ab247cfa2d6e2aedfdc29cd6ce9") true
    fnSlats_holds (fun _ h => by cases h) (by kernel_rfl) (fun _ h => by cases h) fnSlats_row_tie rfl ⟨rfl, rfl⟩ (by kernel_rfl) rfl
    (fun f fn hf hfn => by
      obtain rfl : f = 4 := Option.some.inj ((show Tryz.prog.funcNamed Rows.fnSlatsRow.func = some 4 by kernel_rfl).symm.trans hf) |>.symm
      obtain rfl : fn = Tryz.f4 := (Option.some.inj (Tryz.func4.symm.trans hfn)).symm
      exact ⟨by kernel_rfl, fun j t ht => by
        rw [Tryz.params4] at ht
        have hm : t ∈ [22, 22] := by simpa using Array.mem_of_getElem? ht
        have hall : ([22, 22].all fun u => !Tryz.prog.wantsStandIn u) = true := by kernel_rfl
        exact (show Tryz.prog.wantsStandIn t = false by simpa using List.all_eq_true.1 hall t hm)⟩)
    (by kernel_rfl)
#print axioms fnSlats_card
end Go.Proofs.YtddkiemipedgcaaGreatDoor
