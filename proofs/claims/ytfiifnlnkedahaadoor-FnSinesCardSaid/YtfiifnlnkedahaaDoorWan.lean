/-
  Any number, drawn from bytes: a word of 32 bits.
-/
import Derived.Test.YtfiifnlnkedahaaDoorWds

namespace Go.Proofs.Pl
open Go Go.Proofs.Fl
set_option linter.unusedVariables false
theorem int_fin {n : Int} (h0 : -16777216 ≤ n) (h1 : n ≤ 16777216) : Fnt (floatOfInt .f32 n) ∧ floatOfInt .f32 n < 4294967296 := by
  obtain ⟨R, e, h⟩ := nearest_rnd (decide (n < 0)) n.natAbs 0
  have e1 : floatOfInt .f32 n = Ieee.single.word (decide (n < 0)) R := e
  rw [e1]
  have i := is_word (decide (n < 0)) h
  have m : M 1266679808 = 16777216 * 2 ^ 149 := by decide +kernel
  have hn : n.natAbs ≤ 16777216 := by omega
  have hp : n.natAbs * 2 ^ 149 ≤ M 1266679808 * 1 := by
    rw [m, Nat.mul_one]; exact Nat.mul_le_mul_right _ hn
  have r := rnd_le i.rnd (by decide) (r := 1266679808) (by decide) hp
  exact ⟨fin_of_le r (by decide), i.lt⟩
theorem quo_lt {x y : Nat} (hx : Fnt x) (hy : Fnt y) (h0 : rung y ≠ 0) : fdiv x y < 4294967296 := (div_fin hx hy h0).2.lt
end Go.Proofs.Pl
namespace Go.Proofs.YtfiifnlnkedahaaDoor
open Go.RowKit Go.Proofs.Fl Go.Proofs.Pl
set_option linter.unusedVariables false
@[go_sem] theorem run_frombits64 (n : Int) (w : World) : (callFunc 125 #[.int .u64 n]).run Tryd.prog w = .ok (.value (.float .f64 n.toNat)) w := by
  rw [run_callFunc_extern Tryd.func125 (by kernel_rfl) (by kernel_rfl) (by kernel_rfl) (e := Extern.MathFloatBits.float64frombits) (by kernel_rfl) _ w]; rfl
theorem narrow_nan (w : World) : ∃ r, (convert 28 22 (.float .f64 9221120237041090561)).run Tryd.prog w = .ok (.float .f32 r) w.drew ∧ r < 4294967296 := by
  have e : FloatKind.f64.decode 9221120237041090561 = .nan false 2251799813685249 := by decide +kernel
  refine ⟨(w.tape w.drawn (.nanConv .f32 9221120237041090561) % 2) * 2 ^ 31 + 0x7f800000 + 1 + (w.tape w.drawn (.nanConv .f32 9221120237041090561) / 2) % (2 ^ 23 - 1), ?_, by omega⟩
  have hu : (convert 28 22 (.float .f64 9221120237041090561)).run Tryd.prog w = (Conv.floatToFloat .f64 9221120237041090561 .f32).run Tryd.prog w := by
    simp [convert, run_underlying Tryd.underlying28, run_underlying Tryd.underlying22]
  rw [hu]
  unfold Conv.floatToFloat
  rw [if_neg (by decide), e]
  rfl
theorem narrow_inf (w : World) : (convert 28 22 (.float .f64 9218868437227405312)).run Tryd.prog w = .ok (.float .f32 2139095040) w :=
  run_convert_float_float w 28 22 .f64 .f32 9218868437227405312 2139095040 (by rw [Tryd.underlying28]; rfl) Tryd.underlying22 (by decide +kernel)
theorem narrow_minf (w : World) : (convert 28 22 (.float .f64 18442240474082181120)).run Tryd.prog w = .ok (.float .f32 4286578688) w :=
  run_convert_float_float w 28 22 .f64 .f32 18442240474082181120 4286578688 (by rw [Tryd.underlying28]; rfl) Tryd.underlying22 (by decide +kernel)
/-- A word of 32 bits was drawn; below block b nothing has turned. -/
def AnyPost (b : Nat) (w : World) (e : Ending) (w' : World) : Prop := ∃ x : Nat, e = .returned (.float .f32 x) ∧ x < 4294967296 ∧ Below b w w'
theorem few_any (b : Nat) (ao : Option Addr) (cap : Nat) (xs : List Int) (k : Nat) (hk : k ≤ 999000) (hn : xs.length ≤ 3000) (w : World) (h : Src b ao cap xs k w) :
    Calls Tryd.prog 102 #[.pointer (some ⟨b, 0, none⟩)] w (AnyPost b w) := by
  have S := hidd h
  clear h
  have q1 : Fnt 1082130432 := by decide
  have q1' : rung 1082130432 ≠ 0 := by decide
  go_enter Tryd.func102, Tryd.ntmps102
  go_wp2_with fail
  refine (pick_any 65 (by omega) (by omega) b ao cap xs k (by omega) hn _ S.out).mono ?_
  rintro e w1 ⟨x, rfl, x0, x1, hw, hs⟩
  have W1 := hidd hw
  clear hw hs
  have f := (int_fin (n := x - 32) (by omega) (by omega)).1
  have T := hidd (quo_lt f q1 q1')
  go_wp2
  go_ret
  exact ⟨_, rfl, T.out, W1.out.below (Nat.le_refl _)⟩
theorem among_any (b : Nat) (ao : Option Addr) (cap : Nat) (xs : List Int) (k : Nat) (hk : k ≤ 999000) (hn : xs.length ≤ 3000) (g : Nat) (w : World) (h : Src b ao cap xs k w) (hg : Row w g #[.int .i64 1048576, .int .i64 1048577, .int .i64 (-1048576)]) (hbg : b < g) :
    Calls Tryd.prog 101 #[.pointer (some ⟨b, 0, none⟩), .slice (some ⟨g, 0, none⟩) 3 3] w fun e w' => (∃ x, e = .returned (.int .i64 x) ∧ -1048576 ≤ x ∧ x ≤ 1048577) ∧ Below b w w' := by
  have S := hidd h
  have G := hidd hg
  clear h hg
  go_enter Tryd.func101, Tryd.ntmps101
  go_wp2_with fail
  refine (pick_any 3 (by omega) (by omega) b ao cap xs k (by omega) hn _ S.out).mono ?_
  rintro e w1 ⟨x, rfl, x0, x1, hw, hs⟩
  have W1 := hidd hw
  have r := hw.row G.out (by omega)
  have c0 : w1.cell? ⟨g, 0, none⟩ = some (.int .i64 1048576) := by rw [r.cell]; rfl
  have c1 : w1.cell? ⟨g, 1, none⟩ = some (.int .i64 1048577) := by rw [r.cell]; rfl
  have c2 : w1.cell? ⟨g, 2, none⟩ = some (.int .i64 (-1048576)) := by rw [r.cell]; rfl
  clear hw hs r
  have hx : x = 0 ∨ x = 1 ∨ x = 2 := by omega
  rcases hx with rfl | rfl | rfl
  all_goals
    go_wp2
    go_ret
    exact ⟨⟨_, rfl, by omega, by omega⟩, W1.out.below (Nat.le_refl _)⟩
set_option maxHeartbeats 4000000 in
set_option maxRecDepth 100000 in
theorem l01Any_any (b : Nat) (ao : Option Addr) (cap : Nat) (xs : List Int) (k : Nat) (hk : k ≤ 998000) (hn : xs.length ≤ 3000) (w : World) (h : Src b ao cap xs k w) (hb : b < w.heap.size) :
    Calls Tryd.prog 72 #[.pointer (some ⟨b, 0, none⟩)] w (AnyPost b w) := by
  have S := hidd h
  have HB := hidd hb
  clear h hb
  have q1 : Fnt 1148846080 := by decide
  have q1' : rung 1148846080 ≠ 0 := by decide
  go_enter Tryd.func72, Tryd.ntmps72
  go_wp2_with fail
  refine (pick_any 14 (by omega) (by omega) b ao cap xs k (by omega) hn _ S.out).mono ?_
  rintro e w1 ⟨x, rfl, x0, x1, hw, hs⟩
  have W1 := hidd hw
  have S1 := hidd hs
  clear hw hs
  by_cases c0 : x = 0
  · subst c0
    obtain ⟨r, hr, hr2⟩ := narrow_nan w1
    have R2 := hidd hr2
    clear hr2
    go_wp2
    go_ret
    exact ⟨r, rfl, R2.out, (W1.out.below (Nat.le_refl _)).drew⟩
  by_cases c1 : x = 1
  · subst c1
    have hr := fun w => narrow_inf w
    go_wp2
    go_ret
    exact ⟨_, rfl, by decide, W1.out.below (Nat.le_refl _)⟩
  by_cases c2 : x = 2
  · subst c2
    have hr := fun w => narrow_minf w
    go_wp2
    go_ret
    exact ⟨_, rfl, by decide, W1.out.below (Nat.le_refl _)⟩
  by_cases c3 : x = 3
  · subst c3
    go_wp2
    go_ret
    exact ⟨_, rfl, by decide, W1.out.below (Nat.le_refl _)⟩
  by_cases c4 : x = 4
  · subst c4
    go_wp2_with fail
    refine (raw_any b ao cap xs (k + 2) (by omega) hn _ S1.out).mono ?_
    rintro e w2 ⟨y, rfl, y0, y1, hw, hs⟩
    have W2 := hidd (W1.out.trans hw)
    clear hw hs
    go_wp2
    go_ret
    exact ⟨_, rfl, by omega, W2.out.below (Nat.le_refl _)⟩
  by_cases c5 : x = 5
  · subst c5
    go_wp2_with fail
    refine (raw_any b ao cap xs (k + 2) (by omega) hn _ S1.out).mono ?_
    rintro e w2 ⟨y, rfl, y0, y1, hw, hs⟩
    have W2 := hidd (W1.out.trans hw)
    clear hw hs
    go_wp2
    go_ret
    exact ⟨_, rfl, by omega, W2.out.below (Nat.le_refl _)⟩
  by_cases c6 : x = 6
  · subst c6
    go_wp2_with fail
    refine (pick_any 60000 (by omega) (by omega) b ao cap xs (k + 2) (by omega) hn _ S1.out).mono ?_
    rintro e w2 ⟨y, rfl, y0, y1, hw, hs⟩
    have W2 := hidd (W1.out.trans hw)
    clear hw hs
    have f := (int_fin (n := y - 30000) (by omega) (by omega)).1
    have T := hidd (quo_lt f q1 q1')
    go_wp2
    go_ret
    exact ⟨_, rfl, T.out, W2.out.below (Nat.le_refl _)⟩
  have n0 : (x == 0) = false := by simp; omega
  have n1 : (x == 1) = false := by simp; omega
  have n2 : (x == 2) = false := by simp; omega
  have n3 : (x == 3) = false := by simp; omega
  have n4 : (x == 4) = false := by simp; omega
  have n5 : (x == 5) = false := by simp; omega
  have n6 : (x == 6) = false := by simp; omega
  by_cases c7 : x = 7
  · subst c7
    have B1 := hidd (W1.out.below (Nat.le_refl b))
    have Z1 := hidd (show b < w1.heap.size from by rw [W1.out.size]; exact HB.out)
    go_wp2_with fail
    refine (among_any b ao cap xs (k + 2) (by omega) hn w1.heap.size _ (S1.out.alloc _) (Row.new _ _ _) Z1.out).mono ?_
    rintro e w2 ⟨⟨y, rfl, y0, y1⟩, hb2⟩
    have B2 := hidd ((B1.out.alloc (by have := Z1.out; omega) _).trans hb2)
    clear hb2
    have T := hidd (int_fin (n := y) (by omega) (by omega)).2
    go_wp2
    go_ret
    exact ⟨_, rfl, T.out, B2.out⟩
  · have n7 : (x == 7) = false := by simp; omega
    go_wp2_with fail
    refine (few_any b ao cap xs (k + 2) (by omega) hn _ S1.out).mono ?_
    rintro e w2 ⟨y, rfl, y1, hb2⟩
    have B2 := hidd ((W1.out.below (Nat.le_refl b)).trans hb2)
    have T := hidd y1
    clear hb2 y1
    go_wp2
    go_ret
    exact ⟨y, rfl, T.out, B2.out⟩
theorem any_any (ao : Option Addr) (cap : Nat) (xs : List Int) (hn : xs.length ≤ 3000) (w : World) (h : ArgBytes w ao xs) :
    Calls Tryd.prog 34 #[.slice ao xs.length cap] w fun e w' => ∃ v, e = .returned (.float .f32 v) ∧ v < 4294967296 ∧ Below w.heap.size w w' := by
  have S := hidd (Src.new ao cap xs w 118 h)
  clear h
  go_enter Tryd.func34, Tryd.ntmps34
  go_wp2_with fail
  refine (from_any ao cap xs.length _).mono ?_
  rintro e w1 ⟨rfl, rfl⟩
  go_wp2_with fail
  refine (l01Any_any _ ao cap xs 0 (by omega) hn _ S.out (by simp)).mono ?_
  rintro e w2 ⟨v, rfl, hv, hb⟩
  have HV := hidd hv
  have B2 := hidd (((Below.refl w.heap.size w).alloc (Nat.le_refl _) _).trans hb)
  clear hv hb
  go_wp2
  go_ret
  exact ⟨v, rfl, HV.out, B2.out⟩
end Go.Proofs.YtfiifnlnkedahaaDoor
