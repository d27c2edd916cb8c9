/-
  The walk's laws for single precision: an operation on finite numbers gives the rounded number; a comparison gives its Bool.
-/
import Derived.Test.YtddkiemipedgcaaGreatDoorFl
import Derived.Test.YtddkiemipedgcaaGreatDoorProg
import Derived.WalkKit
import Derived.WalkSpells
import Derived.WalkLawsBesides
namespace Go.Proofs.Fl

theorem f32_format : FloatKind.f32.format = Ieee.single := rfl

section
variable {P : Program} (w : World) (t : TypeId) {a b : Nat}
@[go_sem high] theorem run_add32 (ha : Fnt a) (hb : Fnt b) : (binOp .add t (.float .f32 a) (.float .f32 b)).run P w = .ok (.float .f32 (fadd a b)) w :=
  run_float_arith w .add t .f32 a b _ (add_fin ha hb).1
@[go_sem high] theorem run_sub32 (ha : Fnt a) (hb : Fnt b) : (binOp .sub t (.float .f32 a) (.float .f32 b)).run P w = .ok (.float .f32 (fsub a b)) w :=
  run_float_arith w .sub t .f32 a b _ (sub_fin ha hb).1
@[go_sem high] theorem run_mul32 (ha : Fnt a) (hb : Fnt b) : (binOp .mul t (.float .f32 a) (.float .f32 b)).run P w = .ok (.float .f32 (fmul a b)) w :=
  run_float_arith w .mul t .f32 a b _ (mul_fin ha hb).1
@[go_sem high] theorem run_quo32 (ha : Fnt a) (hb : Fnt b) (h0 : rung b ≠ 0) : (binOp .quo t (.float .f32 a) (.float .f32 b)).run P w = .ok (.float .f32 (fdiv a b)) w :=
  run_float_arith w .quo t .f32 a b _ (div_fin ha hb h0).1
end
section
variable (t : TypeId) (a b : Nat)
@[go_sem high] theorem eql32 : binOp .eql t (.float .f32 a) (.float .f32 b) = pure (.bool (feq a b)) := binOp_float_cmp_eql t .f32 a b
@[go_sem high] theorem neq32 : binOp .neq t (.float .f32 a) (.float .f32 b) = pure (.bool (fne a b)) := binOp_float_cmp_neq t .f32 a b
@[go_sem high] theorem lss32 : binOp .lss t (.float .f32 a) (.float .f32 b) = pure (.bool (flt a b)) := binOp_float_cmp_lss t .f32 a b
@[go_sem high] theorem leq32 : binOp .leq t (.float .f32 a) (.float .f32 b) = pure (.bool (fle a b)) := binOp_float_cmp_leq t .f32 a b
@[go_sem high] theorem gtr32 : binOp .gtr t (.float .f32 a) (.float .f32 b) = pure (.bool (fgt a b)) := binOp_float_cmp_gtr t .f32 a b
@[go_sem high] theorem geq32 : binOp .geq t (.float .f32 a) (.float .f32 b) = pure (.bool (fge a b)) := binOp_float_cmp_geq t .f32 a b
end
section
variable {P : Program} {w : World} {a : Addr} {m : Mode}
@[go_sem] theorem run_store_float (k : FloatKind) (b : Nat) : (store a (.float k b) m).run P w = stored P w a (.float k b) m := run_store P w a _ m rfl
end
end Go.Proofs.Fl
