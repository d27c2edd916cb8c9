/-
  The words that the walks use.
-/
import Derived.Test.YtddkiemipedgcaaGreatDoorFw
import Derived.Test.YtddkiemipedgcaaGreatDoorPl

import Derived.KernelRfl
namespace Go.Proofs.Fl

/-- A fact kept from the walk. -/
theorem hidd {p : Prop} (h : p) : Go.RowKit.Hid p := h

theorem xor_top {a : Nat} (h1 : 2147483648 ≤ a) (h2 : a < 4294967296) : a ^^^ 2147483648 = a - 2147483648 := by
  have d : (a ^^^ 2147483648) / 2 ^ 31 = 0 := by
    rw [Nat.xor_div_two_pow]
    have : a / 2 ^ 31 = 1 := by omega
    rw [this]; decide
  have m : (a ^^^ 2147483648) % 2 ^ 31 = a % 2 ^ 31 := by
    rw [Nat.xor_mod_two_pow]
    have : 2147483648 % 2 ^ 31 = 0 := by decide
    rw [this, Nat.xor_zero]
  omega

theorem neg_size {a : Nat} (ha : Fnt a) (hw : a < 4294967296) (h : flt a 0 = true) : Op.negFloat .f32 a = fsub 0 a := by
  have v0 : V 0 = 0 := by decide
  rw [flt_fin ha (by decide), v0, decide_eq_true_eq] at h
  rw [fsub_zero ha h]
  have hs : sg a = true := by
    cases c : sg a
    · rw [V_pos c] at h; omega
    · rfl
  have e := word_eq hw
  rw [hs, if_pos rfl] at e
  have f : Op.negFloat .f32 a = a ^^^ 2147483648 := rfl
  rw [f, xor_top (by omega) hw]
  omega
end Go.Proofs.Fl

namespace Go.Proofs.YtddkiemipedgcaaGreatDoor
@[go_sem] theorem unary_neg32 (b : Nat) : Op.unary .neg (.float .f32 b) = pure (.float .f32 (Op.negFloat .f32 b)) := rfl
@[go_sem] theorem run_bits32 (b : Nat) (w : World) : (callFunc 116 #[.float .f32 b]).run Tryz.prog w = .ok (.value (.int .u32 b)) w := by
  rw [run_callFunc_extern Tryz.func116 (by kernel_rfl) (by kernel_rfl) (by kernel_rfl) (e := Extern.MathFloatBits.float32bits) (by kernel_rfl) _ w]; rfl
@[go_sem] theorem run_frombits32 (n : Int) (w : World) : (callFunc 120 #[.int .u32 n]).run Tryz.prog w = .ok (.value (.float .f32 n.toNat)) w := by
  rw [run_callFunc_extern Tryz.func120 (by kernel_rfl) (by kernel_rfl) (by kernel_rfl) (e := Extern.MathFloatBits.float32frombits) (by kernel_rfl) _ w]; rfl
end Go.Proofs.YtddkiemipedgcaaGreatDoor
