/-
  A float32 of any bits made a float64; 'sameFloat' of two that were made of one.
-/
import Derived.Test.YtfiifnlnkedahaaDoorWe
import Derived.Test.YtfiifnlnkedahaaDoorRw
namespace Go.Proofs.Fl
set_option linter.unusedVariables false
open Ieee
def IsNan (x : Nat) : Prop := ∃ s f, double.read x = .nan s f
theorem nan_order {x : Nat} (h : IsNan x) (y : Nat) : double.order x y = none := by
  obtain ⟨s, f, e⟩ := h
  unfold Format.order; rw [e]; rfl
theorem nan_cut (t : Nat) : IsNan ((t % 2) * 2 ^ 63 + 0x7ff0000000000000 + 1 + (t / 2) % (2 ^ 52 - 1)) := by
  have e1 : double.signWeight = 9223372036854775808 := by decide
  have e2 : double.binade = 4503599627370496 := by decide
  have e3 : double.infRung = 9218868437227405312 := by decide
  generalize hr : 0x7ff0000000000000 + 1 + (t / 2) % (2 ^ 52 - 1) = r
  have h1 : 9218868437227405312 < r := by omega
  have h2 : r < 9223372036854775808 := by omega
  have e : (t % 2) * 2 ^ 63 + 0x7ff0000000000000 + 1 + (t / 2) % (2 ^ 52 - 1) = (t % 2) * 9223372036854775808 + r := by omega
  rw [e]
  generalize t % 2 = q
  have hm : (q * 9223372036854775808 + r) % 9223372036854775808 = r := by omega
  unfold IsNan Format.read
  simp only [e1, e2, e3, hm]
  rw [if_neg (by omega), if_neg (by omega), if_neg (by omega)]
  exact ⟨_, _, rfl⟩
/-- A float64 that is no NaN. -/
def Dbl (x : Nat) : Prop := double.order x x = some .eq ∧ ∃ r, floatBits .quo .f64 4607182418800017408 x = some r
theorem dbl_num {x : Nat} (h : Num x) : Dbl x := ⟨num_order h, num_div h⟩
theorem dbl_inf (s : Bool) : Dbl (FloatKind.f64.encode (.infinity s)) := by
  cases s
  · exact ⟨by decide +kernel, ⟨0, by decide +kernel⟩⟩
  · exact ⟨by decide +kernel, ⟨9223372036854775808, by decide +kernel⟩⟩
/-- What a float64 is that was made of the float32 b. -/
def Wid (b r : Nat) : Prop := (floatToFloatBits .f32 b .f64 = some r ∧ Dbl r) ∨ (floatToFloatBits .f32 b .f64 = none ∧ IsNan r)
theorem wid_fin {b : Nat} (h : Fnt b) : Wid b (widen b) := .inl ⟨(widen_fin h).1, dbl_num (widen_fin h).2⟩
theorem widen_any {P : Program} {src dst : TypeId} (hs : P.underlying src = some (.float .f32)) (hd : P.underlying dst = some (.float .f64)) (b : Nat) (w : World) :
    ∃ r w', (convert src dst (.float .f32 b)).run P w = .ok (.float .f64 r) w' ∧ Wid b r ∧ (w' = w ∨ w' = w.drew) := by
  by_cases hf : Fnt b
  · exact ⟨widen b, w, run_convert_float_float w src dst .f32 .f64 b (widen b) (by rw [hs]; rfl) hd (widen_fin hf).1, wid_fin hf, .inl rfl⟩
  · rcases read_inf hf with e | ⟨f, e⟩
    · have e' : FloatKind.f32.decode b = .infinity (sg b) := e
      have q : floatToFloatBits .f32 b .f64 = some (FloatKind.f64.encode (.infinity (sg b))) := by
        unfold floatToFloatBits; rw [e']; rfl
      exact ⟨_, w, run_convert_float_float w src dst .f32 .f64 b _ (by rw [hs]; rfl) hd q, .inl ⟨q, dbl_inf _⟩, .inl rfl⟩
    · have e' : FloatKind.f32.decode b = .nan (sg b) f := e
      have q : floatToFloatBits .f32 b .f64 = none := by
        unfold floatToFloatBits; rw [e']; rfl
      refine ⟨_, w.drew, ?_, .inr ⟨q, nan_cut (w.tape w.drawn (.nanConv .f64 b))⟩, .inr rfl⟩
      have hu : (convert src dst (.float .f32 b)).run P w = (Conv.floatToFloat .f32 b .f64).run P w := by
        simp [convert, run_underlying hs, run_underlying hd]
      rw [hu]
      unfold Conv.floatToFloat
      rw [if_neg (by decide), e']
      rfl
section
variable {P : Program} {o : Oper} {a : Act} {w : World} {Q : Exit → Act → World → Prop} {ops : Array Oper} {rest : List Oper}
theorem wpList_widen (hgd : o.guard = none) (src dst : TypeId) (x : Operand) (ho : o.op = .convert src dst x) (b : Nat) (hx : a.eval x = .float .f32 b) (hs : P.underlying src = some (.float .f32)) (hd : P.underlying dst = some (.float .f64))
    (h : ∀ r w', Wid b r → (w' = w ∨ w' = w.drew) → wpList P ops Q rest (a.put o.dst (.float .f64 r)) w') : wpList P ops Q (o :: rest) a w :=
  wpList_plain hgd fun _ hK => by
    obtain ⟨r, w', hr, hw, hd'⟩ := widen_any hs hd b w
    unfold Oper.wp execOp
    simp only [ho, hx, Sem.run_bind, Result.andThen_ok, hr]
    exact hK _ _ (h r w' hw hd')
end
end Go.Proofs.Fl
namespace Go.Proofs.YtfiifnlnkedahaaDoor
open Go.RowKit Go.Proofs.Fl Go.Proofs.Pl
theorem sameFloat_dbl (x : Nat) (hx : Dbl x) (w : World) :
    Calls Tryd.prog 14 #[.float .f64 x, .float .f64 x] w fun e w' => e = .returned (.bool true) ∧ w = w' := by
  have ho : FloatKind.f64.format.order x x = some .eq := hx.1
  obtain ⟨r, hr⟩ := hx.2
  have h3 : ∀ t w, (binOp .quo t (.float .f64 4607182418800017408) (.float .f64 x)).run Tryd.prog w = .ok (.float .f64 r) w := fun t w => run_float_arith w .quo t .f64 _ x r hr
  clear hr hx
  go_enter Tryd.func14, Tryd.ntmps14
  go_wp2
  all_goals (go_ret; exact ⟨by simp, rfl⟩)
theorem sameFloat_nan (x y : Nat) (hx : IsNan x) (hy : IsNan y) (w : World) :
    Calls Tryd.prog 14 #[.float .f64 x, .float .f64 y] w fun e w' => e = .returned (.bool true) ∧ w = w' := by
  have ho : FloatKind.f64.format.order x x = none := nan_order hx _
  have hp : FloatKind.f64.format.order y y = none := nan_order hy _
  clear hx hy
  go_enter Tryd.func14, Tryd.ntmps14
  go_wp2
  all_goals (go_ret; exact ⟨by simp, rfl⟩)
theorem sameFloat_wid (b x y : Nat) (hx : Wid b x) (hy : Wid b y) (w : World) :
    Calls Tryd.prog 14 #[.float .f64 x, .float .f64 y] w fun e w' => e = .returned (.bool true) ∧ w = w' := by
  rcases hx with ⟨e1, d1⟩ | ⟨e1, d1⟩ <;> rcases hy with ⟨e2, d2⟩ | ⟨e2, d2⟩
  · obtain rfl := Option.some.inj (e1.symm.trans e2)
    exact sameFloat_dbl x d1 w
  · rw [e1] at e2; cases e2
  · rw [e1] at e2; cases e2
  · exact sameFloat_nan x y d1 d2 w
end Go.Proofs.YtfiifnlnkedahaaDoor
