/-
  Numbers drawn from bytes: parts, lengths; a source of choices made.
-/
import Derived.Test.YtfiifnlnkedahaaDoorWdr
import Derived.Test.YtfiifnlnkedahaaDoorPd
namespace Go.Proofs.YtfiifnlnkedahaaDoor
open Go.RowKit Go.Proofs.Fl Go.Proofs.Pl
set_option linter.unusedVariables false

/-- A number with a property was drawn. -/
def DrawnF (p : Nat → Prop) (b : Nat) (ao : Option Addr) (cap : Nat) (xs : List Int) (k : Nat) (w : World) (e : Ending) (w' : World) : Prop :=
  ∃ x : Nat, e = .returned (.float .f32 x) ∧ p x ∧ Wrote w w' b ∧ Src b ao cap xs k w'
theorem from_any (ao : Option Addr) (cap n : Nat) (w : World) :
    Calls Tryd.prog 73 #[.slice ao n cap] w fun e w' => e = .returned (.pointer (some ⟨w.heap.size, 0, none⟩)) ∧ w' = w.alloc (.cells #[.slice ao n cap, .int .i64 0, .int .u64 0] 118) := by
  go_enter Tryd.func73, Tryd.ntmps73
  go_wp2
  go_ret
  exact ⟨rfl, rfl⟩
theorem Src.new (ao : Option Addr) (cap : Nat) (xs : List Int) (w : World) (T : TypeId) (h : ArgBytes w ao xs) : Src w.heap.size ao cap xs 0 (w.alloc (.cells #[.slice ao xs.length cap, .int .i64 0, .int .u64 0] T)) :=
  ⟨⟨0, 0, Nat.le_refl _, by decide, by decide, Row.new _ _ _⟩, h.step ((Below.refl _ _).alloc (Nat.le_refl _) _), h.lt⟩
theorem Src.alloc {b : Nat} {ao : Option Addr} {cap : Nat} {xs : List Int} {k : Nat} {w : World} (h : Src b ao cap xs k w) (o : Obj) : Src b ao cap xs k (w.alloc o) := by
  obtain ⟨⟨a, s, h1, h2, h3, r⟩, h4, h5⟩ := h
  exact ⟨⟨a, s, h1, h2, h3, r.alloc o⟩, h4.step ((Below.refl _ _).alloc (Nat.le_refl _) o), h5⟩
theorem Src.new' (b : Nat) (ao : Option Addr) (cap : Nat) (xs : List Int) (w : World) (T : TypeId) (hb : b = w.heap.size) (h : ArgBytes w ao xs) : Src b ao cap xs 0 (w.alloc (.cells #[.slice ao xs.length cap, .int .i64 0, .int .u64 0] T)) := by
  subst hb; exact Src.new ao cap xs w T h
theorem long_any (ao bo : Option Addr) (n m c d : Nat) (hn : n ≤ 9223372036854775807) (hm : m ≤ 9223372036854775807) (w : World) :
    Calls Tryd.prog 27 #[.slice ao n c, .slice bo m d] w fun e w' => e = .returned (.bool (decide (3000 < n) || decide (3000 < m))) ∧ w = w' := by
  by_cases h1 : 3000 < n
  · have h1' : (3000 : Int) < (n : Int) := by omega
    go_enter Tryd.func27, Tryd.ntmps27
    go_wp2
    all_goals (go_ret; exact ⟨by simp [h1], rfl⟩)
  · have h1' : (n : Int) ≤ 3000 := by omega
    by_cases h2 : 3000 < m
    · have h2' : (3000 : Int) < (m : Int) := by omega
      go_enter Tryd.func27, Tryd.ntmps27
      go_wp2
      all_goals (go_ret; exact ⟨by simp [h1, h2] <;> omega, rfl⟩)
    · have h2' : (m : Int) ≤ 3000 := by omega
      go_enter Tryd.func27, Tryd.ntmps27
      go_wp2
      all_goals (go_ret; exact ⟨by simp [h1, h2] <;> omega, rfl⟩)
theorem long_no (ao bo : Option Addr) (n m c d : Nat) (hn : n ≤ 3000) (hm : m ≤ 3000) (w : World) : Calls Tryd.prog 27 #[.slice ao n c, .slice bo m d] w fun e w' => e = .returned (.bool false) ∧ w = w' := by
  have h := long_any ao bo n m c d (by omega) (by omega) w
  have e1 : decide (3000 < n) = false := by simp; omega
  have e2 : decide (3000 < m) = false := by simp; omega
  rw [e1, e2] at h; exact h
theorem long_yes (ao bo : Option Addr) (n m c d : Nat) (hn : n ≤ 9223372036854775807) (hm : m ≤ 9223372036854775807) (hb : ¬ (n ≤ 3000 ∧ m ≤ 3000)) (w : World) : Calls Tryd.prog 27 #[.slice ao n c, .slice bo m d] w fun e w' => e = .returned (.bool true) ∧ w = w' := by
  have h := long_any ao bo n m c d hn hm w
  have e1 : (decide (3000 < n) || decide (3000 < m)) = true := by simp; omega
  rw [e1] at h; exact h
theorem emod_le_self {x n : Int} (h : 0 ≤ x) (hn : 0 ≤ n) : x % n ≤ x := by
  have e := Int.mul_ediv_add_emod x n
  have p := Int.mul_nonneg hn (Int.ediv_nonneg h hn)
  omega
theorem at_any (ao : Option Addr) (cap : Nat) (xs : List Int) (hn : xs.length ≤ 3000) (i : Nat) (hi : i ≤ 100) (n : Int) (h1 : 1 ≤ n) (w : World) (h : ArgBytes w ao xs) :
    Calls Tryd.prog 28 #[.slice ao xs.length cap, .int .i64 i, .int .i64 n] w fun e w' => ∃ x : Int, e = .returned (.int .i64 x) ∧ 0 ≤ x ∧ x ≤ n - 1 ∧ x ≤ 255 ∧ w = w' := by
  have H := hidd h
  clear h
  have i0 : (0 : Int) ≤ (i : Int) := by omega
  by_cases hlt : i < xs.length
  · obtain ⟨a, rfl, hb, hc, q0, q1⟩ := H.out i hlt
    generalize xs.getD i 0 = x at hc q0 q1
    have i1 : (i : Int) < (xs.length : Int) := by omega
    go_enter Tryd.func28, Tryd.ntmps28
    go_wp2
    go_ret
    exact ⟨_, rfl, Int.emod_nonneg _ (by omega), by have := Int.emod_lt_of_pos x (show 0 < n by omega); omega, by have := emod_le_self q0 (show 0 ≤ n by omega); omega, rfl⟩
  · have i1 : (xs.length : Int) ≤ (i : Int) := by omega
    go_enter Tryd.func28, Tryd.ntmps28
    go_wp2
    go_ret
    exact ⟨0, rfl, by omega, by omega, by omega, rfl⟩
end Go.Proofs.YtfiifnlnkedahaaDoor
