/-
  Numbers drawn from bytes: parts, lengths; a source of choices made.
-/
import Derived.Test.YtddkiemipedgcaaGreatDoorWdr
import Derived.Test.YtddkiemipedgcaaGreatDoorPd
namespace Go.Proofs.YtddkiemipedgcaaGreatDoor
open Go.RowKit Go.Proofs.Fl Go.Proofs.Pl
set_option linter.unusedVariables false

/-- A number with a property was drawn. -/
def DrawnF (p : Nat → Prop) (b : Nat) (ao : Option Addr) (cap : Nat) (xs : List Int) (k : Nat) (w : World) (e : Ending) (w' : World) : Prop :=
  ∃ x : Nat, e = .returned (.float .f32 x) ∧ p x ∧ Wrote w w' b ∧ Src b ao cap xs k w'
theorem tone_any (b : Nat) (ao : Option Addr) (cap : Nat) (xs : List Int) (k : Nat) (hk : k ≤ 999000) (hn : xs.length ≤ 3000) (w : World) (h : Src b ao cap xs k w) :
    Calls Tryz.prog 51 #[.pointer (some ⟨b, 0, none⟩)] w (DrawnF (fun x => Tone x ∧ x < 4294967296) b ao cap xs (k + 6) w) := by
  have S := hidd h
  clear h
  have q1 : Fnt 1098907648 := by decide
  have q1' : rung 1098907648 ≠ 0 := by decide
  have q2 : Fnt 1148846080 := by decide
  have q2' : rung 1148846080 ≠ 0 := by decide
  have q3 : Fnt 1266679808 := by decide
  have q3' : rung 1266679808 ≠ 0 := by decide
  go_enter Tryz.func51, Tryz.ntmps51
  go_wp2_with fail
  refine (pick_any 4 (by omega) (by omega) b ao cap xs k (by omega) hn _ S.out).mono ?_
  rintro e w1 ⟨x1, rfl, xl1, xh1, hw, hs⟩
  have W1 := hidd hw
  have S1 := hidd hs
  clear hw hs
  by_cases c0 : x1 = 0
  · subst c0
    go_wp2_with fail
    refine (pick_any 17 (by omega) (by omega) b ao cap xs (k + 2) (by omega) hn _ S1.out).mono ?_
    rintro e w2 ⟨x2, rfl, xl2, xh2, hw, hs⟩
    have W2 := hidd hw
    have S2 := hidd hs
    clear hw hs
    have f := (big_fin xl2 (by omega)).1
    have T := hidd (tone_16 xl2 (by omega))
    go_wp2
    go_ret
    exact ⟨_, rfl, ⟨T.out, (div_fin f q1 q1').2.lt⟩, W1.out.trans W2.out, S2.out.more (by omega)⟩
  · by_cases c1 : x1 = 1
    · subst c1
      go_wp2_with fail
      refine (pick_any 1001 (by omega) (by omega) b ao cap xs (k + 2) (by omega) hn _ S1.out).mono ?_
      rintro e w2 ⟨x2, rfl, xl2, xh2, hw, hs⟩
      have W2 := hidd hw
      have S2 := hidd hs
      clear hw hs
      have f := (big_fin xl2 (by omega)).1
      have T := hidd (tone_1000 xl2 (by omega))
      go_wp2
      go_ret
      exact ⟨_, rfl, ⟨T.out, (div_fin f q2 q2').2.lt⟩, W1.out.trans W2.out, S2.out.more (by omega)⟩
    · have n0 : (x1 == 0) = false := by simp; omega
      have n1 : (x1 == 1) = false := by simp; omega
      go_wp2_with fail
      refine (raw_any b ao cap xs (k + 2) (by omega) hn _ S1.out).mono ?_
      rintro e w2 ⟨x2, rfl, xl2, xh2, hw, hs⟩
      have W2 := hidd hw
      have S2 := hidd hs
      clear hw hs
      have f := (big_fin (show 0 ≤ x2 / 256 by omega) (by omega)).1
      have T := hidd (tone_24 (show 0 ≤ x2 / 256 by omega) (by omega))
      go_wp2
      go_ret
      exact ⟨_, rfl, ⟨T.out, (div_fin f q3 q3').2.lt⟩, W1.out.trans W2.out, S2.out⟩
theorem sized_any (b : Nat) (ao : Option Addr) (cap : Nat) (xs : List Int) (k : Nat) (hk : k ≤ 999000) (hn : xs.length ≤ 3000) (w : World) (h : Src b ao cap xs k w) :
    Calls Tryz.prog 118 #[.pointer (some ⟨b, 0, none⟩)] w (DrawnF (fun x => isLen x = true ∧ x < 4294967296) b ao cap xs (k + 6) w) := by
  have S := hidd h
  clear h
  have q1 : Fnt 1098907648 := by decide
  have q1' : rung 1098907648 ≠ 0 := by decide
  have q2 : Fnt 1241513984 := by decide
  have q2' : rung 1241513984 ≠ 0 := by decide
  have q3 : Fnt 1031798784 := by decide
  go_enter Tryz.func118, Tryz.ntmps118
  go_wp2_with fail
  refine (one_any 3 (by omega) (by omega) b ao cap xs k (by omega) hn _ S.out).mono ?_
  rintro e w1 ⟨x1, rfl, hw, hs⟩
  have W1 := hidd hw
  have S1 := hidd hs
  clear hw hs
  cases x1
  · go_wp2_with fail
    refine (raw_any b ao cap xs (k + 2) (by omega) hn _ S1.out).mono ?_
    rintro e w2 ⟨x2, rfl, xl2, xh2, hw, hs⟩
    have W2 := hidd hw
    have S2 := hidd hs
    clear hw hs
    obtain ⟨f1, f2, f3⟩ := sized_2 (show 0 ≤ x2 / 256 by omega) (by omega)
    have T := hidd f3
    clear f3
    go_wp2
    go_ret
    exact ⟨_, rfl, ⟨T.out, (add_fin q3 f2).2.lt⟩, W1.out.trans W2.out, S2.out⟩
  · go_wp2_with fail
    refine (pick_any 64 (by omega) (by omega) b ao cap xs (k + 2) (by omega) hn _ S1.out).mono ?_
    rintro e w2 ⟨x2, rfl, xl2, xh2, hw, hs⟩
    have W2 := hidd hw
    have S2 := hidd hs
    clear hw hs
    have f := (big_fin (show 0 ≤ 1 + x2 by omega) (by omega)).1
    have T := hidd (sized_1 (show 1 ≤ 1 + x2 by omega) (by omega))
    go_wp2
    go_ret
    exact ⟨_, rfl, ⟨T.out, (div_fin f q1 q1').2.lt⟩, W1.out.trans W2.out, S2.out.more (by omega)⟩
theorem from_any (ao : Option Addr) (cap n : Nat) (w : World) :
    Calls Tryz.prog 50 #[.slice ao n cap] w fun e w' => e = .returned (.pointer (some ⟨w.heap.size, 0, none⟩)) ∧ w' = w.alloc (.cells #[.slice ao n cap, .int .i64 0, .int .u64 0] 107) := by
  go_enter Tryz.func50, Tryz.ntmps50
  go_wp2
  go_ret
  exact ⟨rfl, rfl⟩
theorem Src.new (ao : Option Addr) (cap : Nat) (xs : List Int) (w : World) (T : TypeId) (h : ArgBytes w ao xs) : Src w.heap.size ao cap xs 0 (w.alloc (.cells #[.slice ao xs.length cap, .int .i64 0, .int .u64 0] T)) :=
  ⟨⟨0, 0, Nat.le_refl _, by decide, by decide, Row.new _ _ _⟩, h.step ((Below.refl _ _).alloc (Nat.le_refl _) _), h.lt⟩
theorem Src.alloc {b : Nat} {ao : Option Addr} {cap : Nat} {xs : List Int} {k : Nat} {w : World} (h : Src b ao cap xs k w) (o : Obj) : Src b ao cap xs k (w.alloc o) := by
  obtain ⟨⟨a, s, h1, h2, h3, r⟩, h4, h5⟩ := h
  exact ⟨⟨a, s, h1, h2, h3, r.alloc o⟩, h4.step ((Below.refl _ _).alloc (Nat.le_refl _) o), h5⟩
theorem Src.new' (b : Nat) (ao : Option Addr) (cap : Nat) (xs : List Int) (w : World) (T : TypeId) (hb : b = w.heap.size) (h : ArgBytes w ao xs) : Src b ao cap xs 0 (w.alloc (.cells #[.slice ao xs.length cap, .int .i64 0, .int .u64 0] T)) := by
  subst hb; exact Src.new ao cap xs w T h
theorem part_any (ao : Option Addr) (cap : Nat) (xs : List Int) (hn : xs.length ≤ 3000) (w : World) (h : ArgBytes w ao xs) :
    Calls Tryz.prog 8 #[.slice ao xs.length cap] w fun e w' => ∃ v, e = .returned (.float .f32 v) ∧ Tone v ∧ Below w.heap.size w w' := by
  have S := hidd (Src.new ao cap xs w 107 h)
  clear h
  go_enter Tryz.func8, Tryz.ntmps8
  go_wp2_with fail
  refine (from_any ao cap xs.length _).mono ?_
  rintro e w1 ⟨rfl, rfl⟩
  go_wp2_with fail
  refine (tone_any _ ao cap xs 0 (by omega) hn _ S.out).mono ?_
  rintro e w2 ⟨v, rfl, hv, hw, hs⟩
  have HV := hidd hv.1
  have W2 := hidd hw
  clear hv hw hs
  go_wp2
  go_ret
  exact ⟨v, rfl, HV.out, ((Below.refl _ _).alloc (Nat.le_refl _) _).trans (W2.out.below (Nat.le_refl _))⟩
theorem long_any (ao bo : Option Addr) (n m c d : Nat) (hn : n ≤ 9223372036854775807) (hm : m ≤ 9223372036854775807) (w : World) :
    Calls Tryz.prog 5 #[.slice ao n c, .slice bo m d] w fun e w' => e = .returned (.bool (decide (3000 < n) || decide (3000 < m))) ∧ w = w' := by
  by_cases h1 : 3000 < n
  · have h1' : (3000 : Int) < (n : Int) := by omega
    go_enter Tryz.func5, Tryz.ntmps5
    go_wp2
    all_goals (go_ret; exact ⟨by simp [h1], rfl⟩)
  · have h1' : (n : Int) ≤ 3000 := by omega
    by_cases h2 : 3000 < m
    · have h2' : (3000 : Int) < (m : Int) := by omega
      go_enter Tryz.func5, Tryz.ntmps5
      go_wp2
      all_goals (go_ret; exact ⟨by simp [h1, h2] <;> omega, rfl⟩)
    · have h2' : (m : Int) ≤ 3000 := by omega
      go_enter Tryz.func5, Tryz.ntmps5
      go_wp2
      all_goals (go_ret; exact ⟨by simp [h1, h2] <;> omega, rfl⟩)
theorem long_no (ao bo : Option Addr) (n m c d : Nat) (hn : n ≤ 3000) (hm : m ≤ 3000) (w : World) : Calls Tryz.prog 5 #[.slice ao n c, .slice bo m d] w fun e w' => e = .returned (.bool false) ∧ w = w' := by
  have h := long_any ao bo n m c d (by omega) (by omega) w
  have e1 : decide (3000 < n) = false := by simp; omega
  have e2 : decide (3000 < m) = false := by simp; omega
  rw [e1, e2] at h; exact h
theorem long_yes (ao bo : Option Addr) (n m c d : Nat) (hn : n ≤ 9223372036854775807) (hm : m ≤ 9223372036854775807) (hb : ¬ (n ≤ 3000 ∧ m ≤ 3000)) (w : World) : Calls Tryz.prog 5 #[.slice ao n c, .slice bo m d] w fun e w' => e = .returned (.bool true) ∧ w = w' := by
  have h := long_any ao bo n m c d hn hm w
  have e1 : (decide (3000 < n) || decide (3000 < m)) = true := by simp; omega
  rw [e1] at h; exact h
theorem emod_le_self {x n : Int} (h : 0 ≤ x) (hn : 0 ≤ n) : x % n ≤ x := by
  have e := Int.mul_ediv_add_emod x n
  have p := Int.mul_nonneg hn (Int.ediv_nonneg h hn)
  omega
theorem at_any (ao : Option Addr) (cap : Nat) (xs : List Int) (hn : xs.length ≤ 3000) (i : Nat) (hi : i ≤ 100) (n : Int) (h1 : 1 ≤ n) (w : World) (h : ArgBytes w ao xs) :
    Calls Tryz.prog 7 #[.slice ao xs.length cap, .int .i64 i, .int .i64 n] w fun e w' => ∃ x : Int, e = .returned (.int .i64 x) ∧ 0 ≤ x ∧ x ≤ n - 1 ∧ x ≤ 255 ∧ w = w' := by
  have H := hidd h
  clear h
  have i0 : (0 : Int) ≤ (i : Int) := by omega
  by_cases hlt : i < xs.length
  · obtain ⟨a, rfl, hb, hc, q0, q1⟩ := H.out i hlt
    generalize xs.getD i 0 = x at hc q0 q1
    have i1 : (i : Int) < (xs.length : Int) := by omega
    go_enter Tryz.func7, Tryz.ntmps7
    go_wp2
    go_ret
    exact ⟨_, rfl, Int.emod_nonneg _ (by omega), by have := Int.emod_lt_of_pos x (show 0 < n by omega); omega, by have := emod_le_self q0 (show 0 ≤ n by omega); omega, rfl⟩
  · have i1 : (xs.length : Int) ≤ (i : Int) := by omega
    go_enter Tryz.func7, Tryz.ntmps7
    go_wp2
    go_ret
    exact ⟨0, rfl, by omega, by omega, by omega, rfl⟩
end Go.Proofs.YtddkiemipedgcaaGreatDoor
