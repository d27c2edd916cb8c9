/-
  Whether a list has a number; whether two lists are equal.
-/
import Derived.Test.YtddkiemipedgcaaGreatDoorWo
namespace Go.Proofs.YtddkiemipedgcaaGreatDoor
open Go.RowKit Go.Proofs.Fl Go.Proofs.Pl
set_option linter.unusedVariables false

def hasI (xs : List Int) (n : Int) : Bool := xs.any fun x => x == n
theorem hasI_yes {xs : List Int} {n : Int} {k : Nat} (hk : k < xs.length) (h : xs.getD k 0 = n) : hasI xs n = true := by
  unfold hasI; rw [List.any_eq_true]
  refine ⟨xs[k], List.getElem_mem hk, ?_⟩
  have e : xs.getD k 0 = xs[k] := by simp [hk]
  rw [← e, h]; simp
theorem hasI_no {xs : List Int} {n : Int} (h : ∀ k, k < xs.length → xs.getD k 0 ≠ n) : hasI xs n = false := by
  cases c : hasI xs n
  · rfl
  · unfold hasI at c; rw [List.any_eq_true] at c
    obtain ⟨x, hx, e⟩ := c
    obtain ⟨k, hk, e2⟩ := List.getElem_of_mem hx
    have e3 : xs.getD k 0 = xs[k] := by simp [hk]
    exact absurd (by rw [e3, e2]; simpa using e) (h k hk)
theorem hasI_app (xs : List Int) (x n : Int) : hasI (xs ++ [x]) n = (hasI xs n || x == n) := by unfold hasI; simp
theorem has_ints (ad : Option Addr) (c : Nat) (xs : List Int) (hl : xs.length ≤ 1000000) (n : Int) (w : World) (h1 : Ints w ad xs) :
    Calls Tryz.prog 79 #[.slice ad xs.length c, .int .i64 n] w fun e w' => e = .returned (.bool (hasI xs n)) ∧ w = w' := by
  have H1 := hidd h1
  clear h1
  go_enter Tryz.func79, Tryz.ntmps79
  go_wp2_with fail
  go_loop [5] (fun i => ∃ k : Nat, k ≤ xs.length ∧ i = .int .i64 k ∧ ∀ j, j < k → xs.getD j 0 ≠ n) (fun i => xs.length - (intOf i).toNat)
  case atStart => exact ⟨0, by omega, rfl, fun j hj => by omega⟩
  case round =>
    obtain ⟨k, hk, rfl, hj⟩ := hrel
    have HJ := hidd hj
    clear hj
    by_cases hlt : k < xs.length
    · obtain ⟨g, rfl, hg, hc1⟩ := H1.out k hlt
      obtain ⟨x, hx⟩ : ∃ x, x = xs.getD k 0 := ⟨_, rfl⟩
      rw [← hx] at hc1
      have X0 := hidd hx
      clear hx
      have i0 : (0 : Int) ≤ (k : Int) := by omega
      have i1 : (k : Int) < (xs.length : Int) := by omega
      by_cases he : x = n
      · have fin := hidd (hasI_yes hlt (X0.out.symm.trans he))
        subst he
        go_wp2
        go_ret; exact ⟨by rw [fin.out]; rfl, rfl⟩
      · have he2 : (x == n) = false := by simp [he]
        go_wp2
        go_round
        case rel => exact ⟨k + 1, by omega, by go_num, fun j hj => by
          by_cases e : j = k
          · subst e; rw [← X0.out]; exact he
          · exact HJ.out j (by omega)⟩
        case measure => simp [intOf]; omega
    · obtain rfl : k = xs.length := by omega
      have fin := hidd (hasI_no HJ.out)
      go_wp2
      go_ret; exact ⟨by rw [fin.out]; rfl, rfl⟩
theorem has_any (ad : Option Addr) (c : Nat) (xs : List Int) (hl : xs.length ≤ 1000000) (n : Int) (w : World) (h1 : Ints w ad xs) :
    Calls Tryz.prog 27 #[.slice ad xs.length c, .int .i64 n] w fun e w' => e = .returned (.bool (hasI xs n)) ∧ w = w' := by
  have H1 := hidd h1
  clear h1
  go_enter Tryz.func27, Tryz.ntmps27
  go_wp2_with (go_at_call 79; refine (has_ints ad c xs hl n _ H1.out).mono ?_; rintro e w' ⟨rfl, rfl⟩)
  go_ret; exact ⟨rfl, rfl⟩
theorem one64 : IsOne Tryz.prog 2 := isOne_int Tryz.underlying2
theorem same_ints (ad bd : Option Addr) (c d : Nat) (xs : List Int) (hl : xs.length ≤ 1000000) (w : World) (h1 : Ints w ad xs) (h2 : Ints w bd xs) :
    Calls Tryz.prog 74 #[.slice ad xs.length c, .slice bd xs.length d] w fun e w' => e = .returned (.bool true) ∧ Below w.heap.size w w' := by
  have H1 := hidd h1
  have H2 := hidd h2
  clear h1 h2
  go_enter Tryz.func74, Tryz.ntmps74
  go_wp2_with fail
  go_loopw [5] (fun i wr => ∃ k : Nat, k ≤ xs.length ∧ i = .int .i64 k ∧ Below w.heap.size w wr) (fun i _ => xs.length - (intOf i).toNat)
  case atStart => exact ⟨0, by omega, rfl, Below.refl _ _⟩
  case round =>
    obtain ⟨k, hk, rfl, kr⟩ := hrel
    have kq := hidd kr
    clear kr
    by_cases hlt : k < xs.length
    · obtain ⟨g, rfl, hg, hc1⟩ := H1.out k hlt
      obtain ⟨g2, rfl, hg2, hc2⟩ := H2.out k hlt
      have C1 := hidd (And.intro hg hc1)
      have C2 := hidd (And.intro hg2 hc2)
      clear hg hc1 hg2 hc2
      have i0 : (0 : Int) ≤ (k : Int) := by omega
      have i1 : (k : Int) < (xs.length : Int) := by omega
      go_wp2_with fail
      refine wp_region_in (fun w' => Below w.heap.size w w') (by kernel_rfl) (by kernel_rfl) kq.out.drew ?_
      repeat (first | (refine wpQuiet_step (fun K hK => ?_); rw [if_pos (by rfl)]; refine quiet_load_cell _ _ rfl _ rfl (.int .i64 (xs.getD k 0)) (one64) (fun w' hw' => ((World.cell?_of_block (hw'.block g C1.out.1)).trans C1.out.2)) ?_; go_simp; refine hK _ ?_; clear hK K) | (refine wpQuiet_step (fun K hK => ?_); rw [if_pos (by rfl)]; refine quiet_load_cell _ _ rfl _ rfl (.int .i64 (xs.getD k 0)) (one64) (fun w' hw' => ((World.cell?_of_block (hw'.block g2 C2.out.1)).trans C2.out.2)) ?_; go_simp; refine hK _ ?_; clear hK K) | (refine wpQuiet_step (fun K hK => ?_); go_simp; first | (refine hK _ ?_; clear hK K) | (apply Exists.intro; refine ⟨fun w' hw' => ?_, hK _ ?_⟩; (first | rfl | exact ⟨rfl, rfl⟩ | (fail)); clear hK K)))
      refine wpQuiet_nil ?_
      intro w1 j1
      have j2 := hidd j1
      clear j1
      go_wp2
      go_roundw
      case rel => exact ⟨k + 1, by omega, by go_num, j2.out⟩
      case measure => simp [intOf]; omega
    · obtain rfl : k = xs.length := by omega
      go_wp2
      go_ret; exact ⟨rfl, kq.out⟩
theorem same_any (ad bd : Option Addr) (c d : Nat) (xs : List Int) (hl : xs.length ≤ 1000000) (w : World) (h1 : Ints w ad xs) (h2 : Ints w bd xs) :
    Calls Tryz.prog 22 #[.slice ad xs.length c, .slice bd xs.length d] w fun e w' => e = .returned (.bool true) ∧ Below w.heap.size w w' := by
  have H1 := hidd h1
  have H2 := hidd h2
  clear h1 h2
  go_enter Tryz.func22, Tryz.ntmps22
  go_wp2_with (go_at_call 74; refine (same_ints ad bd c d xs hl _ H1.out H2.out).mono ?_; rintro e w2 ⟨rfl, hb⟩; have B2 := hidd hb; clear hb)
  go_ret; exact ⟨rfl, B2.out⟩
end Go.Proofs.YtddkiemipedgcaaGreatDoor
