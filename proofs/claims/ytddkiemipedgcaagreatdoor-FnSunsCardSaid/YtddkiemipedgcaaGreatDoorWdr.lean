/-
  Choices drawn from bytes: within which bounds they lie.
-/
import Derived.Test.YtddkiemipedgcaaGreatDoorWa
import Derived.Test.YtddkiemipedgcaaGreatDoorRw
import Derived.Laws.Bits64b
import Derived.Laws.Closers25b
namespace Go.Proofs.YtddkiemipedgcaaGreatDoor
open Go.RowKit Go.Proofs.Fl Go.Proofs.Pl
set_option linter.unusedVariables false

/-- The bytes xs lie at an argument's address. -/
def ArgBytes (w : World) (ao : Option Addr) (xs : List Int) : Prop := ∀ k, k < xs.length → ∃ a : Addr, ao = some a ∧ a.block < w.heap.size ∧ w.cell? (a.add k) = some (.int .u8 (xs.getD k 0)) ∧ 0 ≤ xs.getD k 0 ∧ xs.getD k 0 ≤ 255
theorem blk_add (a : Addr) (n : Nat) : (a.add n).block = a.block := by unfold Addr.add; split <;> rfl
theorem ArgBytes.below {w w' : World} {ao : Option Addr} {xs : List Int} {B : Nat} (h : ArgBytes w ao xs) (hb : Below B w w') (hB : ∀ a, ao = some a → xs.length ≠ 0 → a.block < B) : ArgBytes w' ao xs := by
  intro k hk
  obtain ⟨a, e, ha, hc, q⟩ := h k hk
  exact ⟨a, e, Nat.lt_of_lt_of_le ha hb.size, (World.cell?_of_block (by rw [blk_add]; exact hb.block a.block (hB a e (by omega)))).trans hc, q⟩
theorem ArgBytes.lt {w : World} {ao : Option Addr} {xs : List Int} (h : ArgBytes w ao xs) : ∀ a, ao = some a → xs.length ≠ 0 → a.block < w.heap.size := by
  intro a e hne
  obtain ⟨a2, e2, q, _⟩ := h 0 (by omega)
  rw [e] at e2; cases e2; exact q
theorem ArgBytes.step {w w' : World} {ao : Option Addr} {xs : List Int} (h : ArgBytes w ao xs) (hb : Below w.heap.size w w') : ArgBytes w' ao xs := h.below hb h.lt
/-- Block b is a source of choices over the bytes xs, drawn from at most k times. -/
structure Src (b : Nat) (ao : Option Addr) (cap : Nat) (xs : List Int) (k : Nat) (w : World) : Prop where
  row : ∃ (at_ : Nat) (seed : Int), at_ ≤ k ∧ 0 ≤ seed ∧ seed < 18446744073709551616 ∧ Row w b #[.slice ao xs.length cap, .int .i64 at_, .int .u64 seed]
  arg : ArgBytes w ao xs
  far : ∀ a, ao = some a → xs.length ≠ 0 → a.block < b
/-- A number from lo to hi was drawn, m times more. -/
def Drawn (lo hi : Int) (kd : IntKind) (b : Nat) (ao : Option Addr) (cap : Nat) (xs : List Int) (k : Nat) (w : World) (e : Ending) (w' : World) : Prop :=
  ∃ x : Int, e = .returned (.int kd x) ∧ lo ≤ x ∧ x ≤ hi ∧ Wrote w w' b ∧ Src b ao cap xs k w'
theorem wrote_drewN {a w : World} {b : Nat} (h : Wrote a w b) (n : Nat) : Wrote a (w.drewN n) b := h.trans ⟨rfl, rfl, rfl, rfl, fun _ _ => rfl⟩
theorem row_drewN {w : World} {b : Nat} {cs : Array Value} (h : Row w b cs) (n : Nat) : Row (w.drewN n) b cs := h
theorem ArgBytes.wrote {w w' : World} {b : Nat} {ao : Option Addr} {xs : List Int} (h : ArgBytes w ao xs) (hw : Wrote w w' b) (hf : ∀ a, ao = some a → xs.length ≠ 0 → a.block < b) : ArgBytes w' ao xs :=
  h.below (hw.below (Nat.le_refl b)) hf
theorem wrap_u64_in (n : Int) : 0 ≤ IntKind.u64.wrap n ∧ IntKind.u64.wrap n < 18446744073709551616 := by
  rw [IntKind.wrap_u64]
  exact ⟨Int.emod_nonneg _ (by decide), Int.emod_lt_of_pos _ (by decide)⟩
theorem src_end {w : World} {b : Nat} {ao : Option Addr} {cap : Nat} {xs : List Int} {k at_ : Nat} {sd s2 : Int} (R : Row w b #[.slice ao xs.length cap, .int .i64 at_, .int .u64 sd]) (H : ArgBytes w ao xs) (F : ∀ a, ao = some a → xs.length ≠ 0 → a.block < b) (ha : at_ ≤ k) (h2 : 0 ≤ s2 ∧ s2 < 18446744073709551616) (m q : Nat) :
    Wrote w ((((w.drewN m).setCell ⟨b, 1, none⟩ (.int .i64 ((at_ : Int) + 1))).setCell ⟨b, 2, none⟩ (.int .u64 s2)).drewN q) b ∧ Src b ao cap xs (k + 1) ((((w.drewN m).setCell ⟨b, 1, none⟩ (.int .i64 ((at_ : Int) + 1))).setCell ⟨b, 2, none⟩ (.int .u64 s2)).drewN q) := by
  have hw : Wrote w ((((w.drewN m).setCell ⟨b, 1, none⟩ (.int .i64 ((at_ : Int) + 1))).setCell ⟨b, 2, none⟩ (.int .u64 s2)).drewN q) b :=
    wrote_drewN ((wrote_drewN (Wrote.refl w b) m).trans ((Wrote.setCell _ b 1 _).trans (Wrote.setCell _ b 2 _))) q
  refine ⟨hw, ⟨at_ + 1, s2, by omega, h2.1, h2.2, ?_⟩, H.wrote hw F, F⟩
  have r := ((row_drewN R m).set 1 (.int .i64 ((at_ : Int) + 1))).set 2 (.int .u64 s2)
  exact row_drewN (show Row _ b #[.slice ao xs.length cap, .int .i64 ((at_ + 1 : Nat) : Int), .int .u64 s2] from r) q
theorem and_255 (s : Int) (h0 : 0 ≤ s) (h1 : s < 18446744073709551616) : 0 ≤ bits .and .u64 s 255 ∧ bits .and .u64 s 255 ≤ 255 := by
  obtain ⟨n, rfl⟩ := Int.eq_ofNat_of_zero_le h0
  have e := bits_and_u64_nat n 255 (by omega) (by decide)
  have e2 : ((255 : Nat) : Int) = 255 := rfl
  rw [e2] at e
  rw [e]
  have := Nat.and_le_right (n := n) (m := 255)
  omega
theorem next_any (b : Nat) (ao : Option Addr) (cap : Nat) (xs : List Int) (k : Nat) (hk : k ≤ 1000000) (hn : xs.length ≤ 3000) (w : World) (h : Src b ao cap xs k w) :
    Calls Tryz.prog 127 #[.pointer (some ⟨b, 0, none⟩)] w (Drawn 0 255 .i64 b ao cap xs (k + 1) w) := by
  obtain ⟨⟨at_, seed, ha, s0, s1, hr⟩, harg, hfar⟩ := h
  have c0 : w.cell? ⟨b, 0, none⟩ = some (.slice ao xs.length cap) := by rw [hr.cell]; rfl
  have c1 : w.cell? ⟨b, 1, none⟩ = some (.int .i64 at_) := by rw [hr.cell]; rfl
  have c2 : w.cell? ⟨b, 2, none⟩ = some (.int .u64 seed) := by rw [hr.cell]; rfl
  have f1 := hr.frozen 1
  have f2 := hr.frozen 2
  have R := hidd hr
  have H := hidd harg
  have F := hidd hfar
  clear hr harg hfar
  have i0 : (0 : Int) ≤ (at_ : Int) := by omega
  have i2 : (at_ : Int) ≤ 1000000 := by omega
  by_cases hlt : at_ < xs.length
  · obtain ⟨a, rfl, hb, hc, q0, q1⟩ := H.out at_ hlt
    generalize xs.getD at_ 0 = x at hc q0 q1
    have i1 : (at_ : Int) < (xs.length : Int) := by omega
    have hne : a.block ≠ b := by have := F.out a rfl (by omega); omega
    go_enter Tryz.func127, Tryz.ntmps127
    go_wp2_with fail
    go_quiet (fail)
    go_wp2_with fail
    go_quiet (fail)
    go_wp2_with fail
    go_quiet (fail)
    go_wp2
    go_ret
    obtain ⟨e1, e2⟩ := src_end R.out H.out F.out ha (wrap_u64_in _) _ _
    exact ⟨_, rfl, q0, q1, e1, e2⟩
  · have i1 : (xs.length : Int) ≤ (at_ : Int) := by omega
    go_enter Tryz.func127, Tryz.ntmps127
    go_wp2_with fail
    go_quiet (fail)
    go_wp2_with fail
    go_quiet (fail)
    go_wp2
    go_ret
    obtain ⟨e1, e2⟩ := src_end R.out H.out F.out ha (wrap_u64_in _) _ _
    refine ⟨_, rfl, ?_, ?_, e1, e2⟩
    · generalize hs : IntKind.u64.wrap (IntKind.u64.wrap (IntKind.u64.wrap (seed * 6364136223846793005)) + 1442695040888963407) = S
      have hS := wrap_u64_in (IntKind.u64.wrap (IntKind.u64.wrap (seed * 6364136223846793005)) + 1442695040888963407)
      rw [hs] at hS
      obtain ⟨a1, a2⟩ := and_255 (S / 1099511627776) (by omega) (by omega)
      unfold wrap64; omega
    · generalize hs : IntKind.u64.wrap (IntKind.u64.wrap (IntKind.u64.wrap (seed * 6364136223846793005)) + 1442695040888963407) = S
      have hS := wrap_u64_in (IntKind.u64.wrap (IntKind.u64.wrap (seed * 6364136223846793005)) + 1442695040888963407)
      rw [hs] at hS
      obtain ⟨a1, a2⟩ := and_255 (S / 1099511627776) (by omega) (by omega)
      unfold wrap64; omega
theorem Src.more {b : Nat} {ao : Option Addr} {cap : Nat} {xs : List Int} {k m : Nat} {w : World} (h : Src b ao cap xs k w) (hm : k ≤ m) : Src b ao cap xs m w := by
  obtain ⟨⟨a, s, h1, h2⟩, h3, h4⟩ := h
  exact ⟨⟨a, s, by omega, h2⟩, h3, h4⟩
theorem pick_any (n : Int) (h1 : 1 ≤ n) (h2 : n ≤ 65536) (b : Nat) (ao : Option Addr) (cap : Nat) (xs : List Int) (k : Nat) (hk : k ≤ 999990) (hn : xs.length ≤ 3000) (w : World) (h : Src b ao cap xs k w) :
    Calls Tryz.prog 98 #[.pointer (some ⟨b, 0, none⟩), .int .i64 n] w (Drawn 0 (n - 1) .i64 b ao cap xs (k + 2) w) := by
  have S := hidd h
  clear h
  by_cases c1 : n ≤ 1
  · go_enter Tryz.func98, Tryz.ntmps98
    go_wp2
    go_ret
    exact ⟨0, rfl, by omega, by omega, Wrote.refl _ _, S.out.more (by omega)⟩
  · by_cases c2 : 200 < n
    · go_enter Tryz.func98, Tryz.ntmps98
      go_wp2_with fail
      refine (next_any b ao cap xs k (by omega) hn _ S.out).mono ?_
      rintro e w1 ⟨x, rfl, x0, x1, hw1, hs1⟩
      have W1 := hidd hw1
      have S1 := hidd hs1
      clear hw1 hs1
      go_wp2_with fail
      refine (next_any b ao cap xs (k + 1) (by omega) hn _ S1.out).mono ?_
      rintro e w2 ⟨y, rfl, y0, y1, hw2, hs2⟩
      have W2 := hidd hw2
      have S2 := hidd hs2
      clear hw2 hs2
      go_wp2
      go_ret
      exact ⟨_, rfl, Int.emod_nonneg _ (by omega), by have := Int.emod_lt_of_pos (x * 256 + y) (show 0 < n by omega); omega, W1.out.trans W2.out, S2.out⟩
    · go_enter Tryz.func98, Tryz.ntmps98
      go_wp2_with fail
      refine (next_any b ao cap xs k (by omega) hn _ S.out).mono ?_
      rintro e w1 ⟨x, rfl, x0, x1, hw1, hs1⟩
      have W1 := hidd hw1
      have S1 := hidd hs1
      clear hw1 hs1
      go_wp2
      go_ret
      exact ⟨_, rfl, Int.emod_nonneg _ (by omega), by have := Int.emod_lt_of_pos x (show 0 < n by omega); omega, W1.out, S1.out.more (by omega)⟩
/-- A yes or no was drawn. -/
def DrawnB (b : Nat) (ao : Option Addr) (cap : Nat) (xs : List Int) (k : Nat) (w : World) (e : Ending) (w' : World) : Prop :=
  ∃ x : Bool, e = .returned (.bool x) ∧ Wrote w w' b ∧ Src b ao cap xs k w'
theorem one_any (n : Int) (h1 : 1 ≤ n) (h2 : n ≤ 65536) (b : Nat) (ao : Option Addr) (cap : Nat) (xs : List Int) (k : Nat) (hk : k ≤ 999990) (hn : xs.length ≤ 3000) (w : World) (h : Src b ao cap xs k w) :
    Calls Tryz.prog 100 #[.pointer (some ⟨b, 0, none⟩), .int .i64 n] w (DrawnB b ao cap xs (k + 2) w) := by
  have S := hidd h
  clear h
  go_enter Tryz.func100, Tryz.ntmps100
  go_wp2_with fail
  refine (pick_any n h1 h2 b ao cap xs k hk hn _ S.out).mono ?_
  rintro e w1 ⟨x, rfl, x0, x1, hw1, hs1⟩
  have W1 := hidd hw1
  have S1 := hidd hs1
  clear hw1 hs1
  go_wp2
  go_ret
  exact ⟨_, rfl, W1.out, S1.out⟩
theorem raw_any (b : Nat) (ao : Option Addr) (cap : Nat) (xs : List Int) (k : Nat) (hk : k ≤ 999980) (hn : xs.length ≤ 3000) (w : World) (h : Src b ao cap xs k w) :
    Calls Tryz.prog 102 #[.pointer (some ⟨b, 0, none⟩)] w (Drawn 0 4294967295 .u32 b ao cap xs (k + 4) w) := by
  have S := hidd h
  clear h
  go_enter Tryz.func102, Tryz.ntmps102
  go_wp2_with fail
  refine (pick_any 65536 (by omega) (by omega) b ao cap xs k (by omega) hn _ S.out).mono ?_
  rintro e w1 ⟨x, rfl, x0, x1, hw1, hs1⟩
  have W1 := hidd hw1
  have S1 := hidd hs1
  clear hw1 hs1
  go_wp2_with fail
  refine (pick_any 65536 (by omega) (by omega) b ao cap xs (k + 2) (by omega) hn _ S1.out).mono ?_
  rintro e w2 ⟨y, rfl, y0, y1, hw2, hs2⟩
  have W2 := hidd hw2
  have S2 := hidd hs2
  clear hw2 hs2
  go_wp2
  go_ret
  exact ⟨_, rfl, bits_lo_u32 _ _ _, bits_hi_u32 _ _ _, W1.out.trans W2.out, S2.out⟩
end Go.Proofs.YtddkiemipedgcaaGreatDoor
