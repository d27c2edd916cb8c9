/-
  Rooms: whether two copies are equal.
-/
import Derived.Test.YtgibcikihniimaaWrm
import Derived.Test.YtgibcikihniimaaWnn
namespace Go.Proofs.Ytgibcikihniimaa
open Go.RowKit Go.Proofs.Fl Go.Proofs.Pl
set_option linter.unusedVariables false

theorem eq_window (wl at_ : Int) (l : Nat) (w : World) :
    Calls Try.prog 37 #[.agg #[.int .i8 wl, .int .i8 at_, .float .f32 l], .agg #[.int .i8 wl, .int .i8 at_, .float .f32 l]] w fun e w' => e = .returned (.bool true) ∧ Below w.heap.size w w' := by
  have kp := hidd (Keep2.start w (winCells wl at_ l) (winCells wl at_ l) 48 48)
  go_enter Try.func37, Try.ntmps37
  go_wp2_with (first | (refine wpList_widen rfl _ _ _ rfl _ rfl Try.underlying22 Try.underlying72 ?_; intro r1 w1 hr1 hw1; have kn := hidd (show Keep2 w w1 (winCells wl at_ l) (winCells wl at_ l) from by (rcases hw1 with rfl | rfl); exact kp.out; exact kp.out.drew); have c1 : w1.cell? ⟨w.heap.size + 1, 2, none⟩ = some (.float .f32 l) := (by rw [kn.out.row2.cell]; rfl); have Rn := hidd hr1; clear hw1 hr1 kp; have kp := kn; clear kn))
  refine (sameFloat_wid l _ _ (Hid.out (by assumption)) (Hid.out (by assumption)) _).mono ?_
  rintro e w5 ⟨rfl, rfl⟩
  go_wp2
  all_goals (go_ret; exact ⟨by simp, kp.out.below⟩)
theorem eq_windows (ad bd : Option Addr) (c d : Nat) (xs : List Win) (hl : xs.length ≤ 1048576) (w : World) (h1 : Wins w ad xs) (h2 : Wins w bd xs) :
    Calls Try.prog 27 #[.slice ad xs.length c, .slice bd xs.length d] w fun e w' => e = .returned (.bool true) ∧ Below w.heap.size w w' := by
  have H1 := hidd h1
  have H2 := hidd h2
  clear h1 h2
  go_enter Try.func27, Try.ntmps27
  go_wp2_with fail
  go_loopw [5] (fun i wr => ∃ k : Nat, k ≤ xs.length ∧ i = .int .i64 k ∧ Below w.heap.size w wr) (fun i _ => xs.length - (intOf i).toNat)
  case atStart => exact ⟨0, by omega, rfl, Below.refl _ _⟩
  case round =>
    obtain ⟨k, hk, rfl, kr⟩ := hrel
    have kq := hidd kr
    clear kr
    by_cases hlt : k < xs.length
    · obtain ⟨a, rfl, ha, c0, c1, c2⟩ := H1.out k hlt
      obtain ⟨b, rfl, hb, d0, d1, d2⟩ := H2.out k hlt
      obtain ⟨x, hx⟩ : ∃ x, x = xs.getD k wd0 := ⟨_, rfl⟩
      rw [← hx] at c0 c1 c2 d0 d1 d2
      have L1 := hidd (show ∀ w', Below w.heap.size w w' → ∀ j v, (#[Value.int .i8 x.1, .int .i8 x.2.1, .float .f32 x.2.2] : Array Value).toList[j]? = some v → w'.cell? ((a.add (k * 3)).add j) = some v from fun w' hb' j v h => (World.cell?_of_block (by rw [add_block, add_block]; exact hb'.block a.block ha)).trans (Wins.load c0 c1 c2 j v h))
      have L2 := hidd (show ∀ w', Below w.heap.size w w' → ∀ j v, (#[Value.int .i8 x.1, .int .i8 x.2.1, .float .f32 x.2.2] : Array Value).toList[j]? = some v → w'.cell? ((b.add (k * 3)).add j) = some v from fun w' hb' j v h => (World.cell?_of_block (by rw [add_block, add_block]; exact hb'.block b.block hb)).trans (Wins.load d0 d1 d2 j v h))
      clear hx ha hb c0 c1 c2 d0 d1 d2
      have i0 : (0 : Int) ≤ (k : Int) := by omega
      have i1 : (k : Int) < (xs.length : Int) := by omega
      go_wp2_with fail
      refine wp_region_in (fun w' => Below w.heap.size w w') (by kernel_rfl) (by kernel_rfl) kq.out.drew ?_
      repeat (first | (refine wpQuiet_step (fun K hK => ?_); rw [if_pos (by rfl)]; refine quiet_load_gen _ _ rfl _ rfl 3 _ agg_win rfl (fun w' hw' => L1.out w' hw') ?_; go_simp; refine hK _ ?_; clear hK K) | (refine wpQuiet_step (fun K hK => ?_); rw [if_pos (by rfl)]; refine quiet_load_gen _ _ rfl _ rfl 3 _ agg_win rfl (fun w' hw' => L2.out w' hw') ?_; go_simp; refine hK _ ?_; clear hK K) | (refine wpQuiet_step (fun K hK => ?_); go_simp; first | (refine hK _ ?_; clear hK K) | (apply Exists.intro; refine ⟨fun w' hw' => ?_, hK _ ?_⟩; (first | rfl | exact ⟨rfl, rfl⟩ | ((go_at_call 37; exact (eq_window _ _ _ _).mono fun e w'' h => ⟨h.1, hw'.trans (h.2.mono hw'.size)⟩))); clear hK K)))
      refine wpQuiet_nil ?_
      intro w1 j1
      have j2 := hidd j1
      clear j1
      go_wp2
      go_roundw
      case rel => exact ⟨k + 1, by omega, by go_num, j2.out⟩
      case measure => simp [intOf]; omega
    · obtain rfl : k = xs.length := by omega
      go_wp2
      go_ret; exact ⟨rfl, kq.out⟩
theorem eq_room (wd hg : Int) (ad bd : Option Addr) (c d : Nat) (xs : List Win) (hl : xs.length ≤ 1048576) (w : World) (h1 : Wins w ad xs) (h2 : Wins w bd xs) :
    Calls Try.prog 14 #[.agg #[.int .i8 wd, .int .i8 hg, .slice ad xs.length c], .agg #[.int .i8 wd, .int .i8 hg, .slice bd xs.length d]] w fun e w' => e = .returned (.bool true) ∧ Below w.heap.size w w' := by
  have kp := hidd (Keep2.start w (roomCells wd hg (.slice ad xs.length c)) (roomCells wd hg (.slice bd xs.length d)) 37 37)
  have H1 := hidd (h1.step kp.out.below)
  have H2 := hidd (h2.step kp.out.below)
  clear h1 h2
  go_enter Try.func14, Try.ntmps14
  go_wp2_with fail
  refine (eq_windows ad bd c d xs hl _ H1.out H2.out).mono ?_
  rintro e w5 ⟨rfl, hb⟩
  have k2 := hidd (kp.out.step hb)
  clear hb
  go_wp2
  all_goals (go_ret; exact ⟨by simp, k2.out.below⟩)
theorem eq_tile (x y : Int) (w : World) : Calls Try.prog 20 #[.agg #[.int .i8 x, .int .i8 y], .agg #[.int .i8 x, .int .i8 y]] w fun e w' => e = .returned (.bool true) ∧ Below w.heap.size w w' := by
  go_enter Try.func20, Try.ntmps20
  go_wp2
  all_goals (go_ret; exact ⟨by simp, ((Below.refl _ _).alloc (Nat.le_refl _) _).alloc (by simp) _⟩)
theorem sz_windows (ao : Option Addr) (n cap : Nat) (left : Int) (h0 : 0 ≤ left) (h1 : left ≤ 1048576) (hn : n ≤ 9223372036854775807) (w : World) :
    Calls Try.prog 23 #[.slice ao n cap, .int .i64 left] w fun e w' => e = .returned (.int .i64 (if (n : Int) ≤ left then left - n else -1)) ∧ w = w' := by
  by_cases h : (n : Int) ≤ left
  · rw [if_pos h]
    go_enter Try.func23, Try.ntmps23
    go_wp2
    go_ret; exact ⟨rfl, rfl⟩
  · rw [if_neg h]
    go_enter Try.func23, Try.ntmps23
    go_wp2
    go_ret; exact ⟨rfl, rfl⟩
theorem sz_room (wd hg : Int) (ao : Option Addr) (n cap : Nat) (left : Int) (h0 : 0 ≤ left) (h1 : left ≤ 1048576) (hn : n ≤ 9223372036854775807) (w : World) :
    Calls Try.prog 10 #[.agg #[.int .i8 wd, .int .i8 hg, .slice ao n cap], .int .i64 left] w fun e w' => e = .returned (.int .i64 (if (n : Int) ≤ left then left - n else -1)) ∧ Below w.heap.size w w' := by
  have hz := hidd (sz_windows ao n cap left h0 h1 hn (w.alloc (.cells (roomCells wd hg (.slice ao n cap)) 32)))
  by_cases h : (n : Int) ≤ left
  · rw [if_pos h]
    have hz2 := hidd (show _ from by have := hz.out; rw [if_pos h] at this; exact this)
    clear hz
    go_enter Try.func10, Try.ntmps10
    go_wp2_with (go_at_call 23; refine hz2.out.mono ?_; rintro e w' ⟨rfl, rfl⟩)
    go_ret; exact ⟨rfl, (Below.refl _ _).alloc (Nat.le_refl _) _⟩
  · rw [if_neg h]
    have hz2 := hidd (show _ from by have := hz.out; rw [if_neg h] at this; exact this)
    clear hz
    go_enter Try.func10, Try.ntmps10
    go_wp2_with (go_at_call 23; refine hz2.out.mono ?_; rintro e w' ⟨rfl, rfl⟩)
    go_ret; exact ⟨rfl, (Below.refl _ _).alloc (Nat.le_refl _) _⟩
theorem agg_lroom : IsAgg Try.prog 32 3 := isAgg_struct Try.underlying32 (by kernel_rfl)
theorem sz_ok (wd hg : Int) (ao : Option Addr) (n cap : Nat) (left : Int) (h1 : left ≤ 1048576) (h : (n : Int) ≤ left) (w : World) :
    Calls Try.prog 10 #[.agg #[.int .i8 wd, .int .i8 hg, .slice ao n cap], .int .i64 left] w fun e w' => e = .returned (.int .i64 (left - n)) ∧ Below w.heap.size w w' := by
  have := sz_room wd hg ao n cap left (by omega) h1 (by omega) w
  rw [if_pos h] at this; exact this
theorem sz_no (wd hg : Int) (ao : Option Addr) (n cap : Nat) (left : Int) (h0 : 0 ≤ left) (h1 : left ≤ 1048576) (hn : n ≤ 9223372036854775807) (h : left < (n : Int)) (w : World) :
    Calls Try.prog 10 #[.agg #[.int .i8 wd, .int .i8 hg, .slice ao n cap], .int .i64 left] w fun e w' => e = .returned (.int .i64 (-1)) ∧ Below w.heap.size w w' := by
  have := sz_room wd hg ao n cap left h0 h1 hn w
  rw [if_neg (by omega)] at this; exact this
/-- What stands while a copied room is compared with a new copy: the boxed argument, the copy, the windows of both. -/
structure RoomS (w0 : World) (b x : Nat) (wd hg : Int) (ao : Option Addr) (cap : Nat) (ad : Option Addr) (c : Nat) (xs : List Win) (w : World) : Prop where
  below : Below w0.heap.size w0 w
  row : Row w b (roomCells wd hg (.slice ao xs.length cap))
  rowx : Row w x (roomCells wd hg (.slice ad xs.length c))
  arg : Wins w ao xs
  win : Wins w ad xs
theorem RoomS.step {w0 : World} {b x : Nat} {wd hg : Int} {ao : Option Addr} {cap : Nat} {ad : Option Addr} {c : Nat} {xs : List Win} {w w1 : World} (h : RoomS w0 b x wd hg ao cap ad c xs w) (hb : Below w.heap.size w w1) : RoomS w0 b x wd hg ao cap ad c xs w1 :=
  ⟨h.below.trans (hb.mono h.below.size), h.row.below hb h.row.lt, h.rowx.below hb h.rowx.lt, h.arg.step hb, h.win.step hb⟩
end Go.Proofs.Ytgibcikihniimaa
