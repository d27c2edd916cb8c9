/-
  Rooms: one window, walls, tiles.
-/
import Derived.Test.YtgibcikihniimaaWa
import Derived.Test.YtgibcikihniimaaWe
import Derived.Test.YtgibcikihniimaaRw
import Derived.Laws.ResultCell
namespace Go.Proofs.Ytgibcikihniimaa
open Go.RowKit Go.Proofs.Fl Go.Proofs.Pl
set_option linter.unusedVariables false

theorem below_dr {B : Nat} {a w : World} (h : Below B a w) (n : Nat) : Below B a (w.drewN n) := h.trans ⟨rfl, rfl, rfl, Nat.le_refl _, fun _ _ => rfl⟩
def winCells (wl at_ : Int) (l : Nat) : Array Value := #[.int .i8 wl, .int .i8 at_, .float .f32 l]
def roomCells (wd hg : Int) (v : Value) : Array Value := #[.int .i8 wd, .int .i8 hg, v]
def along (wd hg wl : Int) : Int := if wl = 0 ∨ wl = 2 then wd else hg
theorem agg_lwin : IsAgg Try.prog 43 3 := isAgg_struct Try.underlying43 (by kernel_rfl)
theorem agg_win : IsAgg Try.prog 48 3 := isAgg_struct Try.underlying48 (by kernel_rfl)
theorem agg_room : IsAgg Try.prog 37 3 := isAgg_struct Try.underlying37 (by kernel_rfl)
theorem to_window (wl at_ : Int) (l : Nat) (w : World) :
    Calls Try.prog 18 #[.agg #[.int .i8 wl, .int .i8 at_, .float .f32 l]] w fun e w' => e = .returned (.agg #[.int .i8 wl, .int .i8 at_, .float .f32 l]) ∧ Below w.heap.size w w' := by
  go_enter Try.func18, Try.ntmps18
  go_wp2
  refine bodyPost_ret (v := .agg #[.int .i8 wl, .int .i8 at_, .float .f32 l]) (by simp [results, Try.results18, go_sem]) rfl ⟨rfl, ?_⟩
  exact (((Below.refl _ _).alloc (Nat.le_refl _) _).alloc (by simp) _).alloc (by simp; omega) _
theorem along_impl (b : Nat) (wd hg wl : Int) (w : World) (c0 : w.cell? ⟨b, 0, none⟩ = some (.int .i8 wd)) (c1 : w.cell? ⟨b, 1, none⟩ = some (.int .i8 hg)) :
    Calls Try.prog 39 #[.pointer (some ⟨b, 0, none⟩), .int .i8 wl] w fun e w' => e = .returned (.int .i8 (along wd hg wl)) ∧ w = w' := by
  go_enter Try.func39, Try.ntmps39
  go_wp2
  all_goals (go_ret; exact ⟨by simp_all [along], rfl⟩)
def fitsIn (wd hg wl at_ : Int) (l : Nat) : Bool := (decide (0 ≤ wl) && decide (wl ≤ 3)) && decide (0 ≤ at_) && decide (at_ < along wd hg wl) && isPart l
set_option maxHeartbeats 4000000 in
theorem fits_impl (b : Nat) (wd hg wl at_ : Int) (l : Nat) (w : World) (hb : b < w.heap.size) (c0 : w.cell? ⟨b, 0, none⟩ = some (.int .i8 wd)) (c1 : w.cell? ⟨b, 1, none⟩ = some (.int .i8 hg)) :
    Calls Try.prog 30 #[.pointer (some ⟨b, 0, none⟩), .agg #[.int .i8 wl, .int .i8 at_, .float .f32 l]] w fun e w' => e = .returned (.bool (fitsIn wd hg wl at_ l)) ∧ Below w.heap.size w w' := by
  have hs0 : (w.alloc (.cells #[.int .i8 wl, .int .i8 at_, .float .f32 l] 48)).cell? ⟨b, 0, none⟩ = some (.int .i8 wd) := by rw [World.cell?_of_block (((Below.refl _ _).alloc (Nat.le_refl _) _).block b hb)]; exact c0
  have hs1 : (w.alloc (.cells #[.int .i8 wl, .int .i8 at_, .float .f32 l] 48)).cell? ⟨b, 1, none⟩ = some (.int .i8 hg) := by rw [World.cell?_of_block (((Below.refl _ _).alloc (Nat.le_refl _) _).block b hb)]; exact c1
  rcases bool_or (decide (0 ≤ wl)) with a0 | a0
  · skip
    go_enter Try.func30, Try.ntmps30
    go_wp2_with fail
    go_quiet ((first | (go_at_call 39; exact (along_impl b wd hg wl _ (by exact hs0) (by exact hs1)).mono fun e w'' h => ⟨h.1, _, h.2.symm⟩) | (go_at_call 40; exact (part_impl _ _).mono fun e w'' h => ⟨h.1, _, h.2.symm⟩)))
    go_wp2
    go_ret; exact ⟨by simp [fitsIn, *], below_dr ((Below.refl _ _).alloc (Nat.le_refl _) _) _⟩
  · rcases bool_or (decide (wl ≤ 3)) with a1 | a1
    · skip
      go_enter Try.func30, Try.ntmps30
      go_wp2_with fail
      go_quiet ((first | (go_at_call 39; exact (along_impl b wd hg wl _ (by exact hs0) (by exact hs1)).mono fun e w'' h => ⟨h.1, _, h.2.symm⟩) | (go_at_call 40; exact (part_impl _ _).mono fun e w'' h => ⟨h.1, _, h.2.symm⟩)))
      go_wp2
      go_ret; exact ⟨by simp [fitsIn, *], below_dr ((Below.refl _ _).alloc (Nat.le_refl _) _) _⟩
    · rcases bool_or (decide (0 ≤ at_)) with a2 | a2
      · skip
        go_enter Try.func30, Try.ntmps30
        go_wp2_with fail
        go_quiet ((first | (go_at_call 39; exact (along_impl b wd hg wl _ (by exact hs0) (by exact hs1)).mono fun e w'' h => ⟨h.1, _, h.2.symm⟩) | (go_at_call 40; exact (part_impl _ _).mono fun e w'' h => ⟨h.1, _, h.2.symm⟩)))
        go_wp2
        go_ret; exact ⟨by simp [fitsIn, *], below_dr ((Below.refl _ _).alloc (Nat.le_refl _) _) _⟩
      · rcases bool_or (decide (at_ < along wd hg wl)) with a3 | a3
        · skip
          go_enter Try.func30, Try.ntmps30
          go_wp2_with fail
          go_quiet ((first | (go_at_call 39; exact (along_impl b wd hg wl _ (by exact hs0) (by exact hs1)).mono fun e w'' h => ⟨h.1, _, h.2.symm⟩) | (go_at_call 40; exact (part_impl _ _).mono fun e w'' h => ⟨h.1, _, h.2.symm⟩)))
          go_wp2
          go_ret; exact ⟨by simp [fitsIn, *], below_dr ((Below.refl _ _).alloc (Nat.le_refl _) _) _⟩
        · skip
          go_enter Try.func30, Try.ntmps30
          go_wp2_with fail
          go_quiet ((first | (go_at_call 39; exact (along_impl b wd hg wl _ (by exact hs0) (by exact hs1)).mono fun e w'' h => ⟨h.1, _, h.2.symm⟩) | (go_at_call 40; exact (part_impl _ _).mono fun e w'' h => ⟨h.1, _, h.2.symm⟩)))
          go_wp2
          go_ret; exact ⟨by simp [fitsIn, *], below_dr ((Below.refl _ _).alloc (Nat.le_refl _) _) _⟩
end Go.Proofs.Ytgibcikihniimaa
