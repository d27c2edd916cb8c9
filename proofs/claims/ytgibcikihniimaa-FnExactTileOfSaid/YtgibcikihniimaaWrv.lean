/-
  Rooms: which are valid.
-/
import Derived.Test.YtgibcikihniimaaWrm
namespace Go.Proofs.Ytgibcikihniimaa
open Go.RowKit Go.Proofs.Fl Go.Proofs.Pl
set_option linter.unusedVariables false

def lastOf (wd hg wl : Int) : Int := if wl = 1 ∨ wl = 3 then hg - 1 else wd - 1
theorem fits_eq (wd hg wl at_ : Int) (l : Nat) : (inR wl 0 3 && inR at_ 0 (lastOf wd hg wl) && isPart l) = fitsIn wd hg wl at_ l := by
  unfold fitsIn inR lastOf along
  by_cases h1 : 0 ≤ wl <;> by_cases h2 : wl ≤ 3
  · have hh : wl = 0 ∨ wl = 1 ∨ wl = 2 ∨ wl = 3 := by omega
    rcases hh with rfl | rfl | rfl | rfl <;> simp <;> (first | rfl | (by_cases h3 : 0 ≤ at_ <;> simp [h3] <;> (congr 1; rw [Bool.eq_iff_iff]; simp; omega)))
  · simp [h2]
  · simp [h1]
  · simp [h1]
def winOk (wd hg : Int) (x : Win) : Bool := fitsIn wd hg x.1 x.2.1 x.2.2
def roomOk (wd hg : Int) (xs : List Win) : Bool := inR wd 1 10 && inR hg 1 10 && decide (xs.length ≤ 12) && xs.all (winOk wd hg)
theorem all_yes {p : Win → Bool} {xs : List Win} (h : ∀ j, j < xs.length → p (xs.getD j wd0) = true) : xs.all p = true := by
  rw [List.all_eq_true]
  intro x hx
  obtain ⟨j, hj, e⟩ := List.getElem_of_mem hx
  have := h j hj
  rw [List.getD_eq_getElem?_getD, List.getElem?_eq_getElem hj, e] at this
  exact this
theorem all_no {p : Win → Bool} {xs : List Win} {k : Nat} (hk : k < xs.length) (h : p (xs.getD k wd0) = false) : xs.all p = false := by
  cases c : xs.all p
  · rfl
  · rw [List.all_eq_true] at c
    have := c (xs[k]) (List.getElem_mem hk)
    have e : xs.getD k wd0 = xs[k] := by simp [hk]
    rw [e, this] at h; cases h
theorem room_yes {wd hg : Int} {xs : List Win} (h1 : inR wd 1 10 = true) (h2 : inR hg 1 10 = true) (h3 : ¬ 12 < xs.length) (h : ∀ j, j < xs.length → winOk wd hg (xs.getD j wd0) = true) : roomOk wd hg xs = true := by
  unfold roomOk; rw [h1, h2, all_yes h]; simp; omega
theorem room_no1 {wd hg : Int} {xs : List Win} (h1 : inR wd 1 10 = false) : roomOk wd hg xs = false := by unfold roomOk; rw [h1]; rfl
theorem room_no2 {wd hg : Int} {xs : List Win} (h1 : inR hg 1 10 = false) : roomOk wd hg xs = false := by unfold roomOk; rw [h1]; simp
theorem room_no3 {wd hg : Int} {xs : List Win} (h1 : 12 < xs.length) : roomOk wd hg xs = false := by unfold roomOk; simp; intro _ _ h; omega
theorem room_no4 {wd hg : Int} {xs : List Win} {k : Nat} (hk : k < xs.length) (h : winOk wd hg (xs.getD k wd0) = false) : roomOk wd hg xs = false := by unfold roomOk; rw [all_no hk h]; simp
theorem ok_succ {wd hg : Int} {xs : List Win} {k : Nat} {x : Win} (hx : x = xs.getD k wd0) (h0 : winOk wd hg x = true) (h : ∀ j, j < k → winOk wd hg (xs.getD j wd0) = true) : ∀ j, j < k + 1 → winOk wd hg (xs.getD j wd0) = true := by
  intro j hj
  by_cases e : j = k
  · subst e; rw [← hx]; exact h0
  · exact h j (by omega)
/-- What fits in the cells of a window. -/
def WinB (x : Win) : Prop := -128 ≤ x.1 ∧ x.1 ≤ 127 ∧ -128 ≤ x.2.1 ∧ x.2.1 ≤ 127
theorem wall_spec (n : Int) (w : World) : Calls Try.prog 41 #[.int .i64 n] w fun e w' => e = .returned (.bool (inR n 0 3)) ∧ w = w' := by
  go_enter Try.func41, Try.ntmps41
  go_wp2_with (go_at_call 38; refine (in_spec _ _ _ _).mono ?_; rintro e w' ⟨rfl, rfl⟩)
  go_ret; exact ⟨rfl, rfl⟩
set_option maxHeartbeats 4000000 in
theorem window_spec (b : Nat) (wd hg wl at_ : Int) (l : Nat) (v : Value) (w : World) (hs : Row w b (roomCells wd hg v)) (b1 : -128 ≤ wd) (b2 : wd ≤ 127) (b3 : -128 ≤ hg) (b4 : hg ≤ 127) (b5 : -128 ≤ wl) (b6 : wl ≤ 127) (b7 : -128 ≤ at_) (b8 : at_ ≤ 127) :
    Calls Try.prog 32 #[.pointer (some ⟨b, 0, none⟩), .agg #[.int .i8 wl, .int .i8 at_, .float .f32 l]] w fun e w' => e = .returned (.bool (fitsIn wd hg wl at_ l)) ∧ Below w.heap.size w w' := by
  rw [← fits_eq]
  have hs0 : (w.alloc (.cells #[.int .i8 wl, .int .i8 at_, .float .f32 l] 48)).cell? ⟨b, 0, none⟩ = some (.int .i8 wd) := by rw [(hs.alloc _).cell]; rfl
  have hs1 : (w.alloc (.cells #[.int .i8 wl, .int .i8 at_, .float .f32 l] 48)).cell? ⟨b, 1, none⟩ = some (.int .i8 hg) := by rw [(hs.alloc _).cell]; rfl
  clear hs
  have HB := hidd ((Below.refl w.heap.size w).alloc (Nat.le_refl _) (.cells #[.int .i8 wl, .int .i8 at_, .float .f32 l] 48))
  by_cases e1 : wl = 1 ∨ wl = 3
  · have e := hidd (show lastOf wd hg wl = hg - 1 from if_pos e1)
    clear b5 b6
    rcases e1 with rfl | rfl
    all_goals
      go_enter Try.func32, Try.ntmps32
      go_wp2_with (first | (go_at_call 41; refine (wall_spec _ _).mono ?_; rintro e w' ⟨rfl, rfl⟩) | (go_at_call 38; refine (in_spec _ _ _ _).mono ?_; rintro e w' ⟨rfl, rfl⟩) | (go_at_call 42; refine (part_l01 _ _).mono ?_; rintro e w' ⟨rfl, rfl⟩))
      all_goals (go_ret; exact ⟨by rw [e.out]; simp [*], HB.out⟩)
  · have e := hidd (show lastOf wd hg wl = wd - 1 from if_neg e1)
    have n1 : (wl == 1) = false := by simp; omega
    have n3 : (wl == 3) = false := by simp; omega
    have n1' : ¬ wl = 1 := by omega
    have n3' : ¬ wl = 3 := by omega
    clear e1
    go_enter Try.func32, Try.ntmps32
    go_wp2_with (first | (go_at_call 41; refine (wall_spec _ _).mono ?_; rintro e w' ⟨rfl, rfl⟩) | (go_at_call 38; refine (in_spec _ _ _ _).mono ?_; rintro e w' ⟨rfl, rfl⟩) | (go_at_call 42; refine (part_l01 _ _).mono ?_; rintro e w' ⟨rfl, rfl⟩))
    all_goals (go_ret; exact ⟨by rw [e.out]; simp [*], HB.out⟩)
set_option maxHeartbeats 4000000 in
theorem room_l03 (b : Nat) (wd hg : Int) (ad : Option Addr) (cap : Nat) (xs : List Win) (hn : xs.length ≤ 1048576) (w : World) (hs : Row w b (roomCells wd hg (.slice ad xs.length cap))) (h : Wins w ad xs) (hx : ∀ k, k < xs.length → WinB (xs.getD k wd0)) (b1 : -128 ≤ wd) (b2 : wd ≤ 127) (b3 : -128 ≤ hg) (b4 : hg ≤ 127) :
    Calls Try.prog 28 #[.pointer (some ⟨b, 0, none⟩)] w fun e w' => e = .returned (.bool (roomOk wd hg xs)) ∧ Below w.heap.size w w' := by
  have c0 : w.cell? ⟨b, 0, none⟩ = some (.int .i8 wd) := by rw [hs.cell]; rfl
  have c1 : w.cell? ⟨b, 1, none⟩ = some (.int .i8 hg) := by rw [hs.cell]; rfl
  have c2 : w.cell? ⟨b, 2, none⟩ = some (.slice ad xs.length cap) := by rw [hs.cell]; rfl
  have HS := hidd hs
  have H := hidd h
  have HX := hidd hx
  clear hs h hx
  rcases bool_or (inR wd 1 10) with a1 | a1
  · have fin := hidd (room_no1 (hg := hg) (xs := xs) a1)
    go_enter Try.func28, Try.ntmps28
    go_wp2_with (go_at_call 38; refine (in_spec _ _ _ _).mono ?_; rintro e w' ⟨rfl, rfl⟩)
    go_ret; exact ⟨by rw [fin.out]; rfl, Below.refl _ _⟩
  · rcases bool_or (inR hg 1 10) with a2 | a2
    · have fin := hidd (room_no2 (wd := wd) (xs := xs) a2)
      go_enter Try.func28, Try.ntmps28
      go_wp2_with (go_at_call 38; refine (in_spec _ _ _ _).mono ?_; rintro e w' ⟨rfl, rfl⟩)
      go_ret; exact ⟨by rw [fin.out]; rfl, Below.refl _ _⟩
    · by_cases a3 : 12 < xs.length
      · have fin := hidd (room_no3 (wd := wd) (hg := hg) a3)
        have a3' : (12 : Int) < (xs.length : Int) := by omega
        go_enter Try.func28, Try.ntmps28
        go_wp2_with (go_at_call 38; refine (in_spec _ _ _ _).mono ?_; rintro e w' ⟨rfl, rfl⟩)
        go_ret; exact ⟨by rw [fin.out]; rfl, Below.refl _ _⟩
      · have a3' : (xs.length : Int) ≤ 12 := by omega
        have A1 := hidd a1
        have A2 := hidd a2
        go_enter Try.func28, Try.ntmps28
        go_wp2_with (go_at_call 38; refine (in_spec _ _ _ _).mono ?_; rintro e w' ⟨rfl, rfl⟩)
        clear a1 a2
        go_loopw [3] (fun i wr => ∃ k : Nat, k ≤ xs.length ∧ i = .int .i64 k ∧ Below w.heap.size w wr ∧ ∀ j, j < k → winOk wd hg (xs.getD j wd0) = true) (fun i _ => xs.length - (intOf i).toNat)
        case atStart => exact ⟨0, by omega, rfl, Below.refl _ _, fun j hj => by omega⟩
        case round =>
          obtain ⟨k, hk, rfl, kb, kw⟩ := hrel
          have KB := hidd kb
          have KW := hidd kw
          have RS := hidd (HS.out.below kb HS.out.lt)
          clear kb kw c0 c1 c2
          have c2 : wr.cell? ⟨b, 2, none⟩ = some (.slice ad xs.length cap) := by rw [RS.out.cell]; rfl
          by_cases hlt : k < xs.length
          · obtain ⟨a, rfl, ha, c0, c1, c3⟩ := (H.out.step KB.out) k hlt
            have wb := HX.out k hlt
            obtain ⟨x, hx⟩ : ∃ x, x = xs.getD k wd0 := ⟨_, rfl⟩
            rw [← hx] at c0 c1 c3 wb
            have X0 := hidd hx
            have LD := hidd (Wins.load c0 c1 c3)
            have WB := hidd wb
            clear hx c0 c1 c3 ha wb
            have i0' : (0 : Int) ≤ (k : Int) := by omega
            have i1 : (k : Int) < (xs.length : Int) := by omega
            rcases bool_or (fitsIn wd hg x.1 x.2.1 x.2.2) with hu | hu
            · have fin := hidd (room_no4 (wd := wd) (hg := hg) hlt (show winOk wd hg (xs.getD k wd0) = false by rw [← X0.out]; exact hu))
              go_wp2_with (first | (refine wpList_load_gen rfl _ _ rfl _ rfl 3 _ agg_win rfl LD.out ?_) | (go_at_call 32; refine (window_spec b wd hg _ _ _ _ _ RS.out b1 b2 b3 b4 WB.out.1 WB.out.2.1 WB.out.2.2.1 WB.out.2.2.2).mono ?_; rintro e w2 ⟨rfl, hb2⟩; have B2 := hidd (KB.out.trans (hb2.mono KB.out.size)); clear hb2))
              go_ret; exact ⟨by rw [fin.out]; rfl, B2.out⟩
            · go_wp2_with (first | (refine wpList_load_gen rfl _ _ rfl _ rfl 3 _ agg_win rfl LD.out ?_) | (go_at_call 32; refine (window_spec b wd hg _ _ _ _ _ RS.out b1 b2 b3 b4 WB.out.1 WB.out.2.1 WB.out.2.2.1 WB.out.2.2.2).mono ?_; rintro e w2 ⟨rfl, hb2⟩; have B2 := hidd (KB.out.trans (hb2.mono KB.out.size)); clear hb2))
              go_roundw
              case rel => exact ⟨k + 1, by omega, by go_num, B2.out, ok_succ X0.out hu KW.out⟩
              case measure => simp [intOf]; omega
          · obtain rfl : k = xs.length := by omega
            have fin := hidd (room_yes A1.out A2.out a3 KW.out)
            go_wp2
            go_ret; exact ⟨by rw [fin.out]; rfl, KB.out⟩
theorem valid_room_spec (wd hg : Int) (ad : Option Addr) (cap : Nat) (xs : List Win) (hn : xs.length ≤ 1048576) (w : World) (h : Wins w ad xs) (hx : ∀ k, k < xs.length → WinB (xs.getD k wd0)) (b1 : -128 ≤ wd) (b2 : wd ≤ 127) (b3 : -128 ≤ hg) (b4 : hg ≤ 127) :
    Calls Try.prog 15 #[.agg #[.int .i8 wd, .int .i8 hg, .slice ad xs.length cap]] w fun e w' => e = .returned (.bool (roomOk wd hg xs)) ∧ Below w.heap.size w w' := by
  have kp := hidd (Keep1.start w (roomCells wd hg (.slice ad xs.length cap)) 37)
  have H1 := hidd (h.step kp.out.below)
  have HX := hidd hx
  clear h hx
  go_enter Try.func15, Try.ntmps15
  go_wp2_with (go_at_call 28; refine (room_l03 w.heap.size wd hg ad cap xs hn _ kp.out.row H1.out HX.out b1 b2 b3 b4).mono ?_; rintro e w2 ⟨rfl, hb2⟩; have K2 := hidd (kp.out.step hb2); clear hb2)
  go_ret; exact ⟨rfl, K2.out.below⟩
theorem fits_row (b : Nat) (wd hg wl at_ : Int) (l : Nat) (v : Value) (w : World) (hs : Row w b (roomCells wd hg v)) :
    Calls Try.prog 30 #[.pointer (some ⟨b, 0, none⟩), .agg #[.int .i8 wl, .int .i8 at_, .float .f32 l]] w fun e w' => e = .returned (.bool (fitsIn wd hg wl at_ l)) ∧ Below w.heap.size w w' :=
  fits_impl b wd hg wl at_ l w hs.lt (by rw [hs.cell]; rfl) (by rw [hs.cell]; rfl)
set_option maxHeartbeats 4000000 in
theorem valid_room_impl (wd hg : Int) (ad : Option Addr) (cap : Nat) (xs : List Win) (hn : xs.length ≤ 1048576) (w : World) (h : Wins w ad xs) (b1 : -128 ≤ wd) (b2 : wd ≤ 127) (b3 : -128 ≤ hg) (b4 : hg ≤ 127) :
    Calls Try.prog 16 #[.agg #[.int .i8 wd, .int .i8 hg, .slice ad xs.length cap]] w fun e w' => e = .returned (.bool (roomOk wd hg xs)) ∧ Below w.heap.size w w' := by
  have kp := hidd (Keep1.start w (roomCells wd hg (.slice ad xs.length cap)) 37)
  have H := hidd h
  clear h
  rcases bool_or (inR wd 1 10) with a1 | a1
  · have fin := hidd (room_no1 (hg := hg) (xs := xs) a1)
    go_enter Try.func16, Try.ntmps16
    go_wp2_with (go_at_call 29; refine (in_impl _ _ _ _).mono ?_; rintro e w' ⟨rfl, rfl⟩)
    go_ret; exact ⟨by rw [fin.out]; rfl, kp.out.below⟩
  · rcases bool_or (inR hg 1 10) with a2 | a2
    · have fin := hidd (room_no2 (wd := wd) (xs := xs) a2)
      go_enter Try.func16, Try.ntmps16
      go_wp2_with (go_at_call 29; refine (in_impl _ _ _ _).mono ?_; rintro e w' ⟨rfl, rfl⟩)
      go_ret; exact ⟨by rw [fin.out]; rfl, kp.out.below⟩
    · by_cases a3 : 12 < xs.length
      · have fin := hidd (room_no3 (wd := wd) (hg := hg) a3)
        have a3' : (12 : Int) < (xs.length : Int) := by omega
        go_enter Try.func16, Try.ntmps16
        go_wp2_with (go_at_call 29; refine (in_impl _ _ _ _).mono ?_; rintro e w' ⟨rfl, rfl⟩)
        go_ret; exact ⟨by rw [fin.out]; rfl, kp.out.below⟩
      · have a3' : (xs.length : Int) ≤ 12 := by omega
        have A1 := hidd a1
        have A2 := hidd a2
        go_enter Try.func16, Try.ntmps16
        go_wp2_with (go_at_call 29; refine (in_impl _ _ _ _).mono ?_; rintro e w' ⟨rfl, rfl⟩)
        clear a1 a2
        go_loopw [26] (fun i wr => ∃ k : Nat, k ≤ xs.length ∧ i = .int .i64 k ∧ Keep1 w wr (roomCells wd hg (.slice ad xs.length cap)) ∧ ∀ j, j < k → winOk wd hg (xs.getD j wd0) = true) (fun i _ => xs.length - (intOf i).toNat)
        case atStart => exact ⟨0, by omega, rfl, kp.out, fun j hj => by omega⟩
        case round =>
          obtain ⟨k, hk, rfl, kb, kw⟩ := hrel
          have KB := hidd kb
          have KW := hidd kw
          clear kb kw
          by_cases hlt : k < xs.length
          · obtain ⟨a, rfl, ha, c0, c1, c3⟩ := (H.out.step KB.out.below) k hlt
            obtain ⟨x, hx⟩ : ∃ x, x = xs.getD k wd0 := ⟨_, rfl⟩
            rw [← hx] at c0 c1 c3
            have X0 := hidd hx
            have LD := hidd (Wins.load c0 c1 c3)
            clear hx c0 c1 c3 ha
            have i0' : (0 : Int) ≤ (k : Int) := by omega
            have i1 : (k : Int) < (xs.length : Int) := by omega
            have K1 := hidd (KB.out.step ((Below.refl _ _).alloc (Nat.le_refl _) (.cells #[.int .i8 x.1, .int .i8 x.2.1, .float .f32 x.2.2] 48)))
            rcases bool_or (fitsIn wd hg x.1 x.2.1 x.2.2) with hu | hu
            · have fin := hidd (room_no4 (wd := wd) (hg := hg) hlt (show winOk wd hg (xs.getD k wd0) = false by rw [← X0.out]; exact hu))
              go_wp2_with (first | (refine wpList_load_gen rfl _ _ rfl _ rfl 3 _ agg_win rfl LD.out ?_) | (go_at_call 30; refine (fits_row w.heap.size wd hg _ _ _ _ _ K1.out.row).mono ?_; rintro e w2 ⟨rfl, hb2⟩; have K2 := hidd (K1.out.step hb2); clear hb2))
              go_ret; exact ⟨by rw [fin.out]; rfl, K2.out.below⟩
            · go_wp2_with (first | (refine wpList_load_gen rfl _ _ rfl _ rfl 3 _ agg_win rfl LD.out ?_) | (go_at_call 30; refine (fits_row w.heap.size wd hg _ _ _ _ _ K1.out.row).mono ?_; rintro e w2 ⟨rfl, hb2⟩; have K2 := hidd (K1.out.step hb2); clear hb2))
              go_roundw
              case rel => exact ⟨k + 1, by omega, by go_num, K2.out, ok_succ X0.out hu KW.out⟩
              case measure => simp [intOf]; omega
          · obtain rfl : k = xs.length := by omega
            have fin := hidd (room_yes A1.out A2.out a3 KW.out)
            go_wp2
            go_ret; exact ⟨by rw [fin.out]; rfl, KB.out.below⟩
end Go.Proofs.Ytgibcikihniimaa
