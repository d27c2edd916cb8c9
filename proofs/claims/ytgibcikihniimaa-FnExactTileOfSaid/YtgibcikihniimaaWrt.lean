/-
  Rooms: the tile of a window.
-/
import Derived.Test.YtgibcikihniimaaWrv
import Derived.RegionTactic
namespace Go.Proofs.Ytgibcikihniimaa
open Go.RowKit Go.Proofs.Fl Go.Proofs.Pl
set_option linter.unusedVariables false

def tileOf (wd hg wl at_ : Int) : Int × Int := if wl = 0 then (at_, 0) else if wl = 1 then (wd - 1, at_) else if wl = 2 then (at_, hg - 1) else (0, at_)
theorem tile_0 (wd hg at_ : Int) : tileOf wd hg 0 at_ = (at_, 0) := rfl
theorem tile_1 (wd hg at_ : Int) : tileOf wd hg 1 at_ = (wd - 1, at_) := rfl
theorem tile_2 (wd hg at_ : Int) : tileOf wd hg 2 at_ = (at_, hg - 1) := rfl
theorem tile_3 {wl : Int} (wd hg at_ : Int) (h0 : ¬ wl = 0) (h1 : ¬ wl = 1) (h2 : ¬ wl = 2) : tileOf wd hg wl at_ = (0, at_) := by unfold tileOf; rw [if_neg h0, if_neg h1, if_neg h2]
def tileCells (x : Int × Int) : Array Value := #[.int .i8 x.1, .int .i8 x.2]
set_option maxHeartbeats 4000000 in
theorem tile_spec (b : Nat) (wd hg wl at_ : Int) (l : Nat) (v : Value) (w : World) (hs : Row w b (roomCells wd hg v)) (b1 : 1 ≤ wd) (b2 : wd ≤ 10) (b3 : 1 ≤ hg) (b4 : hg ≤ 10) :
    Calls Try.prog 33 #[.pointer (some ⟨b, 0, none⟩), .agg #[.int .i8 wl, .int .i8 at_, .float .f32 l]] w fun e w' => e = .returned (.agg (tileCells (tileOf wd hg wl at_))) ∧ Below w.heap.size w w' := by
  have c0 : w.cell? ⟨b, 0, none⟩ = some (.int .i8 wd) := by rw [hs.cell]; rfl
  have c1 : w.cell? ⟨b, 1, none⟩ = some (.int .i8 hg) := by rw [hs.cell]; rfl
  have hb := hs.lt
  have k2 := hidd (Keep2.start w (winCells wl at_ l) (tileCells (0, 0)) 48 45)
  have s0 : ((w.alloc (.cells #[.int .i8 wl, .int .i8 at_, .float .f32 l] 48)).alloc (.cells #[.int .i8 0, .int .i8 0] 45)).cell? ⟨b, 0, none⟩ = some (.int .i8 wd) := (World.cell?_of_block (k2.out.below.block b hb)).trans c0
  have s1 : ((w.alloc (.cells #[.int .i8 wl, .int .i8 at_, .float .f32 l] 48)).alloc (.cells #[.int .i8 0, .int .i8 0] 45)).cell? ⟨b, 1, none⟩ = some (.int .i8 hg) := (World.cell?_of_block (k2.out.below.block b hb)).trans c1
  clear hs
  by_cases e0 : wl = 0
  · subst e0
    rw [tile_0]
    go_enter Try.func33, Try.ntmps33
    go_wp2
    refine bodyPost_ret (v := .agg (tileCells (at_, 0))) (by simp [results, Try.results33, go_sem, tileCells]) rfl ⟨rfl, ?_⟩
    exact ((Below.refl _ _).alloc (Nat.le_refl _) _).alloc (by simp) _
  · by_cases e1 : wl = 1
    · subst e1
      rw [tile_1]
      go_enter Try.func33, Try.ntmps33
      go_wp2
      go_region
      go_wp2
      refine bodyPost_ret (v := .agg (tileCells (wd - 1, at_))) (by simp [results, Try.results33, go_sem, tileCells]) rfl ⟨rfl, ?_⟩
      exact (((Below.refl _ _).alloc (Nat.le_refl _) _).alloc (by simp) _).drew
    · by_cases e2 : wl = 2
      · subst e2
        rw [tile_2]
        go_enter Try.func33, Try.ntmps33
        go_wp2
        go_region
        go_wp2
        refine bodyPost_ret (v := .agg (tileCells (at_, hg - 1))) (by simp [results, Try.results33, go_sem, tileCells]) rfl ⟨rfl, ?_⟩
        exact (((Below.refl _ _).alloc (Nat.le_refl _) _).alloc (by simp) _).drew
      · rw [tile_3 _ _ _ e0 e1 e2]
        go_enter Try.func33, Try.ntmps33
        go_wp2
        refine bodyPost_ret (v := .agg (tileCells (0, at_))) (by simp [results, Try.results33, go_sem, tileCells]) rfl ⟨rfl, ?_⟩
        exact ((Below.refl _ _).alloc (Nat.le_refl _) _).alloc (by simp) _
set_option maxHeartbeats 4000000 in
theorem tile_impl (b : Nat) (wd hg wl at_ : Int) (l : Nat) (v : Value) (w : World) (hs : Row w b (roomCells wd hg v)) (b1 : 1 ≤ wd) (b2 : wd ≤ 10) (b3 : 1 ≤ hg) (b4 : hg ≤ 10) :
    Calls Try.prog 35 #[.pointer (some ⟨b, 0, none⟩), .agg #[.int .i8 wl, .int .i8 at_, .float .f32 l]] w fun e w' => e = .returned (.agg (tileCells (tileOf wd hg wl at_))) ∧ Below w.heap.size w w' := by
  have c0 : w.cell? ⟨b, 0, none⟩ = some (.int .i8 wd) := by rw [hs.cell]; rfl
  have c1 : w.cell? ⟨b, 1, none⟩ = some (.int .i8 hg) := by rw [hs.cell]; rfl
  have hb := hs.lt
  have k2 := hidd (Keep2.start w (winCells wl at_ l) (tileCells (0, 0)) 48 45)
  have s0 : ((w.alloc (.cells #[.int .i8 wl, .int .i8 at_, .float .f32 l] 48)).alloc (.cells #[.int .i8 0, .int .i8 0] 45)).cell? ⟨b, 0, none⟩ = some (.int .i8 wd) := (World.cell?_of_block (k2.out.below.block b hb)).trans c0
  have s1 : ((w.alloc (.cells #[.int .i8 wl, .int .i8 at_, .float .f32 l] 48)).alloc (.cells #[.int .i8 0, .int .i8 0] 45)).cell? ⟨b, 1, none⟩ = some (.int .i8 hg) := (World.cell?_of_block (k2.out.below.block b hb)).trans c1
  clear hs
  by_cases e0 : wl = 0
  · subst e0
    rw [tile_0]
    go_enter Try.func35, Try.ntmps35
    go_wp2
    refine bodyPost_ret (v := .agg (tileCells (at_, 0))) (by simp [results, Try.results35, go_sem, tileCells]) rfl ⟨rfl, ?_⟩
    exact ((Below.refl _ _).alloc (Nat.le_refl _) _).alloc (by simp) _
  · by_cases e1 : wl = 1
    · subst e1
      rw [tile_1]
      go_enter Try.func35, Try.ntmps35
      go_wp2
      go_region
      go_wp2
      refine bodyPost_ret (v := .agg (tileCells (wd - 1, at_))) (by simp [results, Try.results35, go_sem, tileCells]) rfl ⟨rfl, ?_⟩
      exact (((Below.refl _ _).alloc (Nat.le_refl _) _).alloc (by simp) _).drew
    · by_cases e2 : wl = 2
      · subst e2
        rw [tile_2]
        go_enter Try.func35, Try.ntmps35
        go_wp2
        go_region
        go_wp2
        refine bodyPost_ret (v := .agg (tileCells (at_, hg - 1))) (by simp [results, Try.results35, go_sem, tileCells]) rfl ⟨rfl, ?_⟩
        exact (((Below.refl _ _).alloc (Nat.le_refl _) _).alloc (by simp) _).drew
      · rw [tile_3 _ _ _ e0 e1 e2]
        go_enter Try.func35, Try.ntmps35
        go_wp2
        refine bodyPost_ret (v := .agg (tileCells (0, at_))) (by simp [results, Try.results35, go_sem, tileCells]) rfl ⟨rfl, ?_⟩
        exact ((Below.refl _ _).alloc (Nat.le_refl _) _).alloc (by simp) _
theorem agg_tile : IsAgg Try.prog 45 2 := isAgg_struct Try.underlying45 (by kernel_rfl)
def toCode (ok fit : Bool) : Int := if ok = true then if fit = true then 0 else 2 else 1
theorem tc_0 {ok fit : Bool} (h : ok = true) (h2 : fit = true) : toCode ok fit = 0 := by unfold toCode; rw [if_pos h, if_pos h2]
theorem tc_2 {ok fit : Bool} (h : ok = true) (h2 : fit = false) : toCode ok fit = 2 := by unfold toCode; rw [if_pos h, if_neg (by rw [h2]; exact Bool.false_ne_true)]
theorem tc_1 {ok fit : Bool} (h : ok = false) : toCode ok fit = 1 := by unfold toCode; rw [if_neg (by rw [h]; exact Bool.false_ne_true)]
def tileAns (wd hg : Int) (xs : List Win) (wl at_ : Int) (l : Nat) : Int × Int := if toCode (roomOk wd hg xs) (fitsIn wd hg wl at_ l) = 0 then tileOf wd hg wl at_ else (0, 0)
theorem ta_yes {wd hg : Int} {xs : List Win} {wl at_ : Int} {l : Nat} (h : roomOk wd hg xs = true) (h2 : fitsIn wd hg wl at_ l = true) : tileAns wd hg xs wl at_ l = tileOf wd hg wl at_ := by unfold tileAns; rw [tc_0 h h2, if_pos rfl]
theorem ta_no1 {wd hg : Int} {xs : List Win} {wl at_ : Int} {l : Nat} (h : roomOk wd hg xs = false) : tileAns wd hg xs wl at_ l = (0, 0) := by unfold tileAns; rw [tc_1 h, if_neg (by decide)]
theorem ta_no2 {wd hg : Int} {xs : List Win} {wl at_ : Int} {l : Nat} (h : roomOk wd hg xs = true) (h2 : fitsIn wd hg wl at_ l = false) : tileAns wd hg xs wl at_ l = (0, 0) := by unfold tileAns; rw [tc_2 h h2, if_neg (by decide)]
theorem roomOk_size {wd hg : Int} {xs : List Win} (h : roomOk wd hg xs = true) : 1 ≤ wd ∧ wd ≤ 10 ∧ 1 ≤ hg ∧ hg ≤ 10 := by
  unfold roomOk at h
  simp only [Bool.and_eq_true] at h
  obtain ⟨⟨⟨h1, h2⟩, _⟩, _⟩ := h
  have a := inR_iff.1 h1
  have b := inR_iff.1 h2
  omega
theorem asked_l03 (b : Nat) (wd hg : Int) (ad : Option Addr) (cap : Nat) (xs : List Win) (fit : Bool) (hn : xs.length ≤ 1048576) (w : World) (hs : Row w b (roomCells wd hg (.slice ad xs.length cap))) (h : Wins w ad xs) (hx : ∀ k, k < xs.length → WinB (xs.getD k wd0)) (b1 : -128 ≤ wd) (b2 : wd ≤ 127) (b3 : -128 ≤ hg) (b4 : hg ≤ 127) :
    Calls Try.prog 31 #[.pointer (some ⟨b, 0, none⟩), .bool fit] w fun e w' => e = .returned (.int .i64 (toCode (roomOk wd hg xs) fit)) ∧ Below w.heap.size w w' := by
  have con := hidd (room_l03 b wd hg ad cap xs hn w hs h hx b1 b2 b3 b4)
  clear hs h hx
  rcases bool_or (roomOk wd hg xs) with h1 | h1
  · have fin := hidd (tc_1 (fit := fit) h1)
    go_enter Try.func31, Try.ntmps31
    go_wp2_with (go_at_call 28; refine con.out.mono ?_; rintro e w2 ⟨rfl, hb2⟩; have B2 := hidd hb2; clear hb2)
    go_ret; exact ⟨by rw [fin.out]; rfl, B2.out⟩
  · cases fit
    · have fin := hidd (tc_2 h1 (rfl : false = false))
      go_enter Try.func31, Try.ntmps31
      go_wp2_with (go_at_call 28; refine con.out.mono ?_; rintro e w2 ⟨rfl, hb2⟩; have B2 := hidd hb2; clear hb2)
      go_ret; exact ⟨by rw [fin.out]; rfl, B2.out⟩
    · have fin := hidd (tc_0 h1 (rfl : true = true))
      go_enter Try.func31, Try.ntmps31
      go_wp2_with (go_at_call 28; refine con.out.mono ?_; rintro e w2 ⟨rfl, hb2⟩; have B2 := hidd hb2; clear hb2)
      go_ret; exact ⟨by rw [fin.out]; rfl, B2.out⟩
theorem code_room (wd hg : Int) (ad : Option Addr) (cap : Nat) (xs : List Win) (fit : Bool) (hn : xs.length ≤ 1048576) (w : World) (h : Wins w ad xs) (b1 : -128 ≤ wd) (b2 : wd ≤ 127) (b3 : -128 ≤ hg) (b4 : hg ≤ 127) :
    Calls Try.prog 34 #[.agg #[.int .i8 wd, .int .i8 hg, .slice ad xs.length cap], .bool fit] w fun e w' => e = .returned (.int .i64 (toCode (roomOk wd hg xs) fit)) ∧ Below w.heap.size w w' := by
  have kp := hidd (Keep1.start w (roomCells wd hg (.slice ad xs.length cap)) 37)
  have con := hidd (valid_room_impl wd hg ad cap xs hn _ (h.step kp.out.below) b1 b2 b3 b4)
  clear h
  rcases bool_or (roomOk wd hg xs) with h1 | h1
  · have fin := hidd (tc_1 (fit := fit) h1)
    go_enter Try.func34, Try.ntmps34
    go_wp2_with (go_at_call 16; refine con.out.mono ?_; rintro e w2 ⟨rfl, hb2⟩; have B2 := hidd (kp.out.step hb2); clear hb2)
    go_ret; exact ⟨by rw [fin.out]; rfl, B2.out.below⟩
  · cases fit
    · have fin := hidd (tc_2 h1 (rfl : false = false))
      go_enter Try.func34, Try.ntmps34
      go_wp2_with (go_at_call 16; refine con.out.mono ?_; rintro e w2 ⟨rfl, hb2⟩; have B2 := hidd (kp.out.step hb2); clear hb2)
      go_ret; exact ⟨by rw [fin.out]; rfl, B2.out.below⟩
    · have fin := hidd (tc_0 h1 (rfl : true = true))
      go_enter Try.func34, Try.ntmps34
      go_wp2_with (go_at_call 16; refine con.out.mono ?_; rintro e w2 ⟨rfl, hb2⟩; have B2 := hidd (kp.out.step hb2); clear hb2)
      go_ret; exact ⟨by rw [fin.out]; rfl, B2.out.below⟩
end Go.Proofs.Ytgibcikihniimaa
