/-
  Rooms: whether two are the same.
-/
import Derived.Test.YtgibcikihniimaaWrv
namespace Go.Proofs.Ytgibcikihniimaa
open Go.RowKit Go.Proofs.Fl Go.Proofs.Pl
set_option linter.unusedVariables false

def winSame (x y : Win) : Bool := x.1 == y.1 && x.2.1 == y.2.1 && same x.2.2 y.2.2
def allSame : List Win → List Win → Bool
  | x :: xs, y :: ys => winSame x y && allSame xs ys
  | _, _ => true
def roomSame (wd hg : Int) (xs : List Win) (wd2 hg2 : Int) (ys : List Win) : Bool := wd == wd2 && hg == hg2 && xs.length == ys.length && allSame xs ys
theorem allSame_yes : ∀ {xs ys : List Win}, xs.length = ys.length → (∀ j, j < xs.length → winSame (xs.getD j wd0) (ys.getD j wd0) = true) → allSame xs ys = true
  | [], _, _, _ => rfl
  | x :: xs, [], h, _ => by simp at h
  | x :: xs, y :: ys, h, hw => by
    have h0 := hw 0 (by simp)
    simp at h0
    unfold allSame
    rw [h0, allSame_yes (by simpa using h) fun j hj => by have := hw (j + 1) (by simp; omega); simpa using this]
    rfl
theorem allSame_no : ∀ {xs ys : List Win} {k : Nat}, k < xs.length → xs.length = ys.length → winSame (xs.getD k wd0) (ys.getD k wd0) = false → allSame xs ys = false
  | [], _, k, h, _, _ => by simp at h
  | x :: xs, [], _, _, h, _ => by simp at h
  | x :: xs, y :: ys, 0, _, _, hw => by
    simp at hw
    unfold allSame; rw [hw]; rfl
  | x :: xs, y :: ys, k + 1, hk, h, hw => by
    unfold allSame
    rw [allSame_no (k := k) (by simpa using hk) (by simpa using h) (by simpa using hw)]
    simp
theorem rs_no1 {wd hg wd2 hg2 : Int} {xs ys : List Win} (h : ¬ wd = wd2) : roomSame wd hg xs wd2 hg2 ys = false := by unfold roomSame; simp [h]
theorem rs_no2 {wd hg wd2 hg2 : Int} {xs ys : List Win} (h : ¬ hg = hg2) : roomSame wd hg xs wd2 hg2 ys = false := by unfold roomSame; simp [h]
theorem rs_no3 {wd hg wd2 hg2 : Int} {xs ys : List Win} (h : ¬ xs.length = ys.length) : roomSame wd hg xs wd2 hg2 ys = false := by unfold roomSame; simp [h]
theorem rs_no4 {wd hg : Int} {xs ys : List Win} {k : Nat} (hk : k < xs.length) (h : xs.length = ys.length) (hw : winSame (xs.getD k wd0) (ys.getD k wd0) = false) : roomSame wd hg xs wd hg ys = false := by unfold roomSame; simp [allSame_no hk h hw]
theorem rs_yes {wd hg : Int} {xs ys : List Win} (h : xs.length = ys.length) (hw : ∀ j, j < xs.length → winSame (xs.getD j wd0) (ys.getD j wd0) = true) : roomSame wd hg xs wd hg ys = true := by unfold roomSame; simp [h, allSame_yes h hw]
theorem same_succ {xs ys : List Win} {k : Nat} {x y : Win} (hx : x = xs.getD k wd0) (hy : y = ys.getD k wd0) (h0 : winSame x y = true) (h : ∀ j, j < k → winSame (xs.getD j wd0) (ys.getD j wd0) = true) : ∀ j, j < k + 1 → winSame (xs.getD j wd0) (ys.getD j wd0) = true := by
  intro j hj
  by_cases e : j = k
  · subst e; rw [← hx, ← hy]; exact h0
  · exact h j (by omega)
set_option maxHeartbeats 4000000 in
theorem same_room_spec (wd hg : Int) (ad : Option Addr) (cap : Nat) (xs : List Win) (wd2 hg2 : Int) (bd : Option Addr) (cap2 : Nat) (ys : List Win) (n m : Nat) (e1 : xs.length = n) (e2 : ys.length = m) (hn : n ≤ 1048576) (hm : m ≤ 1048576) (w : World) (h : Wins w ad xs) (g : Wins w bd ys) :
    Calls Try.prog 11 #[.agg #[.int .i8 wd, .int .i8 hg, .slice ad n cap], .agg #[.int .i8 wd2, .int .i8 hg2, .slice bd m cap2]] w fun e w' => e = .returned (.bool (roomSame wd hg xs wd2 hg2 ys)) ∧ Below w.heap.size w w' := by
  have kp := hidd (Keep2.start w (roomCells wd hg (.slice ad n cap)) (roomCells wd2 hg2 (.slice bd m cap2)) 37 37)
  have H := hidd h
  have G := hidd g
  have E1 := hidd e1
  have E2 := hidd e2
  clear h g e1 e2
  by_cases a1 : wd = wd2
  · subst a1
    by_cases a2 : hg = hg2
    · subst a2
      by_cases a3 : n = m
      · subst a3
        have A3 := hidd (E1.out.trans E2.out.symm)
        go_enter Try.func11, Try.ntmps11
        go_wp2_with fail
        go_loopw [5] (fun i wr => ∃ k : Nat, k ≤ n ∧ i = .int .i64 k ∧ Keep2 w wr (roomCells wd hg (.slice ad n cap)) (roomCells wd hg (.slice bd n cap2)) ∧ ∀ j, j < k → winSame (xs.getD j wd0) (ys.getD j wd0) = true) (fun i _ => n - (intOf i).toNat)
        case atStart => exact ⟨0, by omega, rfl, kp.out, fun j hj => by omega⟩
        case round =>
          obtain ⟨k, hk, rfl, kb, kw⟩ := hrel
          have KB := hidd kb
          have KW := hidd kw
          clear kb kw
          have r2 : wr.cell? ⟨w.heap.size, 2, none⟩ = some (.slice ad n cap) := by rw [KB.out.row.cell]; rfl
          have r3 : wr.cell? ⟨w.heap.size + 1, 2, none⟩ = some (.slice bd n cap2) := by rw [KB.out.row2.cell]; rfl
          have z2 := hidd KB.out.row2.lt
          by_cases hlt : k < n
          · have hl1 := hidd (show k < xs.length by have := E1.out; omega)
            have hl2 := hidd (show k < ys.length by have := E2.out; omega)
            obtain ⟨a, rfl, ha, c0, c1, c3⟩ := (H.out.step KB.out.below) k hl1.out
            obtain ⟨b, rfl, hb, d0, d1, d3⟩ := (G.out.step KB.out.below) k hl2.out
            obtain ⟨x, hx⟩ : ∃ x, x = xs.getD k wd0 := ⟨_, rfl⟩
            obtain ⟨y, hy⟩ : ∃ y, y = ys.getD k wd0 := ⟨_, rfl⟩
            rw [← hx] at c0 c1 c3
            rw [← hy] at d0 d1 d3
            have X0 := hidd hx
            have Y0 := hidd hy
            have LD := hidd (Wins.load c0 c1 c3)
            have K1 := hidd (KB.out.step ((Below.refl _ _).alloc (Nat.le_refl _) (.cells #[.int .i8 x.1, .int .i8 x.2.1, .float .f32 x.2.2] 48)))
            have r4 : (wr.alloc (.cells #[.int .i8 x.1, .int .i8 x.2.1, .float .f32 x.2.2] 48)).cell? ⟨w.heap.size + 1, 2, none⟩ = some (.slice (some b) n cap2) := by rw [K1.out.row2.cell]; rfl
            have LE := hidd (show ∀ j v, (#[Value.int .i8 y.1, .int .i8 y.2.1, .float .f32 y.2.2] : Array Value).toList[j]? = some v → (wr.alloc (.cells #[.int .i8 x.1, .int .i8 x.2.1, .float .f32 x.2.2] 48)).cell? ((b.add (k * 3)).add j) = some v from fun j v hjv => (World.cell?_of_block (by rw [add_block, add_block]; exact ((Below.refl _ _).alloc (Nat.le_refl _) _).block b.block hb)).trans (Wins.load d0 d1 d3 j v hjv))
            have K2 := hidd (K1.out.step ((Below.refl _ _).alloc (Nat.le_refl _) (.cells #[.int .i8 y.1, .int .i8 y.2.1, .float .f32 y.2.2] 48)))
            clear hx hy c0 c1 c3 d0 d1 d3 ha hb
            have i0' : (0 : Int) ≤ (k : Int) := by omega
            have i1 : (k : Int) < (n : Int) := by omega
            obtain ⟨x1, x2, x3⟩ := x
            obtain ⟨y1, y2, y3⟩ := y
            by_cases b1 : x1 = y1
            · by_cases b2 : x2 = y2
              · rcases bool_or (same x3 y3) with b3 | b3
                · have fin := hidd (rs_no4 (wd := wd) (hg := hg) hl1.out A3.out (show winSame (xs.getD k wd0) (ys.getD k wd0) = false by rw [← X0.out, ← Y0.out]; simp [winSame, b3]))
                  subst b1; subst b2
                  go_wp2_with (first | (refine wpList_load_gen rfl _ _ rfl _ rfl 3 _ agg_win rfl LD.out ?_) | (refine wpList_load_gen rfl _ _ rfl _ rfl 3 _ agg_win rfl LE.out ?_) | (go_at_call 24; refine (same_l01 _ _ _).mono ?_; rintro e w' ⟨rfl, rfl⟩))
                  go_ret; exact ⟨by rw [fin.out]; rfl, K2.out.below⟩
                · have hu := hidd (show winSame (x1, x2, x3) (y1, y2, y3) = true by simp [winSame, b1, b2, b3])
                  subst b1; subst b2
                  go_wp2_with (first | (refine wpList_load_gen rfl _ _ rfl _ rfl 3 _ agg_win rfl LD.out ?_) | (refine wpList_load_gen rfl _ _ rfl _ rfl 3 _ agg_win rfl LE.out ?_) | (go_at_call 24; refine (same_l01 _ _ _).mono ?_; rintro e w' ⟨rfl, rfl⟩))
                  go_roundw
                  case rel => exact ⟨k + 1, by omega, by go_num, K2.out, same_succ X0.out Y0.out hu.out KW.out⟩
                  case measure => simp [intOf]; omega
              · have fin := hidd (rs_no4 (wd := wd) (hg := hg) hl1.out A3.out (show winSame (xs.getD k wd0) (ys.getD k wd0) = false by rw [← X0.out, ← Y0.out]; simp [winSame, b2]))
                subst b1
                go_wp2_with (first | (refine wpList_load_gen rfl _ _ rfl _ rfl 3 _ agg_win rfl LD.out ?_) | (refine wpList_load_gen rfl _ _ rfl _ rfl 3 _ agg_win rfl LE.out ?_) | (go_at_call 24; refine (same_l01 _ _ _).mono ?_; rintro e w' ⟨rfl, rfl⟩))
                go_ret; exact ⟨by rw [fin.out]; rfl, K2.out.below⟩
            · have fin := hidd (rs_no4 (wd := wd) (hg := hg) hl1.out A3.out (show winSame (xs.getD k wd0) (ys.getD k wd0) = false by rw [← X0.out, ← Y0.out]; simp [winSame, b1]))
              go_wp2_with (first | (refine wpList_load_gen rfl _ _ rfl _ rfl 3 _ agg_win rfl LD.out ?_) | (refine wpList_load_gen rfl _ _ rfl _ rfl 3 _ agg_win rfl LE.out ?_) | (go_at_call 24; refine (same_l01 _ _ _).mono ?_; rintro e w' ⟨rfl, rfl⟩))
              go_ret; exact ⟨by rw [fin.out]; rfl, K2.out.below⟩
          · obtain rfl : k = n := by omega
            have fin := hidd (rs_yes (wd := wd) (hg := hg) A3.out (by rw [E1.out]; exact KW.out))
            go_wp2
            go_ret; exact ⟨by rw [fin.out]; rfl, KB.out.below⟩
      · have fin := hidd (rs_no3 (wd := wd) (hg := hg) (wd2 := wd) (hg2 := hg) (xs := xs) (ys := ys) (by rw [E1.out, E2.out]; exact a3))
        have a3' : ¬ (n : Int) = (m : Int) := by omega
        go_enter Try.func11, Try.ntmps11
        go_wp2
        go_ret; exact ⟨by rw [fin.out]; rfl, kp.out.below⟩
    · have fin := hidd (rs_no2 (wd := wd) (wd2 := wd) (xs := xs) (ys := ys) a2)
      go_enter Try.func11, Try.ntmps11
      go_wp2
      go_ret; exact ⟨by rw [fin.out]; rfl, kp.out.below⟩
  · have fin := hidd (rs_no1 (hg := hg) (hg2 := hg2) (xs := xs) (ys := ys) a1)
    go_enter Try.func11, Try.ntmps11
    go_wp2
    go_ret; exact ⟨by rw [fin.out]; rfl, kp.out.below⟩
set_option maxHeartbeats 4000000 in
theorem same_room_impl (wd hg : Int) (ad : Option Addr) (cap : Nat) (xs : List Win) (wd2 hg2 : Int) (bd : Option Addr) (cap2 : Nat) (ys : List Win) (n m : Nat) (e1 : xs.length = n) (e2 : ys.length = m) (hn : n ≤ 1048576) (hm : m ≤ 1048576) (w : World) (h : Wins w ad xs) (g : Wins w bd ys) :
    Calls Try.prog 13 #[.agg #[.int .i8 wd, .int .i8 hg, .slice ad n cap], .agg #[.int .i8 wd2, .int .i8 hg2, .slice bd m cap2]] w fun e w' => e = .returned (.bool (roomSame wd hg xs wd2 hg2 ys)) ∧ Below w.heap.size w w' := by
  have kp := hidd (Keep2.start w (roomCells wd hg (.slice ad n cap)) (roomCells wd2 hg2 (.slice bd m cap2)) 37 37)
  have H := hidd h
  have G := hidd g
  have E1 := hidd e1
  have E2 := hidd e2
  clear h g e1 e2
  by_cases a1 : wd = wd2
  · subst a1
    by_cases a2 : hg = hg2
    · subst a2
      by_cases a3 : n = m
      · subst a3
        have A3 := hidd (E1.out.trans E2.out.symm)
        go_enter Try.func13, Try.ntmps13
        go_wp2_with fail
        go_loopw [32] (fun i wr => ∃ k : Nat, k ≤ n ∧ i = .int .i64 k ∧ Keep2 w wr (roomCells wd hg (.slice ad n cap)) (roomCells wd hg (.slice bd n cap2)) ∧ ∀ j, j < k → winSame (xs.getD j wd0) (ys.getD j wd0) = true) (fun i _ => n - (intOf i).toNat)
        case atStart => exact ⟨0, by omega, rfl, kp.out, fun j hj => by omega⟩
        case round =>
          obtain ⟨k, hk, rfl, kb, kw⟩ := hrel
          have KB := hidd kb
          have KW := hidd kw
          clear kb kw
          have r2 : wr.cell? ⟨w.heap.size, 2, none⟩ = some (.slice ad n cap) := by rw [KB.out.row.cell]; rfl
          have r3 : wr.cell? ⟨w.heap.size + 1, 2, none⟩ = some (.slice bd n cap2) := by rw [KB.out.row2.cell]; rfl
          have z2 := hidd KB.out.row2.lt
          by_cases hlt : k < n
          · have hl1 := hidd (show k < xs.length by have := E1.out; omega)
            have hl2 := hidd (show k < ys.length by have := E2.out; omega)
            obtain ⟨a, rfl, ha, c0, c1, c3⟩ := (H.out.step KB.out.below) k hl1.out
            obtain ⟨b, rfl, hb, d0, d1, d3⟩ := (G.out.step KB.out.below) k hl2.out
            obtain ⟨x, hx⟩ : ∃ x, x = xs.getD k wd0 := ⟨_, rfl⟩
            obtain ⟨y, hy⟩ : ∃ y, y = ys.getD k wd0 := ⟨_, rfl⟩
            rw [← hx] at c0 c1 c3
            rw [← hy] at d0 d1 d3
            have X0 := hidd hx
            have Y0 := hidd hy
            have LD := hidd (Wins.load c0 c1 c3)
            have K1 := hidd (KB.out.step ((Below.refl _ _).alloc (Nat.le_refl _) (.cells #[.int .i8 x.1, .int .i8 x.2.1, .float .f32 x.2.2] 48)))
            have r4 : (wr.alloc (.cells #[.int .i8 x.1, .int .i8 x.2.1, .float .f32 x.2.2] 48)).cell? ⟨w.heap.size + 1, 2, none⟩ = some (.slice (some b) n cap2) := by rw [K1.out.row2.cell]; rfl
            have LE := hidd (show ∀ j v, (#[Value.int .i8 y.1, .int .i8 y.2.1, .float .f32 y.2.2] : Array Value).toList[j]? = some v → (wr.alloc (.cells #[.int .i8 x.1, .int .i8 x.2.1, .float .f32 x.2.2] 48)).cell? ((b.add (k * 3)).add j) = some v from fun j v hjv => (World.cell?_of_block (by rw [add_block, add_block]; exact ((Below.refl _ _).alloc (Nat.le_refl _) _).block b.block hb)).trans (Wins.load d0 d1 d3 j v hjv))
            have K2 := hidd (K1.out.step ((Below.refl _ _).alloc (Nat.le_refl _) (.cells #[.int .i8 y.1, .int .i8 y.2.1, .float .f32 y.2.2] 48)))
            clear hx hy c0 c1 c3 d0 d1 d3 ha hb
            have i0' : (0 : Int) ≤ (k : Int) := by omega
            have i1 : (k : Int) < (n : Int) := by omega
            obtain ⟨x1, x2, x3⟩ := x
            obtain ⟨y1, y2, y3⟩ := y
            by_cases b1 : x1 = y1
            · by_cases b2 : x2 = y2
              · rcases bool_or (same x3 y3) with b3 | b3
                · have fin := hidd (rs_no4 (wd := wd) (hg := hg) hl1.out A3.out (show winSame (xs.getD k wd0) (ys.getD k wd0) = false by rw [← X0.out, ← Y0.out]; simp [winSame, b3]))
                  subst b1; subst b2
                  go_wp2_with (first | (refine wpList_load_gen rfl _ _ rfl _ rfl 3 _ agg_win rfl LD.out ?_) | (refine wpList_load_gen rfl _ _ rfl _ rfl 3 _ agg_win rfl LE.out ?_) | (go_at_call 26; refine (same_impl _ _ _).mono ?_; rintro e w' ⟨rfl, rfl⟩))
                  go_ret; exact ⟨by rw [fin.out]; rfl, K2.out.below⟩
                · have hu := hidd (show winSame (x1, x2, x3) (y1, y2, y3) = true by simp [winSame, b1, b2, b3])
                  subst b1; subst b2
                  go_wp2_with (first | (refine wpList_load_gen rfl _ _ rfl _ rfl 3 _ agg_win rfl LD.out ?_) | (refine wpList_load_gen rfl _ _ rfl _ rfl 3 _ agg_win rfl LE.out ?_) | (go_at_call 26; refine (same_impl _ _ _).mono ?_; rintro e w' ⟨rfl, rfl⟩))
                  go_roundw
                  case rel => exact ⟨k + 1, by omega, by go_num, K2.out, same_succ X0.out Y0.out hu.out KW.out⟩
                  case measure => simp [intOf]; omega
              · have fin := hidd (rs_no4 (wd := wd) (hg := hg) hl1.out A3.out (show winSame (xs.getD k wd0) (ys.getD k wd0) = false by rw [← X0.out, ← Y0.out]; simp [winSame, b2]))
                subst b1
                go_wp2_with (first | (refine wpList_load_gen rfl _ _ rfl _ rfl 3 _ agg_win rfl LD.out ?_) | (refine wpList_load_gen rfl _ _ rfl _ rfl 3 _ agg_win rfl LE.out ?_) | (go_at_call 26; refine (same_impl _ _ _).mono ?_; rintro e w' ⟨rfl, rfl⟩))
                go_ret; exact ⟨by rw [fin.out]; rfl, K2.out.below⟩
            · have fin := hidd (rs_no4 (wd := wd) (hg := hg) hl1.out A3.out (show winSame (xs.getD k wd0) (ys.getD k wd0) = false by rw [← X0.out, ← Y0.out]; simp [winSame, b1]))
              go_wp2_with (first | (refine wpList_load_gen rfl _ _ rfl _ rfl 3 _ agg_win rfl LD.out ?_) | (refine wpList_load_gen rfl _ _ rfl _ rfl 3 _ agg_win rfl LE.out ?_) | (go_at_call 26; refine (same_impl _ _ _).mono ?_; rintro e w' ⟨rfl, rfl⟩))
              go_ret; exact ⟨by rw [fin.out]; rfl, K2.out.below⟩
          · obtain rfl : k = n := by omega
            have fin := hidd (rs_yes (wd := wd) (hg := hg) A3.out (by rw [E1.out]; exact KW.out))
            go_wp2
            go_ret; exact ⟨by rw [fin.out]; rfl, KB.out.below⟩
      · have fin := hidd (rs_no3 (wd := wd) (hg := hg) (wd2 := wd) (hg2 := hg) (xs := xs) (ys := ys) (by rw [E1.out, E2.out]; exact a3))
        have a3' : ¬ (n : Int) = (m : Int) := by omega
        go_enter Try.func13, Try.ntmps13
        go_wp2
        go_ret; exact ⟨by rw [fin.out]; rfl, kp.out.below⟩
    · have fin := hidd (rs_no2 (wd := wd) (wd2 := wd) (xs := xs) (ys := ys) a2)
      go_enter Try.func13, Try.ntmps13
      go_wp2
      go_ret; exact ⟨by rw [fin.out]; rfl, kp.out.below⟩
  · have fin := hidd (rs_no1 (hg := hg) (hg2 := hg2) (xs := xs) (ys := ys) a1)
    go_enter Try.func13, Try.ntmps13
    go_wp2
    go_ret; exact ⟨by rw [fin.out]; rfl, kp.out.below⟩
end Go.Proofs.Ytgibcikihniimaa
