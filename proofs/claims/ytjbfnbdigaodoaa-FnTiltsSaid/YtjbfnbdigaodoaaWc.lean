/-
  Cords: what the functions of the program and of its reference compute.
-/
import Derived.Test.YtjbfnbdigaodoaaWa
import Derived.Test.YtjbfnbdigaodoaaWe
import Derived.Test.YtjbfnbdigaodoaaPc
import Derived.Test.YtjbfnbdigaodoaaRw
namespace Go.Proofs.Ytjbfnbdigaodoaa
open Go.RowKit Go.Proofs.Fl Go.Proofs.Pl
set_option linter.unusedVariables false

theorem cord_0 {w : World} {b l s : Nat} {n : Int} (h : Row w b (cordCells l s n)) : w.cell? ⟨b, 0, none⟩ = some (.float .f32 l) := by rw [h.cell]; rfl
theorem cord_1 {w : World} {b l s : Nat} {n : Int} (h : Row w b (cordCells l s n)) : w.cell? ⟨b, 1, none⟩ = some (.float .f32 s) := by rw [h.cell]; rfl
theorem cord_2 {w : World} {b l s : Nat} {n : Int} (h : Row w b (cordCells l s n)) : w.cell? ⟨b, 2, none⟩ = some (.int .i8 n) := by rw [h.cell]; rfl
theorem agg_cord : IsAgg Try.prog 27 3 := isAgg_struct Try.underlying27 (by kernel_rfl)
theorem cord_bd {l s : Nat} {n : Int} (h : cordOk l s n = true) : 1 ≤ n ∧ n ≤ 100 := (cordOk_of h).2.2
theorem one8 : IsOne Try.prog 25 := isOne_int Try.underlying25
theorem onef : IsOne Try.prog 24 := isOne_float Try.underlying24

theorem cord_spec (b l s : Nat) (n : Int) (n1 : -128 ≤ n) (n2 : n ≤ 127) (w : World) (hs : Row w b (cordCells l s n)) :
    Calls Try.prog 73 #[.pointer (some ⟨b, 0, none⟩)] w fun e w' => e = .returned (.bool (cordOk l s n)) ∧ w = w' := by
  have c0 := cord_0 hs
  have c1 := cord_1 hs
  have c2 := cord_2 hs
  clear hs
  go_enter Try.func73, Try.ntmps73
  go_wp2_with (first | (go_at_call 80; refine (len_spec _ _).mono ?_; rintro e w' ⟨rfl, rfl⟩) | (go_at_call 39; refine (part_l01 _ _).mono ?_; rintro e w' ⟨rfl, rfl⟩) | (go_at_call 52; refine (in_spec _ _ _ _).mono ?_; rintro e w' ⟨rfl, rfl⟩))
  all_goals (go_ret; exact ⟨by simp [cordOk, *], rfl⟩)
theorem cord_impl (l s : Nat) (n : Int) (n1 : -128 ≤ n) (n2 : n ≤ 127) (w : World) :
    Calls Try.prog 11 #[.agg #[.float .f32 l, .float .f32 s, .int .i8 n]] w fun e w' => e = .returned (.bool (cordOk l s n)) ∧ Below w.heap.size w w' := by
  have hb := hidd ((Below.refl w.heap.size w).alloc (Nat.le_refl _) (.cells #[.float .f32 l, .float .f32 s, .int .i8 n] 27))
  go_enter Try.func11, Try.ntmps11
  go_wp2_with (first | (go_at_call 42; refine (len_impl _ _).mono ?_; rintro e w' ⟨rfl, rfl⟩) | (go_at_call 43; refine (part_impl _ _).mono ?_; rintro e w' ⟨rfl, rfl⟩) | (go_at_call 44; refine (in_impl _ _ _ _).mono ?_; rintro e w' ⟨rfl, rfl⟩))
  all_goals (go_ret; exact ⟨by simp [cordOk, *], hb.out⟩)
theorem loaded_spec (b l s : Nat) (n : Int) (n1 : -128 ≤ n) (n2 : n ≤ 127) (right : Bool) (w : World) (hs : Row w b (cordCells l s n)) :
    Calls Try.prog 38 #[.pointer (some ⟨b, 0, none⟩), .bool right] w fun e w' => e = .returned (.int .i64 (cordCode l s n right)) ∧ w = w' := by
  have Hs := hidd hs
  clear hs
  go_enter Try.func38, Try.ntmps38
  go_wp2_with (go_at_call 73; refine (cord_spec _ l s n n1 n2 _ Hs.out).mono ?_; rintro e w' ⟨rfl, rfl⟩)
  all_goals (go_ret; exact ⟨by simp_all [cordCode], rfl⟩)
theorem cordCode_impl (l s : Nat) (n : Int) (n1 : -128 ≤ n) (n2 : n ≤ 127) (load : Nat) (right : Bool) (w : World) :
    Calls Try.prog 36 #[.agg #[.float .f32 l, .float .f32 s, .int .i8 n], .float .f32 load, .bool right] w fun e w' => e = .returned (.int .i64 (cordCode l s n (isPart load && right))) ∧ Below w.heap.size w w' := by
  have kp := hidd (Keep1.start w (cordCells l s n) 27)
  go_enter Try.func36, Try.ntmps36
  go_wp2_with (first | (go_at_call 11; refine (cord_impl l s n n1 n2 _).mono ?_; rintro e wn ⟨rfl, hbn⟩; have kn := hidd (kp.out.step hbn); clear kp hbn; have kp := kn; clear kn) | (go_at_call 43; refine (part_impl _ _).mono ?_; rintro e w' ⟨rfl, rfl⟩))
  all_goals (go_ret; exact ⟨by simp_all [cordCode], kp.out.below⟩)
theorem stretched_spec (b l s : Nat) (n : Int) (load : Nat) (hl : isLen l = true) (hq : isPart s = true) (hp : isPart load = true) (w : World) (hs : Row w b (cordCells l s n)) :
    Calls Try.prog 40 #[.pointer (some ⟨b, 0, none⟩), .float .f32 load] w fun e w' => e = .returned (.float .f32 (stretched l s load)) ∧ Below w.heap.size w w' := by
  obtain ⟨s1, s2, s3, s4, s5, s6, s7⟩ := stretched_steps hl hq hp
  have so : Fnt 1065353216 := by decide
  have Hs := hidd hs
  unfold stretched one at *
  clear hs hl hq hp s6 s7
  go_enter Try.func40, Try.ntmps40
  go_wp2_with fail
  refine wp_region_in (fun w' => Below w.heap.size w w') (by kernel_rfl) (by kernel_rfl) (Below.refl _ _).drew ?_
  repeat (first | (refine wpQuiet_step (fun K hK => ?_); rw [if_pos (by rfl)]; refine quiet_load_cell _ _ rfl _ rfl (.float .f32 l) (onef) (fun w' hw' => cord_0 (Hs.out.below hw' Hs.out.lt)) ?_; go_simp; refine hK _ ?_; clear hK K) | (refine wpQuiet_step (fun K hK => ?_); rw [if_pos (by rfl)]; refine quiet_load_cell _ _ rfl _ rfl (.float .f32 s) (onef) (fun w' hw' => cord_1 (Hs.out.below hw' Hs.out.lt)) ?_; go_simp; refine hK _ ?_; clear hK K) | (refine wpQuiet_step (fun K hK => ?_); go_simp; first | (refine hK _ ?_; clear hK K) | (apply Exists.intro; refine ⟨fun w' hw' => ?_, hK _ ?_⟩; (first | rfl | exact ⟨rfl, rfl⟩ | (fail)); clear hK K)))
  refine wpQuiet_nil ?_
  intro w1 k1
  have k2 := hidd k1
  clear k1
  go_wp2
  go_ret; exact ⟨rfl, k2.out⟩
theorem stretched_impl (l s : Nat) (n : Int) (load : Nat) (hl : isLen l = true) (hq : isPart s = true) (hp : isPart load = true) (w : World) :
    Calls Try.prog 37 #[.agg #[.float .f32 l, .float .f32 s, .int .i8 n], .float .f32 load] w fun e w' => e = .returned (.float .f32 (stretched l s load)) ∧ Below w.heap.size w w' := by
  have kp := hidd (Keep1.start w (cordCells l s n) 27)
  obtain ⟨s1, s2, s3, s4, s5, s6, s7⟩ := stretched_steps hl hq hp
  have so : Fnt 1065353216 := by decide
  unfold stretched one at *
  clear hl hq hp s6 s7
  go_enter Try.func37, Try.ntmps37
  go_wp2
  go_ret; exact ⟨rfl, kp.out.below⟩
theorem place_spec (b l s : Nat) (n : Int) (load : Nat) (stop : Int) (hl : isLen l = true) (hq : isPart s = true) (hp : isPart load = true) (n1 : 1 ≤ n) (n2 : n ≤ 100) (k1 : 0 ≤ stop) (k2 : stop ≤ 100) (w : World) (hs : Row w b (cordCells l s n)) :
    Calls Try.prog 50 #[.pointer (some ⟨b, 0, none⟩), .float .f32 load, .int .i64 stop] w fun e w' => e = .returned (.float .f32 (place l s n load stop)) ∧ Below w.heap.size w w' := by
  obtain ⟨_, _, _, _, _, g6, _⟩ := stretched_steps hl hq hp
  obtain ⟨p1, p2, p3, p4, p5, p6⟩ := place_steps hl hq hp n1 n2 k1 k2
  have Hs := hidd hs
  have HH := hidd (And.intro hl (And.intro hq hp))
  unfold place at *
  clear hs hl hq hp p5 p6
  go_enter Try.func50, Try.ntmps50
  go_wp2_with fail
  refine wp_region_in (fun w' => Below w.heap.size w w') (by kernel_rfl) (by kernel_rfl) (Below.refl _ _).drew ?_
  repeat (first | (refine wpQuiet_step (fun K hK => ?_); rw [if_pos (by rfl)]; refine quiet_load_cell _ _ rfl _ rfl (.int .i8 n) (one8) (fun w' hw' => cord_2 (Hs.out.below hw' Hs.out.lt)) ?_; go_simp; refine hK _ ?_; clear hK K) | (refine wpQuiet_step (fun K hK => ?_); go_simp; first | (refine hK _ ?_; clear hK K) | (apply Exists.intro; refine ⟨fun w' hw' => ?_, hK _ ?_⟩; (first | rfl | exact ⟨rfl, rfl⟩ | ((go_at_call 40; exact (stretched_spec _ l s n load HH.out.1 HH.out.2.1 HH.out.2.2 _ (Hs.out.below hw' Hs.out.lt)).mono fun e w'' h => ⟨h.1, hw'.trans (h.2.mono hw'.size)⟩))); clear hK K)))
  refine wpQuiet_nil ?_
  intro w1 k1
  have k2 := hidd k1
  clear k1
  go_wp2
  go_ret; exact ⟨rfl, k2.out⟩
theorem place_impl (l s : Nat) (n : Int) (load : Nat) (stop : Int) (hl : isLen l = true) (hq : isPart s = true) (hp : isPart load = true) (n1 : 1 ≤ n) (n2 : n ≤ 100) (k1 : 0 ≤ stop) (k2 : stop ≤ 100) (w : World) :
    Calls Try.prog 48 #[.agg #[.float .f32 l, .float .f32 s, .int .i8 n], .float .f32 load, .int .i64 stop] w fun e w' => e = .returned (.float .f32 (place l s n load stop)) ∧ Below w.heap.size w w' := by
  have kp := hidd (Keep1.start w (cordCells l s n) 27).drew
  obtain ⟨_, _, _, _, _, g6, _⟩ := stretched_steps hl hq hp
  obtain ⟨p1, p2, p3, p4, p5, p6⟩ := place_steps hl hq hp n1 n2 k1 k2
  have HH := hidd (And.intro hl (And.intro hq hp))
  unfold place at *
  clear hl hq hp p5 p6
  go_enter Try.func48, Try.ntmps48
  go_wp2_with fail
  refine wp_region_in (fun w' => Keep1 w w' (cordCells l s n)) (by kernel_rfl) (by kernel_rfl) kp.out ?_
  (refine wpQuiet_step (fun K hK => ?_); rw [if_pos (by rfl)]; refine quiet_load_all _ _ rfl _ rfl (cordCells l s n) _ (agg_cord) (rfl) (fun w' hw' => hw'.row) ?_; go_simp; refine hK _ ?_; clear hK K)
  repeat (first | (refine wpQuiet_step (fun K hK => ?_); rw [if_pos (by rfl)]; refine quiet_load_cell _ _ rfl _ rfl (.int .i8 n) (one8) (fun w' hw' => cord_2 hw'.row) ?_; go_simp; refine hK _ ?_; clear hK K) | (refine wpQuiet_step (fun K hK => ?_); go_simp; first | (refine hK _ ?_; clear hK K) | (apply Exists.intro; refine ⟨fun w' hw' => ?_, hK _ ?_⟩; (first | rfl | exact ⟨rfl, rfl⟩ | ((go_at_call 37; exact (stretched_impl l s n load HH.out.1 HH.out.2.1 HH.out.2.2 _).mono fun e w'' h => ⟨h.1, hw'.step h.2⟩))); clear hK K)))
  refine wpQuiet_nil ?_
  intro w1 k1
  have k2 := hidd k1
  clear k1
  go_wp2
  go_ret; exact ⟨rfl, k2.out.below⟩
end Go.Proofs.Ytjbfnbdigaodoaa
