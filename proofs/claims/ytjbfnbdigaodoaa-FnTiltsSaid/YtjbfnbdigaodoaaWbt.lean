/-
  Lists of tilts.
-/
import Derived.Test.YtjbfnbdigaodoaaWo
import Derived.Test.YtjbfnbdigaodoaaWbb
namespace Go.Proofs.Ytjbfnbdigaodoaa
open Go.RowKit Go.Proofs.Fl Go.Proofs.Pl
set_option linter.unusedVariables false

def tl (so : Int → Bool) : Nat → List Int
  | 0 => []
  | k + 1 => if so ((k : Int) - 64) = true then tl so k ++ [(k : Int) - 64] else tl so k
theorem tl_yes {so : Int → Bool} {k : Nat} (h : so ((k : Int) - 64) = true) : tl so (k + 1) = tl so k ++ [(k : Int) - 64] := by rw [tl, if_pos h]
theorem tl_no {so : Int → Bool} {k : Nat} (h : so ((k : Int) - 64) = false) : tl so (k + 1) = tl so k := by rw [tl, if_neg (by rw [h]; exact Bool.false_ne_true)]
theorem tl_len (so : Int → Bool) : ∀ k, (tl so k).length ≤ k
  | 0 => Nat.le_refl _
  | k + 1 => by
    have := tl_len so k
    unfold tl; split
    · simp; omega
    · omega
theorem tl_len' (so : Int → Bool) : (tl so 129).length ≤ 129 := tl_len so 129
def tl129 (so : Int → Bool) : List Int := tl so 129
theorem tl129_eq (so : Int → Bool) : tl so 129 = tl129 so := rfl
theorem tl129_len (so : Int → Bool) : (tl129 so).length ≤ 129 := tl_len so 129
attribute [irreducible] tl129
def shutSo (wd g : Nat) (h : Int) : Int → Bool := fun u => feq (opn wd g u h) 0
def inSo (wd g s : Nat) (h : Int) (lo hi : Nat) : Int → Bool := fun u => fge (pass wd g u s h) lo && fle (pass wd g u s h) hi

theorem own_snoc {w : World} {b e : Nat} {v : Value} {so : Int → Bool} {k : Nat} (hso : so ((k : Int) - 64) = true) (h : w.ownsRow b e 1 v ((tl so k).length + 1) ((tl so k).map (Value.int .i64) ++ [.int .i64 ((k : Int) - 64)])) :
    w.ownsRow b e 1 v (tl so (k + 1)).length ((tl so (k + 1)).map (Value.int .i64)) := by
  rw [tl_yes hso]; simpa using h
theorem Try.infoI : (Try.prog.info? 2).map (fun i => (i.zero, i.size, i.bytes)) = some (some (.int .i64 0), 1, 8) := by kernel_rfl

set_option maxHeartbeats 1000000 in
set_option maxRecDepth 100000 in
theorem shut_spec (n : Int) (wd g : Nat) (t : Int) (s : Nat) (hw : isLen wd = true) (hg : isLen g = true) (h : Int) (h1 : 1 ≤ h) (h2 : h ≤ 64) (w : World) :
    Calls Try.prog 65 #[.agg #[.int .i8 n, .float .f32 wd, .float .f32 g, .int .i16 t, .float .f32 s], .int .i64 h] w fun e w' => ∃ v, e = .returned v ∧ Below w.heap.size w w' ∧ w'.ownsRow w.heap.size 2 1 v (tl129 (shutSo wd g h)).length ((tl129 (shutSo wd g h)).map (Value.int .i64)) := by
  have kp := hidd (Keep1.start w (blindCells n wd g (t) s) 40)
  have H := hidd (And.intro hw hg)
  clear hw hg
  have zz : Fnt 0 := by decide
  obtain ⟨i0, hi, hz0, hz1, hz2⟩ := info_parts Try.infoI
  go_enter Try.func65, Try.ntmps65
  go_wp2_with fail
  go_loopw [5, 6] (fun v i wr => ∃ (k : Nat) (u : Int), k ≤ 129 ∧ i = .int .i64 ((k : Int) - 64) ∧ wr.ownsRow (w.heap.size + 1) 2 1 v (tl (shutSo wd g h) k).length ((tl (shutSo wd g h) k).map (Value.int .i64)) ∧ Row wr w.heap.size (blindCells n wd g (u) s) ∧ Below w.heap.size w wr) (fun _ i _ => 129 - (intOf i + 64).toNat)
  case atStart => exact ⟨0, t, by omega, rfl, own_empty w _ _, kp.out.row.alloc _, kp.out.below.alloc (by simp) _⟩
  case round =>
    obtain ⟨k, u, hk, rfl, ko, kr, kb⟩ := hrel
    have kq := hidd (And.intro ko (And.intro kr kb))
    have c3 := bl_3 kr
    have f3 := kr.frozen 3
    clear ko kr kb
    have hl := tl_len (shutSo wd g h) k
    by_cases hlt : k < 129
    · have x1 : -64 ≤ ((k : Int) - 64) := by omega
      have x2 : ((k : Int) - 64) ≤ 64 := by omega
      have hf := (unit_fin (opn_unit (t := ((k : Int) - 64)) H.out.1 H.out.2 h1 h2)).1
      rcases bool_or ((shutSo wd g h) ((k : Int) - 64)) with hso | hso
      · have hso2 : feq (opn wd g ((k : Int) - 64) h) 0 = false := hso
        go_wp2_with (go_at_call 78; refine (open_spec w.heap.size n wd g ((k : Int) - 64) s H.out.1 H.out.2 x1 x2 h h1 h2 (wr.setCell ⟨w.heap.size, 3, none⟩ (.int .i16 ((k : Int) - 64))) (kq.out.2.1.set 3 (.int .i16 ((k : Int) - 64)))).mono ?_; rintro e w3 ⟨rfl, hb3⟩; have r3 := hidd ((kq.out.2.1.set 3 (.int .i16 ((k : Int) - 64))).below hb3 (kq.out.2.1.set 3 (.int .i16 ((k : Int) - 64))).lt); have o3 := hidd (own_below (own_wrote kq.out.1 (Wrote.setCell wr w.heap.size 3 (.int .i16 ((k : Int) - 64))) (by omega)) hb3); have b3 := hidd ((kq.out.2.2.trans ((Wrote.setCell wr w.heap.size 3 (.int .i16 ((k : Int) - 64))).below (Nat.le_refl _))).trans (hb3.mono (by have := kq.out.2.1.lt; simp [World.setCell]; omega))); have z3 := hidd r3.out.lt; clear hb3)
        go_roundw
        case rel => exact ⟨k + 1, ((k : Int) - 64), by omega, by go_num, by rw [tl_no hso]; exact o3.out, r3.out, b3.out⟩
        case measure => simp [intOf]; omega
      · have hso2 : feq (opn wd g ((k : Int) - 64) h) 0 = true := hso
        go_wp2_with (first | (go_at_call 78; refine (open_spec w.heap.size n wd g ((k : Int) - 64) s H.out.1 H.out.2 x1 x2 h h1 h2 (wr.setCell ⟨w.heap.size, 3, none⟩ (.int .i16 ((k : Int) - 64))) (kq.out.2.1.set 3 (.int .i16 ((k : Int) - 64)))).mono ?_; rintro e w3 ⟨rfl, hb3⟩; have r3 := hidd ((kq.out.2.1.set 3 (.int .i16 ((k : Int) - 64))).below hb3 (kq.out.2.1.set 3 (.int .i16 ((k : Int) - 64))).lt); have o3 := hidd (own_below (own_wrote kq.out.1 (Wrote.setCell wr w.heap.size 3 (.int .i16 ((k : Int) - 64))) (by omega)) hb3); have b3 := hidd ((kq.out.2.2.trans ((Wrote.setCell wr w.heap.size 3 (.int .i16 ((k : Int) - 64))).below (Nat.le_refl _))).trans (hb3.mono (by have := kq.out.2.1.lt; simp [World.setCell]; omega))); have z3 := hidd r3.out.lt; clear hb3) | (at_builtin; refine wpList_append_own _ rfl _ _ 44 rfl (w.heap.size + 1) 2 i0 (.int .i64 0) 1 8 Try.underlying44 hi hz0 hz1 hz2 rfl (by decide) _ _ _ rfl (o3.out.alloc _) ⟨w3.heap.size, 0, none⟩ 1 1 [.int .i64 ((k : Int) - 64)] rfl rfl (cell_one _ _ _) (one_one _) (by unfold maxLen; omega) (by omega) (by have := z3.out; simp; omega) ?_))
        intro v' w4 own' hg' _
        have ab := hidd (app_below o3.out hg' (by have := z3.out; omega))
        have o4 := hidd (own_snoc hso own')
        clear own' hg'
        go_wp2
        go_roundw
        case rel => exact ⟨k + 1, ((k : Int) - 64), by omega, by go_num, o4.out, r3.out.below ab.out (by omega), b3.out.trans (ab.out.mono (by omega))⟩
        case measure => simp [intOf]; omega
    · obtain rfl : k = 129 := by omega
      rw [tl129_eq] at kq
      go_wp2
      go_ret; exact ⟨_, rfl, kq.out.2.2, own_mono kq.out.1 (by omega)⟩
end Go.Proofs.Ytjbfnbdigaodoaa
