/-
  A sun's text: the program's.
-/
import Derived.Test.YtddkiemipedgcaaGreatDoorWst
import Derived.Test.YtddkiemipedgcaaGreatDoorWj
import Derived.Test.YtddkiemipedgcaaGreatDoorOs
import Derived.Test.YtddkiemipedgcaaGreatDoorQt
import Derived.Test.YtddkiemipedgcaaGreatDoorSj
namespace Go.Proofs.Hx
open Go Go.Proofs.Fl Go.Proofs.Pl
open Go.Lib hiding intOf
set_option linter.unusedVariables false
def wordB (L : List Int) (k : Nat) : ByteArray := ⟨(wordL L k).toArray⟩
def wordsB (L : List Int) (k : Nat) : List ByteArray := (List.range k).map (wordB L)
theorem wordsB_len (L : List Int) (k : Nat) : (wordsB L k).length = k := by simp [wordsB]
theorem wordsB_succ (L : List Int) (k : Nat) : wordsB L (k + 1) = wordsB L k ++ [wordB L k] := by simp [wordsB, List.range_succ]
theorem wordsB_join (L : List Int) (k : Nat) : Lib.join ((wordsB L k).map (·.data.toList)) [32] = textL L k := by
  rw [textL_join]
  show [32].intercalate _ = _
  congr 1
  simp [wordsB, wordB]
end Go.Proofs.Hx
namespace Go.Proofs.YtddkiemipedgcaaGreatDoor
open Go.RowKit Go.Proofs.Fl Go.Proofs.Pl Go.Proofs.Hx
open Go.Lib hiding intOf
set_option linter.unusedVariables false
theorem si16 : IsOne Tryz.prog 24 := isOne_int Tryz.underlying24
set_option maxHeartbeats 4000000 in
set_option maxRecDepth 100000 in
theorem sunText_impl (L : List Int) (hL : L.length = 48) (hr : ∀ x ∈ L, -32768 ≤ x ∧ x ≤ 32767) (w : World) (hT : Tabs w) :
    Calls Tryz.prog 10 #[.agg (sunCells L)] w fun e w' => e = .returned (.string (sunT L)) ∧ Below w.heap.size w w' := by
  have kp := hidd (Keep1.start w (sunCells L) 27)
  have TW := hidd hT
  have HL := hidd hL
  have HV := hidd (fun w => valid_impl L hL hr w)
  clear hT
  rcases bool_or (sunOk L) with hok | hok
  · rw [sunT_no hok]
    rw [hok] at HV
    clear hL hr hok
    go_enter Tryz.func10, Tryz.ntmps10
    go_wp2_with (first | (refine wpList_load_all rfl _ _ rfl _ rfl (sunCells L) 48 agg_impl (sun_size HL.out) kp.out.row ?_) | (go_at_call 20; refine (HV.out _).mono ?_; rintro e w2 ⟨rfl, hb2⟩; have k2 := hidd (kp.out.step hb2); clear hb2))
    go_ret
    exact ⟨rfl, k2.out.below⟩
  · rw [sunT_yes hok]
    have OK := hidd hok
    rw [hok] at HV
    clear hL hr hok
    obtain ⟨i0, hi, hz0, hz1, hz2⟩ := info_parts Tryz.infoS
    go_enter Tryz.func10, Tryz.ntmps10
    go_wp2_with (first | (refine wpList_load_all rfl _ _ rfl _ rfl (sunCells L) 48 agg_impl (sun_size HL.out) kp.out.row ?_) | (go_at_call 20; refine (HV.out _).mono ?_; rintro e w2 ⟨rfl, hb2⟩; have k2 := hidd (kp.out.step hb2); clear hb2))
    go_loopw [3, 9] (fun v i wr => ∃ k : Nat, k ≤ 24 ∧ i = .int .i64 (k : Int) ∧ OwnS wr (w.heap.size + 1) v (wordsB L k) ∧ Keep1 w wr (sunCells L)) (fun _ i _ => 24 - (intOf i).toNat)
    case atStart => exact ⟨0, by omega, rfl, own_str_new w2 _ (by have := k2.out.row.lt; omega), ⟨k2.out.below.alloc (by have := k2.out.row.lt; omega) _, k2.out.row.alloc _⟩⟩
    case round =>
      obtain ⟨k, hk, rfl, ko, kr⟩ := hrel
      have kq := hidd (And.intro ko kr)
      clear ko kr
      by_cases hlt : k < 24
      · obtain ⟨g1, g2, g3, g4⟩ := sunOk_at OK.out hlt
        obtain ⟨l1, l2, l3⟩ := wordL_len OK.out hlt
        obtain ⟨n, hn⟩ : ∃ n : Nat, trn L k = n := ⟨(trn L k).toNat, by omega⟩
        have en : (trn L k).toNat = n := by omega
        have ad1 : ∀ W, (Op.stringOp .add ⟨(itoa (hgt L k)).toArray⟩ ⟨#[64]⟩).run Tryz.prog W = .ok (.string ⟨(itoa (hgt L k) ++ [64]).toArray⟩) W := fun W => add_text _ [64] (by simp; omega) W
        have ad2 : ∀ W, (Op.stringOp .add ⟨(itoa (hgt L k) ++ [64]).toArray⟩ ⟨(itoa (n : Int)).toArray⟩).run Tryz.prog W = .ok (.string (wordB L k)) W := fun W => by
          unfold wordB wordL
          rw [en, itoa_nonneg]
          exact add_text _ _ (by rw [← en]; simp; omega) W
        have TR := hidd (TW.out.below kq.out.2.below)
        have HA := hidd (fun w h => decimal_impl (hgt L k) (by omega) (by omega) w h)
        have HB := hidd (fun w h => decimal_impl (n : Int) (by omega) (by omega) w h)
        have hw1 : IntKind.i64.wrap (hgt L k) = hgt L k := IntWalk.i64_in _ ⟨by omega, by omega⟩
        have hw2 : IntKind.i64.wrap (n : Int) = n := IntWalk.i64_in _ ⟨by omega, by omega⟩
        have c1 := hidd (fun (w' : World) (h : Below wr.heap.size wr w') => sun_hgt (kq.out.2.row.below h kq.out.2.row.lt) HL.out k hlt)
        have c2 := hidd (fun (w' : World) (h : Below wr.heap.size wr w') => sun_trn (kq.out.2.row.below h kq.out.2.row.lt) HL.out k hlt)
        rw [hn] at c2
        obtain ⟨A, hA⟩ : ∃ A : ByteArray, A = ⟨(itoa (hgt L k)).toArray⟩ := ⟨_, rfl⟩
        obtain ⟨A1, hA1⟩ : ∃ A : ByteArray, A = ⟨(itoa (hgt L k) ++ [64]).toArray⟩ := ⟨_, rfl⟩
        obtain ⟨B, hB⟩ : ∃ A : ByteArray, A = ⟨(itoa (n : Int)).toArray⟩ := ⟨_, rfl⟩
        obtain ⟨Wd, hWd⟩ : ∃ A : ByteArray, A = wordB L k := ⟨_, rfl⟩
        rw [← hA] at ad1 HA
        rw [← hA1] at ad1 ad2
        rw [← hB] at ad2 HB
        rw [← hWd] at ad2
        have F2 := hidd hWd
        obtain ⟨a, ha⟩ : ∃ a, hgt L k = a := ⟨_, rfl⟩
        rw [ha] at g1 g2 hw1 HA c1
        clear hA hA1 hB hWd l1 l2 l3 en hn ha g3 g4
        have i0' : (0 : Int) ≤ (k : Int) := by omega
        have i1' : (k : Int) < 24 := by omega
        have WL := wordsB_len L k
        have WS := hidd (wordsB_succ L k)
        go_wp2_with fail
        refine wp_region_head1 (fun w' => Below wr.heap.size wr w') 15 _ (by kernel_rfl) (by kernel_rfl) (Below.refl _ _).drew (fun _ _ _ h => h) (yields_move _ rfl rfl) ?_
        simp only [List.take_succ_cons, List.take_zero, List.drop_succ_cons, List.drop_zero, Nat.reduceSub, Act.put, List.setIfInBounds_toArray, List.set_cons_zero, List.set_cons_succ]
        iterate 3 (refine wpQuiet_step (fun K hK => ?_); go_simp; first | (refine hK _ ?_; clear hK K) | (apply Exists.intro; refine ⟨fun w' hw' => ?_, hK _ ?_⟩; (first | rfl | exact ⟨rfl, rfl⟩ | (fail)); clear hK K))
        (refine wpQuiet_step (fun K hK => ?_); rw [if_pos (by rfl)]; refine quiet_load_cell _ _ rfl _ rfl (.int .i16 a) (si16) (fun w' hw' => c1.out w' hw') ?_; go_simp; refine hK _ ?_; clear hK K)
        (refine wpQuiet_step (fun K hK => ?_); go_simp; first | (refine hK _ ?_; clear hK K) | (apply Exists.intro; refine ⟨fun w' hw' => ?_, hK _ ?_⟩; (first | rfl | exact ⟨rfl, rfl⟩ | (fail)); clear hK K))
        (refine wpQuiet_step (fun K hK => ?_); go_simp; first | (refine hK _ ?_; clear hK K) | (apply Exists.intro; refine ⟨fun w' hw' => ?_, hK _ ?_⟩; (first | rfl | exact ⟨rfl, rfl⟩ | ((go_at_call 56; exact (HA.out _ (TR.out.below hw')).mono fun e w'' h => ⟨h.1, hw'.trans (h.2.mono hw'.size)⟩))); clear hK K))
        (refine wpQuiet_step (fun K hK => ?_); go_simp; first | (refine hK _ ?_; clear hK K) | (apply Exists.intro; refine ⟨fun w' hw' => ?_, hK _ ?_⟩; (first | rfl | exact ⟨rfl, rfl⟩ | (exact ⟨rfl, rfl⟩)); clear hK K))
        iterate 3 (refine wpQuiet_step (fun K hK => ?_); go_simp; first | (refine hK _ ?_; clear hK K) | (apply Exists.intro; refine ⟨fun w' hw' => ?_, hK _ ?_⟩; (first | rfl | exact ⟨rfl, rfl⟩ | (fail)); clear hK K))
        (refine wpQuiet_step (fun K hK => ?_); rw [if_pos (by rfl)]; refine quiet_load_cell _ _ rfl _ rfl (.int .i16 n) (si16) (fun w' hw' => c2.out w' hw') ?_; go_simp; refine hK _ ?_; clear hK K)
        (refine wpQuiet_step (fun K hK => ?_); go_simp; first | (refine hK _ ?_; clear hK K) | (apply Exists.intro; refine ⟨fun w' hw' => ?_, hK _ ?_⟩; (first | rfl | exact ⟨rfl, rfl⟩ | (fail)); clear hK K))
        (refine wpQuiet_step (fun K hK => ?_); go_simp; first | (refine hK _ ?_; clear hK K) | (apply Exists.intro; refine ⟨fun w' hw' => ?_, hK _ ?_⟩; (first | rfl | exact ⟨rfl, rfl⟩ | ((go_at_call 56; exact (HB.out _ (TR.out.below hw')).mono fun e w'' h => ⟨h.1, hw'.trans (h.2.mono hw'.size)⟩))); clear hK K))
        (refine wpQuiet_step (fun K hK => ?_); go_simp; first | (refine hK _ ?_; clear hK K) | (apply Exists.intro; refine ⟨fun w' hw' => ?_, hK _ ?_⟩; (first | rfl | exact ⟨rfl, rfl⟩ | (exact ⟨rfl, rfl⟩)); clear hK K))
        refine wpQuiet_nil ?_
        intro w3 b3
        have k3 := hidd (kq.out.2.step b3)
        have o3 := hidd (own_below kq.out.1 b3)
        have z3 := hidd k3.out.row.lt
        clear b3
        go_wp2_with (at_builtin; refine wpList_append_own _ rfl _ _ 74 rfl (w.heap.size + 1) 9 i0 (.string ByteArray.empty) 1 16 Tryz.underlying74 hi hz0 hz1 hz2 rfl (by decide) _ _ _ rfl (o3.out.alloc _) ⟨w3.heap.size, 0, none⟩ 1 1 [.string Wd] rfl rfl (cell_one _ _ _) (one_str _) (by unfold maxLen; omega) (by omega) (by have := z3.out; simp; omega) ?_)
        intro v' w4 own' hg' _
        have ab := hidd (app_below o3.out hg' (by have := z3.out; omega))
        have o4 := hidd (own_str_snoc (wordsB_len L k) own')
        clear own' hg'
        go_wp2
        go_roundw
        case rel => exact ⟨k + 1, by omega, by go_num, by rw [WS.out, ← F2.out]; exact o4.out, keep1_stepB k3.out (ab.out.mono (by omega))⟩
        case measure => simp [intOf]; omega
      · obtain rfl : k = 24 := by omega
        have WL := wordsB_len L 24
        obtain ⟨g, cap, rfl, hcap, hg, hcells⟩ := own_str_lies kq.out.1 (by rw [wordsB_len]; omega)
        have J := hidd (Tryz.strings_Join g 0 cap (wordsB L 24) ⟨#[32]⟩ wr (fun j x hx => by have := hcells j x hx; simpa using this) hg (by omega) (by omega) (by rw [show (⟨#[32]⟩ : ByteArray).data.toList = [32] from rfl, wordsB_join]; have := textL_len OK.out (k := 24) (Nat.le_refl _); omega))
        rw [show (⟨#[32]⟩ : ByteArray).data.toList = [32] from rfl, wordsB_join] at J
        clear hcells hg hcap
        go_wp2_with fail
        refine J.out.mono ?_
        rintro e w5 ⟨rfl, hb5⟩
        have B5 := hidd (kq.out.2.below.trans (hb5.mono kq.out.2.below.size))
        clear hb5
        go_wp2
        go_ret
        exact ⟨rfl, B5.out⟩
end Go.Proofs.YtddkiemipedgcaaGreatDoor
