/-
  A sun's text: the reference's.
-/
import Derived.Test.YtfiifnlnkedahaaDoorWi
import Derived.Test.YtfiifnlnkedahaaDoorWs
namespace Go.Proofs.Hx
open Go Go.Proofs.Fl Go.Proofs.Pl
open Go.Lib hiding intOf
set_option linter.unusedVariables false
/-- The text of an hour. -/
def wordL (L : List Int) (k : Nat) : List UInt8 := itoa (hgt L k) ++ [64] ++ decDigits (trn L k).toNat
def sepL (k : Nat) : List UInt8 := if k = 0 then [] else [32]
/-- The text of the first k hours. -/
def textL (L : List Int) : Nat → List UInt8
  | 0 => []
  | k + 1 => textL L k ++ sepL k ++ wordL L k
theorem sepL_len (k : Nat) : (sepL k).length ≤ 1 := by unfold sepL; split <;> simp
theorem wordL_len {L : List Int} (hok : sunOk L = true) {k : Nat} (hk : k < 24) : (itoa (hgt L k)).length ≤ 10 ∧ (decDigits (trn L k).toNat).length ≤ 9 ∧ (wordL L k).length ≤ 20 := by
  obtain ⟨h1, h2, h3, h4⟩ := sunOk_at hok hk
  have a := itoa_short (a := hgt L k) ⟨by omega, by omega⟩
  have b := dec_small (u := (trn L k).toNat) (by omega)
  refine ⟨a, b, ?_⟩
  unfold wordL
  simp
  omega
theorem textL_len {L : List Int} (hok : sunOk L = true) : ∀ {k : Nat}, k ≤ 24 → (textL L k).length ≤ 21 * k
  | 0, _ => by simp [textL]
  | k + 1, h => by
    have a := textL_len hok (k := k) (by omega)
    have b := (wordL_len hok (k := k) (by omega)).2.2
    have c := sepL_len k
    unfold textL
    simp
    omega
theorem textL_join (L : List Int) : ∀ k, textL L k = [32].intercalate ((List.range k).map (wordL L))
  | 0 => rfl
  | k + 1 => by
    rw [textL, textL_join L k, List.range_succ, List.map_append]
    cases k with
    | zero => simp [sepL, List.intercalate]
    | succ k =>
      have key : ∀ (xs : List (List UInt8)) (y : List UInt8), xs ≠ [] → [32].intercalate (xs ++ [y]) = [32].intercalate xs ++ [32] ++ y := by
        intro xs
        induction xs with
        | nil => intro y h; exact absurd rfl h
        | cons x t ih =>
          intro y _
          cases t with
          | nil => simp [List.intercalate]
          | cons z t =>
            have := ih y (by simp)
            simp only [List.intercalate, List.cons_append, List.intersperse, List.flatten] at this ⊢
            rw [this]
            simp [List.append_assoc]
      rw [List.map_cons, List.map_nil, key _ _ (by simp)]
      rfl
/-- What 'SunText' answers. -/
def sunT (L : List Int) : ByteArray := if sunOk L = true then ⟨(textL L 24).toArray⟩ else ⟨#[]⟩
theorem sunT_yes {L : List Int} (h : sunOk L = true) : sunT L = ⟨(textL L 24).toArray⟩ := if_pos h
theorem sunT_no {L : List Int} (h : sunOk L = false) : sunT L = ⟨#[]⟩ := if_neg (by rw [h]; decide)
end Go.Proofs.Hx
namespace Go.Proofs.YtfiifnlnkedahaaDoor
open Go.RowKit Go.Proofs.Fl Go.Proofs.Pl Go.Proofs.Hx
open Go.Lib hiding intOf
set_option linter.unusedVariables false
theorem st16 : IsOne Tryd.prog 30 := isOne_int Tryd.underlying30
set_option maxHeartbeats 1600000 in
set_option maxRecDepth 100000 in
theorem text_spec (b : Nat) (L : List Int) (hL : L.length = 48) (hok : sunOk L = true) (w : World) (hs : Row w b (sunCells L)) :
    Calls Tryd.prog 48 #[.pointer (some ⟨b, 0, none⟩)] w fun e w' => e = .returned (.string ⟨(textL L 24).toArray⟩) ∧ Below w.heap.size w w' := by
  have Hs := hidd hs
  have HL := hidd hL
  have OK := hidd hok
  clear hs hL hok
  go_enter Tryd.func48, Tryd.ntmps48
  go_wp2
  go_loopw [3, 4] (fun vs vi wr => ∃ k : Nat, k ≤ 24 ∧ vi = .int .i64 k ∧ vs = .string ⟨(textL L k).toArray⟩ ∧ Below w.heap.size w wr) (fun _ vi _ => (24 - intOf vi).toNat)
  case atStart => exact ⟨0, by omega, rfl, rfl, Below.refl _ _⟩
  case round =>
    obtain ⟨k, hk, rfl, rfl, kr⟩ := hrel
    have kq := hidd kr
    clear kr
    by_cases hlt : k < 24
    · obtain ⟨g1, g2, g3, g4⟩ := sunOk_at OK.out hlt
      obtain ⟨l1, l2, l3⟩ := wordL_len OK.out hlt
      have l4 := textL_len OK.out hk
      have l5 := sepL_len k
      obtain ⟨n, hn⟩ : ∃ n : Nat, trn L k = n := ⟨(trn L k).toNat, by omega⟩
      have en : (trn L k).toNat = n := by omega
      have ad1 : ∀ W, (Op.stringOp .add ⟨(itoa (hgt L k)).toArray⟩ ⟨#[64]⟩).run Tryd.prog W = .ok (.string ⟨(itoa (hgt L k) ++ [64]).toArray⟩) W := fun W => add_text _ [64] (by simp; omega) W
      have ad2 : ∀ W, (Op.stringOp .add ⟨(itoa (hgt L k) ++ [64]).toArray⟩ ⟨(decDigits n).toArray⟩).run Tryd.prog W = .ok (.string ⟨(wordL L k).toArray⟩) W := fun W => by
        unfold wordL
        rw [en]
        exact add_text _ _ (by rw [← en]; simp; omega) W
      have ad3 : ∀ W, (Op.stringOp .add ⟨(textL L k ++ sepL k).toArray⟩ ⟨(wordL L k).toArray⟩).run Tryd.prog W = .ok (.string ⟨(textL L (k + 1)).toArray⟩) W := fun W => add_text _ _ (by simp; omega) W
      have ad0 : 0 < k → ∀ W, (Op.stringOp .add ⟨(textL L k).toArray⟩ ⟨#[32]⟩).run Tryd.prog W = .ok (.string ⟨(textL L k ++ sepL k).toArray⟩) W := fun h W => by
        unfold sepL
        rw [if_neg (by omega)]
        exact add_text _ [32] (by simp; omega) W
      have S0 : ¬ 0 < k → (⟨(textL L k).toArray⟩ : ByteArray) = ⟨(textL L k ++ sepL k).toArray⟩ := fun h => by
        unfold sepL
        rw [if_pos (by omega)]
        simp
      have HA := hidd (fun w => signed_spec (hgt L k) (by omega) (by omega) w)
      have HB := hidd (fun w => decimal_spec n n (Nat.le_refl _) (by omega) w)
      have hw1 : IntKind.i64.wrap (hgt L k) = hgt L k := IntWalk.i64_in _ ⟨by omega, by omega⟩
      have hw2 : IntKind.i64.wrap (n : Int) = n := IntWalk.i64_in _ ⟨by omega, by omega⟩
      have c1 := hidd (fun (w' : World) (h : Below w.heap.size w w') => sun_hgt (Hs.out.below h Hs.out.lt) HL.out k hlt)
      have c2 := hidd (fun (w' : World) (h : Below w.heap.size w w') => sun_trn (Hs.out.below h Hs.out.lt) HL.out k hlt)
      rw [hn] at c2
      obtain ⟨A, hA⟩ : ∃ A : ByteArray, A = ⟨(itoa (hgt L k)).toArray⟩ := ⟨_, rfl⟩
      obtain ⟨A1, hA1⟩ : ∃ A : ByteArray, A = ⟨(itoa (hgt L k) ++ [64]).toArray⟩ := ⟨_, rfl⟩
      obtain ⟨B, hB⟩ : ∃ A : ByteArray, A = ⟨(decDigits n).toArray⟩ := ⟨_, rfl⟩
      obtain ⟨Wd, hWd⟩ : ∃ A : ByteArray, A = ⟨(wordL L k).toArray⟩ := ⟨_, rfl⟩
      obtain ⟨S, hS⟩ : ∃ A : ByteArray, A = ⟨(textL L k).toArray⟩ := ⟨_, rfl⟩
      obtain ⟨S1, hS1⟩ : ∃ A : ByteArray, A = ⟨(textL L k ++ sepL k).toArray⟩ := ⟨_, rfl⟩
      obtain ⟨S2, hS2⟩ : ∃ A : ByteArray, A = ⟨(textL L (k + 1)).toArray⟩ := ⟨_, rfl⟩
      rw [← hA] at ad1 HA
      rw [← hA1] at ad1 ad2
      rw [← hB] at ad2 HB
      rw [← hWd] at ad2 ad3
      rw [← hS, ← hS1] at ad0 S0
      rw [← hS1, ← hS2] at ad3
      rw [← hS]
      have F2 := hidd hS2
      obtain ⟨a, ha⟩ : ∃ a, hgt L k = a := ⟨_, rfl⟩
      rw [ha] at g1 g2 hw1 HA c1
      clear hA hA1 hB hWd hS hS1 hS2 l1 l2 l3 l4 l5 en hn ha g3 g4
      have i0 : (0 : Int) ≤ (k : Int) := by omega
      have i1 : (k : Int) < 24 := by omega
      by_cases hk0 : 0 < k
      · have hk0' : (0 : Int) < (k : Int) := by omega
        replace ad0 := ad0 hk0
        clear S0
        go_wp2_with fail
        refine wp_region_in (fun w' => Below w.heap.size w w') (by kernel_rfl) (by kernel_rfl) kq.out.drew ?_
        iterate 6 (refine wpQuiet_step (fun K hK => ?_); go_simp; first | (refine hK _ ?_; clear hK K) | (apply Exists.intro; refine ⟨fun w' hw' => ?_, hK _ ?_⟩; (first | rfl | exact ⟨rfl, rfl⟩ | (fail)); clear hK K))
        (refine wpQuiet_step (fun K hK => ?_); rw [if_pos (by rfl)]; refine quiet_load_cell _ _ rfl _ rfl (.int .i16 a) (st16) (fun w' hw' => c1.out w' hw') ?_; go_simp; refine hK _ ?_; clear hK K)
        (refine wpQuiet_step (fun K hK => ?_); go_simp; first | (refine hK _ ?_; clear hK K) | (apply Exists.intro; refine ⟨fun w' hw' => ?_, hK _ ?_⟩; (first | rfl | exact ⟨rfl, rfl⟩ | (fail)); clear hK K))
        (refine wpQuiet_step (fun K hK => ?_); go_simp; first | (refine hK _ ?_; clear hK K) | (apply Exists.intro; refine ⟨fun w' hw' => ?_, hK _ ?_⟩; (first | rfl | exact ⟨rfl, rfl⟩ | ((go_at_call 86; exact (HA.out _).mono fun e w'' h => ⟨h.1, hw'.trans (h.2.mono hw'.size)⟩))); clear hK K))
        (refine wpQuiet_step (fun K hK => ?_); go_simp; first | (refine hK _ ?_; clear hK K) | (apply Exists.intro; refine ⟨fun w' hw' => ?_, hK _ ?_⟩; (first | rfl | exact ⟨rfl, rfl⟩ | (exact ⟨rfl, rfl⟩)); clear hK K))
        iterate 5 (refine wpQuiet_step (fun K hK => ?_); go_simp; first | (refine hK _ ?_; clear hK K) | (apply Exists.intro; refine ⟨fun w' hw' => ?_, hK _ ?_⟩; (first | rfl | exact ⟨rfl, rfl⟩ | (fail)); clear hK K))
        (refine wpQuiet_step (fun K hK => ?_); rw [if_pos (by rfl)]; refine quiet_load_cell _ _ rfl _ rfl (.int .i16 n) (st16) (fun w' hw' => c2.out w' hw') ?_; go_simp; refine hK _ ?_; clear hK K)
        (refine wpQuiet_step (fun K hK => ?_); go_simp; first | (refine hK _ ?_; clear hK K) | (apply Exists.intro; refine ⟨fun w' hw' => ?_, hK _ ?_⟩; (first | rfl | exact ⟨rfl, rfl⟩ | (fail)); clear hK K))
        (refine wpQuiet_step (fun K hK => ?_); go_simp; first | (refine hK _ ?_; clear hK K) | (apply Exists.intro; refine ⟨fun w' hw' => ?_, hK _ ?_⟩; (first | rfl | exact ⟨rfl, rfl⟩ | ((go_at_call 87; exact (HB.out _).mono fun e w'' h => ⟨h.1, hw'.trans (h.2.mono hw'.size)⟩))); clear hK K))
        repeat (refine wpQuiet_step (fun K hK => ?_); go_simp; first | (refine hK _ ?_; clear hK K) | (apply Exists.intro; refine ⟨fun w' hw' => ?_, hK _ ?_⟩; (first | rfl | exact ⟨rfl, rfl⟩ | (exact ⟨rfl, rfl⟩)); clear hK K))
        refine wpQuiet_nil ?_
        intro w1 k1
        have k2 := hidd k1
        clear k1
        go_wp2
        go_roundw
        case rel => exact ⟨k + 1, by omega, by go_num, by rw [← F2.out], k2.out⟩
        case measure => simp [intOf]; omega
      · have hk0' : ¬ (0 : Int) < (k : Int) := by omega
        replace S0 := S0 hk0
        subst S0
        clear ad0
        go_wp2_with fail
        refine wp_region_in (fun w' => Below w.heap.size w w') (by kernel_rfl) (by kernel_rfl) kq.out.drew ?_
        iterate 6 (refine wpQuiet_step (fun K hK => ?_); go_simp; first | (refine hK _ ?_; clear hK K) | (apply Exists.intro; refine ⟨fun w' hw' => ?_, hK _ ?_⟩; (first | rfl | exact ⟨rfl, rfl⟩ | (fail)); clear hK K))
        (refine wpQuiet_step (fun K hK => ?_); rw [if_pos (by rfl)]; refine quiet_load_cell _ _ rfl _ rfl (.int .i16 a) (st16) (fun w' hw' => c1.out w' hw') ?_; go_simp; refine hK _ ?_; clear hK K)
        (refine wpQuiet_step (fun K hK => ?_); go_simp; first | (refine hK _ ?_; clear hK K) | (apply Exists.intro; refine ⟨fun w' hw' => ?_, hK _ ?_⟩; (first | rfl | exact ⟨rfl, rfl⟩ | (fail)); clear hK K))
        (refine wpQuiet_step (fun K hK => ?_); go_simp; first | (refine hK _ ?_; clear hK K) | (apply Exists.intro; refine ⟨fun w' hw' => ?_, hK _ ?_⟩; (first | rfl | exact ⟨rfl, rfl⟩ | ((go_at_call 86; exact (HA.out _).mono fun e w'' h => ⟨h.1, hw'.trans (h.2.mono hw'.size)⟩))); clear hK K))
        (refine wpQuiet_step (fun K hK => ?_); go_simp; first | (refine hK _ ?_; clear hK K) | (apply Exists.intro; refine ⟨fun w' hw' => ?_, hK _ ?_⟩; (first | rfl | exact ⟨rfl, rfl⟩ | (exact ⟨rfl, rfl⟩)); clear hK K))
        iterate 5 (refine wpQuiet_step (fun K hK => ?_); go_simp; first | (refine hK _ ?_; clear hK K) | (apply Exists.intro; refine ⟨fun w' hw' => ?_, hK _ ?_⟩; (first | rfl | exact ⟨rfl, rfl⟩ | (fail)); clear hK K))
        (refine wpQuiet_step (fun K hK => ?_); rw [if_pos (by rfl)]; refine quiet_load_cell _ _ rfl _ rfl (.int .i16 n) (st16) (fun w' hw' => c2.out w' hw') ?_; go_simp; refine hK _ ?_; clear hK K)
        (refine wpQuiet_step (fun K hK => ?_); go_simp; first | (refine hK _ ?_; clear hK K) | (apply Exists.intro; refine ⟨fun w' hw' => ?_, hK _ ?_⟩; (first | rfl | exact ⟨rfl, rfl⟩ | (fail)); clear hK K))
        (refine wpQuiet_step (fun K hK => ?_); go_simp; first | (refine hK _ ?_; clear hK K) | (apply Exists.intro; refine ⟨fun w' hw' => ?_, hK _ ?_⟩; (first | rfl | exact ⟨rfl, rfl⟩ | ((go_at_call 87; exact (HB.out _).mono fun e w'' h => ⟨h.1, hw'.trans (h.2.mono hw'.size)⟩))); clear hK K))
        repeat (refine wpQuiet_step (fun K hK => ?_); go_simp; first | (refine hK _ ?_; clear hK K) | (apply Exists.intro; refine ⟨fun w' hw' => ?_, hK _ ?_⟩; (first | rfl | exact ⟨rfl, rfl⟩ | (exact ⟨rfl, rfl⟩)); clear hK K))
        refine wpQuiet_nil ?_
        intro w1 k1
        have k2 := hidd k1
        clear k1
        go_wp2
        go_roundw
        case rel => exact ⟨k + 1, by omega, by go_num, by rw [← F2.out], k2.out⟩
        case measure => simp [intOf]; omega
    · obtain rfl : k = 24 := by omega
      go_wp2
      go_ret
      exact ⟨rfl, kq.out⟩
theorem sunText_spec (L : List Int) (hL : L.length = 48) (hr : ∀ x ∈ L, -32768 ≤ x ∧ x ≤ 32767) (w : World) :
    Calls Tryd.prog 15 #[.agg (sunCells L)] w fun e w' => e = .returned (.string (sunT L)) ∧ Below w.heap.size w w' := by
  have kp := hidd (Keep1.start w (sunCells L) 35)
  have HL := hidd hL
  have HV := hidd (fun b w h => ok_spec b L hL hr w h)
  rcases bool_or (sunOk L) with hok | hok
  · have fin := hidd (sunT_no hok)
    rw [hok] at HV
    clear hL hr hok
    go_enter Tryd.func15, Tryd.ntmps15
    go_wp2_with (go_at_call 47; refine (HV.out _ _ kp.out.row).mono ?_; rintro e w2 ⟨rfl, rfl⟩)
    go_ret
    exact ⟨by rw [fin.out]; rfl, kp.out.below⟩
  · have fin := hidd (sunT_yes hok)
    have HT := hidd (fun b w h => text_spec b L hL hok w h)
    rw [← fin.out] at HT
    rw [hok] at HV
    clear hL hr hok fin
    go_enter Tryd.func15, Tryd.ntmps15
    go_wp2_with (first | (go_at_call 47; refine (HV.out _ _ kp.out.row).mono ?_; rintro e w2 ⟨rfl, rfl⟩) | (go_at_call 48; refine (HT.out _ _ kp.out.row).mono ?_; rintro e w3 ⟨rfl, hb3⟩; have k3 := hidd (kp.out.step hb3); clear hb3))
    go_ret
    exact ⟨rfl, k3.out.below⟩
end Go.Proofs.YtfiifnlnkedahaaDoor
