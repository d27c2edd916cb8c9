/-
  A blind's text.
-/
import Derived.Test.YtddkiemipedgcaaGreatDoorWi
import Derived.Test.YtddkiemipedgcaaGreatDoorWj
import Derived.Test.YtddkiemipedgcaaGreatDoorWb
import Derived.Test.YtddkiemipedgcaaGreatDoorQt
import Derived.Test.YtddkiemipedgcaaGreatDoorSj
import Derived.Test.YtddkiemipedgcaaGreatDoorWfb
namespace Go.Proofs.Hx
open Go Go.Proofs.Fl Go.Proofs.Pl
open Go.Lib hiding intOf
set_option linter.unusedVariables false
/-- The pieces of a blind's text. -/
noncomputable def bT1 (n : Int) : List UInt8 := decDigits n.toNat
noncomputable def bH (a : Nat) : List UInt8 := hexL (canon a) 8
noncomputable def bP (n : Int) (wd g : Nat) (t : Int) (s : Nat) : Nat → List UInt8
  | 0 => bT1 n
  | 1 => bT1 n ++ [32]
  | 2 => bT1 n ++ [32] ++ bH wd
  | 3 => bT1 n ++ [32] ++ bH wd ++ [32]
  | 4 => bT1 n ++ [32] ++ bH wd ++ [32] ++ bH g
  | 5 => bT1 n ++ [32] ++ bH wd ++ [32] ++ bH g ++ [32]
  | 6 => bT1 n ++ [32] ++ bH wd ++ [32] ++ bH g ++ [32] ++ itoa t
  | 7 => bT1 n ++ [32] ++ bH wd ++ [32] ++ bH g ++ [32] ++ itoa t ++ [32]
  | _ => bT1 n ++ [32] ++ bH wd ++ [32] ++ bH g ++ [32] ++ itoa t ++ [32] ++ bH s
/-- What 'BlindText' answers. -/
noncomputable def blindT (n : Int) (wd g : Nat) (t : Int) (s : Nat) : ByteArray := if blindOk n wd g t s = true then ⟨(bP n wd g t s 8).toArray⟩ else ⟨#[]⟩
theorem blindT_yes {n : Int} {wd g : Nat} {t : Int} {s : Nat} (h : blindOk n wd g t s = true) : blindT n wd g t s = ⟨(bP n wd g t s 8).toArray⟩ := if_pos h
theorem blindT_no {n : Int} {wd g : Nat} {t : Int} {s : Nat} (h : blindOk n wd g t s = false) : blindT n wd g t s = ⟨#[]⟩ := if_neg (by rw [h]; decide)
theorem bH_len (a : Nat) : (bH a).length = 8 := hexL_length _ _
def bytesOf (l : List UInt8) : ByteArray := ⟨l.toArray⟩
theorem bytesOf_join (a b c d e : List UInt8) : Lib.join ([bytesOf a, bytesOf b, bytesOf c, bytesOf d, bytesOf e].map (·.data.toList)) [32] = a ++ [32] ++ b ++ [32] ++ c ++ [32] ++ d ++ [32] ++ e := by
  show [32].intercalate [a, b, c, d, e] = _
  simp [List.intercalate]
end Go.Proofs.Hx
namespace Go.Proofs.YtddkiemipedgcaaGreatDoor
open Go.RowKit Go.Proofs.Fl Go.Proofs.Pl Go.Proofs.Hx
open Go.Lib hiding intOf
set_option linter.unusedVariables false
theorem row5 {w : World} {a b c d e : Value} {t : TypeId} (j : Nat) (x : ByteArray) (xs : List ByteArray) (h : [a, b, c, d, e] = xs.map Value.string) (hx : xs[j]? = some x) : (w.alloc (.cells #[a, b, c, d, e] t)).cell? ⟨w.heap.size, 0 + j, none⟩ = some (.string x) := by
  rw [Nat.zero_add, World.cell?_alloc_new]
  show #[a, b, c, d, e][j]? = _
  have e : #[a, b, c, d, e] = (xs.map Value.string).toArray := by rw [← h]
  rw [e, List.getElem?_toArray, List.getElem?_map, hx]
  rfl
set_option maxHeartbeats 4000000 in
set_option maxRecDepth 100000 in
theorem blindText_impl (n : Int) (wd g : Nat) (t : Int) (s : Nat) (n1 : -128 ≤ n) (n2 : n ≤ 127) (h2 : wd < 4294967296) (h3 : g < 4294967296) (t1 : -32768 ≤ t) (t2 : t ≤ 32767) (h6 : s < 4294967296) (w : World) (hT : Tabs w) :
    Calls Tryz.prog 34 #[.agg #[.int .i8 n, .float .f32 wd, .float .f32 g, .int .i16 t, .float .f32 s]] w fun e w' => e = .returned (.string (blindT n wd g t s)) ∧ Below w.heap.size w w' := by
  have kp := hidd (Keep1.start w (blindCells n wd g t s) 56)
  have HV := hidd (fun w => blind_impl n wd g t s n1 n2 t1 t2 w)
  have TW := hidd hT
  clear hT
  rcases bool_or (blindOk n wd g t s) with hok | hok
  · have fin := hidd (blindT_no hok)
    rw [hok] at HV
    clear hok
    go_enter Tryz.func34, Tryz.ntmps34
    go_wp2_with (first | (refine wpList_load_all rfl _ _ rfl _ rfl (blindCells n wd g t s) 5 agg_blind rfl kp.out.row ?_) | (go_at_call 44; refine (HV.out _).mono ?_; rintro e w2 ⟨rfl, hb2⟩; have k2 := hidd (kp.out.step hb2); clear hb2))
    go_ret
    exact ⟨by rw [fin.out]; rfl, k2.out.below⟩
  · have fin := hidd (blindT_yes hok)
    rw [hok] at HV
    obtain ⟨⟨n0, n3⟩, _, _, ⟨t0, t3⟩, _⟩ := blindOk_of hok
    obtain ⟨m, rfl⟩ : ∃ m : Nat, n = m := ⟨n.toNat, by omega⟩
    have lm : (bT1 (m : Int)).length ≤ 9 := dec_small (u := (m : Int).toNat) (by omega)
    have lt : (itoa t).length ≤ 10 := itoa_short ⟨by omega, by omega⟩
    have l1 := bH_len wd
    have l2 := bH_len g
    have l3 := bH_len s
    have HD := hidd (fun w h => decimal_impl (m : Int) (by omega) (by omega) w h)
    have HT := hidd (fun w h => decimal_impl t (by omega) (by omega) w h)
    have X1 := hidd (fun w (h : Tabs w) => text_impl wd h2 w h.tz h.size)
    have X2 := hidd (fun w (h : Tabs w) => text_impl g h3 w h.tz h.size)
    have X3 := hidd (fun w (h : Tabs w) => text_impl s h6 w h.tz h.size)
    have hw1 : IntKind.i64.wrap (m : Int) = m := IntWalk.i64_in _ ⟨by omega, by omega⟩
    have hw2 : IntKind.i64.wrap t = t := IntWalk.i64_in _ ⟨by omega, by omega⟩
    have J := hidd (fun (w : World) (p : Nat) (c : Nat) (hc : ∀ (j : Nat) x, [bytesOf (bT1 m), bytesOf (bH wd), bytesOf (bH g), bytesOf (itoa t), bytesOf (bH s)][j]? = some x → w.cell? ⟨p, 0 + j, none⟩ = some (.string x)) (hp : p < w.heap.size) (h5 : 5 ≤ c) =>
      Tryz.strings_Join p 0 c [bytesOf (bT1 m), bytesOf (bH wd), bytesOf (bH g), bytesOf (itoa t), bytesOf (bH s)] ⟨#[32]⟩ w hc hp (by simp) h5 (by rw [show (⟨#[32]⟩ : ByteArray).data.toList = [32] from rfl, bytesOf_join]; simp; omega))
    rw [show (⟨#[32]⟩ : ByteArray).data.toList = [32] from rfl, bytesOf_join] at J
    rw [show (⟨(itoa (m : Int)).toArray⟩ : ByteArray) = bytesOf (bT1 m) by rw [itoa_nonneg]; rfl] at HD
    rw [show (⟨(itoa t).toArray⟩ : ByteArray) = bytesOf (itoa t) from rfl] at HT
    rw [show (⟨(hexL (canon wd) 8).toArray⟩ : ByteArray) = bytesOf (bH wd) from rfl] at X1
    rw [show (⟨(hexL (canon g) 8).toArray⟩ : ByteArray) = bytesOf (bH g) from rfl] at X2
    rw [show (⟨(hexL (canon s) 8).toArray⟩ : ByteArray) = bytesOf (bH s) from rfl] at X3
    have fin2 := hidd (show (⟨(bT1 (m : Int) ++ [32] ++ bH wd ++ [32] ++ bH g ++ [32] ++ itoa t ++ [32] ++ bH s).toArray⟩ : ByteArray) = blindT m wd g t s from fin.out.symm)
    rw [fin2.out] at J
    generalize bytesOf (bT1 m) = D at *
    generalize bytesOf (bH wd) = A1 at *
    generalize bytesOf (bH g) = A2 at *
    generalize bytesOf (bH s) = A3 at *
    generalize bytesOf (itoa t) = T at *
    clear lm lt l1 l2 l3 hok h2 h3 h6 fin fin2
    go_enter Tryz.func34, Tryz.ntmps34
    go_wp2_with (first | (refine wpList_load_all rfl _ _ rfl _ rfl (blindCells m wd g t s) 5 agg_blind rfl kp.out.row ?_) | (go_at_call 44; refine (HV.out _).mono ?_; rintro e w2 ⟨rfl, hb2⟩; have k2 := hidd (kp.out.step hb2); clear hb2))
    have TR := hidd (TW.out.below k2.out.below)
    refine wp_region_head (fun w' => Below w2.heap.size w2 w') 17 (by kernel_rfl) (by kernel_rfl) (Below.refl _ _).drew ?_
    simp only [List.take_succ_cons, List.take_zero, List.drop_succ_cons, List.drop_zero]
    iterate 1 (refine wpQuiet_step (fun K hK => ?_); go_simp; first | (refine hK _ ?_; clear hK K) | (apply Exists.intro; refine ⟨fun w' hw' => ?_, hK _ ?_⟩; (first | rfl | exact ⟨rfl, rfl⟩ | (fail)); clear hK K))
    (refine wpQuiet_step (fun K hK => ?_); rw [if_pos (by rfl)]; refine quiet_load_cell _ _ rfl _ rfl (.int .i8 m) (bone8) (fun w' hw' => bl_0 (k2.out.row.below hw' k2.out.row.lt)) ?_; go_simp; refine hK _ ?_; clear hK K)
    (refine wpQuiet_step (fun K hK => ?_); go_simp; first | (refine hK _ ?_; clear hK K) | (apply Exists.intro; refine ⟨fun w' hw' => ?_, hK _ ?_⟩; (first | rfl | exact ⟨rfl, rfl⟩ | (fail)); clear hK K))
    (refine wpQuiet_step (fun K hK => ?_); go_simp; first | (refine hK _ ?_; clear hK K) | (apply Exists.intro; refine ⟨fun w' hw' => ?_, hK _ ?_⟩; (first | rfl | exact ⟨rfl, rfl⟩ | ((go_at_call 56; exact (HD.out _ (TR.out.below hw')).mono fun e w'' h => ⟨h.1, hw'.trans (h.2.mono hw'.size)⟩))); clear hK K))
    iterate 1 (refine wpQuiet_step (fun K hK => ?_); go_simp; first | (refine hK _ ?_; clear hK K) | (apply Exists.intro; refine ⟨fun w' hw' => ?_, hK _ ?_⟩; (first | rfl | exact ⟨rfl, rfl⟩ | (fail)); clear hK K))
    (refine wpQuiet_step (fun K hK => ?_); rw [if_pos (by rfl)]; refine quiet_load_cell _ _ rfl _ rfl (.float .f32 wd) (bonef) (fun w' hw' => bl_1 (k2.out.row.below hw' k2.out.row.lt)) ?_; go_simp; refine hK _ ?_; clear hK K)
    (refine wpQuiet_step (fun K hK => ?_); go_simp; first | (refine hK _ ?_; clear hK K) | (apply Exists.intro; refine ⟨fun w' hw' => ?_, hK _ ?_⟩; (first | rfl | exact ⟨rfl, rfl⟩ | ((go_at_call 84; exact (X1.out _ (TR.out.below hw')).mono fun e w'' h => ⟨h.1, hw'.trans (h.2.mono hw'.size)⟩))); clear hK K))
    iterate 1 (refine wpQuiet_step (fun K hK => ?_); go_simp; first | (refine hK _ ?_; clear hK K) | (apply Exists.intro; refine ⟨fun w' hw' => ?_, hK _ ?_⟩; (first | rfl | exact ⟨rfl, rfl⟩ | (fail)); clear hK K))
    (refine wpQuiet_step (fun K hK => ?_); rw [if_pos (by rfl)]; refine quiet_load_cell _ _ rfl _ rfl (.float .f32 g) (bonef) (fun w' hw' => bl_2 (k2.out.row.below hw' k2.out.row.lt)) ?_; go_simp; refine hK _ ?_; clear hK K)
    (refine wpQuiet_step (fun K hK => ?_); go_simp; first | (refine hK _ ?_; clear hK K) | (apply Exists.intro; refine ⟨fun w' hw' => ?_, hK _ ?_⟩; (first | rfl | exact ⟨rfl, rfl⟩ | ((go_at_call 84; exact (X2.out _ (TR.out.below hw')).mono fun e w'' h => ⟨h.1, hw'.trans (h.2.mono hw'.size)⟩))); clear hK K))
    iterate 1 (refine wpQuiet_step (fun K hK => ?_); go_simp; first | (refine hK _ ?_; clear hK K) | (apply Exists.intro; refine ⟨fun w' hw' => ?_, hK _ ?_⟩; (first | rfl | exact ⟨rfl, rfl⟩ | (fail)); clear hK K))
    (refine wpQuiet_step (fun K hK => ?_); rw [if_pos (by rfl)]; refine quiet_load_cell _ _ rfl _ rfl (.int .i16 t) (bone16) (fun w' hw' => bl_3 (k2.out.row.below hw' k2.out.row.lt)) ?_; go_simp; refine hK _ ?_; clear hK K)
    (refine wpQuiet_step (fun K hK => ?_); go_simp; first | (refine hK _ ?_; clear hK K) | (apply Exists.intro; refine ⟨fun w' hw' => ?_, hK _ ?_⟩; (first | rfl | exact ⟨rfl, rfl⟩ | (fail)); clear hK K))
    (refine wpQuiet_step (fun K hK => ?_); go_simp; first | (refine hK _ ?_; clear hK K) | (apply Exists.intro; refine ⟨fun w' hw' => ?_, hK _ ?_⟩; (first | rfl | exact ⟨rfl, rfl⟩ | ((go_at_call 56; exact (HT.out _ (TR.out.below hw')).mono fun e w'' h => ⟨h.1, hw'.trans (h.2.mono hw'.size)⟩))); clear hK K))
    iterate 1 (refine wpQuiet_step (fun K hK => ?_); go_simp; first | (refine hK _ ?_; clear hK K) | (apply Exists.intro; refine ⟨fun w' hw' => ?_, hK _ ?_⟩; (first | rfl | exact ⟨rfl, rfl⟩ | (fail)); clear hK K))
    (refine wpQuiet_step (fun K hK => ?_); rw [if_pos (by rfl)]; refine quiet_load_cell _ _ rfl _ rfl (.float .f32 s) (bonef) (fun w' hw' => bl_4 (k2.out.row.below hw' k2.out.row.lt)) ?_; go_simp; refine hK _ ?_; clear hK K)
    (refine wpQuiet_step (fun K hK => ?_); go_simp; first | (refine hK _ ?_; clear hK K) | (apply Exists.intro; refine ⟨fun w' hw' => ?_, hK _ ?_⟩; (first | rfl | exact ⟨rfl, rfl⟩ | ((go_at_call 84; exact (X3.out _ (TR.out.below hw')).mono fun e w'' h => ⟨h.1, hw'.trans (h.2.mono hw'.size)⟩))); clear hK K))
    refine wpQuiet_nil ?_
    intro w3 b3
    have B3 := hidd b3
    clear b3
    go_wp2_with fail
    refine (J.out _ w3.heap.size 5 (fun j x hx => row5 j x _ rfl hx) (by simp) (Nat.le_refl _)).mono ?_
    rintro e w5 ⟨rfl, hb5⟩
    have B5 := hidd (((k2.out.below.trans (B3.out.mono k2.out.below.size)).alloc (by have := k2.out.below.size; have := B3.out.size; omega) _).trans (hb5.mono (by have := k2.out.below.size; have := B3.out.size; simp; omega)))
    clear hb5
    go_wp2
    go_ret
    exact ⟨rfl, B5.out⟩
end Go.Proofs.YtddkiemipedgcaaGreatDoor
