/-
  Texts of whole numbers, written and read: the program's functions, by the library's contracts.
-/
import Derived.Test.YtddkiemipedgcaaGreatDoorWi
import Derived.Test.YtddkiemipedgcaaGreatDoorWpi
import Derived.Test.YtddkiemipedgcaaGreatDoorRt
import Derived.Test.YtddkiemipedgcaaGreatDoorSf
import Derived.Test.YtddkiemipedgcaaGreatDoorSp
import Derived.Lib.AppendIntMem
import Derived.Lib.ParseIntBTie
namespace Go.Proofs.YtddkiemipedgcaaGreatDoor
open Go.RowKit Go.Proofs.Fl Go.Proofs.Hx
open Go.Lib hiding intOf
set_option linter.unusedVariables false
/-- How 'readWhole' ends. -/
def WholePost (T : ByteArray) (e : Ending) : Prop := ∃ a ok, e = .returned (.tuple #[.int .i64 a, .bool ok]) ∧ -9223372036854775808 ≤ a ∧ a ≤ 9223372036854775807 ∧ WholeP T.data.toList a ok
theorem decimal_impl (a : Int) (h0 : -9223372036854775808 ≤ a) (h1 : a ≤ 9223372036854775807) (w : World) (hT : Tabs w) :
    Calls Tryz.prog 56 #[.int .i64 a] w fun e w' => e = .returned (.string ⟨(itoa a).toArray⟩) ∧ Below w.heap.size w w' := by
  have H := hidd (Tryz.strconv_FormatInt_10 a h0 h1 w hT.pow)
  obtain ⟨R, hR⟩ : ∃ R : ByteArray, R = ⟨(itoa a).toArray⟩ := ⟨_, rfl⟩
  rw [← hR] at H ⊢
  clear hT hR
  go_enter Tryz.func56, Tryz.ntmps56
  go_wp2_with fail
  refine H.out.mono ?_
  rintro e w2 ⟨rfl, hw2⟩
  have B := hidd (show Below w.heap.size w w2 from by
    obtain ⟨k, os, rfl⟩ := hw2
    exact Lib.below_grow w.heap.size w (Nat.le_refl _) k os)
  clear hw2
  go_wp2
  go_ret
  exact ⟨rfl, B.out⟩
set_option maxHeartbeats 1600000 in
theorem whole_any (T : ByteArray) (hT : T.size ≤ 1048576) (w : World) (hW : Tabs w) (hE : Errs w) :
    Calls Tryz.prog 54 #[.string T] w fun e w' => WholePost T e ∧ Below w.heap.size w w' := by
  have TW := hidd hW
  have EE := hidd hE
  cases hp : parseIntB 64 T.data.toList with
  | ok v =>
    obtain ⟨v0, v1⟩ := parseIntB_bounds hp
    have v0' : -9223372036854775808 ≤ v := by simpa using v0
    have v1' : v ≤ 9223372036854775807 := by have : v < 9223372036854775808 := by simpa using v1
                                             omega
    have H := hidd (Tryz.strconv_ParseInt_10_at64_ok T (by omega) v hp w)
    have HD := hidd (fun w h => decimal_impl v v0' v1' w h)
    by_cases he : itoa v = T.data.toList
    · have fin := hidd (WholeP.yes he)
      have eT : (⟨(itoa v).toArray⟩ : ByteArray) = T := by rw [he]
      rw [eT] at HD
      clear hp v0 v1 he eT hW hE
      go_enter Tryz.func54, Tryz.ntmps54
      go_wp2_with fail
      refine H.out.mono ?_
      rintro e w2 ⟨rfl, hw2⟩
      have B := hidd (show Below w.heap.size w w2 from by
        rcases hw2 with rfl | ⟨t, rfl⟩
        · exact Below.refl _ _
        · exact Lib.bytesWorld_below _ _ _)
      clear hw2
      go_wp2_with (go_at_call 56; ((with_reducible refine (HD.out _ (TW.out.below B.out)).mono ?_); rintro e w3 ⟨rfl, hb3⟩; have B3 := hidd (B.out.trans (hb3.mono B.out.size)); clear hb3))
      go_ret2
      exact ⟨⟨v, true, rfl, v0', v1', fin.out⟩, B3.out⟩
    · have fin := hidd (WholeP.other (a := v) hp he)
      obtain ⟨S, hS⟩ : ∃ S : ByteArray, S = ⟨(itoa v).toArray⟩ := ⟨_, rfl⟩
      have hne : (S.toList == T.toList) = false := bytes_ne (by intro e; rw [← e, hS] at he; exact he rfl)
      rw [← hS] at HD
      clear hp v0 v1 he hS hW hE
      go_enter Tryz.func54, Tryz.ntmps54
      go_wp2_with fail
      refine H.out.mono ?_
      rintro e w2 ⟨rfl, hw2⟩
      have B := hidd (show Below w.heap.size w w2 from by
        rcases hw2 with rfl | ⟨t, rfl⟩
        · exact Below.refl _ _
        · exact Lib.bytesWorld_below _ _ _)
      clear hw2
      go_wp2_with (go_at_call 56; ((with_reducible refine (HD.out _ (TW.out.below B.out)).mono ?_); rintro e w3 ⟨rfl, hb3⟩; have B3 := hidd (B.out.trans (hb3.mono B.out.size)); clear hb3))
      go_ret2
      exact ⟨⟨v, false, rfl, v0', v1', fin.out⟩, B3.out⟩
  | range =>
    obtain ⟨t, x, hE0⟩ := hE.far
    have H := hidd (Tryz.strconv_ParseInt_10_at64_range T (by omega) hp _ w hE0 (.inr ⟨t, x, rfl⟩))
    obtain ⟨v, hv⟩ : ∃ v, intSat 64 T.data.toList = v := ⟨_, rfl⟩
    have hvb : -9223372036854775808 ≤ v ∧ v ≤ 9223372036854775807 := by rw [← hv, intSat_64]; exact atoiSat_bounds _
    obtain ⟨v0', v1'⟩ := hvb
    have fin := hidd (WholeP.bad (l := T.data.toList) (a := v) (fun v h => by rw [hp] at h; cases h))
    rw [hv] at H
    clear hp hW hE hE0 hv
    go_enter Tryz.func54, Tryz.ntmps54
    go_wp2_with fail
    refine H.out.mono ?_
    rintro e w2 ⟨N, rfl, hN, _, hb⟩
    have B := hidd hb
    clear hb
    go_wp2
    go_ret2
    exact ⟨⟨v, false, rfl, v0', v1', fin.out⟩, B.out⟩
  | _ =>
    obtain ⟨t, x, hE0⟩ := hE.no
    have H : Hid (Calls Tryz.prog 105 #[.string T, .int .i64 10, .int .i64 64] w fun e w' => ∃ u p, e = .returned (.tuple #[.int .i64 0, .iface u p]) ∧ Below w.heap.size w w') :=
      hidd ((Go.Proofs.Any.strconv_ParseInt_10_at64_syntax Tryz.laysC174 T (by omega) hp _ w hE0 (.inr ⟨t, x, rfl⟩)).mono fun e w' ⟨N, h1, _, _, h4⟩ => ⟨_, _, h1, h4⟩)
    have fin := hidd (WholeP.bad (l := T.data.toList) (a := 0) (fun v h => by rw [hp] at h; cases h))
    clear hp hW hE hE0
    go_enter Tryz.func54, Tryz.ntmps54
    go_wp2_with fail
    refine H.out.mono ?_
    rintro e w2 ⟨u, p, rfl, hb⟩
    have B := hidd hb
    clear hb
    go_wp2
    go_ret2
    exact ⟨⟨0, false, rfl, by omega, by omega, fin.out⟩, B.out⟩
end Go.Proofs.YtddkiemipedgcaaGreatDoor
