/-
  The number with a text: the reference's reading.
-/
import Derived.Test.YtfiifnlnkedahaaDoorWpu
namespace Go.Proofs.Hx
open Go
/-- What ReadNumber answers. -/
def numRes : Option Nat → Value
  | some v => .tuple #[.float .f32 v, .int .i64 0]
  | none => .tuple #[.float .f32 0, .int .i64 5]
theorem readHex_some {f : Nat → Option Nat} {a n d : Nat} {c : UInt8} {cs : List UInt8} (hn : c.toNat = n) (h : f n = some d) : readHex f a (c :: cs) = readHex f (a * 16 + d) cs := by
  subst hn; rw [readHex, h]
theorem readHex_none {f : Nat → Option Nat} {a n : Nat} {c : UInt8} {cs : List UInt8} (hn : c.toNat = n) (h : f n = none) : readHex f a (c :: cs) = none := by
  subst hn; rw [readHex, h]
/-- The text T is the number a's, or (where ok is false) no number's. -/
def Reads (T : ByteArray) (a : Nat) (ok : Bool) : Prop := numRead T.data.toList = if ok then some a else none
def ReadPost (T : ByteArray) (e : Ending) : Prop := ∃ a ok, e = .returned (.tuple #[.float .f32 a, .bool ok]) ∧ Reads T a ok
theorem idx_text {P : Program} (t : TypeId) (ht : P.underlying t = some .string) (T : ByteArray) (k : Nat) (hk : k < T.size) :
    ∃ c : UInt8, T.data.toList.drop k = c :: T.data.toList.drop (k + 1) ∧ ∀ w, (Instr.index t (.string T) (.int .i64 (k : Int))).run P w = .ok (.int .u8 (c.toNat : Int)) w := by
  have hk' : k < T.data.toList.length := by have := Lib.size_eq T; omega
  refine ⟨T.data.toList[k], List.drop_eq_getElem_cons hk', fun w => ?_⟩
  rw [run_index_string w t T .i64 k ht, dif_pos ⟨by omega, by omega⟩]
  rfl
end Go.Proofs.Hx
namespace Go.Proofs.YtfiifnlnkedahaaDoor
open Go.RowKit Go.Proofs.Fl Go.Proofs.Hx
set_option maxHeartbeats 1600000 in
set_option maxRecDepth 100000 in
theorem read_spec (T : ByteArray) (hT : T.size ≤ 9223372036854775807) (w : World) : Calls Tryd.prog 44 #[.string T] w fun e w' => ReadPost T e ∧ w' = w := by
  have hsz : T.size = T.data.toList.length := Lib.size_eq T
  by_cases h8 : T.size = 8
  · have hl8 : T.data.toList.length = 8 := by omega
    have HB := hidd (fun a w => bits_spec a w)
    go_enter Tryd.func44, Tryd.ntmps44
    go_wp2
    go_loopw [4, 5] (fun vb vi wr => ∃ k a : Nat, k ≤ 8 ∧ vi = .int .i64 k ∧ vb = .int .u32 (a : Int) ∧ wr = w ∧ Hid (a < 16 ^ k ∧ readHex lv 0 T.data.toList = readHex lv a (T.data.toList.drop k))) (fun _ vi _ => (8 - intOf vi).toNat)
    case atStart => exact ⟨0, 0, by omega, rfl, rfl, rfl, by decide, rfl⟩
    case round =>
      obtain ⟨k, a, hk, rfl, rfl, rfl, hh⟩ := hrel
      by_cases hlt : k < 8
      · obtain ⟨c, hc, hidx⟩ := idx_text (P := Tryd.prog) 9 Tryd.underlying9 T k (by omega)
        obtain ⟨ha, hr⟩ := hh.out
        clear hh
        rw [hc] at hr
        have hn := c.toNat_lt
        obtain ⟨n, hcn⟩ : ∃ n, c.toNat = n := ⟨_, rfl⟩
        rw [hcn] at hidx hn
        have hp : 16 ^ k ≤ 268435456 := by
          have := Nat.pow_le_pow_right (show 0 < 16 by decide) (show k ≤ 7 by omega)
          simpa using this
        have ha7 : a < 268435456 := by omega
        have hpk : 16 ^ (k + 1) = 16 ^ k * 16 := Nat.pow_succ ..
        clear hc
        by_cases hd : 48 ≤ n ∧ n ≤ 57
        · obtain ⟨d0, d1⟩ := hd
          have e : lv n = some (n - 48) := by unfold lv; rw [if_pos ⟨d0, d1⟩]
          rw [readHex_some hcn e] at hr
          have HR := hidd hr
          have HA := hidd ha
          have HP := hidd hpk
          clear hr e ha hpk hp hcn
          go_wp2
          go_roundw
          case rel => exact ⟨k + 1, a * 16 + (n - 48), by omega, by first | rfl | (congr 1; omega), by congr 1; omega, by first | rfl | trivial, by rw [HP.out]; have := HA.out; omega, HR.out⟩
          case measure => simp [intOf]; omega
        · by_cases hd2 : 97 ≤ n ∧ n ≤ 102
          · obtain ⟨d0, d1⟩ := hd2
            have e : lv n = some (n - 87) := by unfold lv; rw [if_neg hd, if_pos ⟨d0, d1⟩]
            rw [readHex_some hcn e] at hr
            have HR := hidd hr
            have HA := hidd ha
            have HP := hidd hpk
            clear hr e ha hpk hp hcn
            go_wp2
            go_roundw
            case rel => exact ⟨k + 1, a * 16 + (n - 87), by omega, by first | rfl | (congr 1; omega), by congr 1; omega, by first | rfl | trivial, by rw [HP.out]; have := HA.out; omega, HR.out⟩
            case measure => simp [intOf]; omega
          · have e : lv n = none := by unfold lv; rw [if_neg hd, if_neg hd2]
            rw [readHex_none hcn e] at hr
            have hnone : numRead T.data.toList = none := by unfold numRead; rw [if_pos hl8, hr]; rfl
            have HN := hidd hnone
            clear hr hnone e ha hpk hp hcn
            go_wp2
            all_goals (go_ret2; exact ⟨⟨0, false, rfl, HN.out⟩, rfl⟩)
      · obtain rfl : k = 8 := by omega
        obtain ⟨ha, hr⟩ := hh.out
        clear hh
        rw [List.drop_eq_nil_of_le (by omega)] at hr
        have hnum : numRead T.data.toList = if canon a = a then some a else none := by
          unfold numRead; rw [if_pos hl8, hr]; unfold readHex; rw [Option.filter_some]; simp
        have HN := hidd hnum
        clear hr hnum ha
        go_wp2_with (go_at_call 76; refine (HB.out _ _).mono ?_; rintro e w' ⟨rfl, rfl⟩)
        go_ret2
        refine ⟨⟨a, canon a == a, ?_, ?_⟩, rfl⟩
        · have e : ((canon a : Int) == (a : Int)) = (canon a == a) := by
            rw [Bool.eq_iff_iff]; simp; omega
          rw [← e]; rfl
        · unfold Reads; rw [HN.out]; simp
  · have hnone : numRead T.data.toList = none := by unfold numRead; rw [if_neg (by omega)]
    have HN := hidd hnone
    clear hnone hsz
    go_enter Tryd.func44, Tryd.ntmps44
    go_wp2
    go_ret2
    exact ⟨⟨0, false, rfl, HN.out⟩, rfl⟩
theorem num_spec (T : ByteArray) (hT : T.size ≤ 9223372036854775807) (w : World) : Calls Tryd.prog 12 #[.string T] w fun e w' => e = .returned (numRes (numRead T.data.toList)) ∧ w' = w := by
  have H := hidd (read_spec T hT w)
  go_enter Tryd.func12, Tryd.ntmps12
  go_wp2_with fail
  refine H.out.mono ?_
  rintro e w' ⟨⟨a, ok, rfl, hr⟩, rfl⟩
  unfold Reads at hr
  have HR := hidd hr
  clear hr
  cases ok
  · go_wp2
    go_ret2
    exact ⟨by rw [show numRead T.data.toList = none from HR.out]; rfl, rfl⟩
  · go_wp2
    go_ret2
    exact ⟨by rw [show numRead T.data.toList = some a from HR.out]; rfl, rfl⟩
end Go.Proofs.YtfiifnlnkedahaaDoor
