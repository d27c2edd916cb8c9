/-
  Texts of whole numbers, written and read: the reference's functions.
-/
import Derived.Test.YtddkiemipedgcaaGreatDoorPw
import Derived.Test.YtddkiemipedgcaaGreatDoorWpr
import Derived.Lib.ConvBytes
import Derived.Deep.RegionWith
import Derived.IntWalk
import Derived.Lib.ItoaLen
namespace Go.Proofs.YtddkiemipedgcaaGreatDoor
open Go.RowKit Go.Proofs.Fl Go.Proofs.Hx
open Go.Lib hiding intOf
set_option linter.unusedVariables false
theorem bytes_text (l : List UInt8) : (⟨l.toArray⟩ : ByteArray).data.toList = l := rfl
theorem text_bytes (s : ByteArray) : (⟨s.data.toList.toArray⟩ : ByteArray) = s := rfl
theorem text_app (a b : List UInt8) : (⟨a.toArray⟩ : ByteArray) ++ ⟨b.toArray⟩ = ⟨(a ++ b).toArray⟩ := by
  apply ByteArray.ext
  rw [ByteArray.data_append]
  simp
/-- A text of one digit. -/
def digT (d : Nat) : ByteArray := ⟨[UInt8.ofNat (48 + d)].toArray⟩
theorem decDigits_step {n : Nat} (h : ¬ n < 10) : decDigits n = decDigits (n / 10) ++ [UInt8.ofNat (48 + n % 10)] := by rw [decDigits, dif_neg h]
theorem decDigits_size (n : Nat) (hn : n ≤ 1000000000000) : (decDigits n).length ≤ 20 := by rw [decDigits_length]; exact nDigits_le20 n (by omega)
theorem add_text {P : Program} (a b : List UInt8) (h : a.length + b.length ≤ 9223372036854775807) (w : World) : (Op.stringOp .add ⟨a.toArray⟩ ⟨b.toArray⟩).run P w = .ok (.string ⟨(a ++ b).toArray⟩) w := by
  rw [run_string_add_sum w _ _ (by simp [ByteArray.size]; omega), ByteArray.mk_append_mk]
/-- A text of one byte out of a row of one cell. -/
theorem conv_one {P : Program} {src dst e : TypeId} (h1 : P.underlying src = some (.slice e)) (h2 : P.underlying e = some (.int .u8)) (h3 : P.underlying dst = some .string) {w : World} {p : Nat} {d : Nat} {z : Int} (hd : d < 10) (hz : z = 48 + (d : Int))
    (hc : w.cell? ⟨p, 0, none⟩ = some (.int .u8 z)) : (convert src dst (.slice (some ⟨p, 0, none⟩) 1 1)).run P w = .ok (.string (digT d)) w := by
  subst hz
  have h := run_convert_bytes_back (P := P) w src dst e ⟨p, 0, none⟩ 1 [UInt8.ofNat (48 + d)] h1 h2 h3 (fun i hi => by
    obtain rfl : i = 0 := by simpa using hi
    have e : ([UInt8.ofNat (48 + d)][0]'hi).toNat = 48 + d := digit_toNat hd
    rw [e]
    exact hc)
  exact h
theorem below_cell {W w1 : World} (hb : Below W.heap.size W w1) : ∀ b o, b < W.heap.size → w1.cell? ⟨b, o, none⟩ = W.cell? ⟨b, o, none⟩ := fun b o h => hb.cell (p := ⟨b, o, none⟩) h
end Go.Proofs.YtddkiemipedgcaaGreatDoor
