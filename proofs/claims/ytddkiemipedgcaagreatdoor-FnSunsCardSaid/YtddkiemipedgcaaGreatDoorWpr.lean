/-
  The number with a text: the reference's reading.
-/
import Derived.Test.YtddkiemipedgcaaGreatDoorWpu
namespace Go.Proofs.Hx
open Go
/-- What ReadNumber answers. -/
def numRes : Option Nat → Value
  | some v => .tuple #[.float .f32 v, .int .i64 0]
  | none => .tuple #[.float .f32 0, .int .i64 5]
theorem readHex_some {f : Nat → Option Nat} {a n d : Nat} {c : UInt8} {cs : List UInt8} (hn : c.toNat = n) (h : f n = some d) : readHex f a (c :: cs) = readHex f (a * 16 + d) cs := by
  subst hn; rw [readHex, h]
theorem readHex_none {f : Nat → Option Nat} {a n : Nat} {c : UInt8} {cs : List UInt8} (hn : c.toNat = n) (h : f n = none) : readHex f a (c :: cs) = none := by
  subst hn; rw [readHex, h]
/-- The text T is the number a's, or (where ok is false) no number's. -/
def Reads (T : ByteArray) (a : Nat) (ok : Bool) : Prop := numRead T.data.toList = if ok then some a else none
def ReadPost (T : ByteArray) (e : Ending) : Prop := ∃ a ok, e = .returned (.tuple #[.float .f32 a, .bool ok]) ∧ Reads T a ok
theorem idx_text {P : Program} (t : TypeId) (ht : P.underlying t = some .string) (T : ByteArray) (k : Nat) (hk : k < T.size) :
    ∃ c : UInt8, T.data.toList.drop k = c :: T.data.toList.drop (k + 1) ∧ ∀ w, (Instr.index t (.string T) (.int .i64 (k : Int))).run P w = .ok (.int .u8 (c.toNat : Int)) w := by
  have hk' : k < T.data.toList.length := by have := Lib.size_eq T; omega
  refine ⟨T.data.toList[k], List.drop_eq_getElem_cons hk', fun w => ?_⟩
  rw [run_index_string w t T .i64 k ht, dif_pos ⟨by omega, by omega⟩]
  rfl
end Go.Proofs.Hx
namespace Go.Proofs.YtddkiemipedgcaaGreatDoor
open Go.RowKit Go.Proofs.Fl Go.Proofs.Hx
end Go.Proofs.YtddkiemipedgcaaGreatDoor
