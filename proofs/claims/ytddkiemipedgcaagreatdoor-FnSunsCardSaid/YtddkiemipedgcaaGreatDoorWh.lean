/-
  A number's text: the eight lower-case digits of its bits.
-/
import Derived.Test.YtddkiemipedgcaaGreatDoorWd
import Derived.Test.YtddkiemipedgcaaGreatDoorWe
import Derived.Test.YtddkiemipedgcaaGreatDoorRw
import Derived.Lib.ItoaNum
import Derived.Lib.ItoaMem
import Derived.BigGuard
namespace Go.Proofs.Hx
open Go
/-- The sixteen digits. -/
def hexC (n : Nat) : UInt8 := if n < 10 then UInt8.ofNat (48 + n) else UInt8.ofNat (87 + n)
/-- The last j digits of u, base 16. -/
def hexL (u : Nat) : Nat → List UInt8
  | 0 => []
  | j + 1 => hexC (u / 16 ^ j % 16) :: hexL u j
theorem hexL_length (u : Nat) : ∀ j, (hexL u j).length = j
  | 0 => rfl
  | j + 1 => by simp [hexL, hexL_length u j]
theorem hexL_zero (u : Nat) (m : Nat) (h : u < 16 ^ m) : ∀ d, hexL u (m + d) = List.replicate d 48 ++ hexL u m
  | 0 => rfl
  | d + 1 => by
    have h1 : u / 16 ^ (m + d) = 0 := Nat.div_eq_of_lt (Nat.lt_of_lt_of_le h (Nat.pow_le_pow_right (by decide) (by omega)))
    rw [show m + (d + 1) = (m + d) + 1 by omega, hexL, h1, hexL_zero u m h d, List.replicate_succ]
    rfl
def cellB (b : UInt8) : Value := .int .u8 (b.toNat : Int)
/-- A row of n cells whose last j are the last j digits of u. -/
def hexRow (n u j : Nat) : Array Value := (List.replicate (n - j) (Value.int .u8 0) ++ (hexL u j).map cellB).toArray
theorem hexRow_size {n u j : Nat} (h : j ≤ n) : (hexRow n u j).size = n := by simp [hexRow, hexL_length]; omega
theorem hexRow_zero (n u : Nat) : hexRow n u 0 = Array.replicate n (Value.int .u8 0) := by simp [hexRow, hexL]
theorem hexRow_set {n u j : Nat} (h : j < n) : (hexRow n u j).setIfInBounds (n - (j + 1)) (cellB (hexC (u / 16 ^ j % 16))) = hexRow n u (j + 1) := by
  obtain ⟨m, rfl⟩ : ∃ m, n = m + (j + 1) := ⟨n - (j + 1), by omega⟩
  unfold hexRow
  rw [show m + (j + 1) - j = m + 1 by omega, show m + (j + 1) - (j + 1) = m by omega]
  simp [hexL, List.replicate_succ', List.append_assoc]
theorem hexRow_at {n u j i : Nat} (h : j ≤ n) (hi : i < n) : ∃ x : Value, (hexRow n u j)[i]? = some x := by
  have : i < (hexRow n u j).size := by rw [hexRow_size h]; exact hi
  exact ⟨_, Array.getElem?_eq_getElem this⟩
theorem hexRow_digit {n u j i : Nat} (h : j ≤ n) (hi : i < (hexL u j).length) : (hexRow n u j)[n - j + i]? = some (.int .u8 ((hexL u j)[i].toNat : Int)) := by
  simp only [hexRow, List.getElem?_toArray]
  rw [List.getElem?_append_right (by simp)]
  simp [cellB, hi]
def HexOk (s : ByteArray) : Prop := ∀ m, m < 16 → s.data[m]? = some (hexC m)
theorem hex16 {s : ByteArray} (h : ∀ m : Fin 16, s.data[m.val]? = some (hexC m.val)) : HexOk s := fun m hm => h ⟨m, hm⟩
theorem idx_hex {P : Program} {s : ByteArray} (hs : HexOk s) (t : TypeId) (ht : P.underlying t = some .string) (k : IntKind) (i : Int) (n : Nat) (hi : i = n) (hn : n < 16) (w : World) :
    (Instr.index t (.string s) (.int k i)).run P w = .ok (cellB (hexC n)) w := by
  subst hi
  obtain ⟨h1, h2⟩ := Array.getElem?_eq_some_iff.1 (hs n hn)
  rw [run_index_string w t s k n ht, dif_pos ⟨by omega, by show (n : Int) < s.data.size; omega⟩]
  have e : ∀ (j : Nat) (hj : j < s.size), j = n → (s[j]'hj) = hexC n := fun j hj e => by subst e; exact h2
  rw [e _ _ (by omega)]
  rfl
/-- The bits of a number's text. -/
noncomputable def canon (a : Nat) : Nat := if Fl.fne a a then 2143289344 else a
theorem canon_lt {a : Nat} (h : a < 4294967296) : canon a < 4294967296 := by unfold canon; split <;> omega
end Go.Proofs.Hx
namespace Go.Proofs.YtddkiemipedgcaaGreatDoor
open Go.RowKit Go.Proofs.Fl Go.Proofs.Hx
end Go.Proofs.YtddkiemipedgcaaGreatDoor
