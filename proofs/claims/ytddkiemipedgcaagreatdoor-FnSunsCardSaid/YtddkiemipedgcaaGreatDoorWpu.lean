/-
  strconv.ParseUint at base 16 and size 32, of a text of eight bytes.
-/
import Derived.Test.YtddkiemipedgcaaGreatDoorWh
import Derived.Lib.Strings
import Derived.Lib.Walk
import Derived.Lib.ConvBytes
import Derived.Lib.ParseIntBMem
import Derived.Lib.AtoiErrMem
import Derived.Lib.Hide
import Derived.Laws.Strings3
import Derived.Laws.Closers25
import Derived.Laws.Closers25b
import Derived.WalkKit
import Derived.BigCall
import Derived.BigGuard
namespace Go.Proofs.Hx
open Go
/-- A digit of base 16, small letters and great ones. -/
def hv (c : Nat) : Option Nat := if 48 ≤ c ∧ c ≤ 57 then some (c - 48) else if 97 ≤ c ∧ c ≤ 102 then some (c - 87) else if 65 ≤ c ∧ c ≤ 70 then some (c - 55) else none
/-- A digit of base 16, small letters alone. -/
def lv (c : Nat) : Option Nat := if 48 ≤ c ∧ c ≤ 57 then some (c - 48) else if 97 ≤ c ∧ c ≤ 102 then some (c - 87) else none
def readHex (f : Nat → Option Nat) : Nat → List UInt8 → Option Nat
  | a, [] => some a
  | a, c :: cs => match f c.toNat with
    | some d => readHex f (a * 16 + d) cs
    | none => none
theorem hv_lt {c d : Nat} (h : hv c = some d) : d < 16 := by
  unfold hv at h
  split at h
  · cases h; omega
  · split at h
    · cases h; omega
    · split at h
      · cases h; omega
      · cases h
theorem lv_hv {c d : Nat} (h : lv c = some d) : hv c = some d := by
  unfold lv at h
  unfold hv
  split at h
  · rename_i h1; rw [if_pos h1]; exact h
  · rename_i h1
    rw [if_neg h1]
    split at h
    · rename_i h2; rw [if_pos h2]; exact h
    · cases h
theorem lv_hex (d : Nat) (h : d < 16) : lv (hexC d).toNat = some d := by
  have : ∀ m : Fin 16, lv (hexC m.val).toNat = some m.val := by decide +kernel
  exact this ⟨d, h⟩
theorem hex_lv {c : UInt8} {d : Nat} (h : lv c.toNat = some d) : d < 16 ∧ hexC d = c := by
  refine ⟨hv_lt (lv_hv h), ?_⟩
  have hc := c.toNat_lt
  unfold lv at h
  have e : c = UInt8.ofNat c.toNat := by simp
  split at h
  · cases h
    rw [e]
    unfold hexC
    rw [if_pos (by simp; omega)]
    congr 1
    simp; omega
  · split at h
    · cases h
      rw [e]
      unfold hexC
      rw [if_neg (by simp; omega)]
      congr 1
      simp; omega
    · cases h
theorem read_low {l : List UInt8} : ∀ {a v : Nat}, readHex lv a l = some v → readHex hv a l = some v := by
  induction l with
  | nil => intro a v h; exact h
  | cons c cs ih =>
    intro a v h
    unfold readHex at h ⊢
    cases hc : lv c.toNat with
    | none => rw [hc] at h; cases h
    | some d => rw [hc] at h; rw [lv_hv hc]; exact ih h
/-- What is read is what is written .. -/
theorem hexL_of_read {l : List UInt8} : ∀ {a v : Nat}, readHex lv a l = some v → v / 16 ^ l.length = a ∧ hexL v l.length = l := by
  induction l with
  | nil => intro a v h; cases h; exact ⟨by simp, rfl⟩
  | cons c cs ih =>
    intro a v h
    unfold readHex at h
    cases hc : lv c.toNat with
    | none => rw [hc] at h; cases h
    | some d =>
      rw [hc] at h
      obtain ⟨h1, h2⟩ := ih h
      obtain ⟨hd, he⟩ := hex_lv hc
      refine ⟨?_, ?_⟩
      · rw [List.length_cons, Nat.pow_succ, ← Nat.div_div_eq_div_mul, h1]; omega
      · rw [List.length_cons, hexL, h1, h2, show (a * 16 + d) % 16 = d by omega, he]
/-- .. and what is written is read. -/
theorem read_of_hexL (x : Nat) : ∀ (j a : Nat), x / 16 ^ j = a → readHex lv a (hexL x j) = some x
  | 0, a, h => by simp at h; subst h; rfl
  | j + 1, a, h => by
    unfold hexL readHex
    rw [lv_hex _ (Nat.mod_lt _ (by decide))]
    refine read_of_hexL x j _ ?_
    rw [Nat.pow_succ, ← Nat.div_div_eq_div_mul] at h
    omega
/-- The number with a text of eight digits, if it is one's own text. -/
noncomputable def numRead (l : List UInt8) : Option Nat := if l.length = 8 then (readHex lv 0 l).filter (fun v => canon v == v) else none
theorem read_bound {f : Nat → Option Nat} (hf : ∀ c d, f c = some d → d < 16) {l : List UInt8} : ∀ {a v : Nat}, readHex f a l = some v → v < (a + 1) * 16 ^ l.length := by
  induction l with
  | nil => intro a v h; cases h; simp
  | cons c cs ih =>
    intro a v h
    unfold readHex at h
    cases hc : f c.toNat with
    | none => rw [hc] at h; cases h
    | some d =>
      rw [hc] at h
      have h1 := ih h
      have h2 := hf _ _ hc
      rw [List.length_cons, Nat.pow_succ, Nat.mul_comm (16 ^ cs.length), ← Nat.mul_assoc]
      exact Nat.lt_of_lt_of_le h1 (Nat.mul_le_mul_right _ (by omega))
/-- The program's test comes to the same. -/
theorem read_agrees (l : List UInt8) (h8 : l.length = 8) : numRead l = (readHex hv 0 l).filter (fun v => decide (hexL (canon v) 8 = l)) := by
  unfold numRead
  rw [if_pos h8]
  have hback : ∀ v, v < 4294967296 → hexL (canon v) 8 = l → readHex lv 0 l = some (canon v) := by
    intro v hv he
    rw [← he]
    exact read_of_hexL _ 8 0 (Nat.div_eq_of_lt (canon_lt hv))
  cases hl : readHex lv 0 l with
  | some v =>
    rw [read_low hl]
    obtain ⟨_, h2⟩ := hexL_of_read hl
    rw [h8] at h2
    have hb := read_bound (fun c d h => hv_lt (lv_hv h)) hl
    rw [h8] at hb
    by_cases hc : canon v = v
    · rw [Option.filter_some, Option.filter_some, if_pos (by simp [hc]), if_pos (by simp [hc, h2])]
    · rw [Option.filter_some, Option.filter_some, if_neg (by simp [hc]), if_neg]
      intro h
      have := hback v (by simpa using hb) (of_decide_eq_true h)
      rw [hl] at this
      exact hc (Option.some.inj this).symm
  | none =>
    cases hh : readHex hv 0 l with
    | none => rfl
    | some v =>
      have hb := read_bound (fun c d h => hv_lt h) hh
      rw [h8] at hb
      rw [Option.filter_some, if_neg]
      · rfl
      · intro h
        have := hback v (by simpa using hb) (of_decide_eq_true h)
        rw [hl] at this
        cases this
end Go.Proofs.Hx
