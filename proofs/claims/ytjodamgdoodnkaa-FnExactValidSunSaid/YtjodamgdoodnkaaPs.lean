/-
  Suns: 48 numbers, 24 heights and 24 turns. What the program and its reference compute of them: no program and no memory here.
-/
import Derived.Test.YtjodamgdoodnkaaPl
import Derived.Laws.World
namespace Go.Proofs.Pl
open Go.Proofs.Fl

def hgt (L : List Int) (h : Nat) : Int := L.getD h 0
def trn (L : List Int) (h : Nat) : Int := L.getD (24 + h) 0
def sunCells (L : List Int) : Array Value := (L.map (Value.int .i16)).toArray
theorem sunCells_size (L : List Int) : (sunCells L).size = L.length := by simp [sunCells]
theorem sunCells_at {L : List Int} {i : Nat} (h : i < L.length) : (sunCells L)[i]? = some (.int .i16 (L.getD i 0)) := by
  simp [sunCells, h]
theorem sunCells_hgt {L : List Int} (hL : L.length = 48) {i : Nat} (h : i < 24) : (sunCells L)[i]? = some (.int .i16 (hgt L i)) := sunCells_at (by omega)
theorem sunCells_trn {L : List Int} (hL : L.length = 48) {i : Nat} (h : i < 24) : (sunCells L)[24 + i]? = some (.int .i16 (trn L i)) := sunCells_at (by omega)

theorem hgt_bd {L : List Int} (hr : ∀ x ∈ L, -32768 ≤ x ∧ x ≤ 32767) (i : Nat) : -32768 ≤ L.getD i 0 ∧ L.getD i 0 ≤ 32767 := by
  by_cases h : i < L.length
  · have e : L.getD i 0 = L[i] := by simp [h]
    rw [e]; exact hr _ (List.getElem_mem h)
  · have e : L.getD i 0 = 0 := by simp [List.getElem?_eq_none (show L.length ≤ i by omega)]
    rw [e]; omega

theorem sun_lo {L : List Int} : (sunCells L).extract 0 (0 + 24) = sunCells (L.take 24) := by
  unfold sunCells; simp [List.map_take]
theorem sun_hi {L : List Int} (hL : L.length = 48) : (sunCells L).extract 24 (24 + 24) = sunCells (L.drop 24) := by
  unfold sunCells
  simp only [List.extract_toArray, List.extract_eq_take_drop]
  rw [List.map_drop, List.take_of_length_le (by simp; omega)]
/-- The first k numbers put over noughts. -/
def upto (L : List Int) (k : Nat) : List Int := L.take k ++ List.replicate (L.length - k) 0
theorem upto_all (L : List Int) : upto L L.length = L := by simp [upto]
theorem upto_len {L : List Int} {k : Nat} (h : k ≤ L.length) : (upto L k).length = L.length := by simp [upto]; omega
theorem upto_succ {L : List Int} {k : Nat} (h : k < L.length) : (sunCells (upto L k)).setIfInBounds k (.int .i16 (hgt L k)) = sunCells (upto L (k + 1)) := by
  unfold sunCells hgt
  rw [List.setIfInBounds_toArray, ← List.map_set]
  congr 2
  apply List.ext_getElem?
  intro i
  have e : L.getD k 0 = L[k] := by simp [h]
  rw [e]
  unfold upto
  rw [List.getElem?_set]
  have hl : (L.take k).length = k := by simp; omega
  have hl2 : (L.take (k + 1)).length = k + 1 := by simp; omega
  by_cases c : k = i
  · subst c
    rw [if_pos rfl, if_pos (by simp; omega), List.getElem?_append_left (by omega)]
    simp
  · rw [if_neg c]
    by_cases d : i < k
    · rw [List.getElem?_append_left (by omega), List.getElem?_append_left (by omega)]
      simp [d, show i < k + 1 by omega]
    · rw [List.getElem?_append_right (by omega), List.getElem?_append_right (by omega), hl, hl2]
      simp only [List.getElem?_replicate]
      by_cases f : i < L.length
      · rw [if_pos (by omega), if_pos (by omega)]
      · rw [if_neg (by omega), if_neg (by omega)]

def hourOk (L : List Int) (i : Nat) : Bool := inR (hgt L i) (-64) 64 && inR (trn L i) 0 255
def sunOk (L : List Int) : Bool := (List.range 24).all (hourOk L)
theorem sunOk_iff {L : List Int} : sunOk L = true ↔ ∀ i, i < 24 → hourOk L i = true := by unfold sunOk; simp
theorem sunOk_of {L : List Int} (h : ∀ i, i < 24 → hourOk L i = true) : sunOk L = true := sunOk_iff.2 h
theorem sunOk_not {L : List Int} {i : Nat} (hi : i < 24) (h : hourOk L i = false) : sunOk L = false := by
  cases c : sunOk L
  · rfl
  · rw [sunOk_iff.1 c i hi] at h; cases h
theorem sunOk_at {L : List Int} (h : sunOk L = true) {i : Nat} (hi : i < 24) : -64 ≤ hgt L i ∧ hgt L i ≤ 64 ∧ 0 ≤ trn L i ∧ trn L i ≤ 255 := by
  have := sunOk_iff.1 h i hi
  unfold hourOk at this
  rw [Bool.and_eq_true, inR_iff, inR_iff] at this
  omega
theorem hour_no1 {L : List Int} {i : Nat} (h : inR (hgt L i) (-64) 64 = false) : hourOk L i = false := by unfold hourOk; rw [h]; rfl
theorem hour_no2 {L : List Int} {i : Nat} (h : inR (trn L i) 0 255 = false) : hourOk L i = false := by unfold hourOk; rw [h]; simp
theorem hour_yes {L : List Int} {i : Nat} (h1 : inR (hgt L i) (-64) 64 = true) (h2 : inR (trn L i) 0 255 = true) : hourOk L i = true := by unfold hourOk; rw [h1, h2]; rfl
theorem all_succ {L : List Int} {k : Nat} (h : ∀ i, i < k → hourOk L i = true) (h2 : hourOk L k = true) : ∀ i, i < k + 1 → hourOk L i = true := by
  intro i hi; by_cases e : i = k
  · subst e; exact h2
  · exact h i (by omega)
/-- The code of a sun, and whether all else is right. -/
def sunCode (L : List Int) (right : Bool) : Int := if sunOk L = true then if right = true then 0 else 2 else 1
def isUp (L : List Int) (h : Nat) : Bool := decide (0 < hgt L h)
theorem nat_of_in {h lo hi : Int} (h0 : 0 ≤ lo) (h1 : inR h lo hi = true) : ∃ k : Nat, h = k ∧ lo ≤ (k : Int) ∧ (k : Int) ≤ hi := by
  rw [inR_iff] at h1
  obtain ⟨k, rfl⟩ := Int.eq_ofNat_of_zero_le (show 0 ≤ h by omega)
  exact ⟨k, rfl, h1.1, h1.2⟩
theorem code_1 {L : List Int} {r : Bool} (h : sunOk L = false) : sunCode L r = 1 := by unfold sunCode; simp [h]
theorem code_2 {L : List Int} {r : Bool} (h : sunOk L = true) (hr : r = false) : sunCode L r = 2 := by unfold sunCode; simp [h, hr]
theorem code_0 {L : List Int} {r : Bool} (h : sunOk L = true) (hr : r = true) : sunCode L r = 0 := by unfold sunCode; simp [h, hr]
theorem code_zero {L : List Int} {r : Bool} : sunCode L r = 0 ↔ sunOk L = true ∧ r = true := by unfold sunCode; split <;> (try split) <;> simp_all
/-- What a question about a sun is answered: a value, and a code. -/
def sunRes {α : Type} (L : List Int) (right : Bool) (zr val : α) : α × Int := if sunCode L right = 0 then (val, 0) else (zr, sunCode L right)
theorem res_ok {α : Type} {L : List Int} {right : Bool} {zr val : α} (h : sunCode L right = 0) : sunRes L right zr val = (val, 0) := by unfold sunRes; rw [if_pos h]
theorem res_no {α : Type} {L : List Int} {right : Bool} {zr val : α} (h : sunCode L right ≠ 0) : sunRes L right zr val = (zr, sunCode L right) := by unfold sunRes; rw [if_neg h]
theorem res_fnt {L : List Int} {right : Bool} {zr val : Nat} (hz : Fnt zr) (hv : sunCode L right = 0 → Fnt val) : Fnt (sunRes L right zr val).1 := by
  unfold sunRes; split
  · exact hv (by assumption)
  · exact hz
theorem code_bne {L : List Int} {r : Bool} (h : sunCode L r = 0) : (sunCode L r != 0) = false := by simp [h]
theorem code_bne' {L : List Int} {r : Bool} (h : sunCode L r ≠ 0) : (sunCode L r != 0) = true := by simp [h]
end Go.Proofs.Pl
