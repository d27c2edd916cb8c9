/-
  Suns: 48 numbers, 24 heights and 24 turns. What the program and its reference compute of them: no program and no memory here.
-/
import Derived.Test.YtddkiemipedgcaaGreatDoorPl
import Derived.Laws.World
namespace Go.Proofs.Pl
open Go.Proofs.Fl

def hgt (L : List Int) (h : Nat) : Int := L.getD h 0
def trn (L : List Int) (h : Nat) : Int := L.getD (24 + h) 0
def sunCells (L : List Int) : Array Value := (L.map (Value.int .i16)).toArray
theorem sunCells_size (L : List Int) : (sunCells L).size = L.length := by simp [sunCells]
theorem sunCells_at {L : List Int} {i : Nat} (h : i < L.length) : (sunCells L)[i]? = some (.int .i16 (L.getD i 0)) := by
  simp [sunCells, h]
theorem sunCells_hgt {L : List Int} (hL : L.length = 48) {i : Nat} (h : i < 24) : (sunCells L)[i]? = some (.int .i16 (hgt L i)) := sunCells_at (by omega)
theorem sunCells_trn {L : List Int} (hL : L.length = 48) {i : Nat} (h : i < 24) : (sunCells L)[24 + i]? = some (.int .i16 (trn L i)) := sunCells_at (by omega)

theorem hgt_bd {L : List Int} (hr : ∀ x ∈ L, -32768 ≤ x ∧ x ≤ 32767) (i : Nat) : -32768 ≤ L.getD i 0 ∧ L.getD i 0 ≤ 32767 := by
  by_cases h : i < L.length
  · have e : L.getD i 0 = L[i] := by simp [h]
    rw [e]; exact hr _ (List.getElem_mem h)
  · have e : L.getD i 0 = 0 := by simp [List.getElem?_eq_none (show L.length ≤ i by omega)]
    rw [e]; omega

theorem sun_lo {L : List Int} : (sunCells L).extract 0 (0 + 24) = sunCells (L.take 24) := by
  unfold sunCells; simp [List.map_take]
theorem sun_hi {L : List Int} (hL : L.length = 48) : (sunCells L).extract 24 (24 + 24) = sunCells (L.drop 24) := by
  unfold sunCells
  simp only [List.extract_toArray, List.extract_eq_take_drop]
  rw [List.map_drop, List.take_of_length_le (by simp; omega)]
/-- The first k numbers put over noughts. -/
def upto (L : List Int) (k : Nat) : List Int := L.take k ++ List.replicate (L.length - k) 0
theorem upto_all (L : List Int) : upto L L.length = L := by simp [upto]
theorem upto_len {L : List Int} {k : Nat} (h : k ≤ L.length) : (upto L k).length = L.length := by simp [upto]; omega
theorem upto_succ {L : List Int} {k : Nat} (h : k < L.length) : (sunCells (upto L k)).setIfInBounds k (.int .i16 (hgt L k)) = sunCells (upto L (k + 1)) := by
  unfold sunCells hgt
  rw [List.setIfInBounds_toArray, ← List.map_set]
  congr 2
  apply List.ext_getElem?
  intro i
  have e : L.getD k 0 = L[k] := by simp [h]
  rw [e]
  unfold upto
  rw [List.getElem?_set]
  have hl : (L.take k).length = k := by simp; omega
  have hl2 : (L.take (k + 1)).length = k + 1 := by simp; omega
  by_cases c : k = i
  · subst c
    rw [if_pos rfl, if_pos (by simp; omega), List.getElem?_append_left (by omega)]
    simp
  · rw [if_neg c]
    by_cases d : i < k
    · rw [List.getElem?_append_left (by omega), List.getElem?_append_left (by omega)]
      simp [d, show i < k + 1 by omega]
    · rw [List.getElem?_append_right (by omega), List.getElem?_append_right (by omega), hl, hl2]
      simp only [List.getElem?_replicate]
      by_cases f : i < L.length
      · rw [if_pos (by omega), if_pos (by omega)]
      · rw [if_neg (by omega), if_neg (by omega)]

def hourOk (L : List Int) (i : Nat) : Bool := inR (hgt L i) (-64) 64 && inR (trn L i) 0 255
def sunOk (L : List Int) : Bool := (List.range 24).all (hourOk L)
theorem sunOk_iff {L : List Int} : sunOk L = true ↔ ∀ i, i < 24 → hourOk L i = true := by unfold sunOk; simp
theorem sunOk_of {L : List Int} (h : ∀ i, i < 24 → hourOk L i = true) : sunOk L = true := sunOk_iff.2 h
theorem sunOk_not {L : List Int} {i : Nat} (hi : i < 24) (h : hourOk L i = false) : sunOk L = false := by
  cases c : sunOk L
  · rfl
  · rw [sunOk_iff.1 c i hi] at h; cases h
theorem sunOk_at {L : List Int} (h : sunOk L = true) {i : Nat} (hi : i < 24) : -64 ≤ hgt L i ∧ hgt L i ≤ 64 ∧ 0 ≤ trn L i ∧ trn L i ≤ 255 := by
  have := sunOk_iff.1 h i hi
  unfold hourOk at this
  rw [Bool.and_eq_true, inR_iff, inR_iff] at this
  omega
theorem hour_no1 {L : List Int} {i : Nat} (h : inR (hgt L i) (-64) 64 = false) : hourOk L i = false := by unfold hourOk; rw [h]; rfl
theorem hour_no2 {L : List Int} {i : Nat} (h : inR (trn L i) 0 255 = false) : hourOk L i = false := by unfold hourOk; rw [h]; simp
theorem hour_yes {L : List Int} {i : Nat} (h1 : inR (hgt L i) (-64) 64 = true) (h2 : inR (trn L i) 0 255 = true) : hourOk L i = true := by unfold hourOk; rw [h1, h2]; rfl
theorem all_succ {L : List Int} {k : Nat} (h : ∀ i, i < k → hourOk L i = true) (h2 : hourOk L k = true) : ∀ i, i < k + 1 → hourOk L i = true := by
  intro i hi; by_cases e : i = k
  · subst e; exact h2
  · exact h i (by omega)
/-- The code of a sun, and whether all else is right. -/
def sunCode (L : List Int) (right : Bool) : Int := if sunOk L = true then if right = true then 0 else 2 else 1
def isUp (L : List Int) (h : Nat) : Bool := decide (0 < hgt L h)
theorem nat_of_in {h lo hi : Int} (h0 : 0 ≤ lo) (h1 : inR h lo hi = true) : ∃ k : Nat, h = k ∧ lo ≤ (k : Int) ∧ (k : Int) ≤ hi := by
  rw [inR_iff] at h1
  obtain ⟨k, rfl⟩ := Int.eq_ofNat_of_zero_le (show 0 ≤ h by omega)
  exact ⟨k, rfl, h1.1, h1.2⟩
theorem code_1 {L : List Int} {r : Bool} (h : sunOk L = false) : sunCode L r = 1 := by unfold sunCode; simp [h]
theorem code_2 {L : List Int} {r : Bool} (h : sunOk L = true) (hr : r = false) : sunCode L r = 2 := by unfold sunCode; simp [h, hr]
theorem code_0 {L : List Int} {r : Bool} (h : sunOk L = true) (hr : r = true) : sunCode L r = 0 := by unfold sunCode; simp [h, hr]
theorem code_zero {L : List Int} {r : Bool} : sunCode L r = 0 ↔ sunOk L = true ∧ r = true := by unfold sunCode; split <;> (try split) <;> simp_all
/-- What a question about a sun is answered: a value, and a code. -/
def sunRes {α : Type} (L : List Int) (right : Bool) (zr val : α) : α × Int := if sunCode L right = 0 then (val, 0) else (zr, sunCode L right)
theorem res_ok {α : Type} {L : List Int} {right : Bool} {zr val : α} (h : sunCode L right = 0) : sunRes L right zr val = (val, 0) := by unfold sunRes; rw [if_pos h]
theorem res_no {α : Type} {L : List Int} {right : Bool} {zr val : α} (h : sunCode L right ≠ 0) : sunRes L right zr val = (zr, sunCode L right) := by unfold sunRes; rw [if_neg h]
theorem res_fnt {L : List Int} {right : Bool} {zr val : Nat} (hz : Fnt zr) (hv : sunCode L right = 0 → Fnt val) : Fnt (sunRes L right zr val).1 := by
  unfold sunRes; split
  · exact hv (by assumption)
  · exact hz
theorem code_false (L : List Int) : sunCode L false ≠ 0 := by unfold sunCode; split <;> simp
theorem code_bne {L : List Int} {r : Bool} (h : sunCode L r = 0) : (sunCode L r != 0) = false := by simp [h]
theorem code_bne' {L : List Int} {r : Bool} (h : sunCode L r ≠ 0) : (sunCode L r != 0) = true := by simp [h]

/-! ### light -/
def pos (x : Nat) : Nat := if fgt x 0 then x else 0
def ground (L : List Int) (k : Nat) : Nat := if 0 < hgt L k then sine (hgt L k) else 0
def fallRaw (L : List Int) (k : Nat) (f : Int) : Nat := fmul (cosine (hgt L k)) (cosine (trn L k - f))
def fall (L : List Int) (k : Nat) (f : Int) : Nat := if 0 < hgt L k then pos (fallRaw L k f) else 0
theorem one_mul_one : M one * M one ≤ M one * 2 ^ 149 := by decide +kernel
theorem fallRaw_fin (L : List Int) (k : Nat) (f : Int) : Fnt (fallRaw L k f) ∧ rung (fallRaw L k f) ≤ one := by
  have a := cosine_fin (hgt L k)
  have b := cosine_fin (trn L k - f)
  have h := fmul_le' a.2.1 b.2.1 (by decide) (by decide) (by decide) one_mul_one
  exact ⟨fin_of_le h (by decide), h⟩
theorem fallRaw_lt (L : List Int) (k : Nat) (f : Int) : fallRaw L k f < 4294967296 := (mul_fin (cosine_fin _).1 (cosine_fin _).1).2.lt
theorem zero_fin : Fnt 0 ∧ rung 0 ≤ one := by decide
theorem V_zero : V 0 = 0 := by decide
/-- What is at most 1, and no less than 0, with a plain sign. -/
def Unit' (x : Nat) : Prop := x ≤ one
theorem unit_fin {x : Nat} (h : Unit' x) : Fnt x ∧ rung x ≤ one ∧ sg x = false ∧ x < 4294967296 := by
  have h' : x ≤ 1065353216 := h
  have e : rung x = x := by unfold rung; omega
  have e2 : sg x = false := by unfold sg; simp; omega
  exact ⟨fin_of_le (r := one) (by rw [e]; exact h) (by decide), by rw [e]; exact h, e2, by omega⟩
theorem pos_unit {x : Nat} (hx : Fnt x) (h1 : rung x ≤ one) (hw : x < 4294967296) : Unit' (pos x) := by
  unfold pos Unit'
  rw [fgt_fin hx (by decide), V_zero]
  by_cases c : 0 < V x
  · have s := sg_of_pos c
    have e := word_eq hw
    rw [s] at e; simp at e
    simp [c]; rw [e]; exact h1
  · simp [c]
theorem fall_unit (L : List Int) (k : Nat) (f : Int) : Unit' (fall L k f) := by
  unfold fall; split
  · exact pos_unit (fallRaw_fin L k f).1 (fallRaw_fin L k f).2 (fallRaw_lt L k f)
  · unfold Unit'; omega
theorem sine_up : ∀ k : Nat, k < 65 → sine (k : Int) ≤ one := by decide +kernel
theorem ground_unit {L : List Int} {k : Nat} (h1 : hgt L k ≤ 64) : Unit' (ground L k) := by
  unfold ground; split
  · obtain ⟨n, hn⟩ := Int.eq_ofNat_of_zero_le (show 0 ≤ hgt L k by omega)
    rw [hn]; exact sine_up n (by omega)
  · unfold Unit'; omega
/-- 'a <= 0' and 'a > 0' of a finite number. -/
theorem fle_zero {x : Nat} (hx : Fnt x) : fle x 0 = !fgt x 0 := by
  rw [fle_fin hx (by decide), fgt_fin hx (by decide), V_zero]
  by_cases c : V x ≤ 0
  · simp [c] <;> omega
  · simp [c] <;> omega

/-- The sum of the first k numbers, from the first on. -/
def sumTo (f : Nat → Nat) : Nat → Nat
  | 0 => 0
  | k + 1 => fadd (sumTo f k) (f k)
def whole (k : Nat) : Nat := floatOfInt .f32 (k : Int)
theorem whole_24 : ∀ k : Nat, k < 25 → whole k < 2139095040 ∧ M (whole k) = k * M one := by decide +kernel
theorem rung_zero : rung 0 ≤ whole 0 := by decide +kernel
theorem sum_le (f : Nat → Nat) (h : ∀ k, k < 24 → Unit' (f k)) : ∀ k, k ≤ 24 → rung (sumTo f k) ≤ whole k
  | 0, _ => rung_zero
  | k + 1, hk => by
    have ih := sum_le f h k (by omega)
    have u := unit_fin (h k (by omega))
    have a := whole_24 k (by omega)
    have b := whole_24 (k + 1) (by omega)
    refine fadd_le' ih u.2.1 a.1 (by decide) (by omega) ?_
    rw [a.2, b.2, Nat.add_mul]; omega
theorem sum_fin {f : Nat → Nat} (h : ∀ k, k < 24 → Unit' (f k)) {k : Nat} (hk : k ≤ 24) : Fnt (sumTo f k) :=
  fin_of_le (sum_le f h k hk) (whole_24 k (by omega)).1

/-- The first number with the greatest value, and this: of 0, .., k. -/
def bestOf (f : Nat → Nat) : Nat → Nat × Nat
  | 0 => (0, f 0)
  | k + 1 => if fgt (f (k + 1)) (bestOf f k).2 then (k + 1, f (k + 1)) else bestOf f k
theorem best_yes {f : Nat → Nat} {k : Nat} (h : fgt (f (k + 1)) (bestOf f k).2 = true) : bestOf f (k + 1) = (k + 1, f (k + 1)) := by rw [bestOf, if_pos h]
theorem best_no {f : Nat → Nat} {k : Nat} (h : ¬ fgt (f (k + 1)) (bestOf f k).2 = true) : bestOf f (k + 1) = bestOf f k := by rw [bestOf, if_neg h]
theorem best_all {P : Nat → Prop} {f : Nat → Nat} : ∀ k, (∀ i, i ≤ k → P (f i)) → P (bestOf f k).2
  | 0, h => h 0 (by omega)
  | k + 1, h => by
    unfold bestOf; split
    · exact h _ (by omega)
    · exact best_all k fun i hi => h i (by omega)
/-- The sum over the 24 hours. -/
def sum24 (f : Nat → Nat) : Nat := sumTo f 24
theorem sum24_eq (f : Nat → Nat) : sumTo f 24 = sum24 f := rfl
theorem sum24_fin {f : Nat → Nat} (h : ∀ k, k < 24 → Unit' (f k)) : Fnt (sum24 f) := sum_fin h (by omega)
attribute [irreducible] sum24
def dayFall (L : List Int) (f : Int) : Nat := sum24 fun k => fall L k f
theorem dayFall_fin (L : List Int) (f : Int) : Fnt (dayFall L f) := sum24_fin fun k _ => fall_unit L k f
def dayGround (L : List Int) : Nat := sum24 (ground L)
theorem dayGround_fin {L : List Int} (h : sunOk L = true) : Fnt (dayGround L) := sum24_fin fun k hk => ground_unit (sunOk_at h hk).2.1
end Go.Proofs.Pl
