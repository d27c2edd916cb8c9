/-
  Cords: what the program and its reference compute of them: no program and no memory here.
-/
import Derived.Test.YtddkiemipedgcaaGreatDoorPl
namespace Go.Proofs.Pl
open Go.Proofs.Fl

/-- A value and a code: the value where the code is 0. -/
def codeRes {α : Type} (c : Int) (zr val : α) : α × Int := if c = 0 then (val, 0) else (zr, c)
theorem cr_ok {α : Type} {c : Int} {zr val : α} (h : c = 0) : codeRes c zr val = (val, 0) := by unfold codeRes; rw [if_pos h]
theorem cr_no {α : Type} {c : Int} {zr val : α} (h : c ≠ 0) : codeRes c zr val = (zr, c) := by unfold codeRes; rw [if_neg h]
theorem cr_fnt {c : Int} {zr val : Nat} (hz : Fnt zr) (hv : c = 0 → Fnt val) : Fnt (codeRes c zr val).1 := by
  unfold codeRes; split
  · exact hv (by assumption)
  · exact hz
theorem bne_0 {c : Int} (h : c = 0) : (c != 0) = false := by simp [h]
theorem bne_1 {c : Int} (h : c ≠ 0) : (c != 0) = true := by simp [h]

def cordCells (l s : Nat) (n : Int) : Array Value := #[.float .f32 l, .float .f32 s, .int .i8 n]
def cordOk (l s : Nat) (n : Int) : Bool := isLen l && isPart s && inR n 1 100
def cordCode (l s : Nat) (n : Int) (right : Bool) : Int := if cordOk l s n = true then if right = true then 0 else 2 else 1
theorem cordCode_zero {l s : Nat} {n : Int} {r : Bool} : cordCode l s n r = 0 ↔ cordOk l s n = true ∧ r = true := by unfold cordCode; split <;> (try split) <;> simp_all
theorem cordCode_1 {l s : Nat} {n : Int} {r : Bool} (h : cordOk l s n = false) : cordCode l s n r = 1 := by unfold cordCode; simp [h]
theorem cordCode_2 {l s : Nat} {n : Int} {r : Bool} (h : cordOk l s n = true) (hr : r = false) : cordCode l s n r = 2 := by unfold cordCode; simp [h, hr]
theorem cordCode_0 {l s : Nat} {n : Int} {r : Bool} (h : cordOk l s n = true) (hr : r = true) : cordCode l s n r = 0 := by unfold cordCode; simp [h, hr]
theorem cordCode_false (l s : Nat) (n : Int) : cordCode l s n false ≠ 0 := by unfold cordCode; split <;> simp
theorem cordOk_of {l s : Nat} {n : Int} (h : cordOk l s n = true) : isLen l = true ∧ isPart s = true ∧ 1 ≤ n ∧ n ≤ 100 := by
  unfold cordOk at h
  rw [Bool.and_eq_true, Bool.and_eq_true, inR_iff] at h
  exact ⟨h.1.1, h.1.2, h.2.1, h.2.2⟩

def stretched (l s load : Nat) : Nat := fmul l (fadd one (fmul load s))
def place (l s : Nat) (n : Int) (load : Nat) (stop : Int) : Nat := fdiv (fmul (stretched l s load) (floatOfInt .f32 stop)) (floatOfInt .f32 n)

/-- The steps of 'stretched' are finite; a stretched cord is no longer than 128. -/
theorem stretched_steps {l s load : Nat} (hl : isLen l = true) (hs : isPart s = true) (hp : isPart load = true) :
    Fnt l ∧ Fnt s ∧ Fnt load ∧ Fnt (fmul load s) ∧ Fnt (fadd one (fmul load s)) ∧ Fnt (stretched l s load) ∧ rung (stretched l s load) ≤ 1124073472 := by
  obtain ⟨l1, _, _, l4⟩ := len_of hl
  obtain ⟨s1, _, s3⟩ := part_of hs
  obtain ⟨p1, _, p3⟩ := part_of hp
  have a := fmul_le' p3 s3 (by decide) (by decide) (c := one) (by decide) (by decide +kernel)
  have b := fadd_le' (x := one) (a := one) (by decide) a (by decide) (by decide) (c := 1073741824) (by decide) (by decide +kernel)
  have c := fmul_le' l4 b (by decide) (by decide) (c := 1124073472) (by decide) (by decide +kernel)
  exact ⟨l1, s1, p1, fin_of_le a (by decide), fin_of_le b (by decide), fin_of_le c (by decide), c⟩
theorem whole_100 : ∀ k : Nat, k < 101 → rung (floatOfInt .f32 (k : Int)) ≤ 1120403456 ∧ floatOfInt .f32 (k : Int) < 2147483648 ∧ (1 ≤ k → one ≤ rung (floatOfInt .f32 (k : Int))) := by decide +kernel
theorem whole_fin {n : Int} (h0 : 0 ≤ n) (h1 : n ≤ 100) : Fnt (floatOfInt .f32 n) ∧ rung (floatOfInt .f32 n) ≤ 1120403456 := by
  obtain ⟨k, rfl⟩ := Int.eq_ofNat_of_zero_le h0
  have := (whole_100 k (by omega)).1
  exact ⟨fin_of_le this (by decide), this⟩
theorem whole_pos {n : Int} (h0 : 1 ≤ n) (h1 : n ≤ 100) : one ≤ rung (floatOfInt .f32 n) := by
  obtain ⟨k, rfl⟩ := Int.eq_ofNat_of_zero_le (show 0 ≤ n by omega)
  exact (whole_100 k (by omega)).2.2 (by omega)
theorem place_steps {l s load : Nat} {n stop : Int} (hl : isLen l = true) (hs : isPart s = true) (hp : isPart load = true) (n1 : 1 ≤ n) (n2 : n ≤ 100) (k1 : 0 ≤ stop) (k2 : stop ≤ 100) :
    Fnt (floatOfInt .f32 stop) ∧ Fnt (fmul (stretched l s load) (floatOfInt .f32 stop)) ∧ Fnt (floatOfInt .f32 n) ∧ rung (floatOfInt .f32 n) ≠ 0 ∧ Fnt (place l s n load stop) ∧ rung (place l s n load stop) ≤ 1179123712 := by
  obtain ⟨_, _, _, _, _, _, g⟩ := stretched_steps hl hs hp
  have a := whole_fin k1 k2
  have b := whole_fin (show 0 ≤ n by omega) n2
  have p := whole_pos n1 n2
  have c := fmul_le' g a.2 (by decide) (by decide) (c := 1179123712) (by decide) (by decide +kernel)
  have d := fdiv_le' c p b.1 (by decide) (by decide) (c := 1179123712) (by decide) (by decide +kernel)
  exact ⟨a.1, fin_of_le c (by decide), b.1, (by have p2 : (1065353216 : Nat) ≤ _ := p; omega), fin_of_le d (by decide), d⟩
/-- The distance of a place from a wanted one. -/
def off (l s : Nat) (n : Int) (load wanted : Nat) (stop : Int) : Nat := size (fsub (place l s n load stop) wanted)
theorem off_steps {l s load wanted : Nat} {n stop : Int} (hl : isLen l = true) (hs : isPart s = true) (hp : isPart load = true) (hw : isPlain wanted = true) (n1 : 1 ≤ n) (n2 : n ≤ 100) (k1 : 0 ≤ stop) (k2 : stop ≤ 100) :
    Fnt (place l s n load stop) ∧ Fnt wanted ∧ Fnt (fsub (place l s n load stop) wanted) ∧ fsub (place l s n load stop) wanted < 4294967296 := by
  obtain ⟨_, _, _, _, p1, p2⟩ := place_steps hl hs hp n1 n2 k1 k2
  obtain ⟨w1, w2⟩ := plain_of hw
  have c := fsub_le' p2 w2 (by decide) (by decide) (c := 1300000000) (by decide) (by decide +kernel)
  exact ⟨p1, w1, fin_of_le c (by decide), (sub_fin p1 w1).2.lt⟩
/-- The first number with the least value, of 0, .., k. -/
def leastOf (f : Nat → Nat) : Nat → Nat
  | 0 => 0
  | k + 1 => if flt (f (k + 1)) (f (leastOf f k)) then k + 1 else leastOf f k
theorem least_yes {f : Nat → Nat} {k : Nat} (h : flt (f (k + 1)) (f (leastOf f k)) = true) : leastOf f (k + 1) = k + 1 := by rw [leastOf, if_pos h]
theorem least_no {f : Nat → Nat} {k : Nat} (h : flt (f (k + 1)) (f (leastOf f k)) = false) : leastOf f (k + 1) = leastOf f k := by rw [leastOf, if_neg (by rw [h]; exact Bool.false_ne_true)]
theorem least_le (f : Nat → Nat) : ∀ k, leastOf f k ≤ k
  | 0 => Nat.le_refl _
  | k + 1 => by
    unfold leastOf; split
    · exact Nat.le_refl _
    · exact Nat.le_succ_of_le (least_le f k)
/-- What 'StopFor' answers. -/
def stopAns (l s : Nat) (n : Int) (load wanted : Nat) : (Nat × Nat) × Int :=
  codeRes (cordCode l s n (isPart load && isPlain wanted)) ((0 : Nat), 0) (leastOf (fun i => off l s n load wanted (i : Nat)) n.toNat, place l s n load (leastOf (fun i => off l s n load wanted (i : Nat)) n.toNat : Nat))
end Go.Proofs.Pl
