/-
  Blinds: what the program and its reference compute of them: no program and no memory here.
-/
import Derived.Test.YtddkiemipedgcaaGreatDoorPs
import Derived.Test.YtddkiemipedgcaaGreatDoorPc
namespace Go.Proofs.Pl
open Go.Proofs.Fl

def blindCells (n : Int) (wd g : Nat) (t : Int) (s : Nat) : Array Value := #[.int .i8 n, .float .f32 wd, .float .f32 g, .int .i16 t, .float .f32 s]
def blindOk (n : Int) (wd g : Nat) (t : Int) (s : Nat) : Bool := inR n 1 60 && isLen wd && isLen g && inR t (-64) 64 && isPart s
theorem blindOk_of {n : Int} {wd g : Nat} {t : Int} {s : Nat} (h : blindOk n wd g t s = true) : (1 ≤ n ∧ n ≤ 60) ∧ isLen wd = true ∧ isLen g = true ∧ (-64 ≤ t ∧ t ≤ 64) ∧ isPart s = true := by
  unfold blindOk at h
  simp only [Bool.and_eq_true, inR_iff] at h
  exact ⟨h.1.1.1.1, h.1.1.1.2, h.1.1.2, h.1.2, h.2⟩
/-- A code: 1 where something is not valid, 2 where something else is not right. -/
def code2 (ok right : Bool) : Int := if ok = true then if right = true then 0 else 2 else 1
theorem code2_zero {ok r : Bool} : code2 ok r = 0 ↔ ok = true ∧ r = true := by unfold code2; split <;> (try split) <;> simp_all
theorem code2_false (ok : Bool) : code2 ok false ≠ 0 := by unfold code2; split <;> simp
theorem code2_bad (r : Bool) : code2 false r = 1 := by unfold code2; simp

theorem sine_sign : ∀ k : Nat, k < 256 → sine (k : Int) ≠ 2147483648 := by decide +kernel
theorem asine_unit (n : Int) : Unit' (size (sine n)) := by
  obtain ⟨k, hk, _, e⟩ := sine_nat n
  have h := sine_fin n
  have z := size_spec h.1
  have nz : sine n ≠ 2147483648 := by rw [e]; exact sine_sign k hk
  have hs : sg (size (sine n)) = false := by
    rw [z.2.1, flt_fin h.1 (by decide), V_zero]
    cases c : sg (sine n)
    · rfl
    · rw [V_neg c]
      have hr : rung (sine n) ≠ 0 := by
        intro h0
        have w := word_eq h.2.2
        rw [c, if_pos rfl, h0] at w
        exact nz w
      have := M_pos (r := rung (sine n)) (by omega)
      simp; omega
  have hr : rung (size (sine n)) ≤ one := by rw [z.2.2]; exact h.2.1
  have hlt : size (sine n) < 4294967296 := by
    unfold size; split
    · exact (sub_fin (x := 0) (by decide) h.1).2.lt
    · exact h.2.2
  have w := word_eq hlt
  rw [hs] at w; simp at w
  unfold Unit'; rw [w]; exact hr
theorem cosine_up : ∀ k : Nat, k < 65 → 1 ≤ k → cosine (k : Int) ≤ one ∧ (feq (cosine (k : Int)) 0 = false → 1006632960 ≤ cosine (k : Int)) := by decide +kernel
theorem cosine_unit {h : Int} (h1 : 1 ≤ h) (h2 : h ≤ 64) : Unit' (cosine h) ∧ (feq (cosine h) 0 = false → 1006632960 ≤ cosine h) := by
  obtain ⟨k, rfl⟩ := Int.eq_ofNat_of_zero_le (show 0 ≤ h by omega)
  exact cosine_up k (by omega) (by omega)

/-- The part of the light that is blk, ahead of the cut at 1. -/
def part (wd g : Nat) (t h : Int) : Nat := fdiv (fmul wd (size (sine (h + t)))) (fmul g (cosine h))
def blk (wd g : Nat) (t h : Int) : Nat := if feq (cosine h) 0 then one else if fgt (part wd g t h) one then one else part wd g t h
def opn (wd g : Nat) (t h : Int) : Nat := fsub one (blk wd g t h)
def bounce (wd g : Nat) (t : Int) (s : Nat) (h : Int) : Nat := fdiv (fmul (fmul (blk wd g t h) s) (opn wd g t 1)) 1073741824
def pass (wd g : Nat) (t : Int) (s : Nat) (h : Int) : Nat := fadd (opn wd g t h) (bounce wd g t s h)

/-- A word without a sign is its rung. -/
theorem rung_id {x : Nat} (h : x < 2147483648) : rung x = x ∧ sg x = false := by
  constructor
  · unfold rung; omega
  · unfold sg; simp; omega
theorem word_id {x : Nat} (h : x < 4294967296) (hs : sg x = false) : x = rung x := by
  have := word_eq h; rw [hs] at this; simpa using this

theorem part_steps {wd g : Nat} {t h : Int} (hw : isLen wd = true) (hg : isLen g = true) (h1 : 1 ≤ h) (h2 : h ≤ 64) (hc : feq (cosine h) 0 = false) :
    Fnt wd ∧ Fnt g ∧ Fnt (size (sine (h + t))) ∧ Fnt (cosine h) ∧ Fnt (fmul wd (size (sine (h + t)))) ∧ Fnt (fmul g (cosine h)) ∧ rung (fmul g (cosine h)) ≠ 0 ∧ Fnt (part wd g t h) ∧ sg (part wd g t h) = false ∧ part wd g t h < 2147483648 := by
  obtain ⟨w1, w2, w3, w4⟩ := len_of hw
  obtain ⟨g1, g2, g3, g4⟩ := len_of hg
  have s := unit_fin (asine_unit (h + t))
  have cu := cosine_unit h1 h2
  have c := unit_fin cu.1
  have cl := cu.2 hc
  have e : rung (cosine h) = cosine h := (rung_id (by have : cosine h ≤ 1065353216 := cu.1; omega)).1
  have a := fmul_le' w4 s.2.1 (by decide) (by decide) (c := 1115684864) (by decide) (by decide +kernel)
  have b := fmul_le' g4 c.2.1 (by decide) (by decide) (c := 1115684864) (by decide) (by decide +kernel)
  have bl := fmul_ge' g3 (show 1006632960 ≤ rung (cosine h) by rw [e]; exact cl) g1 c.1 (c := 973078528) (by decide) (by decide +kernel)
  have bf := fin_of_le b (by decide)
  have d := fdiv_le' a bl bf (by decide) (by decide) (c := 1207959552) (by decide) (by decide +kernel)
  have dd := (div_fin (fin_of_le a (by decide)) bf (by omega)).2
  have sg1 : sg (fmul wd (size (sine (h + t)))) = false := by rw [(mul_fin w1 s.1).2.sg, w2, s.2.2.1]; rfl
  have sg2 : sg (fmul g (cosine h)) = false := by rw [(mul_fin g1 c.1).2.sg, g2, c.2.2.1]; rfl
  have ds : sg (part wd g t h) = false := by unfold part; rw [dd.sg, sg1, sg2]; rfl
  have df : Fnt (part wd g t h) := fin_of_le d (by decide)
  refine ⟨w1, g1, s.1, c.1, fin_of_le a (by decide), bf, by omega, df, ds, ?_⟩
  have := word_id dd.lt ds
  unfold part; rw [this]
  have d' := d
  omega
theorem gt_one {x : Nat} (hx : x < 2139095040) : fgt x one = decide (one < x) := by
  have e := rung_id (show x < 2147483648 by omega)
  have f : Fnt x := by unfold Fnt; rw [e.1]; exact hx
  rw [fgt_fin f (by decide), V_pos e.2, e.1]
  have v : V one = (M one : Int) := by decide +kernel
  rw [v]
  by_cases c : one < x
  · have := M_strict c; simp [c]; omega
  · have := M_mono (show x ≤ one by omega); simp [c]; omega
theorem blocked_unit {wd g : Nat} {t h : Int} (hw : isLen wd = true) (hg : isLen g = true) (h1 : 1 ≤ h) (h2 : h ≤ 64) : Unit' (blk wd g t h) := by
  unfold blk Unit'
  split
  · exact Nat.le_refl _
  · rename_i hc
    have hc' : feq (cosine h) 0 = false := by simpa using hc
    obtain ⟨_, _, _, _, _, _, _, p1, p2, p3⟩ := part_steps (t := t) hw hg h1 h2 hc'
    split
    · exact Nat.le_refl _
    · rename_i hgt
      rw [gt_one (by unfold Fnt at p1; rw [(rung_id p3).1] at p1; exact p1)] at hgt
      simp at hgt
      exact hgt
theorem V_unit {x : Nat} (h : Unit' x) : V x = (M x : Int) := by
  have h' : x ≤ 1065353216 := h
  have e := rung_id (show x < 2147483648 by omega)
  rw [V_pos e.2, e.1]
theorem opn_unit {wd g : Nat} {t h : Int} (hw : isLen wd = true) (hg : isLen g = true) (h1 : 1 ≤ h) (h2 : h ≤ 64) : Unit' (opn wd g t h) := by
  have b := blocked_unit (t := t) hw hg h1 h2
  have bf := unit_fin b
  have i := (sub_fin (x := one) (by decide) bf.1).2
  have vb := V_unit b
  have v1 : V one = (M one : Int) := by decide +kernel
  have hm : M (blk wd g t h) ≤ M one := M_mono b
  have hs : sg (opn wd g t h) = false := by
    unfold opn; rw [i.sg]
    split
    · have : sg one = false := by decide
      rw [this]; rfl
    · simp only [decide_eq_false_iff_not]; omega
  have hr : rung (opn wd g t h) ≤ one := by
    refine rnd_le i.rnd (by omega) (by decide) ?_
    rw [v1, vb, Nat.mul_one]; omega
  have := word_id i.lt hs
  unfold Unit'
  have e : opn wd g t h = rung (opn wd g t h) := this
  rw [e]; exact hr
theorem bounce_steps {wd g : Nat} {t h : Int} {s : Nat} (hw : isLen wd = true) (hg : isLen g = true) (hq : isPart s = true) (h1 : 1 ≤ h) (h2 : h ≤ 64) :
    Fnt (blk wd g t h) ∧ Fnt s ∧ Fnt (fmul (blk wd g t h) s) ∧ Fnt (opn wd g t 1) ∧ Fnt (fmul (fmul (blk wd g t h) s) (opn wd g t 1)) ∧ Fnt (bounce wd g t s h) ∧ rung (bounce wd g t s h) ≤ one := by
  have b := unit_fin (blocked_unit (t := t) hw hg h1 h2)
  obtain ⟨q1, _, q3⟩ := part_of hq
  have o := unit_fin (opn_unit (t := t) hw hg (show 1 ≤ (1 : Int) by omega) (by omega))
  have a := fmul_le' b.2.1 q3 (by decide) (by decide) (c := one) (by decide) one_mul_one
  have c := fmul_le' a o.2.1 (by decide) (by decide) (c := one) (by decide) one_mul_one
  have d := fdiv_le' (y := 1073741824) (b := 1073741824) c (by decide) (by decide) (by decide) (by decide) (c := one) (by decide) (by decide +kernel)
  exact ⟨b.1, q1, fin_of_le a (by decide), o.1, fin_of_le c (by decide), fin_of_le d (by decide), d⟩
theorem pass_fin {wd g : Nat} {t h : Int} {s : Nat} (hw : isLen wd = true) (hg : isLen g = true) (hq : isPart s = true) (h1 : 1 ≤ h) (h2 : h ≤ 64) :
    Fnt (opn wd g t h) ∧ Fnt (bounce wd g t s h) ∧ Fnt (pass wd g t s h) ∧ rung (pass wd g t s h) ≤ 1073741824 ∧ pass wd g t s h < 4294967296 := by
  obtain ⟨_, _, _, _, _, f, r⟩ := bounce_steps (t := t) hw hg hq h1 h2
  have o := unit_fin (opn_unit (t := t) hw hg h1 h2)
  have d := fadd_le' o.2.1 r (by decide) (by decide) (c := 1073741824) (by decide) (by decide +kernel)
  exact ⟨o.1, f, fin_of_le d (by decide), d, (add_fin o.1 f).2.lt⟩
/-- Go's 'min' of two finite numbers. -/
def fmin (a b : Nat) : Nat := if flt a b then a else if fgt a b then b else if sg a then a else b
theorem fmin_part {x : Nat} (h : x < 2147483648) (hf : Fnt x) : fmin x one = if fgt x one then one else x := by
  have e := rung_id h
  have hx : x < 2139095040 := by unfold Fnt at hf; rw [e.1] at hf; exact hf
  unfold fmin
  rw [gt_one hx, e.2, flt_fin hf (by decide), V_pos e.2, e.1]
  have v : V one = (M one : Int) := by decide +kernel
  rw [v]
  rcases Nat.lt_trichotomy x one with c | c | c
  · have := M_strict c
    rw [if_pos (by simp; omega), if_neg (by simp; omega)]
  · subst c; simp
  · have := M_strict c
    rw [if_neg (by simp; omega), if_pos (by simp; omega), if_pos (by simp; omega)]
theorem blocked_1 {wd g : Nat} {t h : Int} (hc : feq (cosine h) 0 = true) : blk wd g t h = one := by unfold blk; rw [if_pos hc]
theorem blocked_2 {wd g : Nat} {t h : Int} (hc : feq (cosine h) 0 = false) (h1 : fgt (part wd g t h) one = true) : blk wd g t h = one := by unfold blk; rw [if_neg (by rw [hc]; exact Bool.false_ne_true), if_pos h1]
theorem blocked_3 {wd g : Nat} {t h : Int} (hc : feq (cosine h) 0 = false) (h1 : fgt (part wd g t h) one = false) : blk wd g t h = part wd g t h := by unfold blk; rw [if_neg (by rw [hc]; exact Bool.false_ne_true), if_neg (by rw [h1]; exact Bool.false_ne_true)]
theorem blocked_min {wd g : Nat} {t h : Int} (hw : isLen wd = true) (hg : isLen g = true) (h1 : 1 ≤ h) (h2 : h ≤ 64) (hc : feq (cosine h) 0 = false) : blk wd g t h = fmin (part wd g t h) one := by
  obtain ⟨_, _, _, _, _, _, _, p1, p2, p3⟩ := part_steps (t := t) hw hg h1 h2 hc
  rw [fmin_part p3 p1]
  unfold blk
  rw [if_neg (by rw [hc]; exact Bool.false_ne_true)]
end Go.Proofs.Pl
