/-
  The sun with a text: what is read, and the program's reading.
-/
import Derived.Test.YtddkiemipedgcaaGreatDoorWmi
import Derived.Test.YtddkiemipedgcaaGreatDoorWsl
import Derived.Test.YtddkiemipedgcaaGreatDoorWj
namespace Go.Proofs.Hx
open Go Go.Proofs.Fl Go.Proofs.Pl
open Go.Lib hiding intOf
set_option linter.unusedVariables false
/-- The word w is an hour's. -/
def WordIs (w : List UInt8) (a b : Int) : Prop := -64 ≤ a ∧ a ≤ 64 ∧ 0 ≤ b ∧ b ≤ 255 ∧ w = itoa a ++ 64 :: itoa b
theorem at_not_in (a : Int) : (64 : UInt8) ∉ itoa a := fun h => by
  have := itoa_chars a 64 h
  have e : (64 : UInt8).toNat = 64 := rfl
  omega
theorem WordIs.split {w : List UInt8} {a b : Int} (h : WordIs w a b) : splitL 64 w = [itoa a, itoa b] := by
  rw [h.2.2.2.2]
  exact splitL_of_two (at_not_in a) (at_not_in b)
theorem WordIs.uniq {w : List UInt8} {a b c d : Int} (h : WordIs w a b) (k : WordIs w c d) : a = c ∧ b = d := by
  have e := h.split.symm.trans k.split
  simp only [List.cons.injEq] at e
  exact ⟨itoa_inj e.1, itoa_inj e.2.1⟩
open Classical in
noncomputable def wA (w : List UInt8) : Int := if h : ∃ p : Int × Int, WordIs w p.1 p.2 then h.choose.1 else 0
open Classical in
noncomputable def wB (w : List UInt8) : Int := if h : ∃ p : Int × Int, WordIs w p.1 p.2 then h.choose.2 else 0
theorem wA_is {w : List UInt8} {a b : Int} (h : WordIs w a b) : wA w = a ∧ wB w = b := by
  have hx : ∃ p : Int × Int, WordIs w p.1 p.2 := ⟨(a, b), h⟩
  unfold wA wB
  rw [dif_pos hx, dif_pos hx]
  exact WordIs.uniq hx.choose_spec h
noncomputable def rdF (l : List UInt8) (k : Nat) : Int := wA ((splitL 32 l).getD k [])
noncomputable def rdG (l : List UInt8) (k : Nat) : Int := wB ((splitL 32 l).getD k [])
def RdOk (l : List UInt8) : Prop := (splitL 32 l).length = 24 ∧ ∀ k, k < 24 → ∃ a b, WordIs ((splitL 32 l).getD k []) a b
open Classical in
noncomputable def rdCode (l : List UInt8) : Int := if RdOk l then 0 else 5
theorem rd_yes {l : List UInt8} (h : RdOk l) : rdCode l = 0 := if_pos h
theorem rd_no {l : List UInt8} (h : ¬ RdOk l) : rdCode l = 5 := if_neg h
theorem rd_len {l : List UInt8} (h : (splitL 32 l).length ≠ 24) : rdCode l = 5 := rd_no fun q => h q.1
theorem rd_word {l : List UInt8} {k : Nat} (hk : k < 24) (h : ∀ a b, ¬ WordIs ((splitL 32 l).getD k []) a b) : rdCode l = 5 := rd_no fun q => by
  obtain ⟨a, b, hw⟩ := q.2 k hk
  exact h a b hw
/-- The program's test of a word: what Cut and readWhole say. -/
theorem word_impl {w A B : List UInt8} {ok : Bool} {a b : Int} {oa ob : Bool} (hc : cut w [64] = (A, B, ok)) (hA : WholeP A a oa) (hB : WholeP B b ob) :
    ((oa = true ∧ ob = true ∧ -64 ≤ a ∧ a ≤ 64 ∧ 0 ≤ b ∧ b ≤ 255) → WordIs w a b) ∧ (¬ (oa = true ∧ ob = true ∧ -64 ≤ a ∧ a ≤ 64 ∧ 0 ≤ b ∧ b ≤ 255) → ∀ c d, ¬ WordIs w c d) := by
  refine ⟨fun ⟨h1, h2, h3, h4, h5, h6⟩ => ?_, fun hn c d hw => hn ?_⟩
  · subst h1; subst h2
    have eA : itoa a = A := hA
    have eB : itoa b = B := hB
    rcases cut_cases 64 w with ⟨_, h⟩ | ⟨p, q, hp, hw, h⟩
    · rw [hc] at h
      simp only [Prod.mk.injEq] at h
      rw [h.2.1] at eB
      exact absurd eB (itoa_ne_nil b)
    · rw [hc] at h
      simp only [Prod.mk.injEq] at h
      exact ⟨h3, h4, h5, h6, by rw [hw, eA, eB, h.1, h.2.1]⟩
  · obtain ⟨h1, h2, h3, h4, h5⟩ := hw
    rw [h5, cut_yes (at_not_in c)] at hc
    simp only [Prod.mk.injEq] at hc
    cases oa
    · exact absurd hc.1 (hA c ⟨by omega, by omega⟩)
    cases ob
    · exact absurd hc.2.1 (hB d ⟨by omega, by omega⟩)
    have eA : itoa a = A := hA
    have eB : itoa b = B := hB
    have e1 : a = c := itoa_inj (by rw [eA, ← hc.1])
    have e2 : b = d := itoa_inj (by rw [eB, ← hc.2.1])
    exact ⟨rfl, rfl, by omega, by omega, by omega, by omega⟩
/-- The reference's. -/
theorem word_spec {w p q : List UInt8} {a b : Int} {oa ob : Bool} (hs : splitL 64 w = [p, q]) (hA : MinusP p a oa) (hB : NumP q b ob) :
    ((oa = true ∧ ob = true ∧ -64 ≤ a ∧ a ≤ 64 ∧ 0 ≤ b ∧ b ≤ 255) → WordIs w a b) ∧ (¬ (oa = true ∧ ob = true ∧ -64 ≤ a ∧ a ≤ 64 ∧ 0 ≤ b ∧ b ≤ 255) → ∀ c d, ¬ WordIs w c d) := by
  refine ⟨fun ⟨h1, h2, h3, h4, h5, h6⟩ => ?_, fun hn c d hw => hn ?_⟩
  · subst h1; subst h2
    have eA : itoa a = p := hA.2
    obtain ⟨u, hu, hu2, eB⟩ := (show ∃ u : Nat, b = u ∧ u < 1000000000 ∧ decDigits u = q from hB)
    subst hu
    exact ⟨h3, h4, h5, h6, by rw [splitL_two hs, eA, itoa_nonneg, eB]⟩
  · have hp := hw.split
    obtain ⟨h1, h2, h3, h4, h5⟩ := hw
    rw [hs] at hp
    simp only [List.cons.injEq] at hp
    obtain ⟨e1, e2, _⟩ := hp
    cases oa
    · exact absurd e1.symm (hA c ⟨by omega, by omega⟩)
    obtain ⟨m, rfl⟩ : ∃ m : Nat, d = m := ⟨d.toNat, by omega⟩
    rw [itoa_nonneg] at e2
    cases ob
    · exact absurd e2.symm (hB m (by omega))
    have eA : itoa a = p := hA.2
    obtain ⟨u, hu, hu2, eB⟩ := (show ∃ u : Nat, b = u ∧ u < 1000000000 ∧ decDigits u = q from hB)
    have q1 : a = c := itoa_inj (by rw [eA, e1])
    have q2 : u = m := dec_inj (by rw [eB, e2])
    exact ⟨rfl, rfl, by omega, by omega, by omega, by omega⟩
end Go.Proofs.Hx
namespace Go.Proofs.YtddkiemipedgcaaGreatDoor
open Go.RowKit Go.Proofs.Fl Go.Proofs.Pl Go.Proofs.Hx
open Go.Lib hiding intOf
set_option linter.unusedVariables false
/-- What 'ReadSun' answers. -/
noncomputable def rdAns (l : List UInt8) : List Int × Int := sunMade (rdCode l) (rdF l) (rdG l)
theorem rdAns_ok {l : List UInt8} (h : RdOk l) : rdAns l = (fill24 (rdF l) (rdG l), 0) := sm_ok (rd_yes h)
theorem rdAns_no {l : List UInt8} (h : rdCode l = 5) : rdAns l = (zeroSun, 5) := by
  unfold rdAns
  rw [h]
  exact sm_no (by decide)
end Go.Proofs.YtddkiemipedgcaaGreatDoor
