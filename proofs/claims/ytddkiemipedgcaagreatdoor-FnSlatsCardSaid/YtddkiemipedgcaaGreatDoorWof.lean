/-
  Slices of float32 that the call itself made; a slice of int64 that is copied.
-/
import Derived.Test.YtddkiemipedgcaaGreatDoorWo
import Derived.Test.YtddkiemipedgcaaGreatDoorWe
import Derived.Test.YtddkiemipedgcaaGreatDoorPc
import Derived.Test.YtddkiemipedgcaaGreatDoorPs
namespace Go.Proofs.YtddkiemipedgcaaGreatDoor
open Go.RowKit Go.Proofs.Fl Go.Proofs.Pl
set_option linter.unusedVariables false

/-- The numbers xs lie at ad. -/
def Flts (w : World) (ad : Option Addr) (xs : List Nat) : Prop := ∀ k, k < xs.length → ∃ g, ad = some ⟨g, 0, none⟩ ∧ g < w.heap.size ∧ w.cell? ⟨g, k, none⟩ = some (.float .f32 (xs.getD k 0))
theorem Flts.below {w w' : World} {ad : Option Addr} {xs : List Nat} (h : Flts w ad xs) (hb : Below w.heap.size w w') : Flts w' ad xs := by
  intro k hk
  obtain ⟨g, e, hg, hc⟩ := h k hk
  exact ⟨g, e, Nat.lt_of_lt_of_le hg hb.size, (World.cell?_of_block (hb.block g hg)).trans hc⟩
theorem WroteAt.flts {w w' : World} {ad bd : Option Addr} {xs : List Nat} (h : WroteAt w w' ad) (hx : Flts w bd xs) (hne : ∀ g, bd = some ⟨g, 0, none⟩ → ad ≠ some ⟨g, 0, none⟩) : Flts w' bd xs := by
  intro k hk
  obtain ⟨g, e, hg, hc⟩ := hx k hk
  exact ⟨g, e, by rw [h.size]; exact hg, (World.cell?_of_block (h.block g (hne g e))).trans hc⟩
theorem made_flts {w : World} {base e : Nat} {v : Value} {xs : List Nat} (h : w.ownsRow base e 1 v xs.length (xs.map (Value.float .f32))) :
    ∃ ad c, v = .slice ad xs.length c ∧ Flts w ad xs ∧ Mine w base ad xs.length ∧ (∀ g, ad = some ⟨g, 0, none⟩ → base ≤ g ∧ g < w.heap.size) := by
  rcases h.2 with ⟨rfl, hx⟩ | ⟨g, cap, cur, rfl, hbg, hg, hnc, hcm, hcs, htake⟩
  · have : xs = [] := by simpa using hx
    subst this
    exact ⟨none, 0, rfl, fun k hk => by simp at hk, .inl rfl, fun g e => by cases e⟩
  · have hlt : g < w.heap.size := by
      by_cases c : g < w.heap.size
      · exact c
      · rw [Array.getElem?_eq_none (by omega)] at hg; cases hg
    refine ⟨some ⟨g, 0, none⟩, cap, rfl, fun k hk => ⟨g, rfl, hlt, ?_⟩, .inr ⟨g, cur, rfl, hbg, ⟨e, hg⟩, by omega⟩, fun k e => by cases e; exact ⟨hbg, hlt⟩⟩
    rw [h.cellAt k (by omega), List.getElem?_map, List.getElem?_eq_getElem hk]
    simp [hk]
def fmarks (n : Nat) : List Nat := (List.range n).map fun (k : Nat) => floatOfInt .f32 (1 + (k : Int))
theorem fmarks_len (n : Nat) : (fmarks n).length = n := by simp [fmarks]
theorem fmarks_at {n k : Nat} (h : k < n) : (fmarks n).getD k 0 = floatOfInt .f32 (1 + (k : Int)) := by simp [fmarks, h]
theorem fne_self {x : Nat} (h : Fnt x) : fne x x = false := by
  have e := order_fin h h
  unfold fne; rw [e, Int.compare_eq_eq.2 rfl]; rfl
/-- The numbers xs lie at an argument's address. -/
def ArgInts (w : World) (ao : Option Addr) (xs : List Int) : Prop := ∀ k, k < xs.length → ∃ a : Addr, ao = some a ∧ a.block < w.heap.size ∧ w.cell? (a.add k) = some (.int .i64 (xs.getD k 0))
theorem ArgInts.below {w w' : World} {ao : Option Addr} {xs : List Int} (h : ArgInts w ao xs) (hb : Below w.heap.size w w') : ArgInts w' ao xs := by
  intro k hk
  obtain ⟨a, e, ha, hc⟩ := h k hk
  have hblk : (a.add k).block = a.block := by unfold Addr.add; split <;> rfl
  exact ⟨a, e, Nat.lt_of_lt_of_le ha hb.size, (World.cell?_of_block (by rw [hblk]; exact hb.block a.block ha)).trans hc⟩
theorem upto_set {L : List Int} {k : Nat} (h : k < L.length) : (upto L k).set k (L.getD k 0) = upto L (k + 1) := by
  have e1 : L.length - k = (L.length - (k + 1)) + 1 := by omega
  unfold upto
  rw [e1, List.replicate_succ, List.set_append_right _ _ (by simp; omega)]
  have e2 : k - (L.take k).length = 0 := by simp; omega
  have e3 : L.take (k + 1) = L.take k ++ [L[k]] := (List.take_append_getElem h).symm
  have e4 : L.getD k 0 = L[k] := by simp [h]
  rw [e2, List.set_cons_zero, e3, e4, List.append_assoc]
  rfl
end Go.Proofs.YtddkiemipedgcaaGreatDoor
