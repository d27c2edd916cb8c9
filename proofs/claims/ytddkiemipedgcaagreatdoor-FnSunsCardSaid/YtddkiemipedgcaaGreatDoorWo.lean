/-
  Slices of int64 that the call itself made: compared, marked, held.
-/
import Derived.Test.YtddkiemipedgcaaGreatDoorWa
import Derived.Test.YtddkiemipedgcaaGreatDoorRw
import Derived.WalkKit
namespace Go.Proofs.YtddkiemipedgcaaGreatDoor
open Go.RowKit Go.Proofs.Fl Go.Proofs.Pl
set_option linter.unusedVariables false

/-- The numbers xs lie at ad. -/
def Ints (w : World) (ad : Option Addr) (xs : List Int) : Prop := ∀ k, k < xs.length → ∃ g, ad = some ⟨g, 0, none⟩ ∧ g < w.heap.size ∧ w.cell? ⟨g, k, none⟩ = some (.int .i64 (xs.getD k 0))
theorem Ints.below {w w' : World} {ad : Option Addr} {xs : List Int} (h : Ints w ad xs) (hb : Below w.heap.size w w') : Ints w' ad xs := by
  intro k hk
  obtain ⟨g, e, hg, hc⟩ := h k hk
  exact ⟨g, e, Nat.lt_of_lt_of_le hg hb.size, (World.cell?_of_block (hb.block g hg)).trans hc⟩
/-- From w to w' the block at ad alone may have been written. -/
structure WroteAt (w w' : World) (ad : Option Addr) : Prop where
  os : w'.os = w.os
  tape : w'.tape = w.tape
  output : w'.output = w.output
  size : w'.heap.size = w.heap.size
  block : ∀ k, ad ≠ some ⟨k, 0, none⟩ → w'.heap[k]? = w.heap[k]?
theorem WroteAt.refl (w : World) (ad : Option Addr) : WroteAt w w ad := ⟨rfl, rfl, rfl, rfl, fun _ _ => rfl⟩
theorem WroteAt.below {w w' : World} {ad : Option Addr} (h : WroteAt w w' ad) {B : Nat} (hB : ∀ g, ad = some ⟨g, 0, none⟩ → B ≤ g) : Below B w w' :=
  ⟨h.os, h.tape, h.output, by rw [h.size]; exact Nat.le_refl _, fun k hk => h.block k fun e => by have := hB k e; omega⟩
theorem WroteAt.ints {w w' : World} {ad bd : Option Addr} {xs : List Int} (h : WroteAt w w' ad) (hx : Ints w bd xs) (hne : ∀ g, bd = some ⟨g, 0, none⟩ → ad ≠ some ⟨g, 0, none⟩) : Ints w' bd xs := by
  intro k hk
  obtain ⟨g, e, hg, hc⟩ := hx k hk
  exact ⟨g, e, by rw [h.size]; exact hg, (World.cell?_of_block (h.block g (hne g e))).trans hc⟩
/-- The first n cells at ad are the call's own. -/
def Mine (w : World) (base : Nat) (ad : Option Addr) (n : Nat) : Prop := n = 0 ∨ ∃ g cs, ad = some ⟨g, 0, none⟩ ∧ base ≤ g ∧ Row w g cs ∧ n ≤ cs.size
theorem Mine.below {w w' : World} {base : Nat} {ad : Option Addr} {n : Nat} (h : Mine w base ad n) (hb : Below w.heap.size w w') : Mine w' base ad n := by
  rcases h with h | ⟨g, cs, e, hg, r, hs⟩
  · exact .inl h
  · exact .inr ⟨g, cs, e, hg, r.below hb r.lt, hs⟩
theorem keep1_stepB {w0 w w1 : World} {c : Array Value} (h : Keep1 w0 w c) (hb : Below (w0.heap.size + 1) w w1) : Keep1 w0 w1 c :=
  ⟨h.below.trans (hb.mono (by omega)), h.row.below hb (by omega)⟩
theorem keep2_stepB {w0 w w1 : World} {c d : Array Value} (h : Keep2 w0 w c d) (hb : Below (w0.heap.size + 2) w w1) : Keep2 w0 w1 c d :=
  ⟨h.below.trans (hb.mono (by omega)), h.row.below hb (by omega), h.row2.below hb (by omega)⟩
/-- A list of numbers that the call itself made: its value, where it lies. -/
structure Made (w : World) (base : Nat) (v : Value) (xs : List Int) : Prop where
  ints : ∃ ad c, v = .slice ad xs.length c ∧ Ints w ad xs ∧ Mine w base ad xs.length ∧ (∀ g, ad = some ⟨g, 0, none⟩ → base ≤ g ∧ g < w.heap.size)
theorem made_of {w : World} {base e : Nat} {v : Value} {xs : List Int} (h : w.ownsRow base e 1 v xs.length (xs.map (Value.int .i64))) : Made w base v xs := by
  rcases h.2 with ⟨rfl, hx⟩ | ⟨g, cap, cur, rfl, hbg, hg, hnc, hcm, hcs, htake⟩
  · have : xs = [] := by simpa using hx
    subst this
    exact ⟨none, 0, rfl, fun k hk => by simp at hk, .inl rfl, fun g e => by cases e⟩
  · have hlt : g < w.heap.size := by
      by_cases c : g < w.heap.size
      · exact c
      · rw [Array.getElem?_eq_none (by omega)] at hg; cases hg
    refine ⟨some ⟨g, 0, none⟩, cap, rfl, fun k hk => ⟨g, rfl, hlt, ?_⟩, .inr ⟨g, cur, rfl, hbg, ⟨e, hg⟩, by omega⟩, fun k e => by cases e; exact ⟨hbg, hlt⟩⟩
    rw [h.cellAt k (by omega), List.getElem?_map, List.getElem?_eq_getElem hk]
    simp [hk]
theorem own_below {w w' : World} {base e size : Nat} {v : Value} {n : Nat} {xs : List Value} (h : w.ownsRow base e size v n xs) (hb : Below w.heap.size w w') : w'.ownsRow base e size v n xs := by
  refine h.kept (row := none) ⟨hb.os, hb.tape, hb.output, hb.size, fun k hk _ => hb.block k hk⟩ ?_
  cases hv : v.ownBlock
  · exact .inl rfl
  · exact .inr (by simp)
theorem cell_one (w : World) (x : Value) (T : TypeId) : ∀ (j : Nat) (u : Value), [x][j]? = some u → (w.alloc (.cells #[x] T)).cell? ((⟨w.heap.size, 0, none⟩ : Addr).add j) = some u := by
  intro j u h
  cases j with
  | zero =>
    simp at h; subst h
    have r := (Row.new w #[x] T).cell 0
    exact r
  | succ j => simp at h
theorem one_one (x : Int) : ∀ u ∈ [Value.int .i64 x], u.oneCell' = true := by intro u h; simp at h; subst h; rfl
theorem app_below {w3 w4 : World} {o : Obj} {base e size : Nat} {v : Value} {n : Nat} {xs : List Value} (own : w3.ownsRow base e size v n xs) (hg : (w3.alloc o).grownBy w4 v.ownBlock) (hb : base ≤ w3.heap.size) : Below base w3 w4 := by
  have hs := hg.size
  have hz : (w3.alloc o).heap.size = w3.heap.size + 1 := by simp
  rw [hz] at hs
  refine ⟨hg.os, hg.tape, hg.output, by omega, fun k hk => ?_⟩
  rw [hg.block k (by simp; omega) (fun e => by have := (own.lt k e.symm).1; omega)]
  exact ((Below.refl w3.heap.size w3).alloc (Nat.le_refl _) o).block k (by omega)
theorem own_wrote {w w' : World} {b base e size : Nat} {v : Value} {n : Nat} {xs : List Value} (own : w.ownsRow base e size v n xs) (h : Wrote w w' b) (hb : b < base) : w'.ownsRow base e size v n xs := by
  refine own.kept (row := some b) ⟨h.os, h.tape, h.output, by rw [h.size]; exact Nat.le_refl _, fun k _ hk => h.block k (fun e => hk (by rw [e]))⟩ (.inr fun e => ?_)
  have := (own.lt b e).1
  omega
theorem own_mono {w : World} {b c e size : Nat} {v : Value} {n : Nat} {xs : List Value} (own : w.ownsRow b e size v n xs) (h : c ≤ b) : w.ownsRow c e size v n xs := by
  refine ⟨own.1, ?_⟩
  rcases own.2 with h1 | ⟨g, cap, cur, h1, h2, h3⟩
  · exact .inl h1
  · exact .inr ⟨g, cap, cur, h1, by omega, h3⟩
theorem own_empty (w : World) (o : Obj) (e : TypeId) : ((w.alloc o).alloc (.cells #[] e)).ownsRow (w.heap.size + 1) e 1 (.slice (some ⟨w.heap.size + 1, 0, none⟩) 0 0) 0 [] := by
  have q := World.ownsRow_lit (base := w.heap.size + 1) (e := e) (size := 1) (w.alloc o) #[] 0 (by simp) (by decide) rfl
  have hz : (w.alloc o).heap.size = w.heap.size + 1 := by simp
  rw [hz] at q
  exact q
theorem own_none (w : World) (b e : Nat) : w.ownsRow b e 1 (.slice none 0 0) ([] : List Int).length (([] : List Int).map (Value.int .i64)) := World.ownsRow_nil _ _ _ _
theorem own_new (w : World) (e : TypeId) (b : Nat) (hb : b ≤ w.heap.size) : (w.alloc (.cells #[] e)).ownsRow b e 1 (.slice (some ⟨w.heap.size, 0, none⟩) 0 0) ([] : List Int).length (([] : List Int).map (Value.int .i64)) :=
  World.ownsRow_lit (base := b) (e := e) (size := 1) w #[] 0 hb (by decide) rfl
def marks (n : Nat) : List Int := (List.range n).map fun (k : Nat) => 1 + (k : Int)
theorem marks_len (n : Nat) : (marks n).length = n := by simp [marks]
theorem marks_at {n k : Nat} (h : k < n) : (marks n).getD k 0 = 1 + (k : Int) := by simp [marks, h]

end Go.Proofs.YtddkiemipedgcaaGreatDoor
