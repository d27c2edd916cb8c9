/-
  Suns that are made: the mirrored one.
-/
import Derived.Test.YtfiifnlnkedahaaDoorWt
import Derived.Laws.ResultCell
namespace Go.Proofs.YtfiifnlnkedahaaDoor
open Go.RowKit Go.Proofs.Fl Go.Proofs.Pl
set_option linter.unusedVariables false

/-- Two results, of which the first lies in a row. -/
theorem results_pair {P : Program} {fn : Func} {p u : Tmp} {ty : TypeId} (h : fn.results = #[.cell p ty, .tmp u]) {n : Nat} (ht : IsAgg P ty n) (tmps : Array Value) (w : World) (b : Nat) (cs : Array Value) (hn : cs.size = n) (y : Value)
    (hp : tmps.getD p undef = .pointer (some ⟨b, 0, none⟩)) (hu : tmps.getD u undef = y) (hr : Row w b cs) : (results fn tmps).run P w = .ok (.tuple #[.agg cs, y]) w := by
  have h1 := run_loadVar_at (P := P) (w := w) b 0 n ty cs ht hr (by omega)
  have : cs.extract 0 (0 + n) = cs := by rw [Nat.zero_add, ← hn]; simp
  rw [this] at h1
  rw [results_cell_tmp h, hp, hu]
  simp [asAddr, Result.andThen, h1]
/-- The first k hours of a sun that is made. -/
def fill (F G : Nat → Int) (k : Nat) : List Int := (List.range 48).map fun i => if i < 24 then (if i < k then F i else 0) else (if i < 24 + k then G (i - 24) else 0)
theorem fill_len (F G : Nat → Int) (k : Nat) : (fill F G k).length = 48 := by simp [fill]
theorem fill_zero (F G : Nat → Int) : fill F G 0 = List.replicate 48 0 := by
  apply List.ext_getElem?
  intro i
  simp only [fill, List.getElem?_map, List.getElem?_range', List.getElem?_replicate]
  by_cases h : i < 48
  · rw [List.getElem?_eq_getElem (by simpa using h)]
    simp [h]
    by_cases h2 : i < 24
    · simp [h2] <;> (intro h3; omega)
    · simp [h2] <;> (intro h3; omega)
  · rw [List.getElem?_eq_none (by simp; omega)]
    simp [h]
theorem fill_step (F G : Nat → Int) {k : Nat} (hk : k < 24) : ((sunCells (fill F G k)).setIfInBounds k (.int .i16 (F k))).setIfInBounds (24 + k) (.int .i16 (G k)) = sunCells (fill F G (k + 1)) := by
  apply Array.ext_getElem?
  intro i
  have hs : (sunCells (fill F G k)).size = 48 := by rw [sunCells_size, fill_len]
  rw [Array.getElem?_setIfInBounds, Array.getElem?_setIfInBounds]
  by_cases hi : i < 48
  · have g : ∀ j, (sunCells (fill F G j))[i]? = some (.int .i16 (if i < 24 then (if i < j then F i else 0) else (if i < 24 + j then G (i - 24) else 0))) := by
      intro j
      rw [sunCells_at (by rw [fill_len]; exact hi)]
      simp [fill, hi]
    rw [g, g]
    simp only [Array.size_setIfInBounds, hs]
    by_cases c1 : 24 + k = i
    · rw [if_pos c1, if_pos (by omega)]
      rw [if_neg (by omega), if_pos (by omega)]
      rw [show i - 24 = k by omega]
    · rw [if_neg c1]
      by_cases c2 : k = i
      · rw [if_pos c2, if_pos (by omega), if_pos (by omega), if_pos (by omega), c2]
      · rw [if_neg c2]
        congr 2
        by_cases c3 : i < 24
        · rw [if_pos c3, if_pos c3]
          by_cases c4 : i < k
          · rw [if_pos c4, if_pos (by omega)]
          · rw [if_neg c4, if_neg (by omega)]
        · rw [if_neg c3, if_neg c3]
          by_cases c4 : i < 24 + k
          · rw [if_pos c4, if_pos (by omega)]
          · rw [if_neg c4, if_neg (by omega)]
  · have q1 : (sunCells (fill F G k))[i]? = none := Array.getElem?_eq_none (by rw [hs]; omega)
    have q2 : (sunCells (fill F G (k + 1)))[i]? = none := Array.getElem?_eq_none (by rw [sunCells_size, fill_len]; omega)
    rw [if_neg (by omega), if_neg (by omega), q1, q2]
def fill24 (F G : Nat → Int) : List Int := fill F G 24
theorem fill24_eq (F G : Nat → Int) : fill F G 24 = fill24 F G := rfl
theorem fill24_len (F G : Nat → Int) : (fill24 F G).length = 48 := fill_len F G 24
attribute [irreducible] fill24
def zeroSun : List Int := List.replicate 48 0
def sunMade (c : Int) (F G : Nat → Int) : List Int × Int := if c = 0 then (fill24 F G, 0) else (zeroSun, c)
theorem sm_ok {c : Int} {F G : Nat → Int} (h : c = 0) : sunMade c F G = (fill24 F G, 0) := if_pos h
theorem sm_no {c : Int} {F G : Nat → Int} (h : c ≠ 0) : sunMade c F G = (zeroSun, c) := if_neg h
theorem sm_len (c : Int) (F G : Nat → Int) : (sunMade c F G).1.length = 48 := by
  by_cases h : c = 0
  · rw [sm_ok h]; exact fill24_len F G
  · rw [sm_no h]; rfl
theorem keep2_wrote {w0 w w' : World} {b : Nat} {c d : Array Value} (h : Keep2 w0 w c d) (hw : Wrote w w' b) (hb : w0.heap.size + 2 ≤ b) : Keep2 w0 w' c d :=
  ⟨h.below.trans (hw.below (by omega)), hw.row h.row (by omega), hw.row h.row2 (by omega)⟩
def mirF (L : List Int) (k : Nat) : Int := hgt L (23 - k)
def mirG (L : List Int) (k : Nat) : Int := (-(trn L (23 - k))) % 256
/-- What the round of a loop that makes a sun knows and writes. -/
theorem made_cells {wr : World} {F G : Nat → Int} {k b : Nat} (hk : k < 24) (r : Row wr b (sunCells (fill F G k))) (v : Value) :
    (∃ x, wr.cell? ⟨b, k, none⟩ = some x) ∧ wr.frozen? ⟨b, k, none⟩ = false ∧ (∃ x, (wr.setCell ⟨b, k, none⟩ v).cell? ⟨b, 24 + k, none⟩ = some x) ∧ (wr.setCell ⟨b, k, none⟩ v).frozen? ⟨b, 24 + k, none⟩ = false := by
  have hs : (sunCells (fill F G k)).size = 48 := by rw [sunCells_size, fill_len]
  have r2 := r.set k v
  refine ⟨⟨(sunCells (fill F G k))[k]'(by omega), by rw [r.cell]; simp [show k < (sunCells (fill F G k)).size by omega]⟩, r.frozen k, ?_, r2.frozen _⟩
  refine ⟨((sunCells (fill F G k)).setIfInBounds k v)[24 + k]'(by simp; omega), ?_⟩
  rw [r2.cell]
  rw [Array.getElem?_eq_getElem]

end Go.Proofs.YtfiifnlnkedahaaDoor
