/-
  Blinds: the answers.
-/
import Derived.Test.YtfiifnlnkedahaaDoorWbb
import Derived.Laws.ResultCell
namespace Go.Proofs.YtfiifnlnkedahaaDoor
open Go.RowKit Go.Proofs.Fl Go.Proofs.Pl
set_option linter.unusedVariables false
set_option maxRecDepth 100000

def high (n : Int) (g : Nat) : Nat := fmul (floatOfInt .f32 n) g
theorem high_steps {n : Int} {g : Nat} (h1 : 1 ≤ n) (h2 : n ≤ 60) (hg : isLen g = true) : Fnt (floatOfInt .f32 n) ∧ Fnt g ∧ Fnt (high n g) := by
  obtain ⟨g1, _, _, g4⟩ := len_of hg
  have a := whole_fin (show 0 ≤ n by omega) (show n ≤ 100 by omega)
  have c := fmul_le' a.2 g4 (by decide) (by decide) (c := 1179123712) (by decide) (by decide +kernel)
  exact ⟨a.1, g1, fin_of_le c (by decide)⟩
/-- Two results, of which the first lies in a row. -/
theorem results_row2 {P : Program} {fn : Func} {p u : Tmp} {ty : TypeId} (h : fn.results = #[.cell p ty, .tmp u]) {n : Nat} (ht : IsAgg P ty n) (tmps : Array Value) (w : World) (b : Nat) (cs : Array Value) (hn : cs.size = n) (y : Value)
    (hp : tmps.getD p undef = .pointer (some ⟨b, 0, none⟩)) (hu : tmps.getD u undef = y) (hr : Row w b cs) : (results fn tmps).run P w = .ok (.tuple #[.agg cs, y]) w := by
  have h1 := run_loadVar_at (P := P) (w := w) b 0 n ty cs ht hr (by omega)
  have : cs.extract 0 (0 + n) = cs := by rw [Nat.zero_add, ← hn]; simp
  rw [this] at h1
  rw [results_cell_tmp h, hp, hu]
  simp [asAddr, Result.andThen, h1]


theorem blind_one (n : Int) (wd g : Nat) (t : Int) (s : Nat) : ∀ v ∈ (blindCells n wd g t s).toList, v.oneCell' = true := by
  intro v hv; simp [blindCells] at hv; rcases hv with rfl | rfl | rfl | rfl | rfl <;> rfl
def zeroBlind : Array Value := #[.int .i8 0, .float .f32 0, .float .f32 0, .int .i16 0, .float .f32 0]
def tiltAns (n : Int) (wd g : Nat) (t : Int) (s : Nat) (u : Int) : Array Value × Int := codeRes (code2 (blindOk n wd g t s) (inR u (-64) 64)) zeroBlind (blindCells n wd g u s)
theorem ta_ok {n : Int} {wd g : Nat} {t : Int} {s : Nat} {u : Int} (h : code2 (blindOk n wd g t s) (inR u (-64) 64) = 0) : tiltAns n wd g t s u = (blindCells n wd g u s, 0) := by unfold tiltAns; exact cr_ok h
theorem ta_no {n : Int} {wd g : Nat} {t : Int} {s : Nat} {u : Int} (h : code2 (blindOk n wd g t s) (inR u (-64) 64) ≠ 0) : tiltAns n wd g t s u = (zeroBlind, code2 (blindOk n wd g t s) (inR u (-64) 64)) := by unfold tiltAns; exact cr_no h
end Go.Proofs.YtfiifnlnkedahaaDoor
