/-
  How the arguments of a law are opened: by the outer form of each alone; they read behind the call as before because nothing that was there is written.
-/
import Derived.Test.YtddkiemipedgcaaGreatDoorRows
import Derived.Test.YtddkiemipedgcaaGreatDoorWe
import Derived.Test.YtddkiemipedgcaaGreatDoorPs
import Derived.ProofKit
import Derived.ChangeOld
import Derived.OpenShut
import Derived.ShutString
namespace Go.Proofs.YtddkiemipedgcaaGreatDoor
open Go.ChangeShapes Go.WideShapes Go.ChangeAt Go.RowKit Go.Proofs.Fl Go.Proofs.Pl

theorem own : ownKnob Tryz.prog.godebug = none := by kernel_rfl
theorem laidOut : laidOutB Tryz.prog = true := by kernel_rfl

section
variable {w : World} {r : Reach} {b0 : Nat} {t : TypeId} {v : Value}
theorem cell_int {P : Program} {k : IntKind} (ht : P.underlying t = some (.int k)) (h : Cell.okWide P w r b0 t v) : ∃ n, v = .int k n ∧ k.min ≤ n ∧ n ≤ k.max := by
  simp only [Cell.okWide, ht] at h
  cases v <;> simp_all [Cell.ok, IntKind.has]
theorem cell_float {P : Program} (ht : P.underlying t = some (.float .f32)) (h : Cell.okWide P w r b0 t v) : ∃ n, v = .float .f32 n ∧ n < 4294967296 := by
  simp only [Cell.okWide, ht] at h
  cases v <;> simp_all [Cell.ok, FloatKind.has]
theorem arg_int {P : Program} {k : IntKind} (ht : P.underlying t = some (.int k)) (h : Value.okWide P w r b0 t v) : ∃ n, v = .int k n ∧ k.min ≤ n ∧ n ≤ k.max := by
  simp only [Value.okWide, ht] at h; exact cell_int ht h
theorem arg_float {P : Program} (ht : P.underlying t = some (.float .f32)) (h : Value.okWide P w r b0 t v) : ∃ n, v = .float .f32 n ∧ n < 4294967296 := by
  simp only [Value.okWide, ht] at h; exact cell_float ht h
theorem arg_string {P : Program} (ht : P.underlying t = some .string) (h : Value.okWide P w r b0 t v) : ∃ s, v = .string s ∧ s.size ≤ 9223372036854775807 := by
  simp only [Value.okWide, ht, Cell.okWide] at h
  cases v with
  | string s =>
    refine ⟨s, rfl, ?_⟩
    simp only [Cell.ok, ht] at h
    have e : IntKind.i64.max = 9223372036854775807 := rfl
    rw [e] at h
    omega
  | _ => simp_all [Cell.ok]
theorem arg_agg {P : Program} {n : Nat} {ts : List TypeId} (ha : (match P.underlying t with | some (.struct _) | some (.array _ _) => true | _ => false) = true) (hn : P.cellsOf t = n) (hts : P.cellTypes P.depth t = some ts) (h : Value.okWide P w r b0 t v) :
    ∃ cs : Array Value, v = .agg cs ∧ cs.size = n ∧ ∀ i x, cs[i]? = some x → ∃ u, ts[i % ts.length]? = some u ∧ Cell.okWide P w r b0 u x := by
  unfold Value.okWide at h
  split at h
  · obtain ⟨cs, h1, h2, ts', h3, _, h5⟩ := h
    rw [hts] at h3; cases h3
    exact ⟨cs, h1, by rw [h2, hn], h5⟩
  · obtain ⟨cs, h1, h2, ts', h3, _, h5⟩ := h
    rw [hts] at h3; cases h3
    exact ⟨cs, h1, by rw [h2, hn], h5⟩
  · rename_i h1 h2
    split at ha
    · rename_i e; exact absurd e (h1 _)
    · rename_i e; exact absurd e (h2 _ _)
    · cases ha
end
theorem array3 {cs : Array Value} (h : cs.size = 3) : ∃ a b c, cs = #[a, b, c] := by
  obtain ⟨l⟩ := cs
  match l, h with
  | [a, b, c], _ => exact ⟨a, b, c, rfl⟩
theorem array5 {cs : Array Value} (h : cs.size = 5) : ∃ a b c d e, cs = #[a, b, c, d, e] := by
  obtain ⟨l⟩ := cs
  match l, h with
  | [a, b, c, d, e], _ => exact ⟨a, b, c, d, e, rfl⟩
end Go.Proofs.YtddkiemipedgcaaGreatDoor
