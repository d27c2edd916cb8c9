/-
  How the arguments of a law are opened: by the outer form of each alone; they read behind the call as before because nothing that was there is written.
-/
import Derived.Test.YtfiifnlnkedahaaDoorRows
import Derived.Test.YtfiifnlnkedahaaDoorWe
import Derived.Test.YtfiifnlnkedahaaDoorPs
import Derived.ProofKit
import Derived.ChangeOld
import Derived.OpenShut
import Derived.ShutString
namespace Go.Proofs.YtfiifnlnkedahaaDoor
open Go.ChangeShapes Go.WideShapes Go.ChangeAt Go.RowKit Go.Proofs.Fl Go.Proofs.Pl

theorem own : ownKnob Tryd.prog.godebug = none := by kernel_rfl
theorem laidOut : laidOutB Tryd.prog = true := by kernel_rfl

section
variable {w : World} {r : Reach} {b0 : Nat} {t : TypeId} {v : Value}
theorem cell_int {P : Program} {k : IntKind} (ht : P.underlying t = some (.int k)) (h : Cell.okWide P w r b0 t v) : ∃ n, v = .int k n ∧ k.min ≤ n ∧ n ≤ k.max := by
  simp only [Cell.okWide, ht] at h
  cases v <;> simp_all [Cell.ok, IntKind.has]
theorem cell_float {P : Program} (ht : P.underlying t = some (.float .f32)) (h : Cell.okWide P w r b0 t v) : ∃ n, v = .float .f32 n ∧ n < 4294967296 := by
  simp only [Cell.okWide, ht] at h
  cases v <;> simp_all [Cell.ok, FloatKind.has]
theorem arg_int {P : Program} {k : IntKind} (ht : P.underlying t = some (.int k)) (h : Value.okWide P w r b0 t v) : ∃ n, v = .int k n ∧ k.min ≤ n ∧ n ≤ k.max := by
  simp only [Value.okWide, ht] at h; exact cell_int ht h
theorem arg_float {P : Program} (ht : P.underlying t = some (.float .f32)) (h : Value.okWide P w r b0 t v) : ∃ n, v = .float .f32 n ∧ n < 4294967296 := by
  simp only [Value.okWide, ht] at h; exact cell_float ht h
theorem arg_string {P : Program} (ht : P.underlying t = some .string) (h : Value.okWide P w r b0 t v) : ∃ s, v = .string s ∧ s.size ≤ 9223372036854775807 := by
  simp only [Value.okWide, ht, Cell.okWide] at h
  cases v with
  | string s =>
    refine ⟨s, rfl, ?_⟩
    simp only [Cell.ok, ht] at h
    have e : IntKind.i64.max = 9223372036854775807 := rfl
    rw [e] at h
    omega
  | _ => simp_all [Cell.ok]
theorem arg_agg {P : Program} {n : Nat} {ts : List TypeId} (ha : (match P.underlying t with | some (.struct _) | some (.array _ _) => true | _ => false) = true) (hn : P.cellsOf t = n) (hts : P.cellTypes P.depth t = some ts) (h : Value.okWide P w r b0 t v) :
    ∃ cs : Array Value, v = .agg cs ∧ cs.size = n ∧ ∀ i x, cs[i]? = some x → ∃ u, ts[i % ts.length]? = some u ∧ Cell.okWide P w r b0 u x := by
  unfold Value.okWide at h
  split at h
  · obtain ⟨cs, h1, h2, ts', h3, _, h5⟩ := h
    rw [hts] at h3; cases h3
    exact ⟨cs, h1, by rw [h2, hn], h5⟩
  · obtain ⟨cs, h1, h2, ts', h3, _, h5⟩ := h
    rw [hts] at h3; cases h3
    exact ⟨cs, h1, by rw [h2, hn], h5⟩
  · rename_i h1 h2
    split at ha
    · rename_i e; exact absurd e (h1 _)
    · rename_i e; exact absurd e (h2 _ _)
    · cases ha
end
theorem array3 {cs : Array Value} (h : cs.size = 3) : ∃ a b c, cs = #[a, b, c] := by
  obtain ⟨l⟩ := cs
  match l, h with
  | [a, b, c], _ => exact ⟨a, b, c, rfl⟩
theorem array5 {cs : Array Value} (h : cs.size = 5) : ∃ a b c d e, cs = #[a, b, c, d, e] := by
  obtain ⟨l⟩ := cs
  match l, h with
  | [a, b, c, d, e], _ => exact ⟨a, b, c, d, e, rfl⟩
set_option maxRecDepth 100000 in
theorem arg_blind {w : World} {r : Reach} {b0 : Nat} {v : Value} (h : Value.okWide Tryd.prog w r b0 40 v) :
    ∃ n wd g t s, v = .agg #[.int .i8 n, .float .f32 wd, .float .f32 g, .int .i16 t, .float .f32 s] ∧ -128 ≤ n ∧ n ≤ 127 ∧ wd < 4294967296 ∧ g < 4294967296 ∧ -32768 ≤ t ∧ t ≤ 32767 ∧ s < 4294967296 := by
  obtain ⟨cs, rfl, hn, hc⟩ := arg_agg (n := 5) (ts := [38, 22, 22, 30, 22]) (by kernel_rfl) (by kernel_rfl) (by kernel_rfl) h
  obtain ⟨c0, c1, c2, c3, c4, rfl⟩ := array5 hn
  obtain ⟨u0, e0, k0⟩ := hc 0 c0 rfl
  obtain ⟨u1, e1, k1⟩ := hc 1 c1 rfl
  obtain ⟨u2, e2, k2⟩ := hc 2 c2 rfl
  obtain ⟨u3, e3, k3⟩ := hc 3 c3 rfl
  obtain ⟨u4, e4, k4⟩ := hc 4 c4 rfl
  cases e0; cases e1; cases e2; cases e3; cases e4
  obtain ⟨n, rfl, n1, n2⟩ := cell_int Tryd.underlying38 k0
  obtain ⟨l, rfl, hl⟩ := cell_float Tryd.underlying22 k1
  obtain ⟨g, rfl, hg⟩ := cell_float Tryd.underlying22 k2
  obtain ⟨t, rfl, t1, t2⟩ := cell_int Tryd.underlying30 k3
  obtain ⟨s, rfl, hs⟩ := cell_float Tryd.underlying22 k4
  exact ⟨n, l, g, t, s, rfl, n1, n2, hl, hg, t1, t2, hs⟩
set_option maxRecDepth 100000 in
theorem arg_sun {w : World} {r : Reach} {b0 : Nat} {v : Value} (h : Value.okWide Tryd.prog w r b0 33 v) :
    ∃ L : List Int, v = .agg (sunCells L) ∧ L.length = 48 ∧ ∀ x ∈ L, -32768 ≤ x ∧ x ≤ 32767 := by
  obtain ⟨cs, rfl, hn, hc⟩ := arg_agg (n := 48) (ts := List.replicate 48 30) (by kernel_rfl) (by kernel_rfl) (by kernel_rfl) h
  have each : ∀ (i : Nat) (x : Value), cs[i]? = some x → ∃ n, x = Value.int .i16 n ∧ -32768 ≤ n ∧ n ≤ 32767 := by
    intro i x hx
    obtain ⟨u, hu, ho⟩ := hc i x hx
    have hlt : i < 48 := by rw [← hn]; exact (Array.getElem?_eq_some_iff.1 hx).1
    have e : (List.replicate 48 30)[i % (List.replicate 48 30).length]? = some 30 := by
      rw [List.length_replicate, List.getElem?_replicate, if_pos (by omega)]
    rw [e] at hu; cases hu
    obtain ⟨n, rfl, n1, n2⟩ := cell_int Tryd.underlying30 ho
    exact ⟨n, rfl, n1, n2⟩
  have key : ∀ l : List Value, (∀ x ∈ l, ∃ n, x = Value.int .i16 n ∧ -32768 ≤ n ∧ n ≤ 32767) → ∃ L : List Int, l = L.map (Value.int .i16) ∧ ∀ x ∈ L, -32768 ≤ x ∧ x ≤ 32767 := by
    intro l
    induction l with
    | nil => intro _; exact ⟨[], rfl, by simp⟩
    | cons v r ih =>
      intro h
      obtain ⟨n, rfl, n1, n2⟩ := h v (by simp)
      obtain ⟨L, rfl, hL⟩ := ih fun x hx => h x (by simp [hx])
      exact ⟨n :: L, rfl, by simp only [List.mem_cons]; rintro x (rfl | hx); exact ⟨n1, n2⟩; exact hL x hx⟩
  obtain ⟨L, hL, hr⟩ := key cs.toList fun x hx => by
    obtain ⟨i, hi⟩ := List.getElem?_of_mem hx
    exact each i x (by simpa using hi)
  have e : cs = sunCells L := by unfold sunCells; rw [← hL]
  subst e
  exact ⟨L, rfl, by rw [← hn, sunCells_size], hr⟩
end Go.Proofs.YtfiifnlnkedahaaDoor
