/-
  A room, a window, as an argument of a law, opened.
-/
import Derived.Test.YtgibcikihniimaaRo
import Derived.Test.YtgibcikihniimaaWrv
import Derived.Test.YtgibcikihniimaaWre
import Derived.ChangeSlices
import Derived.Deep.Slices
import Derived.Deep.Fields
import Derived.ChangeSame
import Derived.Lib.SmallJoins
import Derived.Deep.RegionHeld3
import Derived.Deep.DeepCutAuto
namespace Go.Proofs.Ytgibcikihniimaa
open Go.ChangeShapes Go.WideShapes Go.ChangeAt Go.RowKit Go.Proofs.Fl Go.Proofs.Pl
set_option linter.unusedVariables false

theorem lt_of_cell' {w : World} {a : Addr} {v : Value} (h : w.cell? a = some v) : a.block < w.heap.size := by
  by_cases c : a.block < w.heap.size
  · exact c
  · have : w.heap[a.block]? = none := Array.getElem?_eq_none (by omega)
    simp [World.cell?, this] at h
section
open Go.Deep Go.Joins
variable {H : Type} {enc : TypeId × Value → H} {P : Program} {w : World} {base : Nat} {spare : Nat → Bool} {held : Bool}
theorem trod_float {k : FloatKind} {t : TypeId} {fuel : Nat} {cs : List Value} {x : DataW H × List MemPlace} (ht : P.underlying t = some (.float k)) (h : DataW.trod enc P w base spare held fuel t cs = some x) : ∃ n, cs = [.float k n] := by
  cases fuel with
  | zero => simp [DataW.trod] at h
  | succ n =>
    unfold DataW.trod at h
    rw [ht] at h
    split at h <;> simp_all
theorem open_slice_fields {t e : TypeId} {fs : Array Field} {fuel : Nat} {cs : List Value} {x : DataW H × List MemPlace} (ht : P.underlying t = some (.slice e)) (he : P.underlying e = some (.struct fs))
    (hone : oneCellFields P fs = true) (hC : P.cellsOf e = fs.size) (h : DataW.trod enc P w base spare held fuel t cs = some x) :
    cs = [.slice none 0 0] ∨
    ∃ (a : Addr) (len cap : Nat), cs = [.slice (some a) len cap] ∧ cap ≤ maxLen ∧ len ≤ cap ∧
      ∀ i, i < len → ∀ (j : Nat) (f : Field), fs[j]? = some f → ∃ (v : Value) (y : DataW H × List MemPlace) (n : Nat), w.cell? (a.add (i * fs.size + j)) = some v ∧ DataW.trod enc P w base spare held n f.type [v] = some y := by
  rcases open_slice ht h with h0 | ⟨a, len, cap, m, n, D, Pl, hcs, hb, hl, hm, hmm, hx, hi⟩
  · exact .inl h0.1
  · refine .inr ⟨a, len, cap, hcs, hm, hl, fun i him j f hj => ?_⟩
    have him' : i < m := by rw [hmm]; split <;> omega
    obtain ⟨cs', hc, ht'⟩ := hi i him'
    rw [hC] at hc
    obtain ⟨ys, n', hn', hy, hlen, hyl, hf⟩ := DataW.trod_struct he ht'
    obtain ⟨_, hcl, hat⟩ := World.cells?_some hc
    obtain ⟨ho, hk⟩ := hone_of hone j f hj
    have hjl : j < fs.size := (Array.getElem?_eq_some_iff.1 hj).1
    have hcell := hat j hjl
    have hv : cs'[j]? = some (cs'[j]'(by omega)) := List.getElem?_eq_getElem (by omega)
    have h1 := hf j f hj
    rw [ho, hk] at h1
    have hone' : (cs'.drop j).take 1 = [cs'[j]'(by omega)] := by
      rw [List.drop_eq_getElem_cons (by omega)]
      rfl
    rw [hone'] at h1
    have hys : ys[j]? = some (ys[j]'(by omega)) := List.getElem?_eq_getElem (by omega)
    refine ⟨_, _, _, ?_, h1.trans hys⟩
    rw [← Go.Deep.add_add, hcell, hv]
end
section
variable {P : Program} {ops : Array Oper} {S : World → Prop} {o : Oper} {a : Act}
theorem take_load_all (ty : TypeId) (x : Operand) (ho : o.op = .load ty x) (b : Nat) (hx : a.eval x = .pointer (some ⟨b, 0, none⟩)) (cs : Array Value) (n : Nat) (ht : IsAgg P ty n) (hn : cs.size = n)
    (hr : ∀ w, S w → Row w b cs) (hw : Region.wanted o (yielded ops a.tmps) = true) : YieldsIf P ops S o (.agg cs) a := by
  refine .inl ⟨hw, fun w hS => ?_⟩
  have h1 := run_loadVar_at (P := P) (w := w) b 0 n ty cs ht (hr w hS) (by omega)
  have : cs.extract 0 (0 + n) = cs := by rw [Nat.zero_add, ← hn]; simp
  rw [this] at h1
  unfold execOp
  simp only [ho, hx, Instr.loadAt, Instr.sureAddr, Sem.run_bind, Sem.run_pure, Result.andThen_ok, h1]
theorem take_assign (x : Operand) (ho : o.op = .assign x) (hw : Region.wanted o (yielded ops a.tmps) = true) : YieldsIf P ops S o (a.eval x) a := by
  refine .inl ⟨hw, fun w hS => ?_⟩
  unfold execOp
  simp only [ho]
  rfl
theorem take_not (ty : TypeId) (x : Operand) (ho : o.op = .unOp .not ty x) (hx : a.eval x = .bool true) (hw : Region.wanted o (yielded ops a.tmps) = true) : YieldsIf P ops S o (.bool false) a := by
  refine .inl ⟨hw, fun w hS => ?_⟩
  unfold execOp
  simp only [ho, hx]
  rfl
end
theorem wf_i8 {n : Int} (h : (Lit.int .i8 n).wf = true) : -128 ≤ n ∧ n ≤ 127 := by
  simp [Lit.wf] at h
  have e1 : IntKind.i8.min = -128 := rfl
  have e2 : IntKind.i8.max = 127 := rfl
  omega
theorem arg_window {w : World} {r : Reach} {b0 : Nat} {v : Value} (h : Value.okWide Try.prog w r b0 43 v) :
    ∃ wl at_ l, v = .agg #[.int .i8 wl, .int .i8 at_, .float .f32 l] ∧ -128 ≤ wl ∧ wl ≤ 127 ∧ -128 ≤ at_ ∧ at_ ≤ 127 := by
  obtain ⟨cs, rfl, hn, hc⟩ := arg_agg (n := 3) (ts := [29, 29, 22]) (by kernel_rfl) (by kernel_rfl) (by kernel_rfl) h
  obtain ⟨c0, c1, c2, rfl⟩ := array3 hn
  obtain ⟨u0, e0, k0⟩ := hc 0 c0 rfl
  obtain ⟨u1, e1, k1⟩ := hc 1 c1 rfl
  obtain ⟨u2, e2, k2⟩ := hc 2 c2 rfl
  cases e0; cases e1; cases e2
  obtain ⟨a, rfl, a1, a2⟩ := cell_int Try.underlying29 k0
  obtain ⟨b, rfl, b1, b2⟩ := cell_int Try.underlying29 k1
  obtain ⟨c, rfl, _⟩ := cell_float Try.underlying22 k2
  exact ⟨a, b, c, rfl, a1, a2, b1, b2⟩
theorem win_list {w : World} {a : Addr} {len : Nat} (h : ∀ i, i < len → ∃ x : Win, WinB x ∧ w.cell? (a.add (i * 3)) = some (.int .i8 x.1) ∧ w.cell? (a.add (i * 3 + 1)) = some (.int .i8 x.2.1) ∧ w.cell? (a.add (i * 3 + 2)) = some (.float .f32 x.2.2)) :
    ∃ xs : List Win, xs.length = len ∧ Wins w (some a) xs ∧ ∀ k, k < xs.length → WinB (xs.getD k wd0) := by
  induction len with
  | zero => exact ⟨[], rfl, fun k hk => by simp at hk, fun k hk => by simp at hk⟩
  | succ n ih =>
    obtain ⟨xs, hl, hw, hb⟩ := ih fun i hi => h i (by omega)
    obtain ⟨x, xb, x0, x1, x2⟩ := h n (by omega)
    have hx : (xs ++ [x]).getD n wd0 = x := by
      rw [List.getD_eq_getElem?_getD, List.getElem?_append_right (by omega), hl]; simp
    have hy : ∀ k, k < n → (xs ++ [x]).getD k wd0 = xs.getD k wd0 := fun k hk => by
      rw [List.getD_eq_getElem?_getD, List.getD_eq_getElem?_getD, List.getElem?_append_left (by omega)]
    refine ⟨xs ++ [x], by simp [hl], fun k hk => ?_, fun k hk => ?_⟩
    · have hk' : k < n + 1 := by simpa [hl] using hk
      by_cases e : k = n
      · subst e; rw [hx]
        have q := lt_of_cell' x0
        rw [add_block] at q
        exact ⟨a, rfl, q, x0, x1, x2⟩
      · rw [hy k (by omega)]; exact hw k (by omega)
    · have hk' : k < n + 1 := by simpa [hl] using hk
      by_cases e : k = n
      · subst e; rw [hx]; exact xb
      · rw [hy k (by omega)]; exact hb k (by omega)
theorem arg_room {H : Type} {enc : TypeId × Value → H} {W : World} {v : Value} {d : DataW H} {ps : List MemPlace} {r : Reach} {b0 : Nat} (hv : Value.okWide Try.prog W r b0 32 v)
    (h : DataW.Trod enc Try.prog W 0 (fun _ => true) true 32 v d ps) :
    ∃ wd hg ao cap xs, v = .agg #[.int .i8 wd, .int .i8 hg, .slice ao (List.length xs) cap] ∧ -128 ≤ wd ∧ wd ≤ 127 ∧ -128 ≤ hg ∧ hg ≤ 127 ∧ xs.length ≤ 9223372036854775807 ∧ Wins W ao xs ∧ ∀ k, k < xs.length → WinB (xs.getD k wd0) := by
  obtain ⟨v0, v1, v2, y0, y1, y2, n, rfl, _, _, t0, t1, t2⟩ := Joins.open_agg3 Try.underlying32 (by kernel_rfl) (by kernel_rfl) hv h
  obtain ⟨wd, e0, _, w0⟩ := DataW.trod_int Try.underlying29 t0
  obtain ⟨hg, e1, _, w1⟩ := DataW.trod_int Try.underlying29 t1
  cases e0; cases e1
  obtain ⟨q1, q2⟩ := wf_i8 w0
  obtain ⟨q3, q4⟩ := wf_i8 w1
  rcases open_slice_fields Try.underlying30 Try.underlying43 (by kernel_rfl) (by kernel_rfl) t2 with e | ⟨a, len, cap, e, hm, hl, hi⟩
  · cases e
    exact ⟨wd, hg, none, 0, [], rfl, q1, q2, q3, q4, by simp, fun k hk => by simp at hk, fun k hk => by simp at hk⟩
  · cases e
    obtain ⟨xs, hlen, hw, hb⟩ := win_list (w := W) (a := a) (len := len) fun i hi' => by
      obtain ⟨v0, z0, n0, c0, s0⟩ := hi i hi' 0 _ rfl
      obtain ⟨v1, z1, n1, c1, s1⟩ := hi i hi' 1 _ rfl
      obtain ⟨v2, z2, n2, c2, s2⟩ := hi i hi' 2 _ rfl
      obtain ⟨p, e0, _, p0⟩ := DataW.trod_int Try.underlying29 s0
      obtain ⟨q, e1, _, p1⟩ := DataW.trod_int Try.underlying29 s1
      obtain ⟨l, e2⟩ := trod_float Try.underlying22 s2
      cases e0; cases e1; cases e2
      exact ⟨(p, q, l), ⟨(wf_i8 p0).1, (wf_i8 p0).2, (wf_i8 p1).1, (wf_i8 p1).2⟩, c0, c1, c2⟩
    subst hlen
    exact ⟨wd, hg, some a, cap, xs, rfl, q1, q2, q3, q4, by unfold maxLen at hm; omega, hw, hb⟩
/-- Two boxed rooms that came in. -/
structure RS2 (w0 : World) (Aw Ag : Int) (Aa : Option Addr) (Ac : Nat) (A : List Win) (Bw Bg : Int) (Ba : Option Addr) (Bc : Nat) (B : List Win) (w : World) : Prop where
  below : Below w0.heap.size w0 w
  rowA : Row w w0.heap.size (roomCells Aw Ag (.slice Aa A.length Ac))
  rowB : Row w (w0.heap.size + 1) (roomCells Bw Bg (.slice Ba B.length Bc))
  argA : Wins w Aa A
  argB : Wins w Ba B
theorem RS2.step {w0 : World} {Aw Ag : Int} {Aa : Option Addr} {Ac : Nat} {A : List Win} {Bw Bg : Int} {Ba : Option Addr} {Bc : Nat} {B : List Win} {w w1 : World} (h : RS2 w0 Aw Ag Aa Ac A Bw Bg Ba Bc B w) (hb : Below w.heap.size w w1) : RS2 w0 Aw Ag Aa Ac A Bw Bg Ba Bc B w1 :=
  ⟨h.below.trans (hb.mono h.below.size), h.rowA.below hb h.rowA.lt, h.rowB.below hb h.rowB.lt, h.argA.step hb, h.argB.step hb⟩
/-- A copy of a room in a variable. -/
structure RV (x : Nat) (wd hg : Int) (ad : Option Addr) (c : Nat) (xs : List Win) (w : World) : Prop where
  row : Row w x (roomCells wd hg (.slice ad xs.length c))
  win : Wins w ad xs
theorem RV.step {x : Nat} {wd hg : Int} {ad : Option Addr} {c : Nat} {xs : List Win} {w w1 : World} (h : RV x wd hg ad c xs w) (hb : Below w.heap.size w w1) : RV x wd hg ad c xs w1 :=
  ⟨h.row.below hb h.row.lt, h.win.step hb⟩
theorem RV.new (wd hg : Int) (ad : Option Addr) (c : Nat) (xs : List Win) (w : World) (T : TypeId) (h : Wins w ad xs) : RV w.heap.size wd hg ad c xs (w.alloc (.cells (roomCells wd hg (.slice ad xs.length c)) T)) :=
  ⟨Row.new _ _ _, h.step ((Below.refl _ _).alloc (Nat.le_refl _) _)⟩
theorem below_new (w : World) (o : Obj) : Below w.heap.size w (w.alloc o) := (Below.refl _ _).alloc (Nat.le_refl _) o
/-- A boxed room and a boxed window that came in. -/
structure TS (w0 : World) (Aw Ag : Int) (Aa : Option Addr) (Ac : Nat) (A : List Win) (wl at_ : Int) (l : Nat) (w : World) : Prop where
  below : Below w0.heap.size w0 w
  rowA : Row w w0.heap.size (roomCells Aw Ag (.slice Aa A.length Ac))
  rowW : Row w (w0.heap.size + 1) (winCells wl at_ l)
  argA : Wins w Aa A
theorem TS.step {w0 : World} {Aw Ag : Int} {Aa : Option Addr} {Ac : Nat} {A : List Win} {wl at_ : Int} {l : Nat} {w w1 : World} (h : TS w0 Aw Ag Aa Ac A wl at_ l w) (hb : Below w.heap.size w w1) : TS w0 Aw Ag Aa Ac A wl at_ l w1 :=
  ⟨h.below.trans (hb.mono h.below.size), h.rowA.below hb h.rowA.lt, h.rowW.below hb h.rowW.lt, h.argA.step hb⟩
theorem TS.lim {w0 : World} {Aw Ag : Int} {Aa : Option Addr} {Ac : Nat} {A : List Win} {wl at_ : Int} {l : Nat} {w : World} (h : TS w0 Aw Ag Aa Ac A wl at_ l w) : w0.heap.size + 2 ≤ w.heap.size ∧ ∀ a, Aa = some a → A.length ≠ 0 → a.block < w.heap.size :=
  ⟨by have := h.rowW.lt; omega, h.argA.lt⟩
theorem TS.stepB {w0 : World} {Aw Ag : Int} {Aa : Option Addr} {Ac : Nat} {A : List Win} {wl at_ : Int} {l : Nat} {w w1 : World} {g : Nat} (h : TS w0 Aw Ag Aa Ac A wl at_ l w) (hl : w0.heap.size + 2 ≤ g ∧ ∀ a, Aa = some a → A.length ≠ 0 → a.block < g) (hb : Wrote w w1 g) : TS w0 Aw Ag Aa Ac A wl at_ l w1 :=
  ⟨h.below.trans (hb.below (by omega)), hb.row h.rowA (by omega), hb.row h.rowW (by omega), h.argA.below (hb.below (Nat.le_refl g)) hl.2⟩
theorem TS.new {w0 : World} {Aw Ag : Int} {Aa : Option Addr} {Ac : Nat} {A : List Win} {wl at_ : Int} {l : Nat} {w : World} (_ : TS w0 Aw Ag Aa Ac A wl at_ l w) (cs : Array Value) (T : TypeId) : Row (w.alloc (.cells cs T)) w.heap.size cs := Row.new _ _ _
end Go.Proofs.Ytgibcikihniimaa
