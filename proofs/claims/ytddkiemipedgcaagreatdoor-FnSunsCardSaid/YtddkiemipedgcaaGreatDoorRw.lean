/-
  Blocks of cells that are read and written as a whole or in a part: laws for the walk.
-/
import Derived.Test.YtddkiemipedgcaaGreatDoorWd
import Derived.Laws.Rows
import Derived.Laws.IdiomCopy
import Derived.Deep.QuietTactic
import Derived.BigQuiet
namespace Go.Proofs.Fl
open Go.RowKit
set_option linter.unusedVariables false

/-- Block b is a row that holds just the cells cs; none is frozen. -/
def Row (w : World) (b : Nat) (cs : Array Value) : Prop := ∃ t, w.heap[b]? = some (.cells cs t (0, 0))

theorem Row.new (w : World) (cs : Array Value) (t : TypeId) : Row (w.alloc (.cells cs t)) w.heap.size cs := ⟨t, heap_alloc_new _ _⟩
theorem Row.new' (w : World) (cs : Array Value) (t : TypeId) (n : Nat) (h : n = w.heap.size) : Row (w.alloc (.cells cs t)) n cs := by subst h; exact Row.new w cs t
theorem Row.lt {w : World} {b : Nat} {cs : Array Value} (h : Row w b cs) : b < w.heap.size := by
  obtain ⟨t, hg⟩ := h
  by_cases c : b < w.heap.size
  · exact c
  · rw [Array.getElem?_eq_none (by omega)] at hg; cases hg
theorem Row.below {w w' : World} {b B : Nat} {cs : Array Value} (h : Row w b cs) (hb : Below B w w') (hB : b < B) : Row w' b cs := by
  obtain ⟨t, hg⟩ := h
  exact ⟨t, (hb.block b hB).trans hg⟩
theorem Row.alloc {w : World} {b : Nat} {cs : Array Value} (h : Row w b cs) (o : Obj) : Row (w.alloc o) b cs :=
  h.below ((Below.refl w.heap.size w).alloc (Nat.le_refl _) o) h.lt
theorem Row.drew {w : World} {b : Nat} {cs : Array Value} (h : Row w b cs) : Row w.drew b cs := h
theorem Row.cell {w : World} {b : Nat} {cs : Array Value} (h : Row w b cs) (i : Nat) : w.cell? ⟨b, i, none⟩ = cs[i]? := by
  obtain ⟨t, hg⟩ := h
  rw [cell_of_row w b i _ t _ hg]
theorem Row.frozen {w : World} {b : Nat} {cs : Array Value} (h : Row w b cs) (i : Nat) : w.frozen? ⟨b, i, none⟩ = false := by
  obtain ⟨t, hg⟩ := h
  exact frozen_of_row w b i _ t hg
theorem Row.set {w : World} {b : Nat} {cs : Array Value} (h : Row w b cs) (i : Nat) (v : Value) : Row (w.setCell ⟨b, i, none⟩ v) b (cs.setIfInBounds i v) := by
  obtain ⟨t, hg⟩ := h
  exact ⟨t, heap_setCell_same w b i cs t v hg⟩
theorem Row.set_other {w : World} {b : Nat} {cs : Array Value} (h : Row w b cs) (a : Addr) (v : Value) (hne : b ≠ a.block) : Row (w.setCell a v) b cs := by
  obtain ⟨t, hg⟩ := h
  exact ⟨t, (heap_setCell_other w a b v hne).trans hg⟩

/-- From w to w' block b alone may have been written. -/
structure Wrote (w w' : World) (b : Nat) : Prop where
  os : w'.os = w.os
  tape : w'.tape = w.tape
  output : w'.output = w.output
  size : w'.heap.size = w.heap.size
  block : ∀ k, k ≠ b → w'.heap[k]? = w.heap[k]?
theorem Wrote.refl (w : World) (b : Nat) : Wrote w w b := ⟨rfl, rfl, rfl, rfl, fun _ _ => rfl⟩
theorem Wrote.trans {a b c : World} {n : Nat} (h : Wrote a b n) (k : Wrote b c n) : Wrote a c n :=
  ⟨k.os.trans h.os, k.tape.trans h.tape, k.output.trans h.output, k.size.trans h.size, fun i hi => (k.block i hi).trans (h.block i hi)⟩
theorem Wrote.setCell (w : World) (b i : Nat) (v : Value) : Wrote w (w.setCell ⟨b, i, none⟩ v) b :=
  ⟨rfl, rfl, rfl, by simp [World.setCell], fun k hk => heap_setCell_other w _ k v hk⟩
theorem Wrote.below {w w' : World} {b B : Nat} (h : Wrote w w' b) (hB : B ≤ b) : Below B w w' :=
  ⟨h.os, h.tape, h.output, by rw [h.size]; exact Nat.le_refl _, fun k hk => h.block k (by omega)⟩
theorem Wrote.row {w w' : World} {b k : Nat} {cs : Array Value} (h : Wrote w w' b) (r : Row w k cs) (hk : k ≠ b) : Row w' k cs := by
  obtain ⟨t, hg⟩ := r
  exact ⟨t, (h.block k hk).trans hg⟩

/-- What a law keeps: below the heap's first size nothing has turned, and its boxed arguments lie as they were. -/
structure Keep1 (w0 w : World) (c : Array Value) : Prop where
  below : Below w0.heap.size w0 w
  row : Row w w0.heap.size c
theorem Keep1.start (w : World) (c : Array Value) (t : TypeId) : Keep1 w (w.alloc (.cells c t)) c := ⟨(Below.refl _ _).alloc (Nat.le_refl _) _, Row.new _ _ _⟩
theorem Keep1.step {w0 w w1 : World} {c : Array Value} (h : Keep1 w0 w c) (hb : Below w.heap.size w w1) : Keep1 w0 w1 c :=
  ⟨h.below.trans (hb.mono (by have := h.row.lt; omega)), h.row.below hb h.row.lt⟩
theorem Keep1.drew {w0 w : World} {c : Array Value} (h : Keep1 w0 w c) : Keep1 w0 w.drew c := ⟨h.below.drew, h.row⟩
structure Keep2 (w0 w : World) (c d : Array Value) : Prop where
  below : Below w0.heap.size w0 w
  row : Row w w0.heap.size c
  row2 : Row w (w0.heap.size + 1) d
theorem Keep2.start (w : World) (c d : Array Value) (t u : TypeId) : Keep2 w ((w.alloc (.cells c t)).alloc (.cells d u)) c d :=
  ⟨((Below.refl _ _).alloc (Nat.le_refl _) _).alloc (by simp) _, (Row.new _ _ _).alloc _, Row.new' _ _ _ _ (by simp)⟩
theorem Keep2.step {w0 w w1 : World} {c d : Array Value} (h : Keep2 w0 w c d) (hb : Below w.heap.size w w1) : Keep2 w0 w1 c d :=
  ⟨h.below.trans (hb.mono (by have := h.row.lt; omega)), h.row.below hb h.row.lt, h.row2.below hb h.row2.lt⟩
theorem Keep2.drew {w0 w : World} {c d : Array Value} (h : Keep2 w0 w c d) : Keep2 w0 w.drew c d := ⟨h.below.drew, h.row, h.row2⟩

structure Keep3 (w0 w : World) (c d e : Array Value) : Prop where
  below : Below w0.heap.size w0 w
  row : Row w w0.heap.size c
  row2 : Row w (w0.heap.size + 1) d
  row3 : Row w (w0.heap.size + 1 + 1) e
theorem Keep3.start (w : World) (c d e : Array Value) (t u v : TypeId) : Keep3 w (((w.alloc (.cells c t)).alloc (.cells d u)).alloc (.cells e v)) c d e :=
  ⟨(((Below.refl _ _).alloc (Nat.le_refl _) _).alloc (by simp) _).alloc (by simp; omega) _, ((Row.new _ _ _).alloc _).alloc _, (Row.new' _ _ _ _ (by simp)).alloc _, Row.new' _ _ _ _ (by simp)⟩
theorem Keep3.step {w0 w w1 : World} {c d e : Array Value} (h : Keep3 w0 w c d e) (hb : Below w.heap.size w w1) : Keep3 w0 w1 c d e :=
  ⟨h.below.trans (hb.mono (by have := h.row.lt; omega)), h.row.below hb h.row.lt, h.row2.below hb h.row2.lt, h.row3.below hb h.row3.lt⟩
theorem Keep3.drew {w0 w : World} {c d e : Array Value} (h : Keep3 w0 w c d e) : Keep3 w0 w.drew c d e := ⟨h.below.drew, h.row, h.row2, h.row3⟩

/-- Cells put over a row from a place on. -/
def over (cs : Array Value) : Nat → List Value → Array Value
  | _, [] => cs
  | o, v :: r => over (cs.setIfInBounds o v) (o + 1) r
theorem over_size (cs : Array Value) (o : Nat) (vs : List Value) : (over cs o vs).size = cs.size := by
  induction vs generalizing cs o with
  | nil => rfl
  | cons v r ih => rw [over, ih]; simp
theorem over_at (cs : Array Value) (o : Nat) (vs : List Value) (h : o + vs.length ≤ cs.size) (i : Nat) :
    (over cs o vs)[i]? = if o ≤ i ∧ i < o + vs.length then vs[i - o]? else cs[i]? := by
  induction vs generalizing cs o with
  | nil => rw [over, if_neg (by simp)]
  | cons v r ih =>
    rw [over, ih _ _ (by simp at h ⊢; omega)]
    simp only [List.length_cons] at h ⊢
    by_cases c : o + 1 ≤ i ∧ i < o + 1 + r.length
    · rw [if_pos c, if_pos (by omega)]
      have : i - o = (i - (o + 1)) + 1 := by omega
      rw [this, List.getElem?_cons_succ]
    · rw [if_neg c]
      by_cases e : i = o
      · subst e
        rw [if_pos (by omega)]
        simp [show i < cs.size by omega]
      · rw [if_neg (by omega), Array.getElem?_setIfInBounds, if_neg (by omega)]
theorem over_all {cs xs : Array Value} (h : xs.size = cs.size) : over cs 0 xs.toList = xs := by
  apply Array.ext_getElem?
  intro i
  rw [over_at _ _ _ (by simp; omega)]
  by_cases c : i < xs.size
  · rw [if_pos (by simp; omega)]; simp
  · rw [if_neg (by simp; omega), Array.getElem?_eq_none (by omega), Array.getElem?_eq_none (by omega)]
theorem wrote_setCells (b : Nat) : ∀ (vs : List Value) (o : Nat) (w : World) (cs : Array Value), Row w b cs → Wrote w (w.setCells b o vs) b ∧ Row (w.setCells b o vs) b (over cs o vs)
  | [], o, w, cs, h => ⟨Wrote.refl _ _, h⟩
  | v :: r, o, w, cs, h => by
    have ih := wrote_setCells b r (o + 1) (w.setCell ⟨b, o, none⟩ v) _ (h.set o v)
    exact ⟨(Wrote.setCell w b o v).trans ih.1, ih.2⟩

section
variable {P : Program} {o : Oper} {a : Act} {w : World} {K : Act → World → Prop} {Q : Exit → Act → World → Prop}
/-- What a type that lies in several cells is. -/
def IsAgg (P : Program) (ty : TypeId) (n : Nat) : Prop := ∃ d, P.underlying ty = some d ∧ (match d with | .struct _ | .array _ _ => true | _ => false) = true ∧ (P.info? ty).map (·.size) = some n
theorem isAgg_struct {P : Program} {ty : TypeId} {fs : Array Field} {n : Nat} (hu : P.underlying ty = some (.struct fs)) (hi : (P.info? ty).map (·.size) = some n) : IsAgg P ty n := ⟨_, hu, rfl, hi⟩
theorem isAgg_array {P : Program} {ty e : TypeId} {m n : Nat} (hu : P.underlying ty = some (.array m e)) (hi : (P.info? ty).map (·.size) = some n) : IsAgg P ty n := ⟨_, hu, rfl, hi⟩

theorem run_loadVar_at (b off n : Nat) (ty : TypeId) (cs : Array Value) (ht : IsAgg P ty n) (hr : Row w b cs) (hn : off + n ≤ cs.size) :
    (loadVar ty ⟨b, off, none⟩).run P w = .ok (.agg (cs.extract off (off + n))) w := by
  obtain ⟨d, hu, hd, hi⟩ := ht
  have hsz : (cs.extract off (off + n)).size = n := by simp; omega
  have hl : (loadCells ⟨b, off, none⟩ (cs.extract off (off + n)).toList.length).run P w = .ok (cs.extract off (off + n)).toList.toArray w :=
    run_loadCells_list (P := P) w ⟨b, off, none⟩ (cs.extract off (off + n)).toList (fun j v hv => by
      have hadd : (⟨b, off, none⟩ : Addr).add j = ⟨b, off + j, none⟩ := by unfold Addr.add; split <;> simp_all
      rw [hadd, hr.cell]
      have hj : j < n := by
        have := (List.getElem?_eq_some_iff.1 hv).1
        rw [Array.length_toList, hsz] at this; exact this
      rw [Array.getElem?_toList, Array.getElem?_extract] at hv
      rw [if_pos (by omega)] at hv
      exact hv)
  cases hq : P.info? ty with
  | none => simp [hq] at hi
  | some i =>
    have hs : i.size = n := by simpa [hq] using hi
    have hagg : (isAgg ty).run P w = .ok true w := by
      unfold isAgg
      rw [Sem.run_bind, run_underlying hu w]
      cases d <;> simp_all
    simp only [Array.length_toList, Array.toArray_toList, hsz] at hl
    simp [loadVar, Sem.run_bind, hagg, sizeOf, typeInfo, hq, hs, hl]

theorem wp_load_at (ty : TypeId) (x : Operand) (ho : o.op = .load ty x) (b off : Nat) (hx : a.eval x = .pointer (some ⟨b, off, none⟩)) (n : Nat) (cs : Array Value) (ht : IsAgg P ty n) (hr : Row w b cs) (hn : off + n ≤ cs.size)
    (h : K (a.put o.dst (.agg (cs.extract off (off + n)))) w) : o.wp P a w K Q := by
  unfold Oper.wp execOp
  simp only [ho, hx, Instr.loadAt, Instr.sureAddr, Sem.run_bind, Sem.run_pure, Result.andThen_ok, run_loadVar_at b off n ty cs ht hr hn]
  exact h
theorem wp_load_all (ty : TypeId) (x : Operand) (ho : o.op = .load ty x) (b : Nat) (hx : a.eval x = .pointer (some ⟨b, 0, none⟩)) (cs : Array Value) (n : Nat) (ht : IsAgg P ty n) (hn : cs.size = n) (hr : Row w b cs)
    (h : K (a.put o.dst (.agg cs)) w) : o.wp P a w K Q := by
  refine wp_load_at ty x ho b 0 hx n cs ht hr (by omega) ?_
  have : cs.extract 0 (0 + n) = cs := by rw [Nat.zero_add, ← hn]; simp
  rw [this]; exact h

theorem run_storeVar_at (b off n : Nat) (ty : TypeId) (cs xs : Array Value) (ht : IsAgg P ty n) (hr : Row w b cs) (hx : xs.size = n) (hn : off + n ≤ cs.size) (h1 : ∀ v ∈ xs.toList, v.oneCell' = true) :
    (storeVar ty ⟨b, off, none⟩ (.agg xs)).run P w = .ok () (w.setCells b off xs.toList) := by
  obtain ⟨d, hu, hd, hi⟩ := ht
  have hst := run_storeCells_cells (P := P) b off xs.toList 0 w (fun j hj => by
      rw [Array.length_toList] at hj
      rw [hr.cell]; simp; omega) (fun j hj => hr.frozen _) h1
  cases hq : P.info? ty with
  | none => simp [hq] at hi
  | some i =>
    have hs : i.size = n := by simpa [hq] using hi
    simp only [Nat.add_zero] at hst
    simp [storeVar, Sem.run_bind, sizeOf, typeInfo, hq, hs, Value.cells, hx, hst]

theorem wp_store_at (ty : TypeId) (x y : Operand) (ho : o.op = .store ty x y) (b off : Nat) (hx : a.eval x = .pointer (some ⟨b, off, none⟩)) (n : Nat) (cs xs : Array Value) (hy : a.eval y = .agg xs) (ht : IsAgg P ty n) (hr : Row w b cs) (hxs : xs.size = n)
    (hn : off + n ≤ cs.size) (h1 : ∀ v ∈ xs.toList, v.oneCell' = true) (h : ∀ w', Wrote w w' b → Row w' b (over cs off xs.toList) → K (a.put o.dst undef) w') : o.wp P a w K Q := by
  have hw := wrote_setCells b xs.toList off w cs hr
  unfold Oper.wp execOp
  simp only [ho, hx, hy, Instr.storeAt, Instr.sureAddr, Sem.run_bind, Sem.run_pure, Result.andThen_ok, run_storeVar_at b off n ty cs xs ht hr hxs hn h1]
  exact h _ hw.1 hw.2
end
section
variable {P : Program} {ops : Array Oper} {rest : List Oper} {o : Oper} {a : Act} {w : World} {Q : Exit → Act → World → Prop}
theorem wpList_load_all (hgd : o.guard = none) (ty : TypeId) (x : Operand) (ho : o.op = .load ty x) (b : Nat) (hx : a.eval x = .pointer (some ⟨b, 0, none⟩)) (cs : Array Value) (n : Nat) (ht : IsAgg P ty n) (hn : cs.size = n) (hr : Row w b cs)
    (h : wpList P ops Q rest (a.put o.dst (.agg cs)) w) : wpList P ops Q (o :: rest) a w :=
  wpList_plain hgd fun _ hK => wp_load_all ty x ho b hx cs n ht hn hr (hK _ _ h)
theorem wpList_load_at (hgd : o.guard = none) (ty : TypeId) (x : Operand) (ho : o.op = .load ty x) (b off : Nat) (hx : a.eval x = .pointer (some ⟨b, off, none⟩)) (n : Nat) (cs : Array Value) (ht : IsAgg P ty n) (hr : Row w b cs) (hn : off + n ≤ cs.size)
    (h : wpList P ops Q rest (a.put o.dst (.agg (cs.extract off (off + n)))) w) : wpList P ops Q (o :: rest) a w :=
  wpList_plain hgd fun _ hK => wp_load_at ty x ho b off hx n cs ht hr hn (hK _ _ h)
theorem wpList_store_at (hgd : o.guard = none) (ty : TypeId) (x y : Operand) (ho : o.op = .store ty x y) (b off : Nat) (hx : a.eval x = .pointer (some ⟨b, off, none⟩)) (n : Nat) (cs xs : Array Value) (hy : a.eval y = .agg xs) (ht : IsAgg P ty n) (hr : Row w b cs)
    (hxs : xs.size = n) (hn : off + n ≤ cs.size) (h1 : ∀ v ∈ xs.toList, v.oneCell' = true) (h : ∀ w', Wrote w w' b → Row w' b (over cs off xs.toList) → wpList P ops Q rest (a.put o.dst undef) w') : wpList P ops Q (o :: rest) a w :=
  wpList_plain hgd fun _ hK => wp_store_at ty x y ho b off hx n cs xs hy ht hr hxs hn h1 fun w' h1 h2 => hK _ _ (h w' h1 h2)
end

/-- A region that draws its order, within a class of worlds in which each operation gives one value and stays. -/
theorem wp_region_in {P : Program} {Q : Exit → Act → World → Prop} (C : World → Prop) {id : Nat} {a : Act} {w : World} {l : List Oper} (hm : P.follows .mixedOrders = true) (hB : Region.lexB .any l.toArray = true) (hC : C w.drew)
    (h : wpQuiet P l.toArray C (fun a' => ∀ w', C w' → Q .normal a' w') l a) : (Code.region id l.toArray true).wp P Q a w :=
  wp_region_quiet (C := C) hm hB hC (by simpa using h)
theorem quiet_load_all {P : Program} {o : Oper} {a : Act} {C : World → Prop} (ty : TypeId) (x : Operand) (ho : o.op = .load ty x) (b : Nat) (hx : a.eval x = .pointer (some ⟨b, 0, none⟩)) (cs : Array Value) (n : Nat) (ht : IsAgg P ty n) (hn : cs.size = n)
    (hr : ∀ w, C w → Row w b cs) {K : Act → Prop} (h : K (a.put o.dst (.agg cs))) : o.quiet P a C K := by
  refine ⟨_, fun w hw => ?_, h⟩
  have h1 := run_loadVar_at (P := P) (w := w) b 0 n ty cs ht (hr w hw) (by omega)
  have : cs.extract 0 (0 + n) = cs := by rw [Nat.zero_add, ← hn]; simp
  rw [this] at h1
  unfold Oper.quietAt execOp
  simp only [ho, hx, Instr.loadAt, Instr.sureAddr, Sem.run_bind, Sem.run_pure, Result.andThen_ok, h1]
  exact ⟨rfl, rfl⟩

/-- A type that lies in one cell. -/
def IsOne (P : Program) (ty : TypeId) : Prop := ∃ d, P.underlying ty = some d ∧ (match d with | .struct _ | .array _ _ => false | _ => true) = true
theorem isOne_int {P : Program} {ty : TypeId} {k : IntKind} (hu : P.underlying ty = some (.int k)) : IsOne P ty := ⟨_, hu, rfl⟩
theorem isOne_float {P : Program} {ty : TypeId} {k : FloatKind} (hu : P.underlying ty = some (.float k)) : IsOne P ty := ⟨_, hu, rfl⟩
theorem isOne_pointer {P : Program} {ty e : TypeId} (hu : P.underlying ty = some (.pointer e)) : IsOne P ty := ⟨_, hu, rfl⟩
theorem run_loadVar_one {P : Program} {w : World} (ty : TypeId) (ht : IsOne P ty) (a : Addr) (v : Value) (hc : w.cell? a = some v) : (loadVar ty a).run P w = .ok v w := by
  obtain ⟨d, hu, hd⟩ := ht
  have hagg : (isAgg ty).run P w = .ok false w := by
    unfold isAgg
    rw [Sem.run_bind, run_underlying hu w]
    cases d <;> simp_all
  simp [loadVar, Sem.run_bind, hagg, hc]
theorem quiet_load_cell {P : Program} {o : Oper} {a : Act} {C : World → Prop} (ty : TypeId) (x : Operand) (ho : o.op = .load ty x) (ad : Addr) (hx : a.eval x = .pointer (some ad)) (v : Value) (ht : IsOne P ty)
    (hr : ∀ w, C w → w.cell? ad = some v) {K : Act → Prop} (h : K (a.put o.dst v)) : o.quiet P a C K := by
  refine ⟨_, fun w hw => ?_, h⟩
  unfold Oper.quietAt execOp
  simp only [ho, hx, Instr.loadAt, Instr.sureAddr, Sem.run_bind, Sem.run_pure, Result.andThen_ok, run_loadVar_one ty ht ad v (hr w hw)]
  exact ⟨rfl, rfl⟩

/-- A result that lies in a row. -/
theorem results_row {P : Program} {fn : Func} {p : Tmp} {ty : TypeId} (h : fn.results = #[.cell p ty]) {n : Nat} (ht : IsAgg P ty n) (tmps : Array Value) (w : World) (b : Nat) (cs : Array Value) (hn : cs.size = n)
    (hp : tmps.getD p undef = .pointer (some ⟨b, 0, none⟩)) (hr : Row w b cs) : (results fn tmps).run P w = .ok (.agg cs) w := by
  obtain ⟨t, hg⟩ := hr
  obtain ⟨d, hu, hd, hi⟩ := ht
  have hi' : (P.info? ty).map (·.size) = some cs.size := by rw [hn]; exact hi
  cases d with
  | struct fs => exact results_cell_row h tmps w b t cs (0, 0) _ hp hg hu rfl hi'
  | array m e => exact results_cell_row h tmps w b t cs (0, 0) _ hp hg hu rfl hi'
  | _ => cases hd
end Go.Proofs.Fl
