/-
  Suns: whether two are the same.
-/
import Derived.Test.YtddkiemipedgcaaGreatDoorWt
import Derived.Laws.StructEq
namespace Go.Proofs.YtddkiemipedgcaaGreatDoor
open Go.RowKit Go.Proofs.Fl Go.Proofs.Pl
set_option linter.unusedVariables false

theorem all_range_ints : ∀ (xs ys : List Int), xs.length = ys.length → ((List.range xs.length).all fun i => xs.getD i 0 == ys.getD i 0) = (xs == ys)
  | [], [], _ => rfl
  | x :: xs, y :: ys, h => by
    have ih := all_range_ints xs ys (by simpa using h)
    rw [List.length_cons, List.range_succ_eq_map, List.all_cons, List.all_map]
    simp only [List.getD_cons_zero, Function.comp_def, List.getD_cons_succ, ih]
    simp [List.cons_beq_cons]
  | [], _ :: _, h => by simp at h
  | _ :: _, [], h => by simp at h
theorem run_equalIn_i16 {P : Program} (w : World) (d : Nat) (t e : TypeId) (n : Nat) (ht : P.underlying t = some (.array n e)) (he : P.underlying e = some (.int .i16)) (hsz : ∀ w, (sizeOf e).run P w = .ok 1 w)
    (xs ys : List Int) (hx : xs.length = n) (hy : ys.length = n) :
    (Op.equalIn (d + 2) t (.agg (sunCells xs)) (.agg (sunCells ys))).run P w = .ok (xs == ys) w := by
  rw [← all_range_ints xs ys (hx.trans hy.symm), hx, List.range_eq_range', Op.equalIn]
  simp only [Sem.run_bind, run_underlying ht, Result.andThen_ok, hsz, Std.Legacy.Range.forIn_eq_forIn_range', Std.Legacy.Range.size, Nat.sub_zero, Nat.add_sub_cancel, Nat.div_one]
  have hl : ∀ i ∈ List.range' 0 n 1, i < n := fun i hi => by simpa using (List.mem_range'_1.1 hi).2
  generalize List.range' 0 n 1 = l at hl ⊢
  induction l with
  | nil => simp
  | cons i l ih =>
    have hi : i < n := hl i (by simp)
    have px : (part e (sunCells xs) (i * 1)).run P w = .ok (.int .i16 (xs.getD i 0)) w := by
      simp [part, isAgg, run_underlying he, List.getD, sunCells, List.getElem?_eq_getElem (show i < xs.length by omega)]
    have py : (part e (sunCells ys) (i * 1)).run P w = .ok (.int .i16 (ys.getD i 0)) w := by
      simp [part, isAgg, run_underlying he, List.getD, sunCells, List.getElem?_eq_getElem (show i < ys.length by omega)]
    have pe : (Op.equalIn (d + 1) e (.int .i16 (xs.getD i 0)) (.int .i16 (ys.getD i 0))).run P w = .ok (xs.getD i 0 == ys.getD i 0) w := run_equalIn_int w d e .i16 .i16 _ _ he
    simp only [List.forIn_cons, Sem.run_bind, px, py, pe, Result.andThen_ok, List.all_cons]
    cases hb : (xs.getD i 0 == ys.getD i 0)
    · simp
    · simp only [Bool.not_true, Bool.false_eq_true, if_false, Sem.run_pure, Result.andThen_ok, Bool.true_and]
      exact ih fun j hj => hl j (by simp [hj])
def sunEq (A B : List Int) : Bool := (A.take 24 == B.take 24) && (A.drop 24 == B.drop 24)
theorem sun_size_i16 (w : World) : (sizeOf 24).run Tryz.prog w = .ok 1 w := by
  have h : (Tryz.prog.info? 24).map (·.size) = some 1 := by kernel_rfl
  cases hq : Tryz.prog.info? 24 with
  | none => simp [hq] at h
  | some i =>
    have hs : i.size = 1 := by simpa [hq] using h
    simp [sizeOf, typeInfo, hq, hs]
theorem part_arr (xs : Array Value) (off : Nat) (w : World) : (part 25 xs off).run Tryz.prog w = .ok (.agg (xs.extract off (off + 24))) w := by
  have h : (Tryz.prog.info? 25).map (·.size) = some 24 := by kernel_rfl
  cases hq : Tryz.prog.info? 25 with
  | none => simp [hq] at h
  | some i =>
    have hs : i.size = 24 := by simpa [hq] using h
    simp [part, isAgg, run_underlying Tryz.underlying25, sizeOf, typeInfo, hq, hs]
theorem fields_sun : (Tryz.prog.fieldsOf 27).toList.map (fun f => (f.name, f.type, f.offset)) = [("Height", 25, 0), ("Turns", 25, 24)] := by kernel_rfl
theorem two_fields {fs : List Field} {a b : String × TypeId × Nat} (h : fs.map (fun f => (f.name, f.type, f.offset)) = [a, b]) : ∃ f k, fs = [f, k] ∧ (f.name, f.type, f.offset) = a ∧ (k.name, k.type, k.offset) = b := by
  rcases fs with _ | ⟨f, _ | ⟨k, _ | ⟨x, r⟩⟩⟩
  · cases h
  · simp only [List.map_cons, List.map_nil, List.cons.injEq] at h; exact absurd h.2 (by simp)
  · simp only [List.map_cons, List.map_nil, List.cons.injEq, and_true] at h; exact ⟨f, k, rfl, h.1, h.2⟩
  · simp only [List.map_cons, List.cons.injEq] at h; exact absurd h.2.2 (by simp)
theorem eq_two {P : Program} (d : Nat) (w : World) (xs ys : Array Value) (f k : Field) (T : TypeId) (b1 b2 : Bool) (x1 x2 y1 y2 : Value) (n1 : f.name ≠ "_") (n2 : k.name ≠ "_") (t1 : f.type = T) (t2 : k.type = T)
    (p1 : (part T xs f.offset).run P w = .ok x1 w) (p2 : (part T ys f.offset).run P w = .ok y1 w) (p3 : (part T xs k.offset).run P w = .ok x2 w) (p4 : (part T ys k.offset).run P w = .ok y2 w)
    (e1 : (Op.equalIn d T x1 y1).run P w = .ok b1 w) (e2 : (Op.equalIn d T x2 y2).run P w = .ok b2 w) : (Op.eqFields d xs ys [f, k]).run P w = .ok (b1 && b2) w := by
  unfold Op.eqFields
  rw [if_pos n1, t1]
  simp only [Sem.run_bind, p1, p2, e1, Result.andThen_ok]
  cases b1
  · simp
  · unfold Op.eqFields
    rw [if_neg (by simp), if_pos n2, t2]
    simp only [Sem.run_bind, p3, p4, e2, Result.andThen_ok]
    cases b2
    · simp
    · simp [Op.eqFields]
theorem run_eq_sun_d (d : Nat) (A B : List Int) (hA : A.length = 48) (hB : B.length = 48) (w : World) : (Op.equalIn (d + 2 + 1) 27 (.agg (sunCells A)) (.agg (sunCells B))).run Tryz.prog w = .ok (sunEq A B) w := by
  rw [run_equalIn_struct w (d + 2) 27 _ _ (by kernel_rfl) (by kernel_rfl)]
  obtain ⟨f, k, e, h1, h2⟩ := two_fields fields_sun
  rw [e]
  simp only [Prod.mk.injEq] at h1 h2
  obtain ⟨n1, t1, o1⟩ := h1
  obtain ⟨n2, t2, o2⟩ := h2
  have p1 := part_arr (sunCells A) 0 w
  have p2 := part_arr (sunCells B) 0 w
  have p3 := part_arr (sunCells A) 24 w
  have p4 := part_arr (sunCells B) 24 w
  rw [sun_lo] at p1 p2
  rw [sun_hi hA] at p3
  rw [sun_hi hB] at p4
  exact eq_two (d + 2) w _ _ f k 25 _ _ _ _ _ _ (by rw [n1]; decide) (by rw [n2]; decide) t1 t2 (by rw [o1]; exact p1) (by rw [o1]; exact p2) (by rw [o2]; exact p3) (by rw [o2]; exact p4)
    (run_equalIn_i16 w d 25 24 24 Tryz.underlying25 Tryz.underlying24 sun_size_i16 (A.take 24) (B.take 24) (by rw [List.length_take]; omega) (by rw [List.length_take]; omega))
    (run_equalIn_i16 w d 25 24 24 Tryz.underlying25 Tryz.underlying24 sun_size_i16 (A.drop 24) (B.drop 24) (by rw [List.length_drop]; omega) (by rw [List.length_drop]; omega))
theorem run_eq_sun (A B : List Int) (hA : A.length = 48) (hB : B.length = 48) (w : World) : (Op.equalIn 10000 27 (.agg (sunCells A)) (.agg (sunCells B))).run Tryz.prog w = .ok (sunEq A B) w :=
  run_eq_sun_d 9997 A B hA hB w
theorem same_sun_impl (A B : List Int) (hA : A.length = 48) (hB : B.length = 48) (w : World) :
    Calls Tryz.prog 19 #[.agg (sunCells A), .agg (sunCells B)] w fun e w' => e = .returned (.bool (sunEq A B)) ∧ Below w.heap.size w w' := by
  have kp := hidd (Keep2.start w (sunCells A) (sunCells B) 27 27)
  have hq := run_eq_sun A B hA hB
  have hm : Tryz.prog.eqGuardType Tryz.prog.depth 27 = false := by kernel_rfl
  have H := hidd (And.intro hA hB)
  clear hA hB
  go_enter Tryz.func19, Tryz.ntmps19
  go_wp2_with (first | (refine wpList_load_all rfl _ _ rfl _ rfl (sunCells A) 48 agg_impl (sun_size H.out.1) kp.out.row ?_) | (refine wpList_load_all rfl _ _ rfl _ rfl (sunCells B) 48 agg_impl (sun_size H.out.2) kp.out.row2 ?_))
  go_ret; exact ⟨rfl, kp.out.below⟩
end Go.Proofs.YtddkiemipedgcaaGreatDoor
