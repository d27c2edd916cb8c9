/-
  Rooms: lists of windows in memory; a room copied.
-/
import Derived.Test.YtgibcikihniimaaWro
import Derived.Test.YtgibcikihniimaaWof
namespace Go.Proofs.Ytgibcikihniimaa
open Go.RowKit Go.Proofs.Fl Go.Proofs.Pl
set_option linter.unusedVariables false

abbrev Win := Int × Int × Nat
def wd0 : Win := (0, 0, 0)
/-- The windows xs lie at ad. -/
def Wins (w : World) (ad : Option Addr) (xs : List Win) : Prop := ∀ k, k < xs.length → ∃ a : Addr, ad = some a ∧ a.block < w.heap.size ∧
  w.cell? (a.add (k * 3)) = some (.int .i8 (xs.getD k wd0).1) ∧ w.cell? (a.add (k * 3 + 1)) = some (.int .i8 (xs.getD k wd0).2.1) ∧ w.cell? (a.add (k * 3 + 2)) = some (.float .f32 (xs.getD k wd0).2.2)
theorem add_block (a : Addr) (n : Nat) : (a.add n).block = a.block := by unfold Addr.add; split <;> rfl
theorem Wins.below {w w' : World} {ad : Option Addr} {xs : List Win} {B : Nat} (h : Wins w ad xs) (hb : Below B w w') (hB : ∀ a, ad = some a → xs.length ≠ 0 → a.block < B) : Wins w' ad xs := by
  intro k hk
  obtain ⟨a, e, ha, c0, c1, c2⟩ := h k hk
  have hlt := hB a e (by omega)
  refine ⟨a, e, Nat.lt_of_lt_of_le ha hb.size, ?_, ?_, ?_⟩
  · exact (World.cell?_of_block (by rw [add_block]; exact hb.block a.block hlt)).trans c0
  · exact (World.cell?_of_block (by rw [add_block]; exact hb.block a.block hlt)).trans c1
  · exact (World.cell?_of_block (by rw [add_block]; exact hb.block a.block hlt)).trans c2
theorem Wins.lt {w : World} {ad : Option Addr} {xs : List Win} (h : Wins w ad xs) : ∀ a, ad = some a → xs.length ≠ 0 → a.block < w.heap.size := by
  intro a e hne
  obtain ⟨a2, e2, q, _⟩ := h 0 (by omega)
  rw [e] at e2; cases e2; exact q
theorem Wins.step {w w' : World} {ad : Option Addr} {xs : List Win} (h : Wins w ad xs) (hb : Below w.heap.size w w') : Wins w' ad xs := h.below hb h.lt
theorem add_row (g n : Nat) : (⟨g, 0, none⟩ : Addr).add n = ⟨g, n, none⟩ := by
  unfold Addr.add
  by_cases h : n = 0 <;> simp [h]
def winVal (x : Win) : Value := .agg #[.int .i8 x.1, .int .i8 x.2.1, .float .f32 x.2.2]

section
variable {P : Program} {w : World}
theorem run_loadVar_gen (ad : Addr) (n : Nat) (ty : TypeId) (cs : Array Value) (ht : IsAgg P ty n) (hn : cs.size = n) (hr : ∀ j v, cs.toList[j]? = some v → w.cell? (ad.add j) = some v) :
    (loadVar ty ad).run P w = .ok (.agg cs) w := by
  obtain ⟨d, hu, hd, hi⟩ := ht
  have hl : (loadCells ad cs.toList.length).run P w = .ok cs.toList.toArray w := run_loadCells_list (P := P) w ad cs.toList hr
  cases hq : P.info? ty with
  | none => simp [hq] at hi
  | some i =>
    have hs : i.size = n := by simpa [hq] using hi
    have hagg : (isAgg ty).run P w = .ok true w := by
      unfold isAgg
      rw [Sem.run_bind, run_underlying hu w]
      cases d <;> simp_all
    simp only [Array.length_toList, Array.toArray_toList, hn] at hl
    simp [loadVar, Sem.run_bind, hagg, sizeOf, typeInfo, hq, hs, hl]
variable {o : Oper} {a : Act} {K : Act → World → Prop} {Q : Exit → Act → World → Prop} {ops : Array Oper} {rest : List Oper}
theorem wpList_load_gen (hgd : o.guard = none) (ty : TypeId) (x : Operand) (ho : o.op = .load ty x) (ad : Addr) (hx : a.eval x = .pointer (some ad)) (n : Nat) (cs : Array Value) (ht : IsAgg P ty n) (hn : cs.size = n) (hr : ∀ j v, cs.toList[j]? = some v → w.cell? (ad.add j) = some v)
    (h : wpList P ops Q rest (a.put o.dst (.agg cs)) w) : wpList P ops Q (o :: rest) a w :=
  wpList_plain hgd fun _ hK => by
    unfold Oper.wp execOp
    simp only [ho, hx, Instr.loadAt, Instr.sureAddr, Sem.run_bind, Sem.run_pure, Result.andThen_ok, run_loadVar_gen ad n ty cs ht hn hr]
    exact hK _ _ h
theorem quiet_load_gen {C : World → Prop} (ty : TypeId) (x : Operand) (ho : o.op = .load ty x) (ad : Addr) (hx : a.eval x = .pointer (some ad)) (n : Nat) (cs : Array Value) (ht : IsAgg P ty n) (hn : cs.size = n)
    (hr : ∀ w, C w → ∀ j v, cs.toList[j]? = some v → w.cell? (ad.add j) = some v) {K : Act → Prop} (h : K (a.put o.dst (.agg cs))) : o.quiet P a C K := by
  refine ⟨_, fun w hw => ?_, h⟩
  unfold Oper.quietAt execOp
  simp only [ho, hx, Instr.loadAt, Instr.sureAddr, Sem.run_bind, Sem.run_pure, Result.andThen_ok, run_loadVar_gen ad n ty cs ht hn (hr w hw)]
  exact ⟨rfl, rfl⟩
end
theorem add_add' (a : Addr) (m n : Nat) : (a.add m).add n = a.add (m + n) := by
  unfold Addr.add
  by_cases h1 : m = 0 <;> by_cases h2 : n = 0 <;> simp [h1, h2, Nat.add_assoc]
theorem Wins.load {w : World} {a : Addr} {x : Win} {k : Nat} (c0 : w.cell? (a.add (k * 3)) = some (.int .i8 x.1)) (c1 : w.cell? (a.add (k * 3 + 1)) = some (.int .i8 x.2.1)) (c2 : w.cell? (a.add (k * 3 + 2)) = some (.float .f32 x.2.2)) :
    ∀ j v, (#[Value.int .i8 x.1, .int .i8 x.2.1, .float .f32 x.2.2] : Array Value).toList[j]? = some v → w.cell? ((a.add (k * 3)).add j) = some v := by
  intro j v h
  rw [add_add']
  match j, h with
  | 0, h => simp at h; subst h; exact c0
  | 1, h => simp at h; subst h; exact c1
  | 2, h => simp at h; subst h; exact c2
theorem Try.infoW : (Try.prog.info? 48).map (fun i => (i.zero, i.size, i.bytes)) = some (some (.agg #[.int .i8 0, .int .i8 0, .float .f32 0]), 3, 8) := by kernel_rfl
theorem to_windows (ao : Option Addr) (cap : Nat) (xs : List Win) (hn : xs.length ≤ 1048576) (w : World) (h : Wins w ao xs) :
    Calls Try.prog 25 #[.slice ao xs.length cap] w fun e w' => ∃ ad c, e = .returned (.slice ad xs.length c) ∧ Below w.heap.size w w' ∧ Wins w' ad xs ∧ (∀ a, ad = some a → xs.length ≠ 0 → w.heap.size ≤ a.block) := by
  have H := hidd h
  clear h
  obtain ⟨i0, hi, hz0, hz1, hz2⟩ := info_parts Try.infoW
  go_enter Try.func25, Try.ntmps25
  go_wp2_with (refine wpList_make_full _ rfl _ _ 35 rfl (w.heap.size) 48 i0 _ 3 Try.underlying35 hi hz0 hz1 .i64 .i64 _ _ xs.length rfl rfl rfl rfl (by rw [hz2]; omega) (by unfold maxLen; omega) (Nat.le_refl _) ?_; intro w1 own1 hg1; have o1 := hidd own1; have b1 := hidd ((Below.refl w.heap.size w).grown hg1 (Nat.le_refl _) (by intro k hk; cases hk)); clear own1 hg1)
  go_loopw [4] (fun i wr => ∃ k : Nat, k ≤ xs.length ∧ i = .int .i64 k ∧ Below w.heap.size w wr ∧ ∃ cs, Row wr w.heap.size cs ∧ cs.size = xs.length * 3 ∧ ∀ j, j < k → cs[j * 3]? = some (.int .i8 (xs.getD j wd0).1) ∧ cs[j * 3 + 1]? = some (.int .i8 (xs.getD j wd0).2.1) ∧ cs[j * 3 + 2]? = some (.float .f32 (xs.getD j wd0).2.2)) (fun i _ => xs.length - (intOf i).toNat)
  case atStart =>
    refine ⟨0, by omega, rfl, b1.out, ?_⟩
    have q := o1.out
    rcases q.2 with ⟨h1, _⟩ | ⟨g, cap, cur, h1, h2, h3, h4, h5, h6, h7⟩
    · cases h1
    · cases h1
      exact ⟨cur, ⟨_, h3⟩, h6, fun j hj => by omega⟩
  case round =>
    obtain ⟨k, hk, rfl, kb, cs, kr, kz, kc⟩ := hrel
    have KB := hidd kb
    have KR := hidd kr
    have KZ := hidd kz
    have KC := hidd kc
    clear kb kr kz kc
    by_cases hlt : k < xs.length
    · obtain ⟨a, rfl, ha, c0, c1, c2⟩ := (H.out.step KB.out) k hlt
      obtain ⟨x, hx⟩ : ∃ x, x = xs.getD k wd0 := ⟨_, rfl⟩
      rw [← hx] at c0 c1 c2
      have HX := hidd hx
      have LD := hidd (Wins.load c0 c1 c2)
      clear hx c0 c1 c2
      have i0' : (0 : Int) ≤ (k : Int) := by omega
      have i1 : (k : Int) < (xs.length : Int) := by omega
      have one : ∀ v ∈ (#[Value.int .i8 x.1, .int .i8 x.2.1, .float .f32 x.2.2] : Array Value).toList, v.oneCell' = true := by intro v h; simp at h; rcases h with rfl | rfl | rfl <;> rfl
      go_wp2_with (first | (refine wpList_load_gen rfl _ _ rfl _ rfl 3 _ agg_lwin rfl LD.out ?_) | (go_at_call 18; refine (to_window _ _ _ _).mono ?_; rintro e w2 ⟨rfl, hb2⟩; have R2 := hidd (KR.out.below hb2 KR.out.lt); have B2 := hidd (KB.out.trans (hb2.mono (by have := KR.out.lt; omega))); clear hb2) | (refine wpList_store_at rfl _ _ _ rfl w.heap.size (k * 3) rfl 3 cs _ rfl agg_win R2.out rfl (by rw [KZ.out]; omega) one ?_; intro w3 hw3 hr3))
      have HW3 := hidd hw3
      have HR3 := hidd hr3
      clear hw3 hr3
      go_wp2
      go_roundw
      case rel =>
        refine ⟨k + 1, by omega, by go_num, B2.out.trans (HW3.out.below (Nat.le_refl _)), _, HR3.out, by rw [over_size]; exact KZ.out, fun j hj => ?_⟩
        have hsz := KZ.out
        rw [over_at _ _ _ (by simp; omega), over_at _ _ _ (by simp; omega), over_at _ _ _ (by simp; omega)]
        simp only [List.length_cons, List.length_nil]
        by_cases e : j = k
        · subst e
          rw [if_pos (by omega), if_pos (by omega), if_pos (by omega), ← HX.out]
          have e0 : j * 3 - j * 3 = 0 := by omega
          have e1 : j * 3 + 1 - j * 3 = 1 := by omega
          have e2 : j * 3 + 2 - j * 3 = 2 := by omega
          rw [e0, e1, e2]
          exact ⟨rfl, rfl, rfl⟩
        · rw [if_neg (by omega), if_neg (by omega), if_neg (by omega)]
          exact KC.out j (by omega)
      case measure => simp [intOf]; omega
    · obtain rfl : k = xs.length := by omega
      go_wp2
      go_ret
      refine ⟨_, _, rfl, KB.out, fun j hj => ?_, fun a e _ => by cases e; exact Nat.le_refl _⟩
      obtain ⟨d0, d1, d2⟩ := KC.out j hj
      exact ⟨_, rfl, KR.out.lt, by rw [← d0, add_row]; exact KR.out.cell _, by rw [← d1, add_row]; exact KR.out.cell _, by rw [← d2, add_row]; exact KR.out.cell _⟩
theorem to_room (wd hg : Int) (ao : Option Addr) (cap : Nat) (xs : List Win) (hn : xs.length ≤ 1048576) (w : World) (h : Wins w ao xs) :
    Calls Try.prog 12 #[.agg #[.int .i8 wd, .int .i8 hg, .slice ao xs.length cap]] w fun e w' => ∃ ad c, e = .returned (.agg #[.int .i8 wd, .int .i8 hg, .slice ad xs.length c]) ∧ Below w.heap.size w w' ∧ Wins w' ad xs ∧ (∀ a, ad = some a → xs.length ≠ 0 → w.heap.size ≤ a.block) := by
  have H := hidd h
  clear h
  have k3 := hidd (Keep3.start w (roomCells wd hg (.slice ao xs.length cap)) (roomCells 0 0 (.slice none 0 0)) (roomCells wd hg (.slice none 0 0)) 32 37 37)
  have H3 := hidd (H.out.step k3.out.below)
  go_enter Try.func12, Try.ntmps12
  go_wp2_with fail
  refine (to_windows ao cap xs hn _ H3.out).mono ?_
  rintro e w2 ⟨ad, c, rfl, hb, hw, hnew⟩
  have K2 := hidd (k3.out.step hb)
  have HW := hidd hw
  have HN := hidd (show ∀ a, ad = some a → xs.length ≠ 0 → w.heap.size + 3 ≤ a.block from fun a e ne => by have := hnew a e ne; simp at this; omega)
  clear hb hw hnew k3 H3
  have c2 : w2.cell? ⟨w.heap.size + 1 + 1, 2, none⟩ = some (.slice none 0 0) := by rw [K2.out.row3.cell]; rfl
  have f2 := K2.out.row3.frozen 2
  have R3 := hidd (show Row (w2.setCell ⟨w.heap.size + 1 + 1, 2, none⟩ (.slice ad xs.length c)) (w.heap.size + 1 + 1) (roomCells wd hg (.slice ad xs.length c)) from K2.out.row3.set 2 (.slice ad xs.length c))
  have R2 := hidd (K2.out.row2.set_other ⟨w.heap.size + 1 + 1, 2, none⟩ (.slice ad xs.length c) (by simp))
  have B2 := hidd (K2.out.below.setCell (p := ⟨w.heap.size + 1 + 1, 2, none⟩) (by simp; omega) (.slice ad xs.length c))
  have W2 := hidd (show Wins (w2.setCell ⟨w.heap.size + 1 + 1, 2, none⟩ (.slice ad xs.length c)) ad xs from fun k hk => by
    obtain ⟨a, e, ha, d0, d1, d2⟩ := HW.out k hk
    have hne : a.block ≠ w.heap.size + 1 + 1 := by have := HN.out a e (by omega); omega
    refine ⟨a, e, by simpa [World.setCell] using ha, ?_, ?_, ?_⟩
    · exact (World.cell?_of_block (by rw [add_block]; exact heap_setCell_other w2 _ a.block _ hne)).trans d0
    · exact (World.cell?_of_block (by rw [add_block]; exact heap_setCell_other w2 _ a.block _ hne)).trans d1
    · exact (World.cell?_of_block (by rw [add_block]; exact heap_setCell_other w2 _ a.block _ hne)).trans d2)
  have one : ∀ v ∈ (roomCells wd hg (.slice ad xs.length c)).toList, v.oneCell' = true := by intro v h; simp [roomCells] at h; rcases h with rfl | rfl | rfl <;> rfl
  go_wp2_with (first | (refine wpList_load_all rfl _ _ rfl _ rfl (roomCells wd hg (.slice ad xs.length c)) 3 agg_room rfl R3.out ?_) | (refine wpList_store_at rfl _ _ _ rfl (w.heap.size + 1) 0 rfl 3 (roomCells 0 0 (.slice none 0 0)) _ rfl agg_room R2.out rfl (by decide) one ?_; intro w3 hw3 hr3))
  have HW3 := hidd hw3
  have HR3 := hidd (show Row w3 (w.heap.size + 1) (roomCells wd hg (.slice ad xs.length c)) from by rw [over_all (by rfl)] at hr3; exact hr3)
  clear hw3 hr3
  go_wp2
  refine bodyPost_ret (v := .agg (roomCells wd hg (.slice ad xs.length c))) (results_row Try.results12 agg_room _ _ (w.heap.size + 1) _ rfl rfl HR3.out) rfl ⟨ad, c, rfl, B2.out.trans (HW3.out.below (by omega)), ?_, fun a e ne => by have := HN.out a e ne; omega⟩
  intro k hk
  obtain ⟨a, e, ha, d0, d1, d2⟩ := W2.out k hk
  have hne : a.block ≠ w.heap.size + 1 := by have := HN.out a e (by omega); omega
  refine ⟨a, e, by rw [HW3.out.size]; exact ha, ?_, ?_, ?_⟩
  · exact (World.cell?_of_block (by rw [add_block]; exact HW3.out.block a.block hne)).trans d0
  · exact (World.cell?_of_block (by rw [add_block]; exact HW3.out.block a.block hne)).trans d1
  · exact (World.cell?_of_block (by rw [add_block]; exact HW3.out.block a.block hne)).trans d2
end Go.Proofs.Ytgibcikihniimaa
