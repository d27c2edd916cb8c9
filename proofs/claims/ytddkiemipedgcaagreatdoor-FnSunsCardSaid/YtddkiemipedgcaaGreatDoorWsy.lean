/-
  Suns: the calls of the law of the suns, each at its arguments.
-/
import Derived.Test.YtddkiemipedgcaaGreatDoorPsu
import Derived.Test.YtddkiemipedgcaaGreatDoorWdn
import Derived.Test.YtddkiemipedgcaaGreatDoorWri
import Derived.Test.YtddkiemipedgcaaGreatDoorWsi
import Derived.Test.YtddkiemipedgcaaGreatDoorWx
import Derived.Test.YtddkiemipedgcaaGreatDoorWsm
import Derived.Test.YtddkiemipedgcaaGreatDoorWla
import Derived.Test.YtddkiemipedgcaaGreatDoorWsh
namespace Go.Proofs.YtddkiemipedgcaaGreatDoor
open Go.RowKit Go.Proofs.Fl Go.Proofs.Pl Go.Proofs.Hx
open Go.Lib hiding intOf
set_option linter.unusedVariables false
theorem same_fin' {x : Nat} (h : Fnt x) : same x x = true := by
  unfold same; rw [fne_self h]; simp
theorem sunEq_self (L : List Int) : sunEq L L = true := by unfold sunEq; simp
/-- A list of numbers that is there. -/
def Lst (v : Value) (xs : List Int) (w : World) : Prop := ∃ ad c, v = .slice ad xs.length c ∧ Ints w ad xs
theorem Lst.step {v : Value} {xs : List Int} {w w1 : World} (h : Lst v xs w) (hb : Below w.heap.size w w1) : Lst v xs w1 := by
  obtain ⟨ad, c, e, i⟩ := h
  exact ⟨ad, c, e, i.below hb⟩
theorem lst_of {w : World} {base e : Nat} {v : Value} {xs : List Int} (h : w.ownsRow base e 1 v xs.length (xs.map (Value.int .i64))) : Lst v xs w := by
  obtain ⟨ad, c, e, i, _⟩ := (made_of h).ints
  exact ⟨ad, c, e, i⟩
def bestH (L : List Int) (f : Int) : Nat × Nat := bestOf (fun k => fall L k f) 23
def bestF (L : List Int) : Nat × Nat := bestOf (fun k => dayFall L (k : Nat)) 255
section
variable (L : List Int) (hs : Sn L) (w : World)
include hs
theorem su_t (hT : Tabs w) : Calls Tryz.prog 10 #[.agg (sunCells L)] w fun e w' => e = .returned (.string ⟨(textL L 24).toArray⟩) ∧ Below w.heap.size w w' := by
  have q := sunText_impl L hs.len hs.rng w hT
  rw [sunT_yes hs.ok] at q; exact q
theorem su_r (hT : Tabs w) (hE : Errs w) (hM : Mx w) : Calls Tryz.prog 9 #[.string ⟨(textL L 24).toArray⟩] w fun e w' => e = .returned (.tuple #[.agg (sunCells L), .int .i64 0]) ∧ Below w.heap.size w w' := by
  have q := readSun_impl ⟨(textL L 24).toArray⟩ (by have := textL_len hs.ok (k := 24) (by omega); show (List.toArray _).size ≤ _; rw [List.size_toArray]; omega) w hT hE hM
  rw [show (⟨(textL L 24).toArray⟩ : ByteArray).data.toList = textL L 24 from rfl, rd_text hs] at q; exact q
theorem su_m_i : Calls Tryz.prog 11 #[.agg (sunCells L)] w fun e w' => e = .returned (.tuple #[.agg (sunCells (mir L)), .int .i64 0]) ∧ Below w.heap.size w w' := by
  have q := mirror_impl L hs.len hs.rng w
  rw [code_0 hs.ok rfl, sm_ok rfl] at q; exact q
theorem su_m_s : Calls Tryz.prog 12 #[.agg (sunCells L)] w fun e w' => e = .returned (.tuple #[.agg (sunCells (mir L)), .int .i64 0]) ∧ Below w.heap.size w w' := by
  have q := mirror_spec L hs.len hs.rng w
  rw [code_0 hs.ok rfl, sm_ok rfl] at q; exact q
theorem su_bh_i (f : Int) (f1 : 0 ≤ f) (f2 : f ≤ 255) : Calls Tryz.prog 13 #[.agg (sunCells L), .int .i64 f] w fun e w' => e = .returned (.tuple #[.int .i64 (bestH L f).1, .float .f32 (bestH L f).2, .int .i64 0]) ∧ Below w.heap.size w w' := by
  have q := bestHour_impl L hs.len hs.rng f w
  rw [res_ok (code_0 hs.ok (inR_iff.2 ⟨f1, f2⟩))] at q; exact q
theorem su_bh_s (f : Int) (f1 : 0 ≤ f) (f2 : f ≤ 255) : Calls Tryz.prog 14 #[.agg (sunCells L), .int .i64 f] w fun e w' => e = .returned (.tuple #[.int .i64 (bestH L f).1, .float .f32 (bestH L f).2, .int .i64 0]) ∧ Below w.heap.size w w' := by
  have q := bestHour_spec L hs.len hs.rng f w
  rw [res_ok (code_0 hs.ok (inR_iff.2 ⟨f1, f2⟩))] at q; exact q
theorem su_bf_i : Calls Tryz.prog 15 #[.agg (sunCells L)] w fun e w' => e = .returned (.tuple #[.int .i64 (bestF L).1, .float .f32 (bestF L).2, .int .i64 0]) ∧ Below w.heap.size w w' := by
  have q := bestFacing_impl L hs.len hs.rng w
  rw [res_ok (code_0 hs.ok rfl)] at q; exact q
theorem su_bf_s : Calls Tryz.prog 16 #[.agg (sunCells L)] w fun e w' => e = .returned (.tuple #[.int .i64 (bestF L).1, .float .f32 (bestF L).2, .int .i64 0]) ∧ Below w.heap.size w w' := by
  have q := bestFacing_spec L hs.len hs.rng w
  rw [res_ok (code_0 hs.ok rfl)] at q; exact q
theorem su_h_i (f : Int) (f1 : 0 ≤ f) (f2 : f ≤ 255) (least : Nat) (hp : isPart least = true) : Calls Tryz.prog 17 #[.agg (sunCells L), .int .i64 f, .float .f32 least] w fun e w' => ∃ v, e = .returned (.tuple #[v, .int .i64 0]) ∧ Below w.heap.size w w' ∧ Lst v (hl24 (hourSo L f least)) w' := by
  have q := sunHours_impl L hs.len hs.rng f least w
  rw [ha_ok (code_0 hs.ok (by rw [inR_iff.2 ⟨f1, f2⟩, hp]; rfl))] at q
  exact q.mono fun e w' ⟨v, a, b, c⟩ => ⟨v, a, b, lst_of c⟩
theorem su_h_s (f : Int) (f1 : 0 ≤ f) (f2 : f ≤ 255) (least : Nat) (hp : isPart least = true) : Calls Tryz.prog 18 #[.agg (sunCells L), .int .i64 f, .float .f32 least] w fun e w' => ∃ v, e = .returned (.tuple #[v, .int .i64 0]) ∧ Below w.heap.size w w' ∧ Lst v (hl24 (hourSo L f least)) w' := by
  have q := sunHours_spec L hs.len hs.rng f least w
  rw [ha_ok (code_0 hs.ok (by rw [inR_iff.2 ⟨f1, f2⟩, hp]; rfl))] at q
  exact q.mono fun e w' ⟨v, a, b, c⟩ => ⟨v, a, b, lst_of c⟩
theorem su_s : Calls Tryz.prog 19 #[.agg (sunCells L), .agg (sunCells L)] w fun e w' => e = .returned (.bool true) ∧ Below w.heap.size w w' := by
  have q := same_sun_impl L L hs.len hs.len w
  rw [sunEq_self] at q; exact q
theorem su_v : Calls Tryz.prog 20 #[.agg (sunCells L)] w fun e w' => e = .returned (.bool true) ∧ Below w.heap.size w w' := by
  have q := valid_impl L hs.len hs.rng w
  rw [hs.ok] at q; exact q
theorem su_f_i (k : Nat) (hk : k < 24) (f : Int) (f1 : 0 ≤ f) (f2 : f ≤ 255) : Calls Tryz.prog 23 #[.agg (sunCells L), .int .i64 k, .int .i64 f] w fun e w' => e = .returned (.tuple #[.float .f32 (fall L k f), .int .i64 0]) ∧ Below w.heap.size w w' := by
  have q := fallOn_impl L hs.len hs.rng k f w
  rw [res_ok (code_0 hs.ok (by rw [inR_iff.2 ⟨f1, f2⟩, inR_iff.2 ⟨by omega, by omega⟩]; rfl))] at q; exact q
theorem su_f_m (k : Nat) (hk : k < 24) (f : Int) (f1 : 0 ≤ f) (f2 : f ≤ 255) (h g : Int) (hh : h = 23 - (k : Int)) (hg : g = (256 - f) % 256) : Calls Tryz.prog 24 #[.agg (sunCells (mir L)), .int .i64 h, .int .i64 g] w fun e w' => e = .returned (.tuple #[.float .f32 (fall L k f), .int .i64 0]) ∧ Below w.heap.size w w' := by
  have hm := mir_sn hs
  have q := fallOn_spec (mir L) hm.len hm.rng h g w
  rw [res_ok (code_0 hm.ok (by rw [inR_iff.2 (show 0 ≤ g ∧ g ≤ 255 by omega), inR_iff.2 (show 0 ≤ h ∧ h ≤ 23 by omega)]; rfl)), show h.toNat = 23 - k by omega, hg, mir_fall hs hk f] at q
  rw [hg]; exact q
theorem su_u (k : Nat) (hk : k < 24) : Calls Tryz.prog 25 #[.agg (sunCells L), .int .i64 k] w fun e w' => e = .returned (.tuple #[.bool (isUp L k), .int .i64 0]) ∧ Below w.heap.size w w' := by
  have q := isUp_ans L hs.len hs.rng k w
  rw [res_ok (code_0 hs.ok (inR_iff.2 ⟨by omega, by omega⟩))] at q; exact q
theorem su_g (k : Nat) (hk : k < 24) : Calls Tryz.prog 26 #[.agg (sunCells L), .int .i64 k] w fun e w' => e = .returned (.tuple #[.float .f32 (ground L k), .int .i64 0]) ∧ Below w.heap.size w w' := by
  have q := groundLight_impl L hs.len hs.rng k w
  rw [res_ok (code_0 hs.ok (inR_iff.2 ⟨by omega, by omega⟩))] at q; exact q
theorem su_fd (f : Int) (f1 : 0 ≤ f) (f2 : f ≤ 255) : Calls Tryz.prog 28 #[.agg (sunCells L), .int .i64 f] w fun e w' => e = .returned (.tuple #[.float .f32 (dayFall L f), .int .i64 0]) ∧ Below w.heap.size w w' := by
  have q := fallDay_impl L hs.len hs.rng f w
  rw [res_ok (code_0 hs.ok (inR_iff.2 ⟨f1, f2⟩))] at q; exact q
theorem su_gd : Calls Tryz.prog 29 #[.agg (sunCells L)] w fun e w' => e = .returned (.tuple #[.float .f32 (dayGround L), .int .i64 0]) ∧ Below w.heap.size w w' := by
  have q := groundDay_impl L hs.len hs.rng w
  rw [res_ok (code_0 hs.ok rfl)] at q; exact q
theorem su_l_i (n : Int) (n1 : 0 ≤ n) (n2 : n ≤ 23) : Calls Tryz.prog 30 #[.agg (sunCells L), .int .i64 n] w fun e w' => e = .returned (.tuple #[.agg (sunCells (lat L n)), .int .i64 0]) ∧ Below w.heap.size w w' := by
  have q := later_impl L hs.len hs.rng n w
  rw [code_0 hs.ok (inR_iff.2 ⟨n1, n2⟩), sm_ok rfl] at q; exact q
theorem su_l_s (n : Int) (n1 : 0 ≤ n) (n2 : n ≤ 23) : Calls Tryz.prog 31 #[.agg (sunCells L), .int .i64 n] w fun e w' => e = .returned (.tuple #[.agg (sunCells (lat L n)), .int .i64 0]) ∧ Below w.heap.size w w' := by
  have q := later_spec L hs.len hs.rng n w
  rw [code_0 hs.ok (inR_iff.2 ⟨n1, n2⟩), sm_ok rfl] at q; exact q
end
section
variable {P : Program} {ops : Array Oper} {Q : Exit → Act → World → Prop} {a : Act} {w : World} {rest : List Oper} {o : Oper}
/-- A whole row is loaded, under a guard that holds. -/
theorem wpList_load_all_g (hgd : Region.wanted o (yielded ops a.tmps) = true) (ty : TypeId) (x : Operand) (ho : o.op = .load ty x) (b : Nat) (hx : a.eval x = .pointer (some ⟨b, 0, none⟩)) (cs : Array Value) (n : Nat) (ht : IsAgg P ty n) (hn : cs.size = n) (hr : Row w b cs)
    (h : wpList P ops Q rest (a.put o.dst (.agg cs)) w) : wpList P ops Q (o :: rest) a w :=
  wpList_step fun K hK => by rw [if_pos hgd]; exact wp_load_all ty x ho b hx cs n ht hn hr (hK _ _ h)
end
end Go.Proofs.YtddkiemipedgcaaGreatDoor
