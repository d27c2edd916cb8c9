/-
  A blind drawn from bytes.
-/
import Derived.Test.YtddkiemipedgcaaGreatDoorWds
import Derived.Test.YtddkiemipedgcaaGreatDoorPb
namespace Go.Proofs.YtddkiemipedgcaaGreatDoor
open Go.RowKit Go.Proofs.Fl Go.Proofs.Pl
set_option linter.unusedVariables false

theorem agg_blind' : IsAgg Tryz.prog 56 5 := isAgg_struct Tryz.underlying56 (by kernel_rfl)
theorem blind_one' (n : Int) (wd g : Nat) (t : Int) (s : Nat) : ∀ v ∈ (blindCells n wd g t s).toList, v.oneCell' = true := by intro v h; simp [blindCells] at h; rcases h with rfl | rfl | rfl | rfl | rfl <;> rfl
/-- What a drawn blind is. -/
structure DB (n : Int) (wd g : Nat) (t : Int) (s : Nat) : Prop where
  n1 : 1 ≤ n
  n2 : n ≤ 60
  hw : isLen wd = true
  hg : isLen g = true
  t1 : -64 ≤ t
  t2 : t ≤ 64
  hs : Tone s
  wl : wd < 4294967296
  gl : g < 4294967296
  sl : s < 4294967296
theorem DB.ok {n : Int} {wd g : Nat} {t : Int} {s : Nat} (h : DB n wd g t s) : blindOk n wd g t s = true := by
  unfold blindOk; rw [inR_iff.2 ⟨h.n1, h.n2⟩, h.hw, h.hg, inR_iff.2 ⟨h.t1, h.t2⟩, h.hs.part]; rfl
/-- A blind that is being drawn: block r is the result, c the variable, b the source. -/
structure DS (w0 : World) (r c b : Nat) (ao : Option Addr) (cap : Nat) (xs : List Int) (k : Nat) (cs : Array Value) (w : World) : Prop where
  below : Below w0.heap.size w0 w
  res : Row w r (blindCells 0 0 0 0 0)
  row : Row w c cs
  src : Src b ao cap xs k w
  ne : r ≠ b ∧ c ≠ b ∧ r ≠ c ∧ w0.heap.size ≤ r ∧ w0.heap.size ≤ c
theorem DS.draw {w0 : World} {r c b : Nat} {ao : Option Addr} {cap : Nat} {xs : List Int} {k m : Nat} {cs : Array Value} {w w1 : World} (h : DS w0 r c b ao cap xs k cs w) (hw : Wrote w w1 b) (hs : Src b ao cap xs m w1) (hb : w0.heap.size ≤ b ∨ True) (hbb : Below w0.heap.size w w1) : DS w0 r c b ao cap xs m cs w1 :=
  ⟨h.below.trans hbb, hw.row h.res h.ne.1, hw.row h.row h.ne.2.1, hs, h.ne⟩
theorem Src.set {b : Nat} {ao : Option Addr} {cap : Nat} {xs : List Int} {k : Nat} {w : World} (h : Src b ao cap xs k w) (c i : Nat) (v : Value) (hne : c ≠ b) (hf : ∀ a, ao = some a → xs.length ≠ 0 → a.block ≠ c) : Src b ao cap xs k (w.setCell ⟨c, i, none⟩ v) := by
  obtain ⟨⟨a, s, h1, h2, h3, r⟩, h4, h5⟩ := h
  refine ⟨⟨a, s, h1, h2, h3, r.set_other ⟨c, i, none⟩ v (fun e => hne e.symm)⟩, ?_, h5⟩
  intro j hj
  obtain ⟨ad, e, q1, q2, q3⟩ := h4 j hj
  have hnn := hf ad e (by omega)
  refine ⟨ad, e, by simpa [World.setCell] using q1, ?_, q3⟩
  exact (World.cell?_of_block (by rw [blk_add]; exact heap_setCell_other w _ ad.block _ hnn)).trans q2
set_option maxRecDepth 100000 in
theorem drawn_blind (b : Nat) (ao : Option Addr) (cap : Nat) (xs : List Int) (k : Nat) (hk : k ≤ 1000) (hn : xs.length ≤ 3000) (w : World) (h : Src b ao cap xs k w) (hblt : b < w.heap.size) :
    Calls Tryz.prog 81 #[.pointer (some ⟨b, 0, none⟩)] w fun e w' => ∃ (n : Int) (wd g : Nat) (t : Int) (s : Nat), e = .returned (.agg #[.int .i8 n, .float .f32 wd, .float .f32 g, .int .i16 t, .float .f32 s]) ∧ DB n wd g t s ∧ Below b w w' ∧ (∃ q, Src b ao cap xs q w' ∧ q ≤ k + 40) := by
  have S := hidd (h.alloc (.cells (blindCells 0 0 0 0 0) 56))
  have r0 := hidd (Row.new w (blindCells 0 0 0 0 0) 56)
  have B0 := hidd ((Below.refl b w).alloc (by omega) (.cells (blindCells 0 0 0 0 0) 56))
  have FA := hidd h.far
  clear h
  go_enter Tryz.func81, Tryz.ntmps81
  go_wp2_with fail
  refine (pick_any 60 (by omega) (by omega) b ao cap xs k (by omega) hn _ S.out).mono ?_
  rintro e w1 ⟨n, rfl, n0, n1, hw, hs⟩
  have S1 := hidd hs
  have r1 := hidd (hw.row r0.out (by omega))
  have B1 := hidd (B0.out.trans (hw.below (Nat.le_refl _)))
  have z1 := hidd (show w1.heap.size = w.heap.size + 1 by rw [hw.size]; simp)
  clear hw hs S r0 B0
  go_wp2_with fail
  refine (sized_any b ao cap xs (k + 2) (by omega) hn _ S1.out).mono ?_
  rintro e w2 ⟨wd, rfl, hl, hw, hs⟩
  have HW := hidd hl.1
  have HWl := hidd hl.2
  have S2 := hidd (hs.alloc (.cells (blindCells (1 + n) wd 0 0 0) 56))
  have r2 := hidd ((hw.row r1.out (by omega)).alloc (.cells (blindCells (1 + n) wd 0 0 0) 56))
  have B2 := hidd ((B1.out.trans (hw.below (Nat.le_refl _))).alloc (by have := z1.out; have := hw.size; omega) (.cells (blindCells (1 + n) wd 0 0 0) 56))
  have z2 := hidd (show w2.heap.size = w.heap.size + 1 by rw [hw.size]; exact z1.out)
  have v2 := hidd (Row.new w2 (blindCells (1 + n) wd 0 0 0) 56)
  clear hl hw hs S1 r1 B1
  go_wp2_with fail
  refine (sized_any b ao cap xs (k + 2 + 6) (by omega) hn _ S2.out).mono ?_
  rintro e w3 ⟨g, rfl, hl, hw, hs⟩
  have HG := hidd hl.1
  have HGl := hidd hl.2
  have v3 := hidd (hw.row v2.out (by have := z2.out; omega))
  have c3 : w3.cell? ⟨w2.heap.size, 2, none⟩ = some (.float .f32 0) := by rw [v3.out.cell]; rfl
  have f3 := v3.out.frozen 2
  have S3 := hidd (hs.set w2.heap.size 2 (.float .f32 g) (by have := z2.out; omega) (fun a e ne => by have := FA.out a e ne; have := z2.out; omega))
  have r3 := hidd ((hw.row r2.out (by omega)).set_other ⟨w2.heap.size, 2, none⟩ (.float .f32 g) (by have := z2.out; simp; omega))
  have v3' := hidd (show Row (w3.setCell ⟨w2.heap.size, 2, none⟩ (.float .f32 g)) w2.heap.size (blindCells (1 + n) wd g 0 0) from v3.out.set 2 (.float .f32 g))
  have B3 := hidd ((B2.out.trans (hw.below (Nat.le_refl _))).setCell (p := ⟨w2.heap.size, 2, none⟩) (by have := z2.out; simp; omega) (.float .f32 g))
  clear hl hw hs S2 r2 v2 v3 B2
  go_wp2_with fail
  clear c3 f3
  refine (pick_any 129 (by omega) (by omega) b ao cap xs (k + 2 + 6 + 6) (by omega) hn _ S3.out).mono ?_
  rintro e w4 ⟨t, rfl, t0, t1, hw, hs⟩
  have v4 := hidd (hw.row v3'.out (by have := z2.out; omega))
  have c4 : w4.cell? ⟨w2.heap.size, 3, none⟩ = some (.int .i16 0) := by rw [v4.out.cell]; rfl
  have f4 := v4.out.frozen 3
  have S4 := hidd (hs.set w2.heap.size 3 (.int .i16 (t - 64)) (by have := z2.out; omega) (fun a e ne => by have := FA.out a e ne; have := z2.out; omega))
  have r4 := hidd ((hw.row r3.out (by omega)).set_other ⟨w2.heap.size, 3, none⟩ (.int .i16 (t - 64)) (by have := z2.out; simp; omega))
  have v4' := hidd (show Row (w4.setCell ⟨w2.heap.size, 3, none⟩ (.int .i16 (t - 64))) w2.heap.size (blindCells (1 + n) wd g (t - 64) 0) from v4.out.set 3 (.int .i16 (t - 64)))
  have B4 := hidd ((B3.out.trans (hw.below (Nat.le_refl _))).setCell (p := ⟨w2.heap.size, 3, none⟩) (by have := z2.out; simp; omega) (.int .i16 (t - 64)))
  clear hw hs S3 r3 v3' v4 B3
  go_wp2_with fail
  clear c4 f4
  refine (tone_any b ao cap xs (k + 2 + 6 + 6 + 2) (by omega) hn _ S4.out).mono ?_
  rintro e w5 ⟨s, rfl, hl, hw, hs⟩
  have HS := hidd hl.1
  have HSl := hidd hl.2
  have v5 := hidd (hw.row v4'.out (by have := z2.out; omega))
  have c5 : w5.cell? ⟨w2.heap.size, 4, none⟩ = some (.float .f32 0) := by rw [v5.out.cell]; rfl
  have f5 := v5.out.frozen 4
  have S5 := hidd (hs.set w2.heap.size 4 (.float .f32 s) (by have := z2.out; omega) (fun a e ne => by have := FA.out a e ne; have := z2.out; omega))
  have r5 := hidd ((hw.row r4.out (by omega)).set_other ⟨w2.heap.size, 4, none⟩ (.float .f32 s) (by have := z2.out; simp; omega))
  have v5' := hidd (show Row (w5.setCell ⟨w2.heap.size, 4, none⟩ (.float .f32 s)) w2.heap.size (blindCells (1 + n) wd g (t - 64) s) from v5.out.set 4 (.float .f32 s))
  have B5 := hidd ((B4.out.trans (hw.below (Nat.le_refl _))).setCell (p := ⟨w2.heap.size, 4, none⟩) (by have := z2.out; simp; omega) (.float .f32 s))
  clear hl hw hs S4 r4 v4' v5 B4
  have OK := hidd (DB.mk (n := 1 + n) (t := t - 64) (by omega) (by omega) HW.out HG.out (by omega) (by omega) HS.out HWl.out HGl.out HSl.out)
  have one := blind_one' (1 + n) wd g (t - 64) s
  go_wp2_with (first | (refine wpList_load_all rfl _ _ rfl _ rfl (blindCells (1 + n) wd g (t - 64) s) 5 agg_blind' rfl v5'.out ?_) | (refine wpList_store_at rfl _ _ _ rfl w.heap.size 0 rfl 5 (blindCells 0 0 0 0 0) _ rfl agg_blind' r5.out rfl (by decide) one ?_; intro w6 hw6 hr6))
  have R6 := hidd (show Row w6 w.heap.size (blindCells (1 + n) wd g (t - 64) s) from by rw [over_all (by rfl)] at hr6; exact hr6)
  have B6 := hidd (B5.out.trans (hw6.below (by omega)))
  have S6 := hidd (show Src b ao cap xs (k + 2 + 6 + 6 + 2 + 6) w6 from by
    obtain ⟨⟨a, sd, h1, h2, h3, r⟩, h4, h5⟩ := S5.out
    exact ⟨⟨a, sd, h1, h2, h3, hw6.row r (by omega)⟩, h4.below (hw6.below (Nat.le_refl _)) (fun a e ne => by have := FA.out a e ne; omega), h5⟩)
  clear hw6 hr6
  go_wp2
  exact bodyPost_ret (v := .agg (blindCells (1 + n) wd g (t - 64) s)) (results_row Tryz.results81 agg_blind' _ _ w.heap.size _ rfl rfl R6.out) rfl ⟨1 + n, wd, g, t - 64, s, rfl, OK.out, B6.out, _, S6.out, by omega⟩
set_option maxRecDepth 100000 in
theorem blind_any (ao : Option Addr) (cap : Nat) (xs : List Int) (hn : xs.length ≤ 3000) (w : World) (h : ArgBytes w ao xs) :
    Calls Tryz.prog 32 #[.slice ao xs.length cap] w fun e w' => ∃ (n : Int) (wd g : Nat) (t : Int) (s : Nat), e = .returned (.agg #[.int .i8 n, .float .f32 wd, .float .f32 g, .int .i16 t, .float .f32 s]) ∧ DB n wd g t s ∧ Below w.heap.size w w' := by
  have b0 := hidd ((Below.refl w.heap.size w).alloc (Nat.le_refl _) (.cells (blindCells 0 0 0 0 0) 56))
  have S := hidd (Src.new' (w.heap.size + 1) ao cap xs (w.alloc (.cells (blindCells 0 0 0 0 0) 56)) 107 (by simp) (h.step b0.out))
  have r0 := hidd ((Row.new w (blindCells 0 0 0 0 0) 56).alloc (.cells #[.slice ao xs.length cap, .int .i64 0, .int .u64 0] 107))
  have b1 := hidd (b0.out.alloc (by simp) (.cells #[.slice ao xs.length cap, .int .i64 0, .int .u64 0] 107))
  clear h b0
  go_enter Tryz.func32, Tryz.ntmps32
  go_wp2_with fail
  refine (from_any ao cap xs.length _).mono ?_
  rintro e w1 ⟨rfl, rfl⟩
  go_wp2_with fail
  refine (drawn_blind (w.heap.size + 1) ao cap xs 0 (by omega) hn _ S.out (by simp)).mono ?_
  rintro e w2 ⟨n, wd, g, t, s, rfl, hd, hb, q, _, _⟩
  have OK := hidd hd
  have r2 := hidd (r0.out.below hb (by omega))
  have b2 := hidd (b1.out.trans (hb.mono (by omega)))
  have one := blind_one' n wd g t s
  clear hd hb S r0 b1
  go_wp2_with (refine wpList_store_at rfl _ _ _ rfl w.heap.size 0 rfl 5 (blindCells 0 0 0 0 0) (blindCells n wd g t s) rfl agg_blind' r2.out rfl (by decide) one ?_; intro w6 hw6 hr6)
  have R6 := hidd (show Row w6 w.heap.size (blindCells n wd g t s) from by rw [over_all (by rfl)] at hr6; exact hr6)
  have B6 := hidd (b2.out.trans (hw6.below (Nat.le_refl _)))
  clear hw6 hr6
  go_wp2
  exact bodyPost_ret (v := .agg (blindCells n wd g t s)) (results_row Tryz.results32 agg_blind' _ _ w.heap.size _ rfl rfl R6.out) rfl ⟨n, wd, g, t, s, rfl, OK.out, B6.out⟩
end Go.Proofs.YtddkiemipedgcaaGreatDoor
