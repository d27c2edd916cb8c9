/-
  A sun drawn from bytes.
-/
import Derived.Test.YtddkiemipedgcaaGreatDoorWds
import Derived.Test.YtddkiemipedgcaaGreatDoorPsu
import Derived.Test.YtddkiemipedgcaaGreatDoorWs
namespace Go.Proofs.YtddkiemipedgcaaGreatDoor
open Go.RowKit Go.Proofs.Fl Go.Proofs.Pl
set_option linter.unusedVariables false
theorem fill_congr {F G F' G' : Nat → Int} {k : Nat} (h : ∀ i, i < k → F i = F' i ∧ G i = G' i) : fill F G k = fill F' G' k := by
  unfold fill
  refine List.map_congr_left fun i hi => ?_
  by_cases c : i < 24
  · rw [if_pos c, if_pos c]
    by_cases d : i < k
    · rw [if_pos d, if_pos d, (h i d).1]
    · rw [if_neg d, if_neg d]
  · rw [if_neg c, if_neg c]
    by_cases d : i < 24 + k
    · rw [if_pos d, if_pos d, (h (i - 24) (by omega)).2]
    · rw [if_neg d, if_neg d]
/-- A sun that is being drawn: the result, the variable, the source. -/
structure DU (w0 : World) (b : Nat) (ao : Option Addr) (cap : Nat) (xs : List Int) (q : Nat) (cs : Array Value) (w : World) : Prop where
  below : Below b w0 w
  res : Row w w0.heap.size (sunCells zeroSun)
  row : Row w (w0.heap.size + 1) cs
  src : Src b ao cap xs q w
  lt : b < w0.heap.size
theorem Src.wrote {b c : Nat} {ao : Option Addr} {cap : Nat} {xs : List Int} {k : Nat} {w w1 : World} (h : Src b ao cap xs k w) (hw : Wrote w w1 c) (hc : b < c) : Src b ao cap xs k w1 := by
  have FA := h.far
  obtain ⟨⟨a, s, h1, h2, h3, r⟩, h4, h5⟩ := h
  exact ⟨⟨a, s, h1, h2, h3, hw.row r (by omega)⟩, h4.below (hw.below (Nat.le_refl _)) (fun a e ne => by have := FA a e ne; omega), h5⟩
theorem DU.draw {w0 w w1 : World} {b : Nat} {ao : Option Addr} {cap : Nat} {xs : List Int} {q m : Nat} {cs : Array Value} (h : DU w0 b ao cap xs q cs w) (hw : Wrote w w1 b) (hs : Src b ao cap xs m w1) : DU w0 b ao cap xs m cs w1 :=
  ⟨h.below.trans (hw.below (Nat.le_refl _)), hw.row h.res (by have := h.lt; omega), hw.row h.row (by have := h.lt; omega), hs, h.lt⟩
theorem DU.wrote {w0 w w1 : World} {b : Nat} {ao : Option Addr} {cap : Nat} {xs : List Int} {q : Nat} {cs ds : Array Value} (h : DU w0 b ao cap xs q cs w) (hw : Wrote w w1 (w0.heap.size + 1)) (hr : Row w1 (w0.heap.size + 1) ds) : DU w0 b ao cap xs q ds w1 :=
  ⟨h.below.trans (hw.below (by have := h.lt; omega)), hw.row h.res (by omega), hr, h.src.wrote hw (by have := h.lt; omega), h.lt⟩
theorem DU.set {w0 w : World} {b : Nat} {ao : Option Addr} {cap : Nat} {xs : List Int} {q : Nat} {cs : Array Value} (h : DU w0 b ao cap xs q cs w) (i : Nat) (v : Value) : DU w0 b ao cap xs q (cs.setIfInBounds i v) (w.setCell ⟨w0.heap.size + 1, i, none⟩ v) :=
  h.wrote (Wrote.setCell w _ i v) (h.row.set i v)
theorem max_any (x y : Int) (w : World) : Calls Tryz.prog 99 #[.int .i64 x, .int .i64 y] w fun e w' => ∃ m : Int, e = .returned (.int .i64 m) ∧ x ≤ m ∧ y ≤ m ∧ (m = x ∨ m = y) ∧ w = w' := by
  by_cases h : y < x
  · go_enter Tryz.func99, Tryz.ntmps99
    go_wp2
    all_goals (go_ret; exact ⟨_, rfl, by omega, by omega, by omega, rfl⟩)
  · have h' : x ≤ y := by omega
    go_enter Tryz.func99, Tryz.ntmps99
    go_wp2
    all_goals (go_ret; exact ⟨_, rfl, by omega, by omega, by omega, rfl⟩)
theorem min_any (x y : Int) (w : World) : Calls Tryz.prog 101 #[.int .i64 x, .int .i64 y] w fun e w' => ∃ m : Int, e = .returned (.int .i64 m) ∧ m ≤ x ∧ m ≤ y ∧ (m = x ∨ m = y) ∧ w = w' := by
  by_cases h : x < y
  · go_enter Tryz.func101, Tryz.ntmps101
    go_wp2
    all_goals (go_ret; exact ⟨_, rfl, by omega, by omega, by omega, rfl⟩)
  · have h' : y ≤ x := by omega
    go_enter Tryz.func101, Tryz.ntmps101
    go_wp2
    all_goals (go_ret; exact ⟨_, rfl, by omega, by omega, by omega, rfl⟩)
theorem DU.more {w0 w : World} {b : Nat} {ao : Option Addr} {cap : Nat} {xs : List Int} {q m : Nat} {cs : Array Value} (h : DU w0 b ao cap xs q cs w) (hm : q ≤ m) : DU w0 b ao cap xs m cs w := ⟨h.below, h.res, h.row, h.src.more hm, h.lt⟩
set_option maxHeartbeats 8000000 in
set_option maxRecDepth 100000 in
theorem drawn_sun (b : Nat) (ao : Option Addr) (cap : Nat) (xs : List Int) (k : Nat) (hk : k ≤ 1000) (hn : xs.length ≤ 3000) (w : World) (h : Src b ao cap xs k w) (hblt : b < w.heap.size) :
    Calls Tryz.prog 49 #[.pointer (some ⟨b, 0, none⟩)] w fun e w' => ∃ L : List Int, e = .returned (.agg (sunCells L)) ∧ Sn L ∧ Below b w w' := by
  have D0 := hidd (show DU w b ao cap xs k (sunCells zeroSun) ((w.alloc (.cells (sunCells zeroSun) 27)).alloc (.cells (sunCells zeroSun) 27)) from
    ⟨((Below.refl b w).alloc (by omega) _).alloc (by simp; omega) _, (Row.new w _ _).alloc _, Row.new' (w.alloc (.cells (sunCells zeroSun) 27)) (sunCells zeroSun) 27 (w.heap.size + 1) (by simp), (h.alloc _).alloc _, hblt⟩)
  clear h
  go_enter Tryz.func49, Tryz.ntmps49
  go_wp2_with (refine wpList_store_at rfl _ _ _ rfl _ 0 rfl 48 (sunCells zeroSun) (sunCells zeroSun) rfl agg_impl D0.out.row rfl (by decide) (sun_one _) ?_; intro w5 hw5 r5; rw [over_all (cs := sunCells zeroSun) (xs := sunCells zeroSun) rfl] at r5; have D1 := hidd (D0.out.wrote hw5 r5); clear hw5 r5)
  clear D0
  refine (pick_any 56 (by omega) (by omega) b ao cap xs k (by omega) hn _ D1.out.src).mono ?_
  rintro e w1 ⟨top, rfl, t0, t1, hw, hs⟩
  have D2 := hidd (D1.out.draw hw hs)
  clear hw hs D1
  go_wp2_with fail
  refine (pick_any 256 (by omega) (by omega) b ao cap xs (k + 2) (by omega) hn _ D2.out.src).mono ?_
  rintro e w2 ⟨turn, rfl, u0, u1, hw, hs⟩
  have D3 := hidd (D2.out.draw hw hs)
  clear hw hs D2
  go_wp2_with fail
  refine (pick_any 10 (by omega) (by omega) b ao cap xs (k + 2 + 2) (by omega) hn _ D3.out.src).mono ?_
  rintro e w3 ⟨rise, rfl, s0, s1, hw, hs⟩
  have D4 := hidd (D3.out.draw hw hs)
  clear hw hs D3
  go_wp2_with fail
  go_loopw [7] (fun i wr => ∃ (m : Nat) (F G : Nat → Int) (q : Nat), m ≤ 24 ∧ i = .int .i64 m ∧ (∀ j, j < m → -64 ≤ F j ∧ F j ≤ 64 ∧ 0 ≤ G j ∧ G j ≤ 255) ∧ q ≤ k + 6 + 6 * m ∧ DU w b ao cap xs q (sunCells (fill F G m)) wr) (fun i _ => 24 - (intOf i).toNat)
  case atStart => exact ⟨0, fun _ => 0, fun _ => 0, k + 6, by omega, rfl, fun j hj => by omega, by omega, by rw [fill_zero]; exact D4.out⟩
  case round =>
    obtain ⟨m, F, G, q, hm, rfl, hFG, hq, hD⟩ := hrel
    have D := hidd hD
    have FG := hidd hFG
    clear hD hFG D4
    by_cases hlt : m < 24
    · go_wp2_with fail
      refine (max_any _ _ _).mono ?_
      rintro e wm ⟨mx, rfl, mx1, mx2, mx3, rfl⟩
      have mx4 : mx ≤ 12 := by omega
      have mx5 : 0 ≤ mx := by omega
      clear mx1 mx2 mx3
      go_wp2_with fail
      refine (one_any 6 (by omega) (by omega) b ao cap xs q (by omega) hn _ D.out.src).mono ?_
      rintro e w7 ⟨o, rfl, hw, hs⟩
      have D5 := hidd (D.out.draw hw hs)
      clear hw hs D
      cases o
      · have hH1 : -100 ≤ 8 + top - 8 * mx := by omega
        have hH2 : 8 + top - 8 * mx ≤ 100 := by omega
        generalize hH : 8 + top - 8 * mx = H at *
        clear hH
        go_wp2_with fail
        refine (min_any 64 _ _).mono ?_
        rintro e wm ⟨mn, rfl, mn1, mn2, mn3, rfl⟩
        go_wp2_with fail
        refine (max_any (-64) _ _).mono ?_
        rintro e wm ⟨v, rfl, v1, v2, v3, rfl⟩
        have v4 : v ≤ 64 := by omega
        have R2 := hidd D5.out.row
        obtain ⟨⟨y1, c2⟩, f2, _, _⟩ := made_cells hlt R2.out (.int .i16 v)
        have DV := hidd (D5.out.set m (.int .i16 v))
        clear v2 v3 mn1 mn2 mn3 hH1 hH2 R2
        go_wp2_with fail
        clear c2 f2
        refine (pick_any 4 (by omega) (by omega) b ao cap xs _ (by omega) hn _ DV.out.src).mono ?_
        rintro e w9 ⟨p, rfl, p0, p1, hw, hs⟩
        have DW := hidd (DV.out.draw hw hs)
        clear hw hs DV
        obtain ⟨g, hg⟩ : ∃ g, g = (turn + 10 * (m : Int) + p) % 256 := ⟨_, rfl⟩
        have g0 : 0 ≤ g := by omega
        have g1 : g ≤ 255 := by omega
        have hg1 : (turn + 10 * (m : Int) + p) % 256 = g := hg.symm
        have hg2 : (turn + 10 * (m : Int) + p).tmod 256 = g := by rw [Int.tmod_eq_emod_of_nonneg (by omega)]; exact hg1
        clear hg
        obtain ⟨z1, z2⟩ : (∃ x, w9.cell? ⟨w.heap.size + 1, 24 + m, none⟩ = some x) ∧ w9.frozen? ⟨w.heap.size + 1, 24 + m, none⟩ = false := ⟨⟨_, (DW.out.row.cell (24 + m)).trans (Array.getElem?_eq_getElem (by rw [Array.size_setIfInBounds, sunCells_size, fill_len]; omega))⟩, DW.out.row.frozen _⟩
        obtain ⟨x2, z1⟩ := z1
        have DX := hidd (DW.out.set (24 + m) (.int .i16 g))
        clear DW
        go_wp2
        go_roundw
        case rel =>
          refine ⟨m + 1, fun i => if i = m then v else F i, fun i => if i = m then g else G i, q + 6, by omega, by go_num, ?_, by omega, ?_⟩
          · intro j hj
            by_cases e : j = m
            · subst e; simp only [if_true]; omega
            · simp only [if_neg e]; exact FG.out j (by omega)
          · rw [← fill_step _ _ hlt]
            have e1 : fill (fun i => if i = m then v else F i) (fun i => if i = m then g else G i) m = fill F G m := fill_congr fun i hi => by simp [show ¬ i = m by omega]
            rw [e1]
            simp only [if_true]
            exact DX.out.more (by omega)
        case measure => simp [intOf]; omega
      · go_wp2_with fail
        refine (pick_any 129 (by omega) (by omega) b ao cap xs (q + 2) (by omega) hn _ D5.out.src).mono ?_
        rintro e w8 ⟨hh, rfl, h0, h1, hw, hs⟩
        have D6 := hidd (D5.out.draw hw hs)
        clear hw hs D5
        have hH1 : -100 ≤ hh - 64 := by omega
        have hH2 : hh - 64 ≤ 100 := by omega
        generalize hH : hh - 64 = H at *
        clear hH
        go_wp2_with fail
        refine (min_any 64 _ _).mono ?_
        rintro e wm ⟨mn, rfl, mn1, mn2, mn3, rfl⟩
        go_wp2_with fail
        refine (max_any (-64) _ _).mono ?_
        rintro e wm ⟨v, rfl, v1, v2, v3, rfl⟩
        have v4 : v ≤ 64 := by omega
        have R2 := hidd D6.out.row
        obtain ⟨⟨y1, c2⟩, f2, _, _⟩ := made_cells hlt R2.out (.int .i16 v)
        have DV := hidd (D6.out.set m (.int .i16 v))
        clear v2 v3 mn1 mn2 mn3 hH1 hH2 R2
        go_wp2_with fail
        clear c2 f2
        refine (pick_any 4 (by omega) (by omega) b ao cap xs _ (by omega) hn _ DV.out.src).mono ?_
        rintro e w9 ⟨p, rfl, p0, p1, hw, hs⟩
        have DW := hidd (DV.out.draw hw hs)
        clear hw hs DV
        obtain ⟨g, hg⟩ : ∃ g, g = (turn + 10 * (m : Int) + p) % 256 := ⟨_, rfl⟩
        have g0 : 0 ≤ g := by omega
        have g1 : g ≤ 255 := by omega
        have hg1 : (turn + 10 * (m : Int) + p) % 256 = g := hg.symm
        have hg2 : (turn + 10 * (m : Int) + p).tmod 256 = g := by rw [Int.tmod_eq_emod_of_nonneg (by omega)]; exact hg1
        clear hg
        obtain ⟨z1, z2⟩ : (∃ x, w9.cell? ⟨w.heap.size + 1, 24 + m, none⟩ = some x) ∧ w9.frozen? ⟨w.heap.size + 1, 24 + m, none⟩ = false := ⟨⟨_, (DW.out.row.cell (24 + m)).trans (Array.getElem?_eq_getElem (by rw [Array.size_setIfInBounds, sunCells_size, fill_len]; omega))⟩, DW.out.row.frozen _⟩
        obtain ⟨x2, z1⟩ := z1
        have DX := hidd (DW.out.set (24 + m) (.int .i16 g))
        clear DW
        go_wp2
        go_roundw
        case rel =>
          refine ⟨m + 1, fun i => if i = m then v else F i, fun i => if i = m then g else G i, q + 6, by omega, by go_num, ?_, by omega, ?_⟩
          · intro j hj
            by_cases e : j = m
            · subst e; simp only [if_true]; omega
            · simp only [if_neg e]; exact FG.out j (by omega)
          · rw [← fill_step _ _ hlt]
            have e1 : fill (fun i => if i = m then v else F i) (fun i => if i = m then g else G i) m = fill F G m := fill_congr fun i hi => by simp [show ¬ i = m by omega]
            rw [e1]
            simp only [if_true]
            exact DX.out.more (by omega)
        case measure => simp [intOf]; omega
    · obtain rfl : m = 24 := by omega
      rw [fill24_eq] at D
      have OK := hidd (show Sn (fill24 F G) from ⟨fill24_len _ _, fill24_ok fun j hj => FG.out j hj⟩)
      go_wp2_with (first | (refine wpList_load_all rfl _ _ rfl _ rfl (sunCells (fill24 F G)) 48 agg_impl (sun_size (fill24_len _ _)) D.out.row ?_) | (refine wpList_store_at rfl _ _ _ rfl _ 0 rfl 48 (sunCells zeroSun) (sunCells (fill24 F G)) rfl agg_impl D.out.res (sun_size (fill24_len _ _)) (by decide) (sun_one _) ?_; intro w7 hw7 r7))
      rw [over_all (cs := sunCells zeroSun) (xs := sunCells (fill24 F G)) (by rw [sun_size (fill24_len _ _)]; rfl)] at r7
      exact bodyPost_ret (v := .agg (sunCells (fill24 F G))) (results_row Tryz.results49 agg_impl _ _ w.heap.size _ (sun_size (fill24_len _ _)) rfl r7) rfl ⟨_, rfl, OK.out, D.out.below.trans (hw7.below (by omega))⟩
set_option maxHeartbeats 4000000 in
set_option maxRecDepth 100000 in
theorem sun_any (ao : Option Addr) (cap : Nat) (xs : List Int) (hn : xs.length ≤ 3000) (w : World) (h : ArgBytes w ao xs) :
    Calls Tryz.prog 6 #[.slice ao xs.length cap] w fun e w' => ∃ L : List Int, e = .returned (.agg (sunCells L)) ∧ Sn L ∧ Below w.heap.size w w' := by
  have b0 := hidd ((Below.refl w.heap.size w).alloc (Nat.le_refl _) (.cells (sunCells zeroSun) 27))
  have S := hidd (Src.new' (w.heap.size + 1) ao cap xs (w.alloc (.cells (sunCells zeroSun) 27)) 107 (by simp) (h.step b0.out))
  have r0 := hidd ((Row.new w (sunCells zeroSun) 27).alloc (.cells #[.slice ao xs.length cap, .int .i64 0, .int .u64 0] 107))
  have b1 := hidd (b0.out.alloc (by simp) (.cells #[.slice ao xs.length cap, .int .i64 0, .int .u64 0] 107))
  clear h b0
  go_enter Tryz.func6, Tryz.ntmps6
  go_wp2_with fail
  refine (from_any ao cap xs.length _).mono ?_
  rintro e w1 ⟨rfl, rfl⟩
  go_wp2_with fail
  refine (drawn_sun (w.heap.size + 1) ao cap xs 0 (by omega) hn _ S.out (by simp)).mono ?_
  rintro e w2 ⟨L, rfl, hd, hb⟩
  have OK := hidd hd
  have hl := hidd hd.len
  have r2 := hidd (r0.out.below hb (by omega))
  have b2 := hidd (b1.out.trans (hb.mono (by omega)))
  clear hd hb S r0 b1
  go_wp2_with (refine wpList_store_at rfl _ _ _ rfl w.heap.size 0 rfl 48 (sunCells zeroSun) (sunCells L) rfl agg_impl r2.out (sun_size hl.out) (by decide) (sun_one _) ?_; intro w6 hw6 hr6)
  have R6 := hidd (show Row w6 w.heap.size (sunCells L) from by rw [over_all (by rw [sun_size hl.out]; rfl)] at hr6; exact hr6)
  have B6 := hidd (b2.out.trans (hw6.below (Nat.le_refl _)))
  clear hw6 hr6
  go_wp2
  exact bodyPost_ret (v := .agg (sunCells L)) (results_row Tryz.results6 agg_impl _ _ w.heap.size _ (sun_size hl.out) rfl R6.out) rfl ⟨L, rfl, OK.out, B6.out⟩
end Go.Proofs.YtddkiemipedgcaaGreatDoor
