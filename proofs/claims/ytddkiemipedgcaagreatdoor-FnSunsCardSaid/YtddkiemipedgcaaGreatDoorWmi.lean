/-
  Suns that are made: the mirrored one.
-/
import Derived.Test.YtddkiemipedgcaaGreatDoorWt
import Derived.Laws.ResultCell
namespace Go.Proofs.YtddkiemipedgcaaGreatDoor
open Go.RowKit Go.Proofs.Fl Go.Proofs.Pl
set_option linter.unusedVariables false

/-- Two results, of which the first lies in a row. -/
theorem results_pair {P : Program} {fn : Func} {p u : Tmp} {ty : TypeId} (h : fn.results = #[.cell p ty, .tmp u]) {n : Nat} (ht : IsAgg P ty n) (tmps : Array Value) (w : World) (b : Nat) (cs : Array Value) (hn : cs.size = n) (y : Value)
    (hp : tmps.getD p undef = .pointer (some ⟨b, 0, none⟩)) (hu : tmps.getD u undef = y) (hr : Row w b cs) : (results fn tmps).run P w = .ok (.tuple #[.agg cs, y]) w := by
  have h1 := run_loadVar_at (P := P) (w := w) b 0 n ty cs ht hr (by omega)
  have : cs.extract 0 (0 + n) = cs := by rw [Nat.zero_add, ← hn]; simp
  rw [this] at h1
  rw [results_cell_tmp h, hp, hu]
  simp [asAddr, Result.andThen, h1]
/-- The first k hours of a sun that is made. -/
def fill (F G : Nat → Int) (k : Nat) : List Int := (List.range 48).map fun i => if i < 24 then (if i < k then F i else 0) else (if i < 24 + k then G (i - 24) else 0)
theorem fill_len (F G : Nat → Int) (k : Nat) : (fill F G k).length = 48 := by simp [fill]
theorem fill_zero (F G : Nat → Int) : fill F G 0 = List.replicate 48 0 := by
  apply List.ext_getElem?
  intro i
  simp only [fill, List.getElem?_map, List.getElem?_range', List.getElem?_replicate]
  by_cases h : i < 48
  · rw [List.getElem?_eq_getElem (by simpa using h)]
    simp [h]
    by_cases h2 : i < 24
    · simp [h2] <;> (intro h3; omega)
    · simp [h2] <;> (intro h3; omega)
  · rw [List.getElem?_eq_none (by simp; omega)]
    simp [h]
theorem fill_step (F G : Nat → Int) {k : Nat} (hk : k < 24) : ((sunCells (fill F G k)).setIfInBounds k (.int .i16 (F k))).setIfInBounds (24 + k) (.int .i16 (G k)) = sunCells (fill F G (k + 1)) := by
  apply Array.ext_getElem?
  intro i
  have hs : (sunCells (fill F G k)).size = 48 := by rw [sunCells_size, fill_len]
  rw [Array.getElem?_setIfInBounds, Array.getElem?_setIfInBounds]
  by_cases hi : i < 48
  · have g : ∀ j, (sunCells (fill F G j))[i]? = some (.int .i16 (if i < 24 then (if i < j then F i else 0) else (if i < 24 + j then G (i - 24) else 0))) := by
      intro j
      rw [sunCells_at (by rw [fill_len]; exact hi)]
      simp [fill, hi]
    rw [g, g]
    simp only [Array.size_setIfInBounds, hs]
    by_cases c1 : 24 + k = i
    · rw [if_pos c1, if_pos (by omega)]
      rw [if_neg (by omega), if_pos (by omega)]
      rw [show i - 24 = k by omega]
    · rw [if_neg c1]
      by_cases c2 : k = i
      · rw [if_pos c2, if_pos (by omega), if_pos (by omega), if_pos (by omega), c2]
      · rw [if_neg c2]
        congr 2
        by_cases c3 : i < 24
        · rw [if_pos c3, if_pos c3]
          by_cases c4 : i < k
          · rw [if_pos c4, if_pos (by omega)]
          · rw [if_neg c4, if_neg (by omega)]
        · rw [if_neg c3, if_neg c3]
          by_cases c4 : i < 24 + k
          · rw [if_pos c4, if_pos (by omega)]
          · rw [if_neg c4, if_neg (by omega)]
  · have q1 : (sunCells (fill F G k))[i]? = none := Array.getElem?_eq_none (by rw [hs]; omega)
    have q2 : (sunCells (fill F G (k + 1)))[i]? = none := Array.getElem?_eq_none (by rw [sunCells_size, fill_len]; omega)
    rw [if_neg (by omega), if_neg (by omega), q1, q2]
def fill24 (F G : Nat → Int) : List Int := fill F G 24
theorem fill24_eq (F G : Nat → Int) : fill F G 24 = fill24 F G := rfl
theorem fill24_len (F G : Nat → Int) : (fill24 F G).length = 48 := fill_len F G 24
attribute [irreducible] fill24
def zeroSun : List Int := List.replicate 48 0
def sunMade (c : Int) (F G : Nat → Int) : List Int × Int := if c = 0 then (fill24 F G, 0) else (zeroSun, c)
theorem sm_ok {c : Int} {F G : Nat → Int} (h : c = 0) : sunMade c F G = (fill24 F G, 0) := if_pos h
theorem sm_no {c : Int} {F G : Nat → Int} (h : c ≠ 0) : sunMade c F G = (zeroSun, c) := if_neg h
theorem sm_len (c : Int) (F G : Nat → Int) : (sunMade c F G).1.length = 48 := by
  by_cases h : c = 0
  · rw [sm_ok h]; exact fill24_len F G
  · rw [sm_no h]; rfl
theorem keep2_wrote {w0 w w' : World} {b : Nat} {c d : Array Value} (h : Keep2 w0 w c d) (hw : Wrote w w' b) (hb : w0.heap.size + 2 ≤ b) : Keep2 w0 w' c d :=
  ⟨h.below.trans (hw.below (by omega)), hw.row h.row (by omega), hw.row h.row2 (by omega)⟩
def mirF (L : List Int) (k : Nat) : Int := hgt L (23 - k)
def mirG (L : List Int) (k : Nat) : Int := (-(trn L (23 - k))) % 256
/-- What the round of a loop that makes a sun knows and writes. -/
theorem made_cells {wr : World} {F G : Nat → Int} {k b : Nat} (hk : k < 24) (r : Row wr b (sunCells (fill F G k))) (v : Value) :
    (∃ x, wr.cell? ⟨b, k, none⟩ = some x) ∧ wr.frozen? ⟨b, k, none⟩ = false ∧ (∃ x, (wr.setCell ⟨b, k, none⟩ v).cell? ⟨b, 24 + k, none⟩ = some x) ∧ (wr.setCell ⟨b, k, none⟩ v).frozen? ⟨b, 24 + k, none⟩ = false := by
  have hs : (sunCells (fill F G k)).size = 48 := by rw [sunCells_size, fill_len]
  have r2 := r.set k v
  refine ⟨⟨(sunCells (fill F G k))[k]'(by omega), by rw [r.cell]; simp [show k < (sunCells (fill F G k)).size by omega]⟩, r.frozen k, ?_, r2.frozen _⟩
  refine ⟨((sunCells (fill F G k)).setIfInBounds k v)[24 + k]'(by simp; omega), ?_⟩
  rw [r2.cell]
  rw [Array.getElem?_eq_getElem]

set_option maxHeartbeats 2000000 in
theorem mirror_spec (L : List Int) (hL : L.length = 48) (hr : ∀ x ∈ L, -32768 ≤ x ∧ x ≤ 32767) (w : World) :
    Calls Tryz.prog 12 #[.agg (sunCells L)] w fun e w' => e = .returned (.tuple #[.agg (sunCells (sunMade (sunCode L true) (mirF L) (mirG L)).1), .int .i64 (sunMade (sunCode L true) (mirF L) (mirG L)).2]) ∧ Below w.heap.size w w' := by
  have kp := hidd (Keep2.start w (sunCells L) (sunCells zeroSun) 27 27)
  have HL := hidd (And.intro hL hr)
  clear hL hr
  rcases bool_or (sunOk L) with e | e
  · have fin := hidd (show (sunMade (sunCode L true) (mirF L) (mirG L)) = (zeroSun, 1) by rw [code_1 e]; exact sm_no (by decide))
    go_enter Tryz.func12, Tryz.ntmps12
    go_wp2_with (first | (go_at_call 60; refine (ok_spec _ L HL.out.1 HL.out.2 _ kp.out.row).mono ?_; rintro e w' ⟨rfl, rfl⟩) | (refine wpList_store_at rfl _ _ _ rfl _ 0 rfl 48 (sunCells zeroSun) (sunCells zeroSun) rfl agg_impl kp.out.row2 rfl (by decide) (sun_one _) ?_; intro w4 hw4 r4))
    rw [over_all (cs := sunCells zeroSun) (xs := sunCells zeroSun) rfl] at r4
    refine bodyPost_ret (v := .tuple #[.agg (sunCells zeroSun), .int .i64 (1)]) (results_pair rfl agg_impl _ _ _ _ rfl _ rfl rfl r4) rfl ⟨by rw [fin.out], kp.out.below.trans (hw4.below (by omega))⟩
  · have fin := hidd (show (sunMade (sunCode L true) (mirF L) (mirG L)) = (fill24 (mirF L) (mirG L), 0) by rw [code_0 e rfl]; exact sm_ok rfl)
    have Z := hidd e
    go_enter Tryz.func12, Tryz.ntmps12
    go_wp2_with (first | (go_at_call 60; refine (ok_spec _ L HL.out.1 HL.out.2 _ kp.out.row).mono ?_; rintro e w' ⟨rfl, rfl⟩) | (refine wpList_store_at rfl _ _ _ rfl _ 0 rfl 48 (sunCells zeroSun) (sunCells zeroSun) rfl agg_impl (Row.new' ((w.alloc (.cells (sunCells L) 27)).alloc (.cells (sunCells zeroSun) 27)) (sunCells zeroSun) 27 (w.heap.size + 1 + 1) (by simp)) rfl (by decide) (sun_one _) ?_; intro w5 hw5 r5; rw [over_all (cs := sunCells zeroSun) (xs := sunCells zeroSun) rfl] at r5; replace r5 := hidd r5; replace kp := hidd (keep2_wrote (kp.out.step ((Below.refl _ _).alloc (Nat.le_refl _) (.cells (sunCells zeroSun) 27))) hw5 (by omega)); clear hw5))
    have B2 := hidd (show w.heap.size + 2 ≤ (w.heap.size + 1 + 1) from by omega)
    go_loopw [5] (fun i wr => ∃ k : Nat, k ≤ 24 ∧ i = .int .i64 k ∧ Keep2 w wr (sunCells L) (sunCells zeroSun) ∧ Row wr (w.heap.size + 1 + 1) (sunCells (fill (mirF L) (mirG L) k))) (fun i _ => 24 - (intOf i).toNat)
    case atStart => exact ⟨0, by omega, rfl, kp.out, by rw [fill_zero]; exact r5.out⟩
    case round =>
      obtain ⟨k, hk, rfl, kr, rr⟩ := hrel
      have kq := hidd kr
      have rq := hidd rr
      clear kr rr
      by_cases hlt : k < 24
      · obtain ⟨j, hj, hj2⟩ : ∃ j : Nat, (23 : Int) - (k : Int) = (j : Int) ∧ j = 23 - k := ⟨23 - k, by omega, rfl⟩
        have hjl : j < 24 := by omega
        have HJ := hidd hj2
        clear hj2
        obtain ⟨g1, g2, g3, g4⟩ := sunOk_at Z.out hjl
        have c1 := sun_hgt kq.out.row HL.out.1 j hjl
        obtain ⟨⟨x1, c2⟩, f2, ⟨x2, c4⟩, f4⟩ := made_cells hlt rq.out (.int .i16 (hgt L j))
        have ks := hidd (keep2_wrote kq.out (Wrote.setCell wr (w.heap.size + 1 + 1) k (.int .i16 (hgt L j))) B2.out)
        have c3 := sun_trn ks.out.row HL.out.1 j hjl
        have hw1 : IntKind.i64.wrap (trn L j) = trn L j := IntWalk.i64_in _ ⟨by omega, by omega⟩
        have hm1 : 0 ≤ (-(trn L j)) % 256 := Int.emod_nonneg _ (by decide)
        have hm2 : (-(trn L j)) % 256 < 256 := Int.emod_lt_of_pos _ (by decide)
        go_wp2_with (go_at_call 61; refine (angle_spec _ _).mono ?_; rintro e w' ⟨rfl, rfl⟩)
        go_roundw
        case rel =>
          refine ⟨k + 1, by omega, by go_num, keep2_wrote ks.out (Wrote.setCell _ (w.heap.size + 1 + 1) (24 + k) (.int .i16 ((-(trn L j)) % 256))) B2.out, ?_⟩
          rw [← fill_step _ _ hlt]
          have e1 : mirF L k = hgt L j := by unfold mirF; rw [HJ.out]
          have e2 : mirG L k = (-(trn L j)) % 256 := by unfold mirG; rw [HJ.out]
          rw [e1, e2]
          exact (rq.out.set k _).set (24 + k) _
        case measure => simp [intOf]; omega
      · obtain rfl : k = 24 := by omega
        rw [fill24_eq] at rq
        go_wp2_with (first | (refine wpList_load_all rfl _ _ rfl _ rfl (sunCells (fill24 (mirF L) (mirG L))) 48 agg_impl (sun_size (fill24_len _ _)) rq.out ?_) | (refine wpList_store_at rfl _ _ _ rfl _ 0 rfl 48 (sunCells zeroSun) (sunCells (fill24 (mirF L) (mirG L))) rfl agg_impl kq.out.row2 (sun_size (fill24_len _ _)) (by decide) (sun_one _) ?_; intro w7 hw7 r7))
        rw [over_all (cs := sunCells zeroSun) (xs := sunCells (fill24 (mirF L) (mirG L))) (by rw [sun_size (fill24_len _ _)]; rfl)] at r7
        refine bodyPost_ret (v := .tuple #[.agg (sunCells (fill24 (mirF L) (mirG L))), .int .i64 0]) (results_pair rfl agg_impl _ _ _ _ (sun_size (fill24_len _ _)) _ rfl rfl r7) rfl ⟨by rw [fin.out], kq.out.below.trans (hw7.below (by omega))⟩
set_option maxHeartbeats 2000000 in
theorem mirror_impl (L : List Int) (hL : L.length = 48) (hr : ∀ x ∈ L, -32768 ≤ x ∧ x ≤ 32767) (w : World) :
    Calls Tryz.prog 11 #[.agg (sunCells L)] w fun e w' => e = .returned (.tuple #[.agg (sunCells (sunMade (sunCode L true) (mirF L) (mirG L)).1), .int .i64 (sunMade (sunCode L true) (mirF L) (mirG L)).2]) ∧ Below w.heap.size w w' := by
  have kp := hidd (Keep2.start w (sunCells L) (sunCells zeroSun) 27 27)
  have HL := hidd (And.intro hL hr)
  clear hL hr
  by_cases hc : sunCode L true = 0
  · have hb := code_bne hc
    have fin := hidd (show (sunMade (sunCode L true) (mirF L) (mirG L)) = (fill24 (mirF L) (mirG L), 0) from sm_ok hc)
    have Z := hidd (code_zero.1 hc).1
    have Hc := hidd hc
    clear hc
    go_enter Tryz.func11, Tryz.ntmps11
    go_wp2_with (first | (refine wpList_load_all rfl _ _ rfl _ rfl (sunCells L) 48 agg_impl (sun_size HL.out.1) kp.out.row ?_) | (go_at_call 58; refine (code_impl L HL.out.1 HL.out.2 _ _).mono ?_; rintro e w3 ⟨rfl, hb3⟩; replace kp := hidd (kp.out.step hb3); clear hb3) | (refine wpList_store_at rfl _ _ _ rfl _ 0 rfl 48 (sunCells zeroSun) (sunCells zeroSun) rfl agg_impl (Row.new w3 (sunCells zeroSun) 27) rfl (by decide) (sun_one _) ?_; intro w5 hw5 r5; rw [over_all (cs := sunCells zeroSun) (xs := sunCells zeroSun) rfl] at r5; replace r5 := hidd r5; have hb2 := hidd (show w.heap.size + 2 ≤ w3.heap.size from by have := kp.out.row2.lt; omega); replace kp := hidd (keep2_wrote (kp.out.step ((Below.refl _ _).alloc (Nat.le_refl _) (.cells (sunCells zeroSun) 27))) hw5 hb2.out); clear hw5))
    have B2 := hidd (show w.heap.size + 2 ≤ w3.heap.size from hb2.out)
    go_loopw [14] (fun i wr => ∃ k : Nat, k ≤ 24 ∧ i = .int .i64 k ∧ Keep2 w wr (sunCells L) (sunCells zeroSun) ∧ Row wr w3.heap.size (sunCells (fill (mirF L) (mirG L) k))) (fun i _ => 24 - (intOf i).toNat)
    case atStart => exact ⟨0, by omega, rfl, kp.out, by rw [fill_zero]; exact r5.out⟩
    case round =>
      obtain ⟨k, hk, rfl, kr, rr⟩ := hrel
      have kq := hidd kr
      have rq := hidd rr
      clear kr rr
      by_cases hlt : k < 24
      · obtain ⟨j, hj, hj2⟩ : ∃ j : Nat, (23 : Int) - (k : Int) = (j : Int) ∧ j = 23 - k := ⟨23 - k, by omega, rfl⟩
        have hjl : j < 24 := by omega
        have HJ := hidd hj2
        clear hj2
        obtain ⟨g1, g2, g3, g4⟩ := sunOk_at Z.out hjl
        have c1 := sun_hgt kq.out.row HL.out.1 j hjl
        obtain ⟨⟨x1, c2⟩, f2, ⟨x2, c4⟩, f4⟩ := made_cells hlt rq.out (.int .i16 (hgt L j))
        have ks := hidd (keep2_wrote kq.out (Wrote.setCell wr w3.heap.size k (.int .i16 (hgt L j))) B2.out)
        have c3 := sun_trn ks.out.row HL.out.1 j hjl
        have hw1 : IntKind.i64.wrap (trn L j) = trn L j := IntWalk.i64_in _ ⟨by omega, by omega⟩
        have hm1 : 0 ≤ (-(trn L j)) % 256 := Int.emod_nonneg _ (by decide)
        have hm2 : (-(trn L j)) % 256 < 256 := Int.emod_lt_of_pos _ (by decide)
        go_wp2_with (go_at_call 59; refine (rest_impl _ _ (by decide) (by decide) _).mono ?_; rintro e w' ⟨rfl, rfl⟩)
        go_roundw
        case rel =>
          refine ⟨k + 1, by omega, by go_num, keep2_wrote ks.out (Wrote.setCell _ w3.heap.size (24 + k) (.int .i16 ((-(trn L j)) % 256))) B2.out, ?_⟩
          rw [← fill_step _ _ hlt]
          have e1 : mirF L k = hgt L j := by unfold mirF; rw [HJ.out]
          have e2 : mirG L k = (-(trn L j)) % 256 := by unfold mirG; rw [HJ.out]
          rw [e1, e2]
          exact (rq.out.set k _).set (24 + k) _
        case measure => simp [intOf]; omega
      · obtain rfl : k = 24 := by omega
        rw [fill24_eq] at rq
        go_wp2_with (first | (refine wpList_load_all rfl _ _ rfl _ rfl (sunCells (fill24 (mirF L) (mirG L))) 48 agg_impl (sun_size (fill24_len _ _)) rq.out ?_) | (refine wpList_store_at rfl _ _ _ rfl _ 0 rfl 48 (sunCells zeroSun) (sunCells (fill24 (mirF L) (mirG L))) rfl agg_impl kq.out.row2 (sun_size (fill24_len _ _)) (by decide) (sun_one _) ?_; intro w7 hw7 r7))
        rw [over_all (cs := sunCells zeroSun) (xs := sunCells (fill24 (mirF L) (mirG L))) (by rw [sun_size (fill24_len _ _)]; rfl)] at r7
        refine bodyPost_ret (v := .tuple #[.agg (sunCells (fill24 (mirF L) (mirG L))), .int .i64 0]) (results_pair rfl agg_impl _ _ _ _ (sun_size (fill24_len _ _)) _ rfl rfl r7) rfl ⟨by rw [fin.out], kq.out.below.trans (hw7.below (by omega))⟩
  · have hb := code_bne' hc
    have fin := hidd (show (sunMade (sunCode L true) (mirF L) (mirG L)) = (zeroSun, sunCode L true) from sm_no hc)
    have Hc := hidd hc
    clear hc
    go_enter Tryz.func11, Tryz.ntmps11
    go_wp2_with (first | (refine wpList_load_all rfl _ _ rfl _ rfl (sunCells L) 48 agg_impl (sun_size HL.out.1) kp.out.row ?_) | (go_at_call 58; refine (code_impl L HL.out.1 HL.out.2 _ _).mono ?_; rintro e wn ⟨rfl, hbn⟩; have kn := hidd (kp.out.step hbn); clear kp hbn; have kp := kn; clear kn) | (refine wpList_store_at rfl _ _ _ rfl _ 0 rfl 48 (sunCells zeroSun) (sunCells zeroSun) rfl agg_impl kp.out.row2 rfl (by decide) (sun_one _) ?_; intro w4 hw4 r4))
    rw [over_all (cs := sunCells zeroSun) (xs := sunCells zeroSun) rfl] at r4
    refine bodyPost_ret (v := .tuple #[.agg (sunCells zeroSun), .int .i64 (sunCode L true)]) (results_pair rfl agg_impl _ _ _ _ rfl _ rfl rfl r4) rfl ⟨by rw [fin.out], kp.out.below.trans (hw4.below (by omega))⟩
end Go.Proofs.YtddkiemipedgcaaGreatDoor
