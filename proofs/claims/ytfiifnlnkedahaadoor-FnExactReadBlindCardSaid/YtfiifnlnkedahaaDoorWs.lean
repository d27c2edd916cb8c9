/-
  Suns: what the functions of the program and of its reference that take a sun compute.
-/
import Derived.Test.YtfiifnlnkedahaaDoorWa
import Derived.Test.YtfiifnlnkedahaaDoorWe
import Derived.Test.YtfiifnlnkedahaaDoorPs
import Derived.Test.YtfiifnlnkedahaaDoorRw
namespace Go.Proofs.YtfiifnlnkedahaaDoor
open Go.RowKit Go.Proofs.Fl Go.Proofs.Pl
set_option linter.unusedVariables false

theorem sun_hgt {w : World} {b : Nat} {L : List Int} (h : Row w b (sunCells L)) (hL : L.length = 48) (i : Nat) (hi : i < 24) : w.cell? ⟨b, i, none⟩ = some (.int .i16 (hgt L i)) := by rw [h.cell]; exact sunCells_hgt hL hi
theorem sun_trn {w : World} {b : Nat} {L : List Int} (h : Row w b (sunCells L)) (hL : L.length = 48) (i : Nat) (hi : i < 24) : w.cell? ⟨b, 24 + i, none⟩ = some (.int .i16 (trn L i)) := by rw [h.cell]; exact sunCells_trn hL hi
theorem sun_size {L : List Int} (hL : L.length = 48) : (sunCells L).size = 48 := by rw [sunCells_size, hL]
theorem sun_one (L : List Int) : ∀ v ∈ (sunCells L).toList, v.oneCell' = true := by
  intro v hv; simp [sunCells] at hv; obtain ⟨n, _, rfl⟩ := hv; rfl
theorem agg_impl : IsAgg Tryd.prog 35 48 := isAgg_struct Tryd.underlying35 (by kernel_rfl)
theorem agg_laws : IsAgg Tryd.prog 33 48 := isAgg_struct Tryd.underlying33 (by kernel_rfl)
theorem agg_arr : IsAgg Tryd.prog 31 24 := isAgg_array Tryd.underlying31 (by kernel_rfl)
set_option maxHeartbeats 400000 in
theorem valid_impl (L : List Int) (hL : L.length = 48) (hr : ∀ x ∈ L, -32768 ≤ x ∧ x ≤ 32767) (w : World) :
    Calls Tryd.prog 50 #[.agg (sunCells L)] w fun e w' => e = .returned (.bool (sunOk L)) ∧ Below w.heap.size w w' := by
  have hb := (Below.refl w.heap.size w).alloc (Nat.le_refl _) (.cells (sunCells L) 35)
  have Hr := hidd hr
  clear hr
  go_enter Tryd.func50, Tryd.ntmps50
  go_wp2_with fail
  go_loop [4] (fun i => ∃ k : Nat, k ≤ 24 ∧ i = .int .i64 k ∧ Hid (∀ j, j < k → hourOk L j = true)) (fun i => 24 - (intOf i).toNat)
  case atStart => exact ⟨0, by omega, rfl, fun j hj => by omega⟩
  case round =>
    obtain ⟨k, hk, rfl, hall⟩ := hrel
    by_cases hlt : k < 24
    · have c1 := sunCells_hgt hL hlt
      have c2 := sunCells_trn hL hlt
      obtain ⟨b1, b2⟩ : -32768 ≤ hgt L k ∧ hgt L k ≤ 32767 := hgt_bd Hr.out k
      obtain ⟨b3, b4⟩ : -32768 ≤ trn L k ∧ trn L k ≤ 32767 := hgt_bd Hr.out (24 + k)
      go_wp2_with (go_at_call 64; refine (in_impl _ _ _ _).mono ?_; rintro e w' ⟨rfl, rfl⟩)
      · have t : (!inR (trn L k) 0 255) = true := by assumption
        go_ret
        exact ⟨by rw [sunOk_not hlt (hour_no2 (by simpa using t))]; rfl, hb⟩
      · have t1 : inR (hgt L k) (-64) 64 = true := by assumption
        have t2 : (!inR (trn L k) 0 255) = false := by assumption
        go_round
        case rel => exact ⟨k + 1, by omega, by go_num, all_succ hall (hour_yes t1 (by simpa using t2))⟩
        case measure => simp [intOf]; omega
      · have t : ¬ inR (hgt L k) (-64) 64 = true := by assumption
        go_ret
        exact ⟨by rw [sunOk_not hlt (hour_no1 (by simpa using t))]; rfl, hb⟩
    · obtain rfl : k = 24 := by omega
      go_wp2
      go_ret
      exact ⟨by rw [sunOk_of hall]; rfl, hb⟩
theorem height_spec (n : Int) (w : World) : Calls Tryd.prog 59 #[.int .i64 n] w fun e w' => e = .returned (.bool (inR n (-64) 64)) ∧ w = w' := by
  go_enter Tryd.func59, Tryd.ntmps59
  go_wp2_with (go_at_call 89; refine (in_spec _ _ _ _).mono ?_; rintro e w' ⟨rfl, rfl⟩)
  go_ret; exact ⟨rfl, rfl⟩
theorem faced_spec (n : Int) (w : World) : Calls Tryd.prog 60 #[.int .i64 n] w fun e w' => e = .returned (.bool (inR n 0 255)) ∧ w = w' := by
  go_enter Tryd.func60, Tryd.ntmps60
  go_wp2_with (go_at_call 89; refine (in_spec _ _ _ _).mono ?_; rintro e w' ⟨rfl, rfl⟩)
  go_ret; exact ⟨rfl, rfl⟩
set_option maxHeartbeats 400000 in
theorem ok_spec (b : Nat) (L : List Int) (hL : L.length = 48) (hr : ∀ x ∈ L, -32768 ≤ x ∧ x ≤ 32767) (w : World) (hs : Row w b (sunCells L)) :
    Calls Tryd.prog 47 #[.pointer (some ⟨b, 0, none⟩)] w fun e w' => e = .returned (.bool (sunOk L)) ∧ w = w' := by
  have Hr := hidd hr
  have Hs := hidd hs
  clear hr hs
  go_enter Tryd.func47, Tryd.ntmps47
  go_wp2_with fail
  go_loop [3] (fun i => ∃ k : Nat, k ≤ 24 ∧ i = .int .i64 k ∧ Hid (∀ j, j < k → hourOk L j = true)) (fun i => 24 - (intOf i).toNat)
  case atStart => exact ⟨0, by omega, rfl, fun j hj => by omega⟩
  case round =>
    obtain ⟨k, hk, rfl, hall⟩ := hrel
    by_cases hlt : k < 24
    · have c1 := sun_hgt Hs.out hL k hlt
      have c2 := sun_trn Hs.out hL k hlt
      obtain ⟨b1, b2⟩ : -32768 ≤ hgt L k ∧ hgt L k ≤ 32767 := hgt_bd Hr.out k
      obtain ⟨b3, b4⟩ : -32768 ≤ trn L k ∧ trn L k ≤ 32767 := hgt_bd Hr.out (24 + k)
      go_wp2_with (first | (go_at_call 59; refine (height_spec _ _).mono ?_; rintro e w' ⟨rfl, rfl⟩) | (go_at_call 60; refine (faced_spec _ _).mono ?_; rintro e w' ⟨rfl, rfl⟩))
      · have t : (!inR (trn L k) 0 255) = true := by assumption
        go_ret
        exact ⟨by rw [sunOk_not hlt (hour_no2 (by simpa using t))]; rfl, rfl⟩
      · have t1 : inR (hgt L k) (-64) 64 = true := by assumption
        have t2 : (!inR (trn L k) 0 255) = false := by assumption
        go_round
        case rel => exact ⟨k + 1, by omega, by go_num, all_succ hall (hour_yes t1 (by simpa using t2))⟩
        case measure => simp [intOf]; omega
      · have t : ¬ inR (hgt L k) (-64) 64 = true := by assumption
        go_ret
        exact ⟨by rw [sunOk_not hlt (hour_no1 (by simpa using t))]; rfl, rfl⟩
    · obtain rfl : k = 24 := by omega
      go_wp2
      go_ret
      exact ⟨by rw [sunOk_of hall]; rfl, rfl⟩
set_option maxHeartbeats 400000 in
theorem to24 (L : List Int) (hL : L.length = 24) (w : World) :
    Calls Tryd.prog 49 #[.agg (sunCells L)] w fun e w' => e = .returned (.agg (sunCells L)) ∧ Below w.heap.size w w' := by
  have hs : (sunCells L).size = 24 := by rw [sunCells_size, hL]
  have Hs := hidd hs
  clear hs
  go_enter Tryd.func49, Tryd.ntmps49
  go_wp2_with fail
  go_loopw [4] (fun i wr => ∃ k : Nat, k ≤ 24 ∧ i = .int .i64 k ∧ Row wr w.heap.size (sunCells L) ∧ Row wr (w.heap.size + 1) (sunCells (List.replicate 24 0)) ∧ Row wr (w.heap.size + 1 + 1) (sunCells (upto L k)) ∧ Below w.heap.size w wr) (fun i _ => 24 - (intOf i).toNat)
  case atStart =>
    have e : sunCells (upto L 0) = sunCells (List.replicate 24 0) := by unfold upto; rw [hL]; rfl
    refine ⟨0, by omega, rfl, ((Row.new w _ _).alloc _).alloc _, (Row.new' (w.alloc _) (sunCells (List.replicate 24 0)) _ _ (by simp)).alloc _, by rw [e]; exact Row.new' ((w.alloc _).alloc _) (sunCells (List.replicate 24 0)) _ _ (by simp), (((Below.refl _ _).alloc (Nat.le_refl _) _).alloc (by simp) _).alloc (by simp; omega) _⟩
  case round =>
    obtain ⟨k, hk, rfl, r0, r1, r2, hb⟩ := hrel
    have R0 := hidd r0
    have R1 := hidd r1
    have R2 := hidd r2
    have HB := hidd hb
    clear r0 r1 r2 hb
    by_cases hlt : k < 24
    · have c0 : wr.cell? ⟨w.heap.size, k, none⟩ = some (.int .i16 (hgt L k)) := by rw [R0.out.cell]; exact sunCells_at (by omega)
      have c2 : wr.cell? ⟨w.heap.size + 1 + 1, k, none⟩ = some (.int .i16 (hgt (upto L k) k)) := by rw [R2.out.cell]; exact sunCells_at (by rw [upto_len (by omega)]; omega)
      have f2 := R2.out.frozen k
      go_wp2
      go_roundw
      case rel => exact ⟨k + 1, by omega, by go_num, R0.out.set_other _ _ (by simp; omega), R1.out.set_other _ _ (by simp), by rw [← upto_succ (by omega)]; exact R2.out.set k _, HB.out.setCell (by simp; omega) _⟩
      case measure => simp [intOf]; omega
    · obtain rfl : k = 24 := by omega
      have e : upto L 24 = L := by rw [← hL]; exact upto_all L
      rw [e] at R2
      clear e
      go_wp2_with (first | (refine wpList_load_all rfl _ _ rfl _ rfl (sunCells L) 24 agg_arr Hs.out R2.out ?_) | (refine wpList_store_at rfl _ _ _ rfl _ 0 rfl 24 (sunCells (List.replicate 24 0)) (sunCells L) rfl agg_arr R1.out Hs.out (by decide) (sun_one L) ?_; intro w2 hw2 r2))
      rw [over_all Hs.out] at r2
      refine bodyPost_ret (v := .agg (sunCells L)) (results_row rfl agg_arr _ _ _ _ Hs.out rfl r2) rfl ⟨rfl, HB.out.trans (hw2.below (by omega))⟩
theorem wpList_load_lo {ops : Array Oper} {rest : List Oper} {o : Oper} {a : Act} {w : World} {Q : Exit → Act → World → Prop} (hgd : o.guard = none) (x : Operand) (ho : o.op = .load 31 x) (b : Nat) (hx : a.eval x = .pointer (some ⟨b, 0, none⟩))
    (L : List Int) (hL : L.length = 48) (hr : Row w b (sunCells L)) (h : wpList Tryd.prog ops Q rest (a.put o.dst (.agg (sunCells (L.take 24)))) w) : wpList Tryd.prog ops Q (o :: rest) a w := by
  refine wpList_load_at hgd _ x ho b 0 hx 24 (sunCells L) agg_arr hr (by rw [sun_size hL]; omega) ?_
  rw [sun_lo]; exact h
theorem wpList_load_hi {ops : Array Oper} {rest : List Oper} {o : Oper} {a : Act} {w : World} {Q : Exit → Act → World → Prop} (hgd : o.guard = none) (x : Operand) (ho : o.op = .load 31 x) (b : Nat) (hx : a.eval x = .pointer (some ⟨b, 24, none⟩))
    (L : List Int) (hL : L.length = 48) (hr : Row w b (sunCells L)) (h : wpList Tryd.prog ops Q rest (a.put o.dst (.agg (sunCells (L.drop 24)))) w) : wpList Tryd.prog ops Q (o :: rest) a w := by
  refine wpList_load_at hgd _ x ho b 24 hx 24 (sunCells L) agg_arr hr (by rw [sun_size hL]; omega) ?_
  rw [sun_hi hL]; exact h
theorem sun_join {L : List Int} (hL : L.length = 48) (Z : List Int) (hZ : Z.length = 48) :
    over (over (sunCells Z) 0 (sunCells (L.take 24)).toList) 24 (sunCells (L.drop 24)).toList = sunCells L := by
  have hl : (sunCells (L.take 24)).toList.length = 24 := by simp [sunCells]; omega
  have hl2 : (sunCells (L.drop 24)).toList.length = 24 := by simp [sunCells]; omega
  apply Array.ext_getElem?
  intro i
  rw [over_at _ _ _ (by rw [over_size, hl2, sun_size hZ]; omega), over_at _ _ _ (by rw [hl, sun_size hZ]; omega), hl, hl2]
  by_cases c : i < 24
  · rw [if_neg (by omega), if_pos (by omega)]
    simp [sunCells, c]
  · by_cases d : i < 48
    · rw [if_pos (by omega)]
      simp [sunCells, show 24 + (i - 24) = i by omega]
    · rw [if_neg (by omega), if_neg (by omega), Array.getElem?_eq_none (by rw [sun_size hZ]; omega), Array.getElem?_eq_none (by rw [sun_size hL]; omega)]
set_option maxHeartbeats 800000 in
set_option maxRecDepth 100000 in
theorem to_sun (L : List Int) (hL : L.length = 48) (w : World) :
    Calls Tryd.prog 16 #[.agg (sunCells L)] w fun e w' => e = .returned (.agg (sunCells L)) ∧ Below w.heap.size w w' := by
  have HL := hidd hL
  clear hL
  have hZ : (sunCells (List.replicate 48 0)).size = 48 := rfl
  have hl1 : (L.take 24).length = 24 := by have := HL.out; simp; omega
  have hl2 : (L.drop 24).length = 24 := by have := HL.out; simp; omega
  have h1 : (sunCells (L.take 24)).size = 24 := by rw [sunCells_size, hl1]
  have h2 : (sunCells (L.drop 24)).size = 24 := by rw [sunCells_size, hl2]
  have H := hidd (And.intro hZ (And.intro hl1 (And.intro hl2 (And.intro h1 h2))))
  clear hZ hl1 hl2 h1 h2
  go_enter Tryd.func16, Tryd.ntmps16
  go_wp2_with (refine wpList_load_lo rfl _ rfl _ rfl L HL.out (((Row.new _ _ _).alloc _).alloc _) ?_)
  refine (to24 _ H.out.2.1 _).mono ?_
  rintro e w1 ⟨rfl, hb1⟩
  have q0 := hidd ((((Row.new w (sunCells L) 33).alloc _).alloc _).below hb1 (by simp; omega))
  have q1 := hidd (((Row.new' (w.alloc (.cells (sunCells L) 33)) (sunCells (List.replicate 48 0)) 35 (w.heap.size + 1) (by simp)).alloc _).below hb1 (by simp))
  have q2 := hidd ((Row.new' ((w.alloc (.cells (sunCells L) 33)).alloc (.cells (sunCells (List.replicate 48 0)) 35)) (sunCells (List.replicate 48 0)) 35 (w.heap.size + 1 + 1) (by simp)).below hb1 (by simp))
  have qb := hidd ((((((Below.refl w.heap.size w).alloc (Nat.le_refl _) (.cells (sunCells L) 33)).alloc (by simp) (.cells (sunCells (List.replicate 48 0)) 35)).alloc (by simp; omega) (.cells (sunCells (List.replicate 48 0)) 35))).trans (hb1.mono (by simp; omega)))
  clear hb1
  go_wp2_with (first | (refine wpList_store_at rfl _ _ _ rfl _ 0 rfl 24 (sunCells (List.replicate 48 0)) (sunCells (L.take 24)) rfl agg_arr q2.out H.out.2.2.2.1 (by decide) (sun_one _) ?_; intro w2 hw2 r2) | (refine wpList_load_hi rfl _ rfl _ rfl L HL.out (hw2.row q0.out (by omega)) ?_))
  refine (to24 _ H.out.2.2.1 _).mono ?_
  rintro e w3 ⟨rfl, hb3⟩
  have s0 := hidd (r2.below hb3 r2.lt)
  have s1 := hidd ((hw2.row q1.out (by omega)).below hb3 (hw2.row q1.out (by omega)).lt)
  have sb := hidd ((qb.out.trans (hw2.below (by omega))).trans (hb3.mono (by have := (hw2.row q0.out (by omega)).lt; omega)))
  clear hb3 r2 hw2
  have hj := hidd (sun_join HL.out (List.replicate 48 0) rfl)
  go_wp2_with (first | (refine wpList_store_at rfl _ _ _ rfl _ 24 rfl 24 (over (sunCells (List.replicate 48 0)) 0 (sunCells (L.take 24)).toList) (sunCells (L.drop 24)) rfl agg_arr s0.out H.out.2.2.2.2 (by rw [over_size]; decide) (sun_one _) ?_; intro w4 hw4 r4; rw [hj.out] at r4) | (refine wpList_load_all rfl _ _ rfl _ rfl (sunCells L) 48 agg_impl (sun_size HL.out) r4 ?_) | (refine wpList_store_at rfl _ _ _ rfl _ 0 rfl 48 (sunCells (List.replicate 48 0)) (sunCells L) rfl agg_impl (hw4.row s1.out (by omega)) (sun_size HL.out) (by decide) (sun_one L) ?_; intro w5 hw5 r5))
  rw [over_all (by rw [sun_size HL.out]; rfl)] at r5
  refine bodyPost_ret (v := .agg (sunCells L)) (results_row rfl agg_impl _ _ _ _ (sun_size HL.out) rfl r5) rfl ⟨rfl, (sb.out.trans (hw4.below (by omega))).trans (hw5.below (by omega))⟩
end Go.Proofs.YtfiifnlnkedahaaDoor
