/-
  The sun with a text: the program's reading.
-/
import Derived.Test.YtddkiemipedgcaaGreatDoorWrd
namespace Go.Proofs.YtddkiemipedgcaaGreatDoor
open Go.RowKit Go.Proofs.Fl Go.Proofs.Pl Go.Proofs.Hx
open Go.Lib hiding intOf
set_option linter.unusedVariables false
theorem word_at {wr : World} {g : Nat} {xs : List ByteArray} {l : List UInt8} (hx : xs.map (·.data.toList) = splitL 32 l) (r : Row wr g (xs.map Value.string).toArray) {k : Nat} (hk : k < xs.length) :
    ∃ X : ByteArray, X ∈ xs ∧ wr.cell? ⟨g, k, none⟩ = some (.string X) ∧ X.data.toList = (splitL 32 l).getD k [] := by
  refine ⟨xs[k], List.getElem_mem hk, ?_, ?_⟩
  · rw [r.cell]; simp [hk]
  · rw [← hx]; simp [hk]
set_option maxHeartbeats 8000000 in
set_option maxRecDepth 100000 in
theorem readSun_impl (T : ByteArray) (hT : T.size ≤ 1048576) (w : World) (hW : Tabs w) (hE : Errs w) (hM : Mx w) :
    Calls Tryz.prog 9 #[.string T] w fun e w' => e = .returned (.tuple #[.agg (sunCells (rdAns T.data.toList).1), .int .i64 (rdAns T.data.toList).2]) ∧ Below w.heap.size w w' := by
  have kp := hidd (Keep1.start w (sunCells zeroSun) 27)
  have TW := hidd hW
  have EW := hidd hE
  have MW := hidd hM
  have HS := hidd (fun w h => split_at T hT w h)
  clear hW hE hM
  obtain ⟨l, hl⟩ : ∃ l, T.data.toList = l := ⟨_, rfl⟩
  rw [hl] at HS ⊢
  clear hl
  go_enter Tryz.func9, Tryz.ntmps9
  go_wp2_with fail
  refine (HS.out _ (MW.out.below ((Below.refl w.heap.size w).alloc (Nat.le_refl _) _))).mono ?_
  rintro e w3 ⟨xs, g, hx, rfl, hg, rg, hb3, hsm⟩
  have HX := hidd hx
  have SM := hidd hsm
  have k3 := hidd (kp.out.step hb3)
  have hg' : w.heap.size + 1 ≤ g := by simpa using hg
  have G3 := hidd (And.intro hg' rg)
  clear hx hsm hb3 hg rg hg'
  have z3 := hidd (show w.heap.size + 1 ≤ w3.heap.size from by have := k3.out.row.lt; omega)
  have g3 := hidd (show g < w3.heap.size from G3.out.2.lt)
  by_cases h24 : xs.length = 24
  · have h24' : ((xs.length : Int) != 24) = false := by simp [h24]
    have XL := hidd h24
    clear h24
    go_wp2_with (refine wpList_store_at rfl _ _ _ rfl _ 0 rfl 48 (sunCells zeroSun) (sunCells zeroSun) rfl agg_impl (Row.new w3 (sunCells zeroSun) 27) rfl (by decide) (sun_one _) ?_; intro w5 hw5 r5; rw [over_all (cs := sunCells zeroSun) (xs := sunCells zeroSun) rfl] at r5; replace r5 := hidd r5; have kp5 := hidd (keep1_stepB (k3.out.step ((Below.refl _ _).alloc (Nat.le_refl _) (.cells (sunCells zeroSun) 27))) (hw5.below z3.out)); have G5 := hidd (hw5.row (G3.out.2.alloc (.cells (sunCells zeroSun) 27)) (by have := g3.out; omega)); clear hw5)
    go_loopw [24] (fun i wr => ∃ k : Nat, k ≤ 24 ∧ i = .int .i64 k ∧ Keep1 w wr (sunCells zeroSun) ∧ Row wr g (xs.map Value.string).toArray ∧ Row wr w3.heap.size (sunCells (fill (rdF l) (rdG l) k)) ∧ Hid (∀ j, j < k → ∃ a b, WordIs ((splitL 32 l).getD j []) a b)) (fun i _ => 24 - (intOf i).toNat)
    case atStart => exact ⟨0, by omega, rfl, kp5.out, G5.out, by rw [fill_zero]; exact r5.out, fun j hj => by omega⟩
    case round =>
      obtain ⟨k, hk, rfl, kr, gr, rr, hw⟩ := hrel
      have kq := hidd kr
      have gq := hidd gr
      have rq := hidd rr
      clear kr gr rr
      by_cases hlt : k < 24
      · obtain ⟨X, hXm, hXc, hXd⟩ := word_at HX.out gq.out (show k < xs.length by rw [XL.out]; exact hlt)
        have XD := hidd hXd
        have XS := hidd (SM.out X hXm)
        have i0 : (0 : Int) ≤ (k : Int) := by omega
        have i1 : (k : Int) < (xs.length : Int) := by have := XL.out; omega
        have MR := hidd (MW.out.below kq.out.below)
        have TR := hidd (TW.out.below kq.out.below)
        have ER := hidd (EW.out.below kq.out.below)
        clear hXm hXd
        go_wp2_with fail
        refine (cut_at X XS.out _ MR.out).mono ?_
        rintro e w6 ⟨⟨A, B, okc, rfl, hcut, hA, hB⟩, hb6⟩
        have B6 := hidd hb6
        have HC := hidd hcut
        have SA := hidd hA
        have SB := hidd hB
        clear hb6 hcut hA hB hXc
        go_wp2_with fail
        refine (whole_any A SA.out _ (TR.out.below B6.out) (ER.out.below B6.out)).mono ?_
        rintro e w7 ⟨⟨a, oa, rfl, a0, a1, hPA⟩, hb7⟩
        have B7 := hidd (B6.out.trans (hb7.mono B6.out.size))
        have PA := hidd hPA
        clear hb7 hPA
        go_wp2_with fail
        refine (whole_any B SB.out _ (TR.out.below B7.out) (ER.out.below B7.out)).mono ?_
        rintro e w8 ⟨⟨b, ob, rfl, b0, b1, hPB⟩, hb8⟩
        have B8 := hidd (B7.out.trans (hb8.mono B7.out.size))
        have WI := hidd (word_impl HC.out PA.out hPB)
        clear hb8 hPB
        have K8 := hidd (kq.out.step B8.out)
        have G8 := hidd (gq.out.below B8.out gq.out.lt)
        have R8 := hidd (rq.out.below B8.out rq.out.lt)
        by_cases good : oa = true ∧ ob = true ∧ -64 ≤ a ∧ a ≤ 64 ∧ 0 ≤ b ∧ b ≤ 255
        · have WD := hidd (WI.out.1 good)
          obtain ⟨rfl, rfl, p0, p1, q0, q1⟩ := good
          have r1 : inR a (-64) 64 = true := inR_iff.2 ⟨p0, p1⟩
          have r2 : inR b 0 255 = true := inR_iff.2 ⟨q0, q1⟩
          obtain ⟨⟨x1, c2⟩, f2, ⟨x2, c4⟩, f4⟩ := made_cells hlt R8.out (.int .i16 a)
          have i1' : (k : Int) < 24 := by omega
          have ks := hidd (keep1_stepB K8.out ((Wrote.setCell w8 w3.heap.size k (.int .i16 a)).below z3.out))
          go_wp2_with (go_at_call 55; refine (in_impl _ _ _ _).mono ?_; rintro e w' ⟨rfl, rfl⟩)
          go_roundw
          case rel =>
            have WD' := WD.out
            rw [XD.out] at WD'
            obtain ⟨eF, eG⟩ := wA_is WD'
            refine ⟨k + 1, by omega, by go_num, keep1_stepB ks.out ((Wrote.setCell _ w3.heap.size (24 + k) (.int .i16 b)).below z3.out), (Wrote.setCell _ w3.heap.size (24 + k) _).row ((Wrote.setCell w8 w3.heap.size k _).row G8.out (by have := g3.out; omega)) (by have := g3.out; omega), ?_, ?_⟩
            · rw [← fill_step _ _ hlt]
              have e1 : rdF l k = a := eF
              have e2 : rdG l k = b := eG
              rw [e1, e2]
              exact (R8.out.set k _).set (24 + k) _
            · intro j hj
              by_cases e : j = k
              · subst e; exact ⟨a, b, WD'⟩
              · exact hw.out j (by omega)
          case measure => simp [intOf]; omega
        · have fin := hidd (rdAns_no (rd_word (l := l) hlt (fun c d h => WI.out.2 good c d (by rw [XD.out]; exact h))))
          have cases3 : oa = false ∨ (oa = true ∧ ob = false) ∨ (oa = true ∧ ob = true ∧ inR a (-64) 64 = false) ∨ (oa = true ∧ ob = true ∧ inR a (-64) 64 = true ∧ inR b 0 255 = false) := by
            cases oa
            · exact .inl rfl
            cases ob
            · exact .inr (.inl ⟨rfl, rfl⟩)
            rcases bool_or (inR a (-64) 64) with r1 | r1
            · exact .inr (.inr (.inl ⟨rfl, rfl, r1⟩))
            rcases bool_or (inR b 0 255) with r2 | r2
            · exact .inr (.inr (.inr ⟨rfl, rfl, r1, r2⟩))
            · obtain ⟨p0, p1⟩ := inR_iff.1 r1
              obtain ⟨q0, q1⟩ := inR_iff.1 r2
              exact absurd ⟨rfl, rfl, p0, p1, q0, q1⟩ good
          clear good
          rcases cases3 with rfl | ⟨rfl, rfl⟩ | ⟨rfl, rfl, r1⟩ | ⟨rfl, rfl, r1, r2⟩
          all_goals
            go_wp2_with (first | (go_at_call 55; refine (in_impl _ _ _ _).mono ?_; rintro e w' ⟨rfl, rfl⟩) | (refine wpList_store_at rfl _ _ _ rfl _ 0 rfl 48 (sunCells zeroSun) (sunCells zeroSun) rfl agg_impl K8.out.row rfl (by decide) (sun_one _) ?_; intro w9 hw9 r9))
            rw [over_all (cs := sunCells zeroSun) (xs := sunCells zeroSun) rfl] at r9
            refine bodyPost_ret (v := .tuple #[.agg (sunCells zeroSun), .int .i64 5]) (results_pair rfl agg_impl _ _ _ _ rfl _ rfl rfl r9) rfl ⟨by rw [fin.out], K8.out.below.trans (hw9.below (by omega))⟩
      · obtain rfl : k = 24 := by omega
        have fin := hidd (rdAns_ok (l := l) ⟨by rw [← HX.out, List.length_map]; exact XL.out, hw.out⟩)
        rw [fill24_eq] at rq
        have XL' : (xs.length : Int) = 24 := by have := XL.out; omega
        go_wp2_with (first | (refine wpList_load_all rfl _ _ rfl _ rfl (sunCells (fill24 (rdF l) (rdG l))) 48 agg_impl (sun_size (fill24_len _ _)) rq.out ?_) | (refine wpList_store_at rfl _ _ _ rfl _ 0 rfl 48 (sunCells zeroSun) (sunCells (fill24 (rdF l) (rdG l))) rfl agg_impl kq.out.row (sun_size (fill24_len _ _)) (by decide) (sun_one _) ?_; intro w9 hw9 r9))
        rw [over_all (cs := sunCells zeroSun) (xs := sunCells (fill24 (rdF l) (rdG l))) (by rw [sun_size (fill24_len _ _)]; rfl)] at r9
        refine bodyPost_ret (v := .tuple #[.agg (sunCells (fill24 (rdF l) (rdG l))), .int .i64 0]) (results_pair rfl agg_impl _ _ _ _ (sun_size (fill24_len _ _)) _ rfl rfl r9) rfl ⟨by rw [fin.out], kq.out.below.trans (hw9.below (by omega))⟩
  · have fin := hidd (rdAns_no (rd_len (l := l) (by rw [← HX.out, List.length_map]; exact h24)))
    have h24' : ((xs.length : Int) != 24) = true := by rw [bne_iff_ne]; omega
    clear h24
    go_wp2_with (first | (refine wpList_store_at rfl _ _ _ rfl w3.heap.size 0 rfl 48 (sunCells zeroSun) (sunCells zeroSun) rfl agg_impl (Row.new w3 (sunCells zeroSun) 27) rfl (by decide) (sun_one _) ?_; intro w5 hw5 r5; rw [over_all (cs := sunCells zeroSun) (xs := sunCells zeroSun) rfl] at r5; replace r5 := hidd r5; have kp5 := hidd (keep1_stepB (k3.out.step ((Below.refl _ _).alloc (Nat.le_refl _) (.cells (sunCells zeroSun) 27))) (hw5.below z3.out)); clear hw5) | (refine wpList_store_at rfl _ _ _ rfl _ 0 rfl 48 (sunCells zeroSun) (sunCells zeroSun) rfl agg_impl kp5.out.row rfl (by decide) (sun_one _) ?_; intro w9 hw9 r9))
    rw [over_all (cs := sunCells zeroSun) (xs := sunCells zeroSun) rfl] at r9
    refine bodyPost_ret (v := .tuple #[.agg (sunCells zeroSun), .int .i64 5]) (results_pair rfl agg_impl _ _ _ _ rfl _ rfl rfl r9) rfl ⟨by rw [fin.out], kp5.out.below.trans (hw9.below (by omega))⟩
end Go.Proofs.YtddkiemipedgcaaGreatDoor
