/-
  The sun with a text: the reference's reading.
-/
import Derived.Test.YtfiifnlnkedahaaDoorWri
namespace Go.Proofs.Hx
open Go Go.Proofs.Fl Go.Proofs.Pl
open Go.Lib hiding intOf
set_option linter.unusedVariables false
/-- What is known while a text is cut: f bytes lie behind, k have been looked at. -/
structure Cutting (c : UInt8) (l : List UInt8) (xs : List ByteArray) (f k : Nat) : Prop where
  done : splitL c l = xs.map (·.data.toList) ++ splitL c (l.drop f)
  clean : c ∉ (l.drop f).take (k - f)
theorem Cutting.start (c : UInt8) (l : List UInt8) : Cutting c l [] 0 0 := ⟨rfl, by simp⟩
theorem drop_piece {l : List UInt8} {f k : Nat} {b : UInt8} (hf : f ≤ k) (hk : l[k]? = some b) : l.drop f = (l.drop f).take (k - f) ++ b :: l.drop (k + 1) := by
  have h2 : l.drop k = b :: l.drop (k + 1) := by
    have hlt := (List.getElem?_eq_some_iff.1 hk).1
    rw [List.drop_eq_getElem_cons hlt]
    have : l[k] = b := by rw [List.getElem?_eq_getElem hlt] at hk; exact Option.some.inj hk
    rw [this]
  have h3 : (l.drop f).drop (k - f) = l.drop k := by rw [List.drop_drop]; congr 1; omega
  rw [← h2, ← h3, List.take_append_drop]
theorem Cutting.next {c : UInt8} {l : List UInt8} {xs : List ByteArray} {f k : Nat} {b : UInt8} (h : Cutting c l xs f k) (hf : f ≤ k) (hk : l[k]? = some b) (hb : b ≠ c) : Cutting c l xs f (k + 1) := by
  refine ⟨h.done, ?_⟩
  have hp := drop_piece hf hk
  have e : (l.drop f).take (k + 1 - f) = (l.drop f).take (k - f) ++ [b] := by
    conv => lhs; rw [hp]
    have hl : ((l.drop f).take (k - f)).length = k - f := by
      have := (List.getElem?_eq_some_iff.1 hk).1
      simp; omega
    rw [show k + 1 - f = ((l.drop f).take (k - f)).length + 1 by rw [hl]; omega, List.take_length_add_append]
    simp
  rw [e]
  intro hm
  rcases List.mem_append.1 hm with hm | hm
  · exact h.clean hm
  · exact hb (List.mem_singleton.1 hm).symm
theorem Cutting.hit {c : UInt8} {l : List UInt8} {xs : List ByteArray} {f k : Nat} (h : Cutting c l xs f k) (hf : f ≤ k) (hk : l[k]? = some c) {X : ByteArray} (hX : X.data.toList = (l.drop f).take (k - f)) : Cutting c l (xs ++ [X]) (k + 1) (k + 1) := by
  refine ⟨?_, by simp⟩
  rw [h.done, List.map_append, List.append_assoc]
  congr 1
  have hp := drop_piece hf hk
  conv => lhs; rw [hp]
  rw [splitL_cut _ h.clean, ← hX]
  rfl
theorem Cutting.last {c : UInt8} {l : List UInt8} {xs : List ByteArray} {f : Nat} (h : Cutting c l xs f l.length) (hf : f ≤ l.length) {X : ByteArray} (hX : X.data.toList = l.drop f) : (xs ++ [X]).map (·.data.toList) = splitL c l := by
  have hc : c ∉ l.drop f := by
    have := h.clean
    rwa [List.take_of_length_le (by simp)] at this
  rw [h.done, splitL_none hc, List.map_append, ← hX]
  rfl
/-- How the reference's cutting ends. -/
def CutPost (base : Nat) (c : UInt8) (T : ByteArray) (own : World → Nat → Value → List ByteArray → Prop) (e : Ending) (w' : World) : Prop := ∃ v xs, e = .returned v ∧ xs.map (·.data.toList) = splitL c T.data.toList ∧ own w' base v xs
theorem sub_text (T : ByteArray) (f k : Nat) : (T.extract f k).data.toList = (T.data.toList.drop f).take (k - f) := by
  rw [extract_data]
theorem sub_last (T : ByteArray) (f : Nat) : (T.extract f T.size).data.toList = T.data.toList.drop f := extract_to_end T f
end Go.Proofs.Hx
namespace Go.Proofs.YtfiifnlnkedahaaDoor
open Go.RowKit Go.Proofs.Fl Go.Proofs.Pl Go.Proofs.Hx
open Go.Lib hiding intOf
set_option linter.unusedVariables false
set_option maxHeartbeats 4000000 in
set_option maxRecDepth 100000 in
theorem split_spec (T : ByteArray) (hT : T.size ≤ 1048576) (c : UInt8) (w : World) :
    Calls Tryd.prog 56 #[.string T, .int .u8 (c.toNat : Int)] w fun e w' => CutPost w.heap.size c T OwnS e w' ∧ Below w.heap.size w w' := by
  have SZ := hidd (Lib.size_eq T)
  obtain ⟨i0, hi, hz0, hz1, hz2⟩ := info_parts Tryd.infoS
  obtain ⟨cn, hcn⟩ : ∃ cn, c.toNat = cn := ⟨_, rfl⟩
  rw [hcn]
  have CN := hidd hcn
  have hcb := c.toNat_lt
  rw [hcn] at hcb
  clear hcn
  go_enter Tryd.func56, Tryd.ntmps56
  go_wp2
  go_loopw [5, 6, 7] (fun v vf vi wr => ∃ (k f : Nat) (xs : List ByteArray), f ≤ k ∧ k ≤ T.size ∧ xs.length ≤ k ∧ vi = .int .i64 k ∧ vf = .int .i64 f ∧ OwnS wr w.heap.size v xs ∧ Below w.heap.size w wr ∧ Hid (Cutting c T.data.toList xs f k)) (fun _ _ vi _ => T.size - (intOf vi).toNat)
  case atStart => exact ⟨0, 0, [], by omega, by omega, by simp, rfl, rfl, own_str_new w _ (Nat.le_refl _), (Below.refl _ _).alloc (Nat.le_refl _) _, Cutting.start _ _⟩
  case round =>
    obtain ⟨k, f, xs, hfk, hk, hxl, rfl, rfl, ko, kb, hh⟩ := hrel
    have kq := hidd (And.intro ko kb)
    have BS := hidd kb.size
    clear ko kb
    by_cases hlt : k < T.size
    · obtain ⟨b, hb, hidx⟩ := idx_text (P := Tryd.prog) 9 Tryd.underlying9 T k hlt
      have hget : T.data.toList[k]? = some b := by
        have := congrArg (·[0]?) hb
        simpa using this
      have hn := b.toNat_lt
      obtain ⟨n, hbn⟩ : ∃ n, b.toNat = n := ⟨_, rfl⟩
      rw [hbn] at hidx hn
      have i0' : (0 : Int) ≤ (k : Int) := by omega
      have i1' : (k : Int) < (T.size : Int) := by omega
      have f0 : (0 : Int) ≤ (f : Int) := by omega
      have f1 : (f : Int) ≤ (k : Int) := by omega
      clear hb
      by_cases hc : n = cn
      · have ebc : b = c := UInt8.toNat_inj.1 (by rw [hbn, hc, CN.out])
        subst ebc
        subst hc
        have HN := hidd (hh.out.hit hfk hget (sub_text T f k))
        clear hget hbn hh
        go_wp2_with (at_builtin; refine wpList_append_own _ rfl _ _ 74 rfl w.heap.size 9 i0 (.string ByteArray.empty) 1 16 Tryd.underlying74 hi hz0 hz1 hz2 rfl (by decide) _ _ _ rfl (kq.out.1.alloc _) ⟨wr.heap.size, 0, none⟩ 1 1 [.string (T.extract f k)] rfl rfl (cell_one _ _ _) (one_str _) (by unfold maxLen; omega) (by omega) (by have := BS.out; simp; omega) ?_)
        intro v' w4 own' hg' _
        have ab := hidd (app_below kq.out.1 hg' BS.out)
        have o4 := hidd (own_str_snoc rfl own')
        clear own' hg'
        go_wp2
        go_roundw
        case rel => exact ⟨k + 1, k + 1, xs ++ [T.extract f k], by omega, by omega, by simp; omega, by go_num, by go_num, o4.out, kq.out.2.trans ab.out, HN.out⟩
        case measure => simp [intOf]; omega
      · have hne : ((n : Int) == (cn : Int)) = false := by rw [beq_eq_false_iff_ne]; omega
        have HN := hidd (hh.out.next hfk hget (fun e => hc (by rw [← hbn, e, CN.out])))
        clear hget hbn hh
        go_wp2
        go_roundw
        case rel => exact ⟨k + 1, f, xs, by omega, by omega, by omega, by go_num, rfl, kq.out.1, kq.out.2, HN.out⟩
        case measure => simp [intOf]; omega
    · obtain rfl : k = T.size := by omega
      have f0 : (0 : Int) ≤ (f : Int) := by omega
      have f1 : (f : Int) ≤ (T.size : Int) := by omega
      have HC := hidd hh.out
      have fin := hidd (Cutting.last (by have h := hh.out; rw [SZ.out] at h; exact h) (by have := SZ.out; omega) (sub_last T f))
      clear hh
      go_wp2_with (at_builtin; refine wpList_append_own _ rfl _ _ 74 rfl w.heap.size 9 i0 (.string ByteArray.empty) 1 16 Tryd.underlying74 hi hz0 hz1 hz2 rfl (by decide) _ _ _ rfl (kq.out.1.alloc _) ⟨wr.heap.size, 0, none⟩ 1 1 [.string (T.extract f T.size)] rfl rfl (cell_one _ _ _) (one_str _) (by unfold maxLen; omega) (by omega) (by have := BS.out; simp; omega) ?_)
      intro v' w4 own' hg' _
      have ab := hidd (app_below kq.out.1 hg' BS.out)
      have o4 := hidd (own_str_snoc rfl own')
      clear own' hg'
      go_wp2
      go_ret
      exact ⟨⟨_, _, rfl, fin.out, o4.out⟩, kq.out.2.trans ab.out⟩
theorem getD_of {xs : List ByteArray} {l : List UInt8} {c : UInt8} (hx : xs.map (·.data.toList) = splitL c l) {k : Nat} {X : ByteArray} (hk : xs[k]? = some X) : X.data.toList = (splitL c l).getD k [] := by
  rw [← hx]
  simp [hk]
set_option maxHeartbeats 8000000 in
set_option maxRecDepth 100000 in
theorem readSun_spec (T : ByteArray) (hT : T.size ≤ 1048576) (w : World) :
    Calls Tryd.prog 21 #[.string T] w fun e w' => e = .returned (.tuple #[.agg (sunCells (rdAns T.data.toList).1), .int .i64 (rdAns T.data.toList).2]) ∧ Below w.heap.size w w' := by
  have kp := hidd (Keep1.start w (sunCells zeroSun) 35)
  have HS := hidd (fun w => split_spec T hT 32 w)
  have SM := hidd (fun (xs : List ByteArray) (h : xs.map (·.data.toList) = splitL 32 T.data.toList) => words_small hT h)
  unfold CutPost at HS
  obtain ⟨l, hl⟩ : ∃ l, T.data.toList = l := ⟨_, rfl⟩
  rw [hl] at HS SM ⊢
  clear hl
  have e32 : ((32 : UInt8).toNat : Int) = 32 := rfl
  have e64 : ((64 : UInt8).toNat : Int) = 64 := rfl
  rw [e32] at HS
  clear e32
  go_enter Tryd.func21, Tryd.ntmps21
  go_wp2_with fail
  refine (HS.out _).mono ?_
  rintro e w3 ⟨⟨v, xs, rfl, hx, own⟩, hb3⟩
  have hpos : 0 < xs.length := by
    have := splitL_ne_nil 32 l
    rw [← hx] at this
    cases xs with
    | nil => exact absurd rfl this
    | cons a t => simp
  obtain ⟨g, cap, rfl, hcap, hg, hcell⟩ := own_str_lies own hpos
  have HX := hidd hx
  have SX := hidd (SM.out xs hx)
  have k3 := hidd (kp.out.step hb3)
  have C3 := hidd hcell
  have z3 := hidd (show w.heap.size + 1 ≤ w3.heap.size from by have := k3.out.row.lt; omega)
  have g3 := hidd hg
  clear hx hb3 hg hcell own hpos
  by_cases h24 : xs.length = 24
  · have h24' : ((xs.length : Int) != 24) = false := by simp [h24]
    have XL := hidd h24
    clear h24
    go_wp2_with (refine wpList_store_at rfl _ _ _ rfl _ 0 rfl 48 (sunCells zeroSun) (sunCells zeroSun) rfl agg_impl (Row.new w3 (sunCells zeroSun) 35) rfl (by decide) (sun_one _) ?_; intro w5 hw5 r5; rw [over_all (cs := sunCells zeroSun) (xs := sunCells zeroSun) rfl] at r5; replace r5 := hidd r5; have b5 := hidd (((Below.refl w3.heap.size w3).alloc (Nat.le_refl _) (.cells (sunCells zeroSun) 35)).trans (hw5.below (Nat.le_refl _))); clear hw5)
    go_loopw [6] (fun i wr => ∃ k : Nat, k ≤ 24 ∧ i = .int .i64 k ∧ Below w3.heap.size w3 wr ∧ Row wr w3.heap.size (sunCells (fill (rdF l) (rdG l) k)) ∧ Hid (∀ j, j < k → ∃ a b, WordIs ((splitL 32 l).getD j []) a b)) (fun i _ => 24 - (intOf i).toNat)
    case atStart => exact ⟨0, by omega, rfl, b5.out, by rw [fill_zero]; exact r5.out, fun j hj => by omega⟩
    case round =>
      obtain ⟨k, hk, rfl, kb, rr, hw⟩ := hrel
      have kq := hidd kb
      have rq := hidd rr
      clear kb rr
      by_cases hlt : k < 24
      · have hkx : k < xs.length := by rw [XL.out]; exact hlt
        obtain ⟨X, hX⟩ : ∃ X, xs[k]? = some X := ⟨xs[k], List.getElem?_eq_getElem hkx⟩
        have XD := hidd (getD_of HX.out hX)
        have XS := SX.out X (List.mem_of_getElem? hX)
        have hXc : wr.cell? ⟨g, k, none⟩ = some (.string X) := (kq.out.cell g3.out).trans (C3.out k X hX)
        have i0 : (0 : Int) ≤ (k : Int) := by omega
        have i1 : (k : Int) < (xs.length : Int) := by omega
        have i2 : (k : Int) < 24 := by omega
        have H64 := hidd (fun w => split_spec X XS 64 w)
        have S64 := hidd (fun (ys : List ByteArray) (h : ys.map (·.data.toList) = splitL 64 X.data.toList) => words_small XS h)
        unfold CutPost at H64
        rw [e64] at H64
        clear hX hkx XS
        go_wp2_with fail
        refine (H64.out _).mono ?_
        rintro e w6 ⟨⟨v6, ys, rfl, hy, own6⟩, hb6⟩
        have hpos : 0 < ys.length := by
          have := splitL_ne_nil 64 X.data.toList
          rw [← hy] at this
          cases ys with
          | nil => exact absurd rfl this
          | cons a t => simp
        obtain ⟨g6, cap6, rfl, hcap6, hg6, hcell6⟩ := own_str_lies own6 hpos
        have B6 := hidd hb6
        have HY := hidd hy
        have SY := hidd (S64.out ys hy)
        have C6 := hidd hcell6
        have G6 := hidd hg6
        clear hb6 hy hg6 hcell6 own6 hpos hXc
        have K6 := hidd (k3.out.step (kq.out.trans (B6.out.mono kq.out.size)))
        have R6 := hidd (rq.out.below B6.out rq.out.lt)
        by_cases h2 : ys.length = 2
        · have h2' : ((ys.length : Int) != 2) = false := by simp [h2]
          obtain ⟨P, hP⟩ : ∃ P, ys[0]? = some P := ⟨ys[0], List.getElem?_eq_getElem (by omega)⟩
          obtain ⟨Q, hQ⟩ : ∃ Q, ys[1]? = some Q := ⟨ys[1], List.getElem?_eq_getElem (by omega)⟩
          have c0 := C6.out 0 P hP
          have c1 := C6.out 1 Q hQ
          have sp := SY.out P (List.mem_of_getElem? hP)
          have sq := SY.out Q (List.mem_of_getElem? hQ)
          have hsp : splitL 64 X.data.toList = [P.data.toList, Q.data.toList] := by
            rw [← HY.out]
            match ys, h2, hP, hQ with
            | [y0, y1], _, e0, e1 =>
              simp at e0 e1
              subst e0; subst e1; rfl
          have SP := hidd hsp
          have j0 : (0 : Int) < (ys.length : Int) := by omega
          have j1 : (1 : Int) < (ys.length : Int) := by omega
          clear hP hQ hsp h2
          go_wp2_with fail
          refine (minus_any P (by omega) _).mono ?_
          rintro e w7 ⟨⟨a, oa, rfl, a0, a1, hPA⟩, rfl⟩
          have PA := hidd hPA
          clear hPA
          go_wp2_with fail
          refine (number_any Q (by omega) _).mono ?_
          rintro e w8 ⟨⟨b, ob, rfl, b0, b1, hPB⟩, rfl⟩
          have WI := hidd (word_spec SP.out PA.out hPB)
          clear hPB
          by_cases good : oa = true ∧ ob = true ∧ -64 ≤ a ∧ a ≤ 64 ∧ 0 ≤ b ∧ b ≤ 255
          · have WD := hidd (WI.out.1 good)
            obtain ⟨rfl, rfl, p0, p1, q0, q1⟩ := good
            have r1 : inR a (-64) 64 = true := inR_iff.2 ⟨p0, p1⟩
            have r2 : inR b 0 255 = true := inR_iff.2 ⟨q0, q1⟩
            clear c0 c1
            rename World => w8
            obtain ⟨⟨x1, c2⟩, f2, ⟨x2, c4⟩, f4⟩ := made_cells hlt R6.out (.int .i16 a)
            go_wp2_with (first | (go_at_call 59; refine (height_spec _ _).mono ?_; rintro e w' ⟨rfl, rfl⟩) | (go_at_call 60; refine (faced_spec _ _).mono ?_; rintro e w' ⟨rfl, rfl⟩))
            go_roundw
            case rel =>
              have WD' := WD.out
              rw [XD.out] at WD'
              obtain ⟨eF, eG⟩ := wA_is WD'
              refine ⟨k + 1, by omega, by go_num, ((kq.out.trans (B6.out.mono kq.out.size)).trans ((Wrote.setCell _ w3.heap.size k (.int .i16 a)).below (Nat.le_refl _))).trans ((Wrote.setCell _ w3.heap.size (24 + k) (.int .i16 b)).below (Nat.le_refl _)), ?_, ?_⟩
              · rw [← fill_step _ _ hlt]
                have e1 : rdF l k = a := eF
                have e2 : rdG l k = b := eG
                rw [e1, e2]
                exact (R6.out.set k _).set (24 + k) _
              · intro j hj
                by_cases e : j = k
                · subst e; exact ⟨a, b, WD'⟩
                · exact hw.out j (by omega)
            case measure => simp [intOf]; omega
          · have fin := hidd (rdAns_no (rd_word (l := l) hlt (fun c d h => WI.out.2 good c d (by rw [XD.out]; exact h))))
            have cases3 : oa = false ∨ (oa = true ∧ ob = false) ∨ (oa = true ∧ ob = true ∧ inR a (-64) 64 = false) ∨ (oa = true ∧ ob = true ∧ inR a (-64) 64 = true ∧ inR b 0 255 = false) := by
              cases oa
              · exact .inl rfl
              cases ob
              · exact .inr (.inl ⟨rfl, rfl⟩)
              rcases bool_or (inR a (-64) 64) with r1 | r1
              · exact .inr (.inr (.inl ⟨rfl, rfl, r1⟩))
              rcases bool_or (inR b 0 255) with r2 | r2
              · exact .inr (.inr (.inr ⟨rfl, rfl, r1, r2⟩))
              · obtain ⟨p0, p1⟩ := inR_iff.1 r1
                obtain ⟨q0, q1⟩ := inR_iff.1 r2
                exact absurd ⟨rfl, rfl, p0, p1, q0, q1⟩ good
            clear good c0 c1
            rcases cases3 with rfl | ⟨rfl, rfl⟩ | ⟨rfl, rfl, r1⟩ | ⟨rfl, rfl, r1, r2⟩
            all_goals
              go_wp2_with (first | (go_at_call 59; refine (height_spec _ _).mono ?_; rintro e w' ⟨rfl, rfl⟩) | (go_at_call 60; refine (faced_spec _ _).mono ?_; rintro e w' ⟨rfl, rfl⟩) | (refine wpList_store_at rfl _ _ _ rfl _ 0 rfl 48 (sunCells zeroSun) (sunCells zeroSun) rfl agg_impl K6.out.row rfl (by decide) (sun_one _) ?_; intro w9 hw9 r9))
              rw [over_all (cs := sunCells zeroSun) (xs := sunCells zeroSun) rfl] at r9
              refine bodyPost_ret (v := .tuple #[.agg (sunCells zeroSun), .int .i64 5]) (results_pair rfl agg_impl _ _ _ _ rfl _ rfl rfl r9) rfl ⟨by rw [fin.out], K6.out.below.trans (hw9.below (by omega))⟩
        · have h2' : ((ys.length : Int) != 2) = true := by rw [bne_iff_ne]; omega
          have fin := hidd (rdAns_no (rd_word (l := l) hlt (fun c d h => h2 (by
            have q := (show WordIs X.data.toList c d by rw [XD.out]; exact h).split
            rw [← HY.out] at q
            have := congrArg List.length q
            simpa using this))))
          clear h2
          go_wp2_with (refine wpList_store_at rfl _ _ _ rfl _ 0 rfl 48 (sunCells zeroSun) (sunCells zeroSun) rfl agg_impl K6.out.row rfl (by decide) (sun_one _) ?_; intro w9 hw9 r9)
          rw [over_all (cs := sunCells zeroSun) (xs := sunCells zeroSun) rfl] at r9
          refine bodyPost_ret (v := .tuple #[.agg (sunCells zeroSun), .int .i64 5]) (results_pair rfl agg_impl _ _ _ _ rfl _ rfl rfl r9) rfl ⟨by rw [fin.out], K6.out.below.trans (hw9.below (by omega))⟩
      · obtain rfl : k = 24 := by omega
        have fin := hidd (rdAns_ok (l := l) ⟨by rw [← HX.out, List.length_map]; exact XL.out, hw.out⟩)
        rw [fill24_eq] at rq
        have K9 := hidd (k3.out.step kq.out)
        go_wp2_with (first | (refine wpList_load_all rfl _ _ rfl _ rfl (sunCells (fill24 (rdF l) (rdG l))) 48 agg_impl (sun_size (fill24_len _ _)) rq.out ?_) | (refine wpList_store_at rfl _ _ _ rfl _ 0 rfl 48 (sunCells zeroSun) (sunCells (fill24 (rdF l) (rdG l))) rfl agg_impl K9.out.row (sun_size (fill24_len _ _)) (by decide) (sun_one _) ?_; intro w9 hw9 r9))
        rw [over_all (cs := sunCells zeroSun) (xs := sunCells (fill24 (rdF l) (rdG l))) (by rw [sun_size (fill24_len _ _)]; rfl)] at r9
        refine bodyPost_ret (v := .tuple #[.agg (sunCells (fill24 (rdF l) (rdG l))), .int .i64 0]) (results_pair rfl agg_impl _ _ _ _ (sun_size (fill24_len _ _)) _ rfl rfl r9) rfl ⟨by rw [fin.out], K9.out.below.trans (hw9.below (by omega))⟩
  · have fin := hidd (rdAns_no (rd_len (l := l) (by rw [← HX.out, List.length_map]; exact h24)))
    have h24' : ((xs.length : Int) != 24) = true := by rw [bne_iff_ne]; omega
    clear h24
    go_wp2_with (refine wpList_store_at rfl _ _ _ rfl _ 0 rfl 48 (sunCells zeroSun) (sunCells zeroSun) rfl agg_impl k3.out.row rfl (by decide) (sun_one _) ?_; intro w9 hw9 r9)
    rw [over_all (cs := sunCells zeroSun) (xs := sunCells zeroSun) rfl] at r9
    refine bodyPost_ret (v := .tuple #[.agg (sunCells zeroSun), .int .i64 5]) (results_pair rfl agg_impl _ _ _ _ rfl _ rfl rfl r9) rfl ⟨by rw [fin.out], k3.out.below.trans (hw9.below (by omega))⟩
end Go.Proofs.YtfiifnlnkedahaaDoor
