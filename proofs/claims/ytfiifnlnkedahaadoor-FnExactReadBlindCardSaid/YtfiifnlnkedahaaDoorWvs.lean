/-
  The blind with a text: the reference's reading.
-/
import Derived.Test.YtfiifnlnkedahaaDoorWvb
import Derived.Test.YtfiifnlnkedahaaDoorWrk
namespace Go.Proofs.Hx
open Go Go.Proofs.Fl Go.Proofs.Pl
open Go.Lib hiding intOf
set_option linter.unusedVariables false
def ReadIs (r : Option Nat) (a : Nat) (ok : Bool) : Prop := r = if ok then some a else none
theorem ReadIs.yes {r : Option Nat} {a : Nat} (h : ReadIs r a true) : r = some a := h
/-- The reference's test of five words. -/
theorem five_spec {l x0 x1 x2 x3 x4 : List UInt8} {n t : Int} {o0 o1 o2 o3 o4 : Bool} {wd g s : Nat} (F : Five l x0 x1 x2 x3 x4) (P0 : NumP x0 n o0) (P1 : ReadIs (numRead x1) wd o1) (P2 : ReadIs (numRead x2) g o2) (P3 : MinusP x3 t o3) (P4 : ReadIs (numRead x4) s o4) :
    ((o0 = true ∧ o1 = true ∧ o2 = true ∧ o3 = true ∧ o4 = true ∧ blindOk n wd g t s = true) → rbOf l = some ⟨n, wd, g, t, s⟩) ∧ (¬ (o0 = true ∧ o1 = true ∧ o2 = true ∧ o3 = true ∧ o4 = true ∧ blindOk n wd g t s = true) → rbOf l = none) := by
  refine ⟨fun ⟨h0, h1, h2, h3, h4, ho⟩ => ?_, fun hn => F.no fun b k0 k1 k2 k3 k4 ko => hn ?_⟩
  · subst h0; subst h1; subst h2; subst h3; subst h4
    obtain ⟨u, hu, hu2, e⟩ := (show ∃ u : Nat, n = u ∧ u < 1000000000 ∧ decDigits u = x0 from P0)
    subst hu
    exact F.yes (by rw [itoa_nonneg, e]) P1.yes P2.yes P3.2 P4.yes ho
  · obtain ⟨sn, st, b1, b2, b3, b4⟩ := ok_small ko
    have k0' := k0
    obtain ⟨m, hm⟩ : ∃ m : Nat, b.n = m := ⟨b.n.toNat, by omega⟩
    rw [hm, itoa_nonneg] at k0
    cases o0
    · exact absurd k0 (P0 m (by omega))
    have f : ∀ {r : Option Nat} {a v : Nat} {c : Bool}, ReadIs r a c → r = some v → c = true ∧ a = v := by
      intro r a v c h e
      cases c
      · rw [show r = none from h] at e; cases e
      · rw [show r = some a from h] at e; exact ⟨rfl, Option.some.inj e⟩
    obtain ⟨z1, w1⟩ := f P1 k1
    obtain ⟨z2, w2⟩ := f P2 k2
    obtain ⟨z4, w4⟩ := f P4 k4
    cases o3
    · exact absurd k3 (P3 b.t st)
    obtain ⟨u, hu, hu2, e⟩ := (show ∃ u : Nat, n = u ∧ u < 1000000000 ∧ decDigits u = x0 from P0)
    have e0 : n = b.n := itoa_inj (by rw [hu, itoa_nonneg, e, k0'])
    have e3 : t = b.t := itoa_inj (P3.2.trans k3.symm)
    exact ⟨rfl, z1, z2, rfl, z4, by rw [e0, e3, w1, w2, w4]; exact ko⟩
theorem five_ways2 {n t : Int} {o0 o1 o2 o3 o4 : Bool} {wd g s : Nat} :
    (o0 = true ∧ o1 = true ∧ o2 = true ∧ o3 = true ∧ o4 = true ∧ n ≤ 60 ∧ (-64 ≤ t ∧ t ≤ 64)) ∨ (¬ (blindOk n wd g t s = true ∧ o0 = true ∧ o1 = true ∧ o2 = true ∧ o3 = true ∧ o4 = true) ∧ (o0 = false ∨ (o0 = true ∧ o1 = false) ∨ (o0 = true ∧ o1 = true ∧ o2 = false) ∨ (o0 = true ∧ o1 = true ∧ o2 = true ∧ o3 = false) ∨ (o0 = true ∧ o1 = true ∧ o2 = true ∧ o3 = true ∧ o4 = false) ∨ (o0 = true ∧ o1 = true ∧ o2 = true ∧ o3 = true ∧ o4 = true ∧ 60 < n) ∨ (o0 = true ∧ o1 = true ∧ o2 = true ∧ o3 = true ∧ o4 = true ∧ n ≤ 60 ∧ inR t (-64) 64 = false))) := by
  cases o0
  · exact .inr ⟨(fun ⟨_, h, _⟩ => by cases h), .inl rfl⟩
  cases o1
  · exact .inr ⟨(fun ⟨_, _, h, _⟩ => by cases h), .inr (.inl ⟨rfl, rfl⟩)⟩
  cases o2
  · exact .inr ⟨(fun ⟨_, _, _, h, _⟩ => by cases h), .inr (.inr (.inl ⟨rfl, rfl, rfl⟩))⟩
  cases o3
  · exact .inr ⟨(fun ⟨_, _, _, _, h, _⟩ => by cases h), .inr (.inr (.inr (.inl ⟨rfl, rfl, rfl, rfl⟩)))⟩
  cases o4
  · exact .inr ⟨(fun ⟨_, _, _, _, _, h⟩ => by cases h), .inr (.inr (.inr (.inr (.inl ⟨rfl, rfl, rfl, rfl, rfl⟩))))⟩
  by_cases hn : n ≤ 60
  · rcases bool_or (inR t (-64) 64) with r2 | r2
    · exact .inr ⟨(fun ⟨h, _⟩ => by have := (blindOk_of h).2.2.2.1; rw [inR_iff.2 this] at r2; cases r2), .inr (.inr (.inr (.inr (.inr (.inr ⟨rfl, rfl, rfl, rfl, rfl, hn, r2⟩)))))⟩
    · exact .inl ⟨rfl, rfl, rfl, rfl, rfl, hn, inR_iff.1 r2⟩
  · exact .inr ⟨(fun ⟨h, _⟩ => by have := (blindOk_of h).1; omega), .inr (.inr (.inr (.inr (.inr (.inl ⟨rfl, rfl, rfl, rfl, rfl, by omega⟩)))))⟩
end Go.Proofs.Hx
namespace Go.Proofs.YtfiifnlnkedahaaDoor
open Go.RowKit Go.Proofs.Fl Go.Proofs.Pl Go.Proofs.Hx
open Go.Lib hiding intOf
set_option linter.unusedVariables false
theorem read_code (T : ByteArray) (hT : T.size ≤ 1048576) (w : World) : Calls Tryd.prog 44 #[.string T] w fun e w' => (∃ a ok, e = .returned (.tuple #[.float .f32 a, .bool ok]) ∧ ReadIs (numRead T.data.toList) a ok) ∧ w' = w := by
  refine (read_spec T (by omega) w).mono ?_
  rintro e w' ⟨⟨a, ok, h1, h2⟩, h3⟩
  exact ⟨⟨a, ok, h1, h2⟩, h3⟩
set_option maxHeartbeats 8000000 in
set_option maxRecDepth 100000 in
theorem readBlind_spec (T : ByteArray) (hT : T.size ≤ 1048576) (w : World) :
    Calls Tryd.prog 24 #[.string T] w fun e w' => e = .returned (.tuple #[.agg (blindOf (rbOf T.data.toList)).1, .int .i64 (blindOf (rbOf T.data.toList)).2]) ∧ Below w.heap.size w w' := by
  have kp := hidd (Keep1.start w zeroBlind 42)
  have HS := hidd (fun w => split_spec T hT 32 w)
  have SM := hidd (fun (xs : List ByteArray) (h : xs.map (·.data.toList) = splitL 32 T.data.toList) => words_small hT h)
  unfold CutPost at HS
  obtain ⟨l, hl⟩ : ∃ l, T.data.toList = l := ⟨_, rfl⟩
  rw [hl] at HS SM ⊢
  clear hl
  have e32 : ((32 : UInt8).toNat : Int) = 32 := rfl
  rw [e32] at HS
  clear e32
  go_enter Tryd.func24, Tryd.ntmps24
  go_wp2_with fail
  refine (HS.out _).mono ?_
  rintro e w3 ⟨⟨v, xs, rfl, hx, own⟩, hb3⟩
  have hpos : 0 < xs.length := by
    have := splitL_ne_nil 32 l
    rw [← hx] at this
    cases xs with
    | nil => exact absurd rfl this
    | cons a t => simp
  obtain ⟨g, cap, rfl, hcap, hg, hcell⟩ := own_str_lies own hpos
  have hsm := SM.out xs hx
  have k3 := hidd (kp.out.step hb3)
  by_cases h5 : xs.length = 5
  · obtain ⟨X0, X1, X2, X3, X4, rfl, hF⟩ := five_words hx h5
    have F := hidd hF
    have s0 := hsm X0 (by simp)
    have s1 := hidd (hsm X1 (by simp))
    have s2 := hidd (hsm X2 (by simp))
    have s3 := hsm X3 (by simp)
    have s4 := hidd (hsm X4 (by simp))
    have c0 := hcell 0 X0 rfl
    have c1 := hcell 1 X1 rfl
    have c2 := hcell 2 X2 rfl
    have c3 := hcell 3 X3 rfl
    have c4 := hcell 4 X4 rfl
    have hlen : [X0, X1, X2, X3, X4].length = 5 := rfl
    clear hx hb3 hsm hg hcell hF h5 own hpos
    go_wp2_with fail
    refine (number_any X0 (by omega) _).mono ?_
    rintro e w4 ⟨⟨n, o0, rfl, n0, n1, hP0⟩, rfl⟩
    have P0 := hidd hP0
    clear hP0
    go_wp2_with fail
    refine (read_code X1 s1.out _).mono ?_
    rintro e w5 ⟨⟨wd, o1, rfl, hP1⟩, rfl⟩
    have P1 := hidd hP1
    clear hP1
    go_wp2_with fail
    refine (read_code X2 s2.out _).mono ?_
    rintro e w6 ⟨⟨gp, o2, rfl, hP2⟩, rfl⟩
    have P2 := hidd hP2
    clear hP2
    go_wp2_with fail
    refine (minus_any X3 (by omega) _).mono ?_
    rintro e w7 ⟨⟨t, o3, rfl, t0, t1, hP3⟩, rfl⟩
    have P3 := hidd hP3
    clear hP3
    go_wp2_with fail
    refine (read_code X4 s4.out _).mono ?_
    rintro e w8 ⟨⟨sh, o4, rfl, hP4⟩, rfl⟩
    have P4 := hidd hP4
    clear hP4 hlen c0 c1 c2 c3 c4
    rename World => w8
    have FI := hidd (five_spec F.out P0.out P1.out P2.out P3.out P4.out)
    rcases five_ways2 (n := n) (t := t) (o0 := o0) (o1 := o1) (o2 := o2) (o3 := o3) (o4 := o4) (wd := wd) (g := gp) (s := sh) with ⟨rfl, rfl, rfl, rfl, rfl, p1, ⟨u0, u1⟩⟩ | ⟨hno, ways⟩
    · have r2 : inR t (-64) 64 = true := inR_iff.2 ⟨u0, u1⟩
      have b8 := hidd (show w.heap.size + 1 ≤ w8.heap.size from by have := k3.out.row.lt; omega)
      have HV := hidd (fun b w h => blind_spec b n wd gp t sh (by omega) (by omega) (by omega) (by omega) w h)
      rcases bool_or (blindOk n wd gp t sh) with ho | ho
      · have fin := hidd (bo_no (FI.out.2 (fun h => by rw [ho] at h; cases h.2.2.2.2.2)))
        rw [ho] at HV
        clear ho
        go_wp2_with (first | (go_at_call 66; refine (tilt_spec _ _).mono ?_; rintro e w' ⟨rfl, rfl⟩) | (refine wpList_store_at rfl _ _ _ rfl w8.heap.size 0 rfl 5 zeroBlind (blindCells n wd gp t sh) rfl agg_blind (Row.new w8 zeroBlind 42) rfl (by decide) (blind_one _ _ _ _ _) ?_; intro w9 hw9 r9; rw [over_all (cs := zeroBlind) (xs := blindCells n wd gp t sh) rfl] at r9; have R9 := hidd r9; have K9 := hidd (keep1_stepB (k3.out.step ((Below.refl _ _).alloc (Nat.le_refl _) (.cells zeroBlind 42))) (hw9.below b8.out)); clear hw9 r9) | (go_at_call 53; refine (HV.out _ _ R9.out).mono ?_; rintro e w10 ⟨rfl, rfl⟩) | (refine wpList_store_at rfl _ _ _ rfl w.heap.size 0 rfl 5 zeroBlind zeroBlind rfl agg_blind K9.out.row rfl (by decide) (by decide) ?_; intro w11 hw11 r11))
        rw [over_all rfl] at r11
        refine bodyPost_ret (v := .tuple #[.agg zeroBlind, .int .i64 5]) (results_row2 rfl agg_blind _ _ _ _ rfl _ rfl rfl r11) rfl ⟨by rw [fin.out], K9.out.below.trans (hw11.below (by omega))⟩
      · have fin := hidd (bo_yes (FI.out.1 ⟨rfl, rfl, rfl, rfl, rfl, ho⟩))
        rw [ho] at HV
        clear ho
        go_wp2_with (first | (go_at_call 66; refine (tilt_spec _ _).mono ?_; rintro e w' ⟨rfl, rfl⟩) | (refine wpList_store_at rfl _ _ _ rfl w8.heap.size 0 rfl 5 zeroBlind (blindCells n wd gp t sh) rfl agg_blind (Row.new w8 zeroBlind 42) rfl (by decide) (blind_one _ _ _ _ _) ?_; intro w9 hw9 r9; rw [over_all (cs := zeroBlind) (xs := blindCells n wd gp t sh) rfl] at r9; have R9 := hidd r9; have K9 := hidd (keep1_stepB (k3.out.step ((Below.refl _ _).alloc (Nat.le_refl _) (.cells zeroBlind 42))) (hw9.below b8.out)); clear hw9 r9) | (go_at_call 53; refine (HV.out _ _ R9.out).mono ?_; rintro e w10 ⟨rfl, rfl⟩) | (refine wpList_load_all rfl _ _ rfl _ rfl (blindCells n wd gp t sh) 5 agg_blind rfl R9.out ?_) | (refine wpList_store_at rfl _ _ _ rfl w.heap.size 0 rfl 5 zeroBlind (blindCells n wd gp t sh) rfl agg_blind K9.out.row rfl (by decide) (blind_one _ _ _ _ _) ?_; intro w11 hw11 r11))
        rw [over_all (cs := zeroBlind) (xs := blindCells n wd gp t sh) rfl] at r11
        refine bodyPost_ret (v := .tuple #[.agg (blindCells n wd gp t sh), .int .i64 0]) (results_row2 rfl agg_blind _ _ _ _ rfl _ rfl rfl r11) rfl ⟨by rw [fin.out], K9.out.below.trans (hw11.below (by omega))⟩
    · have fin := hidd (bo_no (FI.out.2 (fun h => hno ⟨h.2.2.2.2.2, h.1, h.2.1, h.2.2.1, h.2.2.2.1, h.2.2.2.2.1⟩)))
      clear hno
      rcases ways with rfl | ⟨rfl, rfl⟩ | ⟨rfl, rfl, rfl⟩ | ⟨rfl, rfl, rfl, rfl⟩ | ⟨rfl, rfl, rfl, rfl, rfl⟩ | ⟨rfl, rfl, rfl, rfl, rfl, r1⟩ | ⟨rfl, rfl, rfl, rfl, rfl, r1, r2⟩
      all_goals
        go_wp2_with (first | (go_at_call 66; refine (tilt_spec _ _).mono ?_; rintro e w' ⟨rfl, rfl⟩) | (refine wpList_store_at rfl _ _ _ rfl _ 0 rfl 5 zeroBlind zeroBlind rfl agg_blind k3.out.row rfl (by decide) (by decide) ?_; intro w9 hw9 r9))
        rw [over_all rfl] at r9
        refine bodyPost_ret (v := .tuple #[.agg zeroBlind, .int .i64 5]) (results_row2 rfl agg_blind _ _ _ _ rfl _ rfl rfl r9) rfl ⟨by rw [fin.out], k3.out.below.trans (hw9.below (by omega))⟩
  · have fin := hidd (bo_no (rb_len (l := l) (by rw [← hx, List.length_map]; exact h5)))
    have h5' : ((xs.length : Int) != 5) = true := by rw [bne_iff_ne]; omega
    clear hx hb3 hsm hg hcell h5 own hpos
    go_wp2_with (refine wpList_store_at rfl _ _ _ rfl _ 0 rfl 5 zeroBlind zeroBlind rfl agg_blind k3.out.row rfl (by decide) (by decide) ?_; intro w9 hw9 r9)
    rw [over_all rfl] at r9
    refine bodyPost_ret (v := .tuple #[.agg zeroBlind, .int .i64 5]) (results_row2 rfl agg_blind _ _ _ _ rfl _ rfl rfl r9) rfl ⟨by rw [fin.out], k3.out.below.trans (hw9.below (by omega))⟩
end Go.Proofs.YtfiifnlnkedahaaDoor
