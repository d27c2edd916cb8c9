/-
  'Rows.FnTiltsSaid': for every input the law 'FnTilts' returns true and leaves its arguments as they were. No condition.
-/
import Derived.Test.YtjbfnbdigaodoaaRo
import Derived.Test.YtjbfnbdigaodoaaRib
import Derived.Test.YtjbfnbdigaodoaaWtc
import Derived.Test.YtjbfnbdigaodoaaWcl
namespace Go.Proofs.Ytjbfnbdigaodoaa
open Go.ChangeShapes Go.WideShapes Go.ChangeAt Go.RowKit Go.Proofs.Fl Go.Proofs.Pl
set_option linter.unusedVariables false

set_option maxRecDepth 100000 in
set_option maxHeartbeats 8000000 in
theorem walk_fnTilts (w : World) (Ca : Option Addr) (Cc : Nat) (C : List Int) (hC5 : C.length ≤ 9223372036854775807) (hC6 : ArgBytes w Ca C) (Da : Option Addr) (Dc : Nat) (D : List Int) (hD5 : D.length ≤ 9223372036854775807) (hD6 : ArgBytes w Da D) :
    Calls Try.prog 4 #[.slice Ca C.length Cc, .slice Da D.length Dc] w fun e w' => e = .returned (.bool true) ∧ Below w.heap.size w w' := by
  by_cases hbig : C.length ≤ 3000 ∧ D.length ≤ 3000
  · obtain ⟨hC3, hD3⟩ := hbig
    have HC := hidd hC6
    have HD := hidd hD6
    clear hC6 hD6
    go_enter Try.func4, Try.ntmps4
    go_wp2_with (go_at_call 5; refine (long_no Ca Da _ _ Cc Dc hC3 hD3 _).mono ?_; rintro e w' ⟨rfl, rfl⟩)
    refine (blind_any Ca Cc C hC3 _ HC.out).mono ?_
    rintro e w1 ⟨n, wd, g, t, s, rfl, hd, hb⟩
    have hd' := hidd hd
    have d1 := hd.n1
    have d2 := hd.n2
    have d3 := hd.t1
    have d4 := hd.t2
    have K := hidd (show TK w w1.heap.size (blindCells n wd g t s) Ca C Da D (w1.alloc (.cells (blindCells n wd g t s) 40)) from ⟨hb.alloc hb.size _, Row.new _ _ _, (HC.out.step hb).step ((Below.refl _ _).alloc (Nat.le_refl _) _), (HD.out.step hb).step ((Below.refl _ _).alloc (Nat.le_refl _) _)⟩)
    clear hb HC HD hd
    go_wp2_with fail
    refine (at_any Da Dc D hD3 0 (by omega) 64 (by omega) _ K.out.argD).mono ?_
    rintro e w2 ⟨x, rfl, x0, x1, x2, rfl⟩
    have hh1 : 1 ≤ 1 + x := by omega
    have hh2 : 1 + x ≤ 64 := by omega
    go_wp2_with fail
    refine (part_any Da Dc D hD3 _ K.out.argD).mono ?_
    rintro e w3 ⟨wn, rfl, hwn, hb⟩
    replace K := hidd (K.out.step hb)
    have hp := hidd hwn
    clear hb hwn
    go_wp2_with fail
    refine (part_any Ca Cc C hC3 _ K.out.argC).mono ?_
    rintro e w4 ⟨lo2, rfl, hlo, hb⟩
    replace K := hidd (K.out.step hb)
    have hlo' := hidd (half_tone hlo)
    have fl := hlo.1
    have f2 : Fnt 1073741824 := by decide
    have f2' : rung 1073741824 ≠ 0 := by decide
    clear hb hlo
    generalize hH : 1 + x = h at *
    clear x0 x1 x2
    go_wp2_with (refine wpList_load_all rfl _ _ rfl _ rfl (blindCells n wd g t s) 5 agg_blind rfl K.out.row ?_)
    refine (tf_i n wd g t s hd'.out h hh1 hh2 _ wn hp.out.part).mono ?_
    rintro e w5 ⟨rfl, hb⟩
    replace K := hidd (K.out.step hb)
    clear hb
    clear fl f2 f2' hH
    go_wp2_with (refine wpList_load_all rfl _ _ rfl _ rfl (blindCells n wd g t s) 5 agg_blind rfl K.out.row ?_)
    refine (tf_s n wd g t s hd'.out h hh1 hh2 _ wn hp.out.part).mono ?_
    rintro e w6 ⟨rfl, hb⟩
    replace K := hidd (K.out.step hb)
    clear hb
    go_wp2_with (refine wpList_load_all rfl _ _ rfl _ rfl (blindCells n wd g t s) 5 agg_blind rfl K.out.row ?_)
    refine (st_i n wd g t s hd'.out h hh1 hh2 _).mono ?_
    rintro e w7 ⟨v1, rfl, hb, hl⟩
    replace K := hidd (K.out.step hb)
    have S1 := hidd hl
    clear hb hl
    go_wp2_with (refine wpList_load_all rfl _ _ rfl _ rfl (blindCells n wd g t s) 5 agg_blind rfl K.out.row ?_)
    refine (st_s n wd g t s hd'.out h hh1 hh2 _).mono ?_
    rintro e w8 ⟨v2, rfl, hb, hl⟩
    replace K := hidd (K.out.step hb)
    replace S1 := hidd (S1.out.step hb)
    have S2 := hidd hl
    clear hb hl
    go_wp2_with (refine wpList_load_all rfl _ _ rfl _ rfl (blindCells n wd g t s) 5 agg_blind rfl K.out.row ?_)
    refine (tw_i n wd g t s hd'.out h hh1 hh2 _ _ wn hlo'.out.part hp.out.part).mono ?_
    rintro e w9 ⟨v3, rfl, hb, hl⟩
    replace K := hidd (K.out.step hb)
    replace S1 := hidd (S1.out.step hb)
    replace S2 := hidd (S2.out.step hb)
    have S3 := hidd hl
    clear hb hl
    go_wp2_with (refine wpList_load_all rfl _ _ rfl _ rfl (blindCells n wd g t s) 5 agg_blind rfl K.out.row ?_)
    refine (tw_s n wd g t s hd'.out h hh1 hh2 _ _ wn hlo'.out.part hp.out.part).mono ?_
    rintro e w10 ⟨v4, rfl, hb, hl⟩
    replace K := hidd (K.out.step hb)
    replace S1 := hidd (S1.out.step hb)
    replace S2 := hidd (S2.out.step hb)
    replace S3 := hidd (S3.out.step hb)
    have S4 := hidd hl
    clear hb hl
    go_wp2_with (refine wpList_load_all rfl _ _ rfl _ rfl (blindCells n wd g t s) 5 agg_blind rfl K.out.row ?_)
    refine (co_i n wd g t s hd'.out h hh1 hh2 _).mono ?_
    rintro e w11 ⟨rfl, hb⟩
    replace K := hidd (K.out.step hb)
    replace S1 := hidd (S1.out.step hb)
    replace S2 := hidd (S2.out.step hb)
    replace S3 := hidd (S3.out.step hb)
    replace S4 := hidd (S4.out.step hb)
    clear hb
    go_wp2_with (refine wpList_load_all rfl _ _ rfl _ rfl (blindCells n wd g t s) 5 agg_blind rfl K.out.row ?_)
    refine (co_s n wd g t s hd'.out h hh1 hh2 _).mono ?_
    rintro e w12 ⟨rfl, hb⟩
    replace K := hidd (K.out.step hb)
    replace S1 := hidd (S1.out.step hb)
    replace S2 := hidd (S2.out.step hb)
    replace S3 := hidd (S3.out.step hb)
    replace S4 := hidd (S4.out.step hb)
    clear hb
    generalize fdiv lo2 1073741824 = lo at *
    have hnr := near_in wd g s h wn
    have HN := hidd (near_spec n wd g t s hd'.out h hh1 hh2 wn hp.out.part)
    obtain ⟨fB, fW, fS, fS2⟩ := tdist_steps (nearOf wd g s h wn) hd'.out.hw hd'.out.hg hd'.out.hs.part hh1 hh2 hp.out.part
    generalize nearOf wd g s h wn = be at *
    obtain ⟨b0, b1⟩ := hnr
    have fs := same_self fB
    have HCut := hidd (fun k => cut_at (so := shutSo wd g h) (k := k))
    have HEnd := hidd (cut_code' (shutSo wd g h))
    have hcc : (cutOf (shutSo wd g h)).2 = 0 ∨ (cutOf (shutSo wd g h)).2 = 6 := by rw [cut_code']; split <;> simp
    generalize (cutOf (shutSo wd g h)) = co at *
    obtain ⟨cf, cc⟩ := co
    replace hcc : cc = 0 ∨ cc = 6 := hcc
    have HEnd2 := hidd (show cc = if fnd (shutSo wd g h) 129 = true then 0 else 6 from HEnd.out)
    have HCut2 := hidd (show ∀ k : Nat, k < 129 → shutSo wd g h ((k : Int) - 64) = true → 0 ≤ (k : Int) - 64 → fnd (shutSo wd g h) k = false → cf = (k : Int) - 64 ∧ cc = 0 from fun k a b c d => by have := HCut.out k a b c d; exact ⟨congrArg (·.1) this, congrArg (·.2) this⟩)
    clear HEnd HCut
    rcases hcc with rfl | rfl
    · as_aux_lemma =>
        go_wp2_with (first | (go_at_call 10; refine (same_spec _ _ _).mono ?_; rintro e w' ⟨rfl, rfl⟩))
        refine (same_lst _ _ _ (tl129_len _) _ S1.out S2.out).mono ?_
        rintro e w13 ⟨rfl, hb⟩
        replace K := hidd (K.out.step hb)
        replace S1 := hidd (S1.out.step hb)
        replace S2 := hidd (S2.out.step hb)
        replace S3 := hidd (S3.out.step hb)
        replace S4 := hidd (S4.out.step hb)
        clear hb
        go_wp2_with fail
        refine (same_lst _ _ _ (tl129_len _) _ S3.out S4.out).mono ?_
        rintro e w14 ⟨rfl, hb⟩
        replace K := hidd (K.out.step hb)
        replace S2 := hidd (S2.out.step hb)
        replace S4 := hidd (S4.out.step hb)
        clear hb S1 S3
        go_wp2_with (go_at_call 14; refine (size2_any _ fS fS2 _).mono ?_; rintro e wz ⟨rfl, rfl⟩)
        clear fS fS2 fs
        go_loopw [28, 29] (fun v i wr => ∃ k : Nat, k ≤ 129 ∧ i = .int .i64 ((k : Int) - 64) ∧ v = .bool (fnd (shutSo wd g h) k) ∧ TK w w1.heap.size (blindCells n wd g t s) Ca C Da D wr ∧ Lst v2 (tl129 (shutSo wd g h)) wr ∧ Lst v4 (tl129 (inSo wd g s h lo wn)) wr) (fun _ i _ => (65 - intOf i).toNat)
        case atStart => exact ⟨0, by omega, rfl, rfl, K.out, S2.out, S4.out⟩
        case round =>
          as_aux_lemma =>
            obtain ⟨k, hk, rfl, rfl, hK, hS2, hS4⟩ := hrel
            clear K S2 S4
            have K := hidd hK
            have S2 := hidd hS2
            have S4 := hidd hS4
            clear hK hS2 hS4
            by_cases hlt : k < 129
            · obtain ⟨u, hu⟩ : ∃ u, u = (k : Int) - 64 := ⟨_, rfl⟩
              have u1 : -64 ≤ u := by omega
              have u2 : u ≤ 64 := by omega
              rw [← hu]
              have HU := hidd hu
              clear hu
              go_wp2_with (refine wpList_load_all rfl _ _ rfl _ rfl (blindCells n wd g t s) 5 agg_blind rfl K.out.row ?_)
              refine (tt_i n wd g t s hd'.out _ u u1 u2).mono ?_
              rintro e w15 ⟨rfl, hb⟩
              replace K := hidd (K.out.step hb)
              replace S2 := hidd (S2.out.step hb)
              replace S4 := hidd (S4.out.step hb)
              have T := hidd (Row.new w15 (blindCells n wd g u s) 40)
              replace K := hidd (K.out.step (below_new w15 (.cells (blindCells n wd g u s) 40)))
              replace S2 := hidd (S2.out.step (below_new w15 (.cells (blindCells n wd g u s) 40)))
              replace S4 := hidd (S4.out.step (below_new w15 (.cells (blindCells n wd g u s) 40)))
              have q0 : (w15.alloc (.cells #[.int .i8 n, .float .f32 wd, .float .f32 g, .int .i16 u, .float .f32 s] 40)).cell? ⟨w1.heap.size, 0, none⟩ = some (.int .i8 n) := (K.out.row.cell 0).trans (show (blindCells n wd g t s)[0]? = some (.int .i8 n) from rfl)
              clear hb
              go_wp2_with (refine wpList_load_all rfl _ _ rfl _ rfl (blindCells n wd g u s) 5 agg_blind rfl T.out ?_)
              refine (pf_i n wd g u s (DB.tilt n wd g t s hd'.out u u1 u2) h hh1 hh2 _).mono ?_
              rintro e w16 ⟨rfl, hb⟩
              replace K := hidd (K.out.step hb)
              replace S2 := hidd (S2.out.step hb)
              replace S4 := hidd (S4.out.step hb)
              replace T := hidd (T.out.below hb T.out.lt)
              clear hb q0
              go_wp2_with (refine wpList_load_all rfl _ _ rfl _ rfl (blindCells n wd g u s) 5 agg_blind rfl T.out ?_)
              refine (of_i n wd g u s (DB.tilt n wd g t s hd'.out u u1 u2) h hh1 hh2 _).mono ?_
              rintro e w17 ⟨rfl, hb⟩
              replace K := hidd (K.out.step hb)
              replace S2 := hidd (S2.out.step hb)
              replace S4 := hidd (S4.out.step hb)
              clear hb T
              obtain ⟨fu, _, fO, fO2⟩ := tdist_steps (wanted := wn) u hd'.out.hw hd'.out.hg hd'.out.hs.part hh1 hh2 hp.out.part
              have HNu := hidd (HN.out u u1 u2)
              go_upto_region 28 with (go_at_call 14; refine (size2_any _ fO fO2 _).mono ?_; rintro e wz ⟨rfl, rfl⟩)
              go_cut [271] from 218 to 271 (fun s271 wx => s271 = .bool false ∧ wx = w17)
              case first =>
                as_aux_lemma =>
                  obtain ⟨fg, fh⟩ := HNu.out
                  unfold tdist at fg fh
                  by_cases hub : u < be
                  · have fh' := fh hub
                    have nE : (u == be) = false := by simp; omega
                    clear fh
                    go_wp2_with (first | ((with_reducible refine (has_shut v2 wd g h u u1 u2 _ S2.out).mono ?_); rintro e wz ⟨rfl, rfl⟩) | ((with_reducible refine (has_in v4 wd g s h lo wn u u1 u2 _ S4.out).mono ?_); rintro e wz ⟨rfl, rfl⟩))
                    all_goals (go_meet; exact ⟨by simp [*], rfl⟩)
                  · clear fh
                    by_cases hue : u = be
                    · have fx : fne (pass wd g u s h) (pass wd g be s h) = false := by rw [← hue, fne_not, feq_fin fu fu]; simp
                      have nE : (u == be) = true := by simp [hue]
                      clear hue
                      go_wp2_with (first | ((with_reducible refine (has_shut v2 wd g h u u1 u2 _ S2.out).mono ?_); rintro e wz ⟨rfl, rfl⟩) | ((with_reducible refine (has_in v4 wd g s h lo wn u u1 u2 _ S4.out).mono ?_); rintro e wz ⟨rfl, rfl⟩))
                      all_goals (go_meet; exact ⟨by simp [*], rfl⟩)
                    · have nE : (u == be) = false := by simp [hue]
                      go_wp2_with (first | ((with_reducible refine (has_shut v2 wd g h u u1 u2 _ S2.out).mono ?_); rintro e wz ⟨rfl, rfl⟩) | ((with_reducible refine (has_in v4 wd g s h lo wn u u1 u2 _ S4.out).mono ?_); rintro e wz ⟨rfl, rfl⟩))
                      all_goals (go_meet; exact ⟨by simp [*], rfl⟩)
              case rest =>
                as_aux_lemma =>
                  obtain ⟨rfl, rfl⟩ := hcut
                  have hnum := hidd (show ((k + 1 : Nat) : Int) - 64 = u + 1 by have := HU.out; omega)
                  rcases bool_or (feq (opn wd g u h) 0) with o | o
                  · have FS := hidd (fnd_same (so := shutSo wd g h) (k := k) (.inl (by rw [← HU.out]; exact o)))
                    go_wp2
                    all_goals go_roundw
                    all_goals first | (exact ⟨k + 1, by omega, by rw [hnum.out], by rw [FS.out], K.out, S2.out, S4.out⟩) | (simp [intOf]; done) | (simp [intOf]; omega)
                  · by_cases hu0 : 0 ≤ u
                    · cases hf : fnd (shutSo wd g h) k
                      · have HC2 := hidd (HCut2.out k hlt (by rw [← HU.out]; exact o) (by rw [← HU.out]; exact hu0) hf)
                        have FS := hidd (fnd_hit (so := shutSo wd g h) (k := k) (by rw [← HU.out]; exact o) (by rw [← HU.out]; exact hu0) hf)
                        obtain rfl : cf = u := by rw [HU.out]; exact HC2.out.1
                        clear hf
                        go_wp2
                        all_goals go_roundw
                        all_goals first | (exact ⟨k + 1, by omega, by rw [hnum.out], by rw [FS.out], K.out, S2.out, S4.out⟩) | (simp [intOf]; done) | (simp [intOf]; omega)
                      · have FS := hidd (fnd_same (so := shutSo wd g h) (k := k) (.inr (.inr hf)))
                        have hf' := hidd hf
                        clear hf
                        go_wp2
                        all_goals go_roundw
                        all_goals first | (exact ⟨k + 1, by omega, by rw [hnum.out], by rw [FS.out, hf'.out], K.out, S2.out, S4.out⟩) | (simp [intOf]; done) | (simp [intOf]; omega)
                    · have FS := hidd (fnd_same (so := shutSo wd g h) (k := k) (.inr (.inl (by rw [← HU.out]; omega))))
                      go_wp2
                      all_goals go_roundw
                      all_goals first | (exact ⟨k + 1, by omega, by rw [hnum.out], by rw [FS.out], K.out, S2.out, S4.out⟩) | (simp [intOf]; done) | (simp [intOf]; omega)
            · obtain rfl : k = 129 := by omega
              have fe : fnd (shutSo wd g h) 129 = true := by
                have q := HEnd2.out
                cases c : fnd (shutSo wd g h) 129
                · rw [c] at q; exact absurd q (by decide)
                · rfl
              go_wp2
              go_ret; exact ⟨rfl, K.out.below⟩
    · as_aux_lemma =>
        go_wp2_with (first | (go_at_call 10; refine (same_spec _ _ _).mono ?_; rintro e w' ⟨rfl, rfl⟩))
        refine (same_lst _ _ _ (tl129_len _) _ S1.out S2.out).mono ?_
        rintro e w13 ⟨rfl, hb⟩
        replace K := hidd (K.out.step hb)
        replace S1 := hidd (S1.out.step hb)
        replace S2 := hidd (S2.out.step hb)
        replace S3 := hidd (S3.out.step hb)
        replace S4 := hidd (S4.out.step hb)
        clear hb
        go_wp2_with fail
        refine (same_lst _ _ _ (tl129_len _) _ S3.out S4.out).mono ?_
        rintro e w14 ⟨rfl, hb⟩
        replace K := hidd (K.out.step hb)
        replace S2 := hidd (S2.out.step hb)
        replace S4 := hidd (S4.out.step hb)
        clear hb S1 S3
        go_wp2_with (go_at_call 14; refine (size2_any _ fS fS2 _).mono ?_; rintro e wz ⟨rfl, rfl⟩)
        clear fS fS2 fs
        go_loopw [28, 29] (fun v i wr => ∃ k : Nat, k ≤ 129 ∧ i = .int .i64 ((k : Int) - 64) ∧ v = .bool (fnd (shutSo wd g h) k) ∧ TK w w1.heap.size (blindCells n wd g t s) Ca C Da D wr ∧ Lst v2 (tl129 (shutSo wd g h)) wr ∧ Lst v4 (tl129 (inSo wd g s h lo wn)) wr) (fun _ i _ => (65 - intOf i).toNat)
        case atStart => exact ⟨0, by omega, rfl, rfl, K.out, S2.out, S4.out⟩
        case round =>
          as_aux_lemma =>
            obtain ⟨k, hk, rfl, rfl, hK, hS2, hS4⟩ := hrel
            clear K S2 S4
            have K := hidd hK
            have S2 := hidd hS2
            have S4 := hidd hS4
            clear hK hS2 hS4
            by_cases hlt : k < 129
            · obtain ⟨u, hu⟩ : ∃ u, u = (k : Int) - 64 := ⟨_, rfl⟩
              have u1 : -64 ≤ u := by omega
              have u2 : u ≤ 64 := by omega
              rw [← hu]
              have HU := hidd hu
              clear hu
              go_wp2_with (refine wpList_load_all rfl _ _ rfl _ rfl (blindCells n wd g t s) 5 agg_blind rfl K.out.row ?_)
              refine (tt_i n wd g t s hd'.out _ u u1 u2).mono ?_
              rintro e w15 ⟨rfl, hb⟩
              replace K := hidd (K.out.step hb)
              replace S2 := hidd (S2.out.step hb)
              replace S4 := hidd (S4.out.step hb)
              have T := hidd (Row.new w15 (blindCells n wd g u s) 40)
              replace K := hidd (K.out.step (below_new w15 (.cells (blindCells n wd g u s) 40)))
              replace S2 := hidd (S2.out.step (below_new w15 (.cells (blindCells n wd g u s) 40)))
              replace S4 := hidd (S4.out.step (below_new w15 (.cells (blindCells n wd g u s) 40)))
              have q0 : (w15.alloc (.cells #[.int .i8 n, .float .f32 wd, .float .f32 g, .int .i16 u, .float .f32 s] 40)).cell? ⟨w1.heap.size, 0, none⟩ = some (.int .i8 n) := (K.out.row.cell 0).trans (show (blindCells n wd g t s)[0]? = some (.int .i8 n) from rfl)
              clear hb
              go_wp2_with (refine wpList_load_all rfl _ _ rfl _ rfl (blindCells n wd g u s) 5 agg_blind rfl T.out ?_)
              refine (pf_i n wd g u s (DB.tilt n wd g t s hd'.out u u1 u2) h hh1 hh2 _).mono ?_
              rintro e w16 ⟨rfl, hb⟩
              replace K := hidd (K.out.step hb)
              replace S2 := hidd (S2.out.step hb)
              replace S4 := hidd (S4.out.step hb)
              replace T := hidd (T.out.below hb T.out.lt)
              clear hb q0
              go_wp2_with (refine wpList_load_all rfl _ _ rfl _ rfl (blindCells n wd g u s) 5 agg_blind rfl T.out ?_)
              refine (of_i n wd g u s (DB.tilt n wd g t s hd'.out u u1 u2) h hh1 hh2 _).mono ?_
              rintro e w17 ⟨rfl, hb⟩
              replace K := hidd (K.out.step hb)
              replace S2 := hidd (S2.out.step hb)
              replace S4 := hidd (S4.out.step hb)
              clear hb T
              obtain ⟨fu, _, fO, fO2⟩ := tdist_steps (wanted := wn) u hd'.out.hw hd'.out.hg hd'.out.hs.part hh1 hh2 hp.out.part
              have HNu := hidd (HN.out u u1 u2)
              go_upto_region 28 with (go_at_call 14; refine (size2_any _ fO fO2 _).mono ?_; rintro e wz ⟨rfl, rfl⟩)
              go_cut [271] from 218 to 271 (fun s271 wx => s271 = .bool false ∧ wx = w17)
              case first =>
                as_aux_lemma =>
                  obtain ⟨fg, fh⟩ := HNu.out
                  unfold tdist at fg fh
                  by_cases hub : u < be
                  · have fh' := fh hub
                    have nE : (u == be) = false := by simp; omega
                    clear fh
                    go_wp2_with (first | ((with_reducible refine (has_shut v2 wd g h u u1 u2 _ S2.out).mono ?_); rintro e wz ⟨rfl, rfl⟩) | ((with_reducible refine (has_in v4 wd g s h lo wn u u1 u2 _ S4.out).mono ?_); rintro e wz ⟨rfl, rfl⟩))
                    all_goals (go_meet; exact ⟨by simp [*], rfl⟩)
                  · clear fh
                    by_cases hue : u = be
                    · have fx : fne (pass wd g u s h) (pass wd g be s h) = false := by rw [← hue, fne_not, feq_fin fu fu]; simp
                      have nE : (u == be) = true := by simp [hue]
                      clear hue
                      go_wp2_with (first | ((with_reducible refine (has_shut v2 wd g h u u1 u2 _ S2.out).mono ?_); rintro e wz ⟨rfl, rfl⟩) | ((with_reducible refine (has_in v4 wd g s h lo wn u u1 u2 _ S4.out).mono ?_); rintro e wz ⟨rfl, rfl⟩))
                      all_goals (go_meet; exact ⟨by simp [*], rfl⟩)
                    · have nE : (u == be) = false := by simp [hue]
                      go_wp2_with (first | ((with_reducible refine (has_shut v2 wd g h u u1 u2 _ S2.out).mono ?_); rintro e wz ⟨rfl, rfl⟩) | ((with_reducible refine (has_in v4 wd g s h lo wn u u1 u2 _ S4.out).mono ?_); rintro e wz ⟨rfl, rfl⟩))
                      all_goals (go_meet; exact ⟨by simp [*], rfl⟩)
              case rest =>
                as_aux_lemma =>
                  obtain ⟨rfl, rfl⟩ := hcut
                  have hnum := hidd (show ((k + 1 : Nat) : Int) - 64 = u + 1 by have := HU.out; omega)
                  rcases bool_or (feq (opn wd g u h) 0) with o | o
                  · have FS := hidd (fnd_same (so := shutSo wd g h) (k := k) (.inl (by rw [← HU.out]; exact o)))
                    go_wp2
                    all_goals go_roundw
                    all_goals first | (exact ⟨k + 1, by omega, by rw [hnum.out], by rw [FS.out], K.out, S2.out, S4.out⟩) | (simp [intOf]; done) | (simp [intOf]; omega)
                  · by_cases hu0 : 0 ≤ u
                    · cases hf : fnd (shutSo wd g h) k
                      · have HC2 := (HCut2.out k hlt (by rw [← HU.out]; exact o) (by rw [← HU.out]; exact hu0) hf).2
                        exact absurd HC2 (by decide)
                      · have FS := hidd (fnd_same (so := shutSo wd g h) (k := k) (.inr (.inr hf)))
                        have hf' := hidd hf
                        clear hf
                        go_wp2
                        all_goals go_roundw
                        all_goals first | (exact ⟨k + 1, by omega, by rw [hnum.out], by rw [FS.out, hf'.out], K.out, S2.out, S4.out⟩) | (simp [intOf]; done) | (simp [intOf]; omega)
                    · have FS := hidd (fnd_same (so := shutSo wd g h) (k := k) (.inr (.inl (by rw [← HU.out]; omega))))
                      go_wp2
                      all_goals go_roundw
                      all_goals first | (exact ⟨k + 1, by omega, by rw [hnum.out], by rw [FS.out], K.out, S2.out, S4.out⟩) | (simp [intOf]; done) | (simp [intOf]; omega)
            · obtain rfl : k = 129 := by omega
              have fe : fnd (shutSo wd g h) 129 = false := by
                have q := HEnd2.out
                cases c : fnd (shutSo wd g h) 129
                · rfl
                · rw [c] at q; exact absurd q (by decide)
              go_wp2
              go_ret; exact ⟨rfl, K.out.below⟩
  · go_enter Try.func4, Try.ntmps4
    go_wp2_with (go_at_call 5; refine (long_yes Ca Da _ _ Cc Dc hC5 hD5 hbig _).mono ?_; rintro e w' ⟨rfl, rfl⟩)
    go_ret; exact ⟨rfl, Below.refl _ _⟩

set_option maxRecDepth 100000 in
theorem lifted_fnTilts (os : Os) (started : os.Started) (H : Type) (enc : TypeId × Value → H) :
    ReturnsInHanded {} Try.checked os 4 .any (Rows.fnTiltsSpec.pre6 enc Try.prog Try.f4 Rows.fnTiltsRow.domain false) (Rows.fnTiltsSpec.post enc Try.prog Try.f4 false true false false) := by
  refine returnsInHanded_of_change (C := Try.checked) own started (by kernel_rfl) Try.func4
    (ChangeSpec.witness6 (enc := enc) (C := Try.checked) false ⟨#[], #[.slice none 0 0, .slice none 0 0], []⟩ 60 (by kernel_rfl) (by kernel_rfl) (by kernel_rfl) (by kernel_rfl)) ?_
  intro W base args ds gs before hval0 hW hcnd _
  have hval : ∀ (j : Nat) t v, Try.f4.params[j]? = some t → args[j]? = some v → Value.okWide Try.prog W .any base t v := hval0
  have hW' := hW
  obtain ⟨p, q, hA0, hV, rfl, hfz, hnd⟩ := hW
  have hA : DataW.TrodAll enc Try.prog W 0 (fun _ => true) true Try.f4.params.toList args.toList ds p := hA0
  rw [Try.params4] at hA hval
  obtain ⟨v0, vs0, d0, ds0, p0, q0, hargs, rfl, rfl, h0, r0⟩ := trodAll_cons hA
  obtain ⟨v1, vs1, d1, ds1, p1, q1, rfl, rfl, rfl, h1, r1⟩ := trodAll_cons r0
  obtain ⟨rfl, rfl, rfl⟩ := trodAll_nil r1
  obtain rfl : args = #[v0, v1] := by cases args; simp_all
  obtain ⟨rfl, rfl⟩ := trodVars_none hV
  have lt0 : ∀ x ∈ p0, x.block < W.heap.size := by obtain ⟨m, hm⟩ := h0; exact DataW.trod_lt m _ _ _ hm
  have lt1 : ∀ x ∈ p1, x.block < W.heap.size := by obtain ⟨m, hm⟩ := h1; exact DataW.trod_lt m _ _ _ hm
  obtain ⟨Ca, Cc, C, rfl, hC5, hC6⟩ := arg_bytes (hval 0 22 v0 rfl rfl) h0
  obtain ⟨Da, Dc, D, rfl, hD5, hD6⟩ := arg_bytes (hval 1 22 v1 rfl rfl) h1
  clear hA0 hval0
  refine (walk_fnTilts W Ca Cc C hC5 hC6 Da Dc D hD5 hD6).mono fun e W' ⟨he, bel⟩ => ?_
  subst he
  exact ⟨_, rfl, _, _, _, [], _, [], hW', trodAll_mk1 (shut_bool Try.underlying4 _), (trodAll_cons_mk (Below.trod laidOut (by kernel_rfl) (of_decide_eq_true (by kernel_rfl)) h0 bel lt0) (trodAll_cons_mk (Below.trod laidOut (by kernel_rfl) (of_decide_eq_true (by kernel_rfl)) h1 bel lt1) trodAll_mk0)), rfl, bel.frame _, fun h => by cases h⟩

/-- THE STATEMENT. -/
theorem fnTilts_holds : Rows.FnTiltsSaid :=
  OpenClaim.holds_of_wide 4 Try.f4 rfl rfl rfl rfl rfl rfl rfl ⟨rfl, rfl, rfl, rfl, rfl⟩ rfl rfl rfl rfl rfl (by kernel_rfl) Try.func4 (by kernel_rfl)
    (of_decide_eq_true (by kernel_rfl)) (by unfold Func.isWrapper; first | (rw [if_pos (by decide +kernel)]; kernel_rfl) | (rw [if_neg (by decide +kernel)]; exact ⟨rfl, rfl⟩))
    (fun os started H enc _ => lifted_fnTilts os started H enc)
#print axioms fnTilts_holds
end Go.Proofs.Ytjbfnbdigaodoaa
