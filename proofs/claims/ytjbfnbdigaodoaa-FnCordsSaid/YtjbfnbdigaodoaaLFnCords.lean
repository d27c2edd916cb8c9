/-
  'Rows.FnCordsSaid': for every input the law 'FnCords' returns true and leaves its arguments as they were. No condition.
-/
import Derived.Test.YtjbfnbdigaodoaaRo
import Derived.Test.YtjbfnbdigaodoaaRib
import Derived.Test.YtjbfnbdigaodoaaWcl
namespace Go.Proofs.Ytjbfnbdigaodoaa
open Go.ChangeShapes Go.WideShapes Go.ChangeAt Go.RowKit Go.Proofs.Fl Go.Proofs.Pl
set_option linter.unusedVariables false

set_option maxRecDepth 100000 in
set_option maxHeartbeats 8000000 in
theorem walk_fnCords (w : World) (Ca : Option Addr) (Cc : Nat) (C : List Int) (hC5 : C.length ≤ 9223372036854775807) (hC6 : ArgBytes w Ca C) (Da : Option Addr) (Dc : Nat) (D : List Int) (hD5 : D.length ≤ 9223372036854775807) (hD6 : ArgBytes w Da D) :
    Calls Try.prog 3 #[.slice Ca C.length Cc, .slice Da D.length Dc] w fun e w' => e = .returned (.bool true) ∧ Below w.heap.size w w' := by
  by_cases hbig : C.length ≤ 3000 ∧ D.length ≤ 3000
  · obtain ⟨hC3, hD3⟩ := hbig
    have HC := hidd hC6
    have HD := hidd hD6
    clear hC6 hD6
    go_enter Try.func3, Try.ntmps3
    go_wp2_with (go_at_call 5; refine (long_no Ca Da _ _ Cc Dc hC3 hD3 _).mono ?_; rintro e w' ⟨rfl, rfl⟩)
    refine (cord_any Ca Cc C hC3 _ HC.out).mono ?_
    rintro e w1 ⟨l, s, n, rfl, hc, hs, hn, hb⟩
    obtain ⟨c1, c2, c3, c4⟩ := cordOk_of hc
    obtain ⟨m, rfl⟩ := Int.eq_ofNat_of_zero_le (show 0 ≤ n by omega)
    have m1 : 1 ≤ m := by omega
    have m2 : m ≤ 20 := by omega
    have c5 := hidd c1
    have hs' := hidd hs
    have hc' := hidd hc
    have K := hidd (show CK w w1.heap.size (cordCells l s (m : Int)) Ca C Da D (w1.alloc (.cells (cordCells l s (m : Int)) 27)) from ⟨hb.alloc hb.size _, Row.new _ _ _, (HC.out.step hb).step ((Below.refl _ _).alloc (Nat.le_refl _) _), (HD.out.step hb).step ((Below.refl _ _).alloc (Nat.le_refl _) _)⟩)
    clear hb HC HD hc c1 c2 hs
    go_wp2_with fail
    refine (part_any Da Dc D hD3 _ K.out.argD).mono ?_
    rintro e w2 ⟨load, rfl, hload, hb⟩
    replace K := hidd (K.out.step hb)
    have hp := hidd hload
    clear hb hload
    go_wp2_with (refine wpList_load_all rfl _ _ rfl _ rfl (cordCells l s (m : Int)) 3 agg_cord rfl K.out.row ?_)
    refine (str_i l s m hc'.out hn load hp.out.part _).mono ?_
    rintro e w3 ⟨rfl, hb⟩
    replace K := hidd (K.out.step hb)
    clear hb
    go_wp2_with (refine wpList_load_all rfl _ _ rfl _ rfl (cordCells l s (m : Int)) 3 agg_cord rfl K.out.row ?_)
    refine (str_s l s m hc'.out hn load hp.out.part _).mono ?_
    rintro e w4 ⟨rfl, hb⟩
    replace K := hidd (K.out.step hb)
    clear hb
    go_wp2_with (refine wpList_load_all rfl _ _ rfl _ rfl (cordCells l s (m : Int)) 3 agg_cord rfl K.out.row ?_)
    refine (str_i l s m hc'.out hn 0 tone_0.part _).mono ?_
    rintro e w5 ⟨rfl, hb⟩
    replace K := hidd (K.out.step hb)
    clear hb
    go_wp2_with (refine wpList_load_all rfl _ _ rfl _ rfl (cordCells l s (m : Int)) 3 agg_cord rfl K.out.row ?_)
    refine (str_i l s m hc'.out hn one tone_one.part _).mono ?_
    rintro e w6 ⟨rfl, hb⟩
    replace K := hidd (K.out.step hb)
    clear hb
    have q0 := (K.out.row.cell 0).trans (show (cordCells l s (m : Int))[0]? = some (.float .f32 l) from rfl)
    have q1 := (K.out.row.cell 1).trans (show (cordCells l s (m : Int))[1]? = some (.float .f32 s) from rfl)
    have q2 := (K.out.row.cell 2).trans (show (cordCells l s (m : Int))[2]? = some (.int .i8 (m : Int)) from rfl)
    have fs := same_self (stretched_steps c5.out hs'.out.part hp.out.part).2.2.2.2.2.1
    have fa := str_0 (l := l) (s := s) c5.out hs'.out
    have fb := str_ge (l := l) (s := s) c5.out hs'.out hp.out
    have fc : fle (stretched l s load) (stretched l s one) = true := str_le (l := l) (s := s) c5.out hs'.out hp.out
    have fe := hc'.out
    go_wp2_with (first | (go_at_call 10; refine (same_spec _ _ _).mono ?_; rintro e w' ⟨rfl, rfl⟩) | (go_at_call 11; refine (cord_impl l s (m : Int) (by omega) (by omega) _).mono ?_; rintro e w7 ⟨rfl, hb⟩; have K7 := hidd (K.out.step hb); clear hb))
    clear q0 q1 q2 fs fa fb fc fe K
    have K := K7
    clear K7
    refine (part_any Ca Cc C hC3 _ K.out.argC).mono ?_
    rintro e w8 ⟨t, rfl, ht, hb⟩
    replace K := hidd (K.out.step hb)
    have hW := hidd (wanted_ok ht)
    have f1 := hW.out.1
    have f64 : Fnt 1115684864 := by decide
    clear hb ht
    go_wp2_with (refine wpList_load_all rfl _ _ rfl _ rfl (cordCells l s (m : Int)) 3 agg_cord rfl K.out.row ?_)
    refine (stop_i l s m hc'.out hn load hp.out.part _ (fmul 1115684864 t) hW.out.2.2.1).mono ?_
    rintro e w9 ⟨rfl, hb⟩
    replace K := hidd (K.out.step hb)
    clear hb
    go_wp2_with (refine wpList_load_all rfl _ _ rfl _ rfl (cordCells l s (m : Int)) 3 agg_cord rfl K.out.row ?_)
    refine (stop_s l s m hc'.out hn load hp.out.part _ (fmul 1115684864 t) hW.out.2.2.1 hW.out.2.2.2).mono ?_
    rintro e w10 ⟨rfl, hb⟩
    replace K := hidd (K.out.step hb)
    clear hb
    clear f1 f64
    have hbm := (best_spec (wanted := fmul 1115684864 t) (k := 0) c5.out hs'.out hp.out hW.out.2.2.1 m1 m2 (by omega)).1
    have HBst := hidd (fun k hk => (best_spec (wanted := fmul 1115684864 t) (k := k) c5.out hs'.out hp.out hW.out.2.2.1 m1 m2 hk).2)
    obtain ⟨fB, fW, fS, fS2⟩ := off_steps (n := (m : Int)) (stop := (bestOf l s (m : Int) load (fmul 1115684864 t) : Nat)) c5.out hs'.out.part hp.out.part hW.out.2.2.1 (by omega) (by omega) (by omega) (by omega)
    generalize bestOf l s (m : Int) load (fmul 1115684864 t) = B at *
    have fs := same_self fB
    go_wp2_with (first | (go_at_call 10; refine (same_spec _ _ _).mono ?_; rintro e w' ⟨rfl, rfl⟩) | (go_at_call 14; refine (size2_any _ fS fS2 _).mono ?_; rintro e w11 ⟨rfl, rfl⟩))
    clear fs fS fS2
    go_loopw [22, 24] (fun v i wr => ∃ k : Nat, k ≤ m + 1 ∧ i = .int .i64 k ∧ v = .float .f32 (beforeOf l s (m : Int) load k) ∧ CK w w1.heap.size (cordCells l s (m : Int)) Ca C Da D wr) (fun _ i _ => m + 1 - (intOf i).toNat)
    case atStart => exact ⟨0, by omega, rfl, rfl, K.out⟩
    case round =>
      obtain ⟨k, hk, rfl, rfl, hK⟩ := hrel
      clear K
      have K := hidd hK
      clear hK
      have q0 := (K.out.row.cell 0).trans (show (cordCells l s (m : Int))[0]? = some (.float .f32 l) from rfl)
      have q1 := (K.out.row.cell 1).trans (show (cordCells l s (m : Int))[1]? = some (.float .f32 s) from rfl)
      have q2 := (K.out.row.cell 2).trans (show (cordCells l s (m : Int))[2]? = some (.int .i8 (m : Int)) from rfl)
      by_cases hlt : k ≤ m
      · have i1 : (k : Int) ≤ (m : Int) := by omega
        have i0 : (0 : Int) ≤ (k : Int) := by omega
        go_wp2_with (refine wpList_load_all rfl _ _ rfl _ rfl (cordCells l s (m : Int)) 3 agg_cord rfl K.out.row ?_)
        refine (plc_i l s m hc'.out hn load hp.out.part _ k i0 i1).mono ?_
        rintro e w12 ⟨rfl, hb⟩
        replace K := hidd (K.out.step hb)
        clear hb
        go_wp2_with (refine wpList_load_all rfl _ _ rfl _ rfl (cordCells l s (m : Int)) 3 agg_cord rfl K.out.row ?_)
        refine (plc_s l s m hc'.out hn load hp.out.part _ k i0 i1).mono ?_
        rintro e w13 ⟨rfl, hb⟩
        replace K := hidd (K.out.step hb)
        clear hb
        obtain ⟨fk, _, fO, fO2⟩ := off_steps (n := (m : Int)) (stop := (k : Int)) c5.out hs'.out.part hp.out.part hW.out.2.2.1 (by omega) (by omega) i0 (by omega)
        have fs := same_self fk
        have fg := place_gt (k := k) c5.out hs'.out hp.out m1 m2 hlt
        obtain ⟨fe, ff⟩ := HBst.out k hlt
        unfold off at fe ff
        clear q0 q1 q2
        by_cases hkB : k < B
        · have hkb1 : (k : Int) < (B : Int) := by omega
          have fh := ff hkB
          clear ff
          by_cases hk0 : k = 0
          · skip
            subst hk0
            have fz : fne (place l s (m : Int) load 0) 0 = false := place_zero c5.out hs'.out hp.out m1 m2
            replace fk : Fnt (place l s (m : Int) load 0) := fk
            replace fO : Fnt (fsub (place l s (m : Int) load 0) (fmul 1115684864 t)) := fO
            replace fO2 : fsub (place l s (m : Int) load 0) (fmul 1115684864 t) < 4294967296 := fO2
            replace fs : same (place l s (m : Int) load 0) (place l s (m : Int) load 0) = true := fs
            replace fg : fgt (place l s (m : Int) load 0) (beforeOf l s (m : Int) load 0) = true := fg
            replace fe : fge (size (fsub (place l s (m : Int) load 0) (fmul 1115684864 t))) (size (fsub (place l s (m : Int) load ((B : Nat) : Int)) (fmul 1115684864 t))) = true := fe
            replace fh : feq (size (fsub (place l s (m : Int) load 0) (fmul 1115684864 t))) (size (fsub (place l s (m : Int) load ((B : Nat) : Int)) (fmul 1115684864 t))) = false := fh
            have nB : ((((0 : Nat) : Int) : Int) == (B : Int)) = false := by simp; omega
            go_wp2_with (first | (go_at_call 10; refine (same_spec _ _ _).mono ?_; rintro e w' ⟨rfl, rfl⟩) | (go_at_call 14; refine (size2_any _ fO fO2 _).mono ?_; rintro e w14 ⟨rfl, rfl⟩))
            all_goals go_roundw
            all_goals first | (exact ⟨k + 1, by omega, by go_num, rfl, K.out⟩) | (exact ⟨0 + 1, by omega, by go_num, rfl, K.out⟩) | (simp [intOf]; done) | (simp [intOf]; omega)
          · skip
            have nz : ((k : Int) == 0) = false := by simp; omega
            have nz2 : ¬ k = 0 := hk0
            have nB : (((k : Int) : Int) == (B : Int)) = false := by simp; omega
            go_wp2_with (first | (go_at_call 10; refine (same_spec _ _ _).mono ?_; rintro e w' ⟨rfl, rfl⟩) | (go_at_call 14; refine (size2_any _ fO fO2 _).mono ?_; rintro e w14 ⟨rfl, rfl⟩))
            all_goals go_roundw
            all_goals first | (exact ⟨k + 1, by omega, by go_num, rfl, K.out⟩) | (exact ⟨0 + 1, by omega, by go_num, rfl, K.out⟩) | (simp [intOf]; done) | (simp [intOf]; omega)
        · by_cases hkE : k = B
          · have fx : fne (place l s (m : Int) load (k : Int)) (place l s (m : Int) load (B : Int)) = false := by rw [← hkE, fne_not, feq_fin fk fk]; simp
            have nE : ((k : Int) == (B : Int)) = true := by simp [hkE]
            have nE2 : (k == B) = true := by simp [hkE]
            have hkb2 : (B : Int) ≤ (k : Int) := by omega
            clear hkE
            clear ff
            by_cases hk0 : k = 0
            · skip
              subst hk0
              have fz : fne (place l s (m : Int) load 0) 0 = false := place_zero c5.out hs'.out hp.out m1 m2
              replace fk : Fnt (place l s (m : Int) load 0) := fk
              replace fO : Fnt (fsub (place l s (m : Int) load 0) (fmul 1115684864 t)) := fO
              replace fO2 : fsub (place l s (m : Int) load 0) (fmul 1115684864 t) < 4294967296 := fO2
              replace fs : same (place l s (m : Int) load 0) (place l s (m : Int) load 0) = true := fs
              replace fg : fgt (place l s (m : Int) load 0) (beforeOf l s (m : Int) load 0) = true := fg
              replace fx : fne (place l s (m : Int) load 0) (place l s (m : Int) load ((B : Nat) : Int)) = false := fx
              replace nE : ((0 : Int) == (B : Int)) = true := nE
              replace fe : fge (size (fsub (place l s (m : Int) load 0) (fmul 1115684864 t))) (size (fsub (place l s (m : Int) load ((B : Nat) : Int)) (fmul 1115684864 t))) = true := fe
              go_wp2_with (first | (go_at_call 10; refine (same_spec _ _ _).mono ?_; rintro e w' ⟨rfl, rfl⟩) | (go_at_call 14; refine (size2_any _ fO fO2 _).mono ?_; rintro e w14 ⟨rfl, rfl⟩))
              all_goals go_roundw
              all_goals first | (exact ⟨k + 1, by omega, by go_num, rfl, K.out⟩) | (exact ⟨0 + 1, by omega, by go_num, rfl, K.out⟩) | (simp [intOf]; done) | (simp [intOf]; omega)
            · skip
              have nz : ((k : Int) == 0) = false := by simp; omega
              have nz2 : ¬ k = 0 := hk0
              go_wp2_with (first | (go_at_call 10; refine (same_spec _ _ _).mono ?_; rintro e w' ⟨rfl, rfl⟩) | (go_at_call 14; refine (size2_any _ fO fO2 _).mono ?_; rintro e w14 ⟨rfl, rfl⟩))
              all_goals go_roundw
              all_goals first | (exact ⟨k + 1, by omega, by go_num, rfl, K.out⟩) | (exact ⟨0 + 1, by omega, by go_num, rfl, K.out⟩) | (simp [intOf]; done) | (simp [intOf]; omega)
          · have hkb2 : (B : Int) ≤ (k : Int) := by omega
            clear ff
            by_cases hk0 : k = 0
            · skip
              subst hk0
              have fz : fne (place l s (m : Int) load 0) 0 = false := place_zero c5.out hs'.out hp.out m1 m2
              replace fk : Fnt (place l s (m : Int) load 0) := fk
              replace fO : Fnt (fsub (place l s (m : Int) load 0) (fmul 1115684864 t)) := fO
              replace fO2 : fsub (place l s (m : Int) load 0) (fmul 1115684864 t) < 4294967296 := fO2
              replace fs : same (place l s (m : Int) load 0) (place l s (m : Int) load 0) = true := fs
              replace fg : fgt (place l s (m : Int) load 0) (beforeOf l s (m : Int) load 0) = true := fg
              replace fe : fge (size (fsub (place l s (m : Int) load 0) (fmul 1115684864 t))) (size (fsub (place l s (m : Int) load ((B : Nat) : Int)) (fmul 1115684864 t))) = true := fe
              have nB : ((((0 : Nat) : Int) : Int) == (B : Int)) = false := by simp; omega
              go_wp2_with (first | (go_at_call 10; refine (same_spec _ _ _).mono ?_; rintro e w' ⟨rfl, rfl⟩) | (go_at_call 14; refine (size2_any _ fO fO2 _).mono ?_; rintro e w14 ⟨rfl, rfl⟩))
              all_goals go_roundw
              all_goals first | (exact ⟨k + 1, by omega, by go_num, rfl, K.out⟩) | (exact ⟨0 + 1, by omega, by go_num, rfl, K.out⟩) | (simp [intOf]; done) | (simp [intOf]; omega)
            · skip
              have nz : ((k : Int) == 0) = false := by simp; omega
              have nz2 : ¬ k = 0 := hk0
              have nB : (((k : Int) : Int) == (B : Int)) = false := by simp; omega
              go_wp2_with (first | (go_at_call 10; refine (same_spec _ _ _).mono ?_; rintro e w' ⟨rfl, rfl⟩) | (go_at_call 14; refine (size2_any _ fO fO2 _).mono ?_; rintro e w14 ⟨rfl, rfl⟩))
              all_goals go_roundw
              all_goals first | (exact ⟨k + 1, by omega, by go_num, rfl, K.out⟩) | (exact ⟨0 + 1, by omega, by go_num, rfl, K.out⟩) | (simp [intOf]; done) | (simp [intOf]; omega)
      · obtain rfl : k = m + 1 := by omega
        have i1 : ¬ ((m + 1 : Nat) : Int) ≤ (m : Int) := by omega
        go_wp2_with (refine wpList_load_all rfl _ _ rfl _ rfl (cordCells l s (m : Int)) 3 agg_cord rfl K.out.row ?_)
        refine (plc_no l s m hc'.out hn load hp.out.part _).mono ?_
        rintro e w15 ⟨rfl, hb⟩
        replace K := hidd (K.out.step hb)
        clear hb
        go_wp2
        go_ret; exact ⟨rfl, K.out.below⟩
  · go_enter Try.func3, Try.ntmps3
    go_wp2_with (go_at_call 5; refine (long_yes Ca Da _ _ Cc Dc hC5 hD5 hbig _).mono ?_; rintro e w' ⟨rfl, rfl⟩)
    go_ret; exact ⟨rfl, Below.refl _ _⟩

set_option maxRecDepth 100000 in
theorem lifted_fnCords (os : Os) (started : os.Started) (H : Type) (enc : TypeId × Value → H) :
    ReturnsInHanded {} Try.checked os 3 .any (Rows.fnCordsSpec.pre6 enc Try.prog Try.f3 Rows.fnCordsRow.domain false) (Rows.fnCordsSpec.post enc Try.prog Try.f3 false true false false) := by
  refine returnsInHanded_of_change (C := Try.checked) own started (by kernel_rfl) Try.func3
    (ChangeSpec.witness6 (enc := enc) (C := Try.checked) false ⟨#[], #[.slice none 0 0, .slice none 0 0], []⟩ 60 (by kernel_rfl) (by kernel_rfl) (by kernel_rfl) (by kernel_rfl)) ?_
  intro W base args ds gs before hval0 hW hcnd _
  have hval : ∀ (j : Nat) t v, Try.f3.params[j]? = some t → args[j]? = some v → Value.okWide Try.prog W .any base t v := hval0
  have hW' := hW
  obtain ⟨p, q, hA0, hV, rfl, hfz, hnd⟩ := hW
  have hA : DataW.TrodAll enc Try.prog W 0 (fun _ => true) true Try.f3.params.toList args.toList ds p := hA0
  rw [Try.params3] at hA hval
  obtain ⟨v0, vs0, d0, ds0, p0, q0, hargs, rfl, rfl, h0, r0⟩ := trodAll_cons hA
  obtain ⟨v1, vs1, d1, ds1, p1, q1, rfl, rfl, rfl, h1, r1⟩ := trodAll_cons r0
  obtain ⟨rfl, rfl, rfl⟩ := trodAll_nil r1
  obtain rfl : args = #[v0, v1] := by cases args; simp_all
  obtain ⟨rfl, rfl⟩ := trodVars_none hV
  have lt0 : ∀ x ∈ p0, x.block < W.heap.size := by obtain ⟨m, hm⟩ := h0; exact DataW.trod_lt m _ _ _ hm
  have lt1 : ∀ x ∈ p1, x.block < W.heap.size := by obtain ⟨m, hm⟩ := h1; exact DataW.trod_lt m _ _ _ hm
  obtain ⟨Ca, Cc, C, rfl, hC5, hC6⟩ := arg_bytes (hval 0 22 v0 rfl rfl) h0
  obtain ⟨Da, Dc, D, rfl, hD5, hD6⟩ := arg_bytes (hval 1 22 v1 rfl rfl) h1
  clear hA0 hval0
  refine (walk_fnCords W Ca Cc C hC5 hC6 Da Dc D hD5 hD6).mono fun e W' ⟨he, bel⟩ => ?_
  subst he
  exact ⟨_, rfl, _, _, _, [], _, [], hW', trodAll_mk1 (shut_bool Try.underlying4 _), (trodAll_cons_mk (Below.trod laidOut (by kernel_rfl) (of_decide_eq_true (by kernel_rfl)) h0 bel lt0) (trodAll_cons_mk (Below.trod laidOut (by kernel_rfl) (of_decide_eq_true (by kernel_rfl)) h1 bel lt1) trodAll_mk0)), rfl, bel.frame _, fun h => by cases h⟩

/-- THE STATEMENT. -/
theorem fnCords_holds : Rows.FnCordsSaid :=
  OpenClaim.holds_of_wide 3 Try.f3 rfl rfl rfl rfl rfl rfl rfl ⟨rfl, rfl, rfl, rfl, rfl⟩ rfl rfl rfl rfl rfl (by kernel_rfl) Try.func3 (by kernel_rfl)
    (of_decide_eq_true (by kernel_rfl)) (by unfold Func.isWrapper; first | (rw [if_pos (by decide +kernel)]; kernel_rfl) | (rw [if_neg (by decide +kernel)]; exact ⟨rfl, rfl⟩))
    (fun os started H enc _ => lifted_fnCords os started H enc)
#print axioms fnCords_holds
end Go.Proofs.Ytjbfnbdigaodoaa
