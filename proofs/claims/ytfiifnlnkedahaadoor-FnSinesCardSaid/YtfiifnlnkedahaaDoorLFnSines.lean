/-
  'Rows.FnSinesSaid': for every input the law 'FnSines' returns true and leaves its arguments as they were. No condition.
-/
import Derived.Test.YtfiifnlnkedahaaDoorRo
import Derived.Test.YtfiifnlnkedahaaDoorRib
import Derived.Test.YtfiifnlnkedahaaDoorRs5
import Derived.Test.YtfiifnlnkedahaaDoorWan
import Derived.Test.YtfiifnlnkedahaaDoorPsn
import Derived.Test.YtfiifnlnkedahaaDoorWpi
namespace Go.Proofs.YtfiifnlnkedahaaDoor
open Go.ChangeShapes Go.WideShapes Go.ChangeAt Go.RowKit Go.Proofs.Fl Go.Proofs.Pl
set_option linter.unusedVariables false

open Go.Proofs.Hx
structure SnK (w : World) (Ca : Option Addr) (C : List Int) (Da : Option Addr) (D : List Int) (w' : World) : Prop where
  below : Below w.heap.size w w'
  argC : ArgBytes w' Ca C
  argD : ArgBytes w' Da D
theorem SnK.step {w w1 w2 : World} {Ca Da : Option Addr} {C D : List Int} (h : SnK w Ca C Da D w1) (hb : Below w1.heap.size w1 w2) : SnK w Ca C Da D w2 :=
  ⟨h.below.trans (hb.mono h.below.size), h.argC.step hb, h.argD.step hb⟩
theorem canon_canon (n : Nat) : canon (canon n) = canon n := by
  unfold canon
  by_cases h : fne n n = true
  · rw [if_pos h]
    have e : fne 2143289344 2143289344 = true := by decide +kernel
    rw [if_pos e]
  · rw [if_neg h, if_neg h]
theorem read_written {n : Nat} (hn : n < 4294967296) : numRead (hexL (canon n) 8) = some (canon n) := by
  unfold numRead
  rw [if_pos (hexL_length _ 8), read_of_hexL (canon n) 8 0 (Nat.div_eq_of_lt (canon_lt hn)), Option.filter_some, if_pos (by rw [canon_canon]; simp)]
theorem same_fin {x : Nat} (h : Fnt x) : same x x = true := by
  unfold same; rw [fne_self h]; simp
theorem same_canon (n : Nat) : same (canon n) n = true := by
  unfold canon same
  cases h : fne n n
  · simp [h]
  · have e : fne 2143289344 2143289344 = true := by decide +kernel
    simp [e]
set_option maxRecDepth 100000 in
set_option maxHeartbeats 8000000 in
theorem walk_fnSines (w : World) (Ca : Option Addr) (Cc : Nat) (C : List Int) (hC5 : C.length ≤ 9223372036854775807) (hC6 : ArgBytes w Ca C) (Da : Option Addr) (Dc : Nat) (D : List Int) (hD5 : D.length ≤ 9223372036854775807) (hD6 : ArgBytes w Da D) (hT : Tabs w) (hE : Errs w) :
    Calls Tryd.prog 9 #[.slice Ca C.length Cc, .slice Da D.length Dc] w fun e w' => e = .returned (.bool true) ∧ Below w.heap.size w w' := by
  by_cases hbig : C.length ≤ 3000 ∧ D.length ≤ 3000
  · obtain ⟨hC3, hD3⟩ := hbig
    have K := hidd (show SnK w Ca C Da D w from ⟨Below.refl _ _, hC6, hD6⟩)
    have HT := hidd hT
    have HE := hidd hE
    clear hC6 hD6 hT hE
    go_enter Tryd.func9, Tryd.ntmps9
    go_wp2_with (go_at_call 27; refine (long_no Ca Da _ _ Cc Dc hC3 hD3 _).mono ?_; rintro e w' ⟨rfl, rfl⟩)
    refine (at_any Ca Cc C hC3 0 (by omega) 256 (by omega) _ K.out.argC).mono ?_
    rintro e w2 ⟨x, rfl, x0, x1, x2, rfl⟩
    go_wp2_with fail
    refine (at_any Ca Cc C hC3 1 (by omega) 9 (by omega) _ K.out.argC).mono ?_
    rintro e w3 ⟨y, rfl, y0, y1, y2, rfl⟩
    go_wp2_with fail
    generalize hA : x + 256 * y - 1024 = a at *
    have a0 : -1024 ≤ a := by omega
    have a1 : a ≤ 1279 := by omega
    have A := hidd (sines_of a)
    obtain ⟨f1, f2, f3, f4, f5, f6, f7, f8⟩ := sines_of a
    have fs := same_fin (sine_fin a).1
    have fc := same_fin (cosine_fin a).1
    obtain ⟨g1, g2, g3⟩ := square_fin a
    have g4 := (sine_fin a).1
    have g5 := (cosine_fin a).1
    have z0 : Fnt 0 := by decide
    replace f1 : fle (sine a) 1065353216 = true := f1
    clear hA x0 x1 x2 y0 y1 y2
    refine (sine_impl _ _).mono ?_
    rintro e w4 ⟨rfl, rfl⟩
    go_wp2_with (first | (go_at_call 29; refine (sine_impl _ _).mono ?_; rintro e w' ⟨rfl, rfl⟩) | (go_at_call 30; refine (sine_spec _ _).mono ?_; rintro e w' ⟨rfl, rfl⟩) | (go_at_call 31; refine (cosine_impl _ _).mono ?_; rintro e w' ⟨rfl, rfl⟩) | (go_at_call 32; refine (cosine_spec _ _).mono ?_; rintro e w' ⟨rfl, rfl⟩) | (go_at_call 33; refine (same_spec _ _ _).mono ?_; rintro e w' ⟨rfl, rfl⟩))
    clear f1 f2 f3 f4 f5 f6 f7 f8 fs fc g1 g2 g3 g4 g5 z0 A
    refine (at_any Da Dc D hD3 0 (by omega) 64 (by omega) _ K.out.argD).mono ?_
    rintro e w5 ⟨k, rfl, k0, k1, k2, rfl⟩
    obtain ⟨r1, r2, r3⟩ := rises_of k0 (by omega)
    replace r3 : fle (sine (k + 1)) 1065353216 = true := r3
    have rs := same_fin (sine_fin k).1
    go_wp2_with (first | (go_at_call 29; refine (sine_impl _ _).mono ?_; rintro e w' ⟨rfl, rfl⟩) | (go_at_call 30; refine (sine_spec _ _).mono ?_; rintro e w' ⟨rfl, rfl⟩) | (go_at_call 33; refine (same_spec _ _ _).mono ?_; rintro e w' ⟨rfl, rfl⟩))
    clear r1 r2 r3 rs
    refine (any_any Da Dc D hD3 _ K.out.argD).mono ?_
    rintro e w6 ⟨n, rfl, hn, hb6⟩
    replace K := hidd (K.out.step hb6)
    have sc := same_canon n
    have NR := hidd (read_written hn)
    have HX := hidd (fun w (h : Tabs w) => text_impl n hn w h.tz h.size)
    have HR := hidd (fun w (h1 : Tabs w) (h2 : Errs w) => num_impl ⟨(hexL (canon n) 8).toArray⟩ (by show (List.toArray _).size ≤ _; rw [List.size_toArray, hexL_length]; omega) w h1.tz h2)
    rw [show (⟨(hexL (canon n) 8).toArray⟩ : ByteArray).data.toList = hexL (canon n) 8 from rfl, NR.out] at HR
    unfold numRes at HR
    obtain ⟨T, hT⟩ : ∃ T : ByteArray, T = ⟨(hexL (canon n) 8).toArray⟩ := ⟨_, rfl⟩
    rw [← hT] at HX HR
    generalize canon n = c at *
    have HK := hidd (And.intro K NR)
    clear hb6 hn NR hT
    go_wp2_with fail
    refine (HX.out _ (HT.out.below K.out.below)).mono ?_
    rintro e w7 ⟨rfl, hb7⟩
    replace K := hidd (K.out.step hb7)
    clear hb7
    go_wp2_with fail
    refine (HR.out _ (HT.out.below K.out.below) (HE.out.below K.out.below)).mono ?_
    rintro e w8 ⟨rfl, hb8⟩
    replace K := hidd (K.out.step hb8)
    clear hb8 HK
    go_wp2_with (first | (go_at_call 33; refine (same_spec _ _ _).mono ?_; rintro e w' ⟨rfl, rfl⟩) | (go_at_call 35; refine (same_impl _ _ _).mono ?_; rintro e w' ⟨rfl, rfl⟩) | (go_at_call 36; refine (plain_impl _ _).mono ?_; rintro e w' ⟨rfl, rfl⟩) | (go_at_call 37; refine (plain_spec _ _).mono ?_; rintro e w' ⟨rfl, rfl⟩) | (go_at_call 38; refine (part_impl _ _).mono ?_; rintro e w' ⟨rfl, rfl⟩) | (go_at_call 39; refine (part_spec _ _).mono ?_; rintro e w' ⟨rfl, rfl⟩))
    all_goals (go_ret; exact ⟨by simp, K.out.below⟩)
  · have hb2 : (decide (3000 < C.length) || decide (3000 < D.length)) = true := by
      rw [Bool.or_eq_true, decide_eq_true_eq, decide_eq_true_eq]; omega
    have HL := hidd (fun w => long_any Ca Da C.length D.length Cc Dc hC5 hD5 w)
    rw [hb2] at HL
    clear hb2
    go_enter Tryd.func9, Tryd.ntmps9
    go_wp2_with (go_at_call 27; refine (HL.out _).mono ?_; rintro e w2 ⟨rfl, rfl⟩)
    go_ret
    exact ⟨rfl, Below.refl _ _⟩

theorem tabs_fnSines {W : World} (h : laidMetH Tryd.prog Rows.fnSinesRow.laid W) : Tabs W ∧ Errs W := by
  rw [MakeChecks.laidMetH_plain _ _ _ (by kernel_rfl)] at h
  exact ⟨tabs_of h, errs_of5 h⟩
set_option maxRecDepth 100000 in
theorem lifted_fnSines (os : Os) (started : os.Started) (H : Type) (enc : TypeId × Value → H) :
    ReturnsInHanded {} Tryd.checked os 9 .any (fun w args => (Rows.fnSinesSpec.pre enc Tryd.prog Tryd.f9 [] false w args ∧ laidMetH Tryd.prog Rows.fnSinesRow.laid w) ∧ sizedMet enc Tryd.prog Tryd.f9 (OpenSpec.ofChange Rows.fnSinesSpec) false w args) (Rows.fnSinesSpec.post enc Tryd.prog Tryd.f9 false true false false) := by
  refine returnsInHanded_of_change_and (C := Tryd.checked) (X := fun w _ => laidMetH Tryd.prog Rows.fnSinesRow.laid w) (fun _ _ _ hh h => h.of_heap hh) own started (by kernel_rfl) Tryd.func9
    (ChangeSpec.witness_shaped (enc := enc) (C := Tryd.checked) (os := os) (X := fun w _ => laidMetH Tryd.prog Rows.fnSinesRow.laid w) false (World.doorLaid Tryd.prog 400 os) #[.slice none 0 0, .slice none 0 0] 60 rfl (World.shaped_of_RefB (by kernel_rfl) (by kernel_rfl)) (by kernel_rfl) (by kernel_rfl) (by kernel_rfl) (door5 os _)) ?_
  intro W base args ds gs before hval0 hW _ _ hL _
  have hval : ∀ (j : Nat) t v, Tryd.f9.params[j]? = some t → args[j]? = some v → Value.okWide Tryd.prog W .any base t v := hval0
  have hW' := hW
  obtain ⟨p, q, hA0, hV, rfl, hfz, hnd⟩ := hW
  have hA : DataW.TrodAll enc Tryd.prog W 0 (fun _ => true) true Tryd.f9.params.toList args.toList ds p := hA0
  rw [Tryd.params9] at hA hval
  obtain ⟨v0, vs0, d0, ds0, p0, q0, hargs, rfl, rfl, h0, r0⟩ := trodAll_cons hA
  obtain ⟨v1, vs1, d1, ds1, p1, q1, rfl, rfl, rfl, h1, r1⟩ := trodAll_cons r0
  obtain ⟨rfl, rfl, rfl⟩ := trodAll_nil r1
  obtain rfl : args = #[v0, v1] := by cases args; simp_all
  obtain ⟨rfl, rfl⟩ := trodVars_none hV
  have lt0 : ∀ x ∈ p0, x.block < W.heap.size := by obtain ⟨m, hm⟩ := h0; exact DataW.trod_lt m _ _ _ hm
  have lt1 : ∀ x ∈ p1, x.block < W.heap.size := by obtain ⟨m, hm⟩ := h1; exact DataW.trod_lt m _ _ _ hm
  obtain ⟨Ca, Cc, C, rfl, hC5, hC6⟩ := arg_bytes (hval 0 51 v0 rfl rfl) h0
  obtain ⟨Da, Dc, D, rfl, hD5, hD6⟩ := arg_bytes (hval 1 51 v1 rfl rfl) h1
  clear hA0 hval0
  refine (walk_fnSines W Ca Cc C hC5 hC6 Da Dc D hD5 hD6 (tabs_fnSines hL).1 (tabs_fnSines hL).2).mono fun e W' ⟨he, bel⟩ => ?_
  subst he
  exact ⟨_, rfl, _, _, _, [], _, [], hW', trodAll_mk1 (shut_bool Tryd.underlying4 _), (trodAll_cons_mk (Below.trod laidOut (by kernel_rfl) (of_decide_eq_true (by kernel_rfl)) h0 bel lt0) (trodAll_cons_mk (Below.trod laidOut (by kernel_rfl) (of_decide_eq_true (by kernel_rfl)) h1 bel lt1) trodAll_mk0)), rfl, bel.frame _, fun h => by cases h⟩

/-- THE STATEMENT. -/
theorem fnSines_holds : Rows.FnSinesSaid :=
  OpenClaim.holds_of_wide 9 Tryd.f9 rfl rfl rfl rfl rfl rfl rfl ⟨rfl, rfl, rfl, rfl, rfl⟩ rfl rfl rfl rfl rfl (by kernel_rfl) Tryd.func9 (by kernel_rfl)
    (of_decide_eq_true (by kernel_rfl)) (by unfold Func.isWrapper; first | (rw [if_pos (by decide +kernel)]; kernel_rfl) | (rw [if_neg (by decide +kernel)]; exact ⟨rfl, rfl⟩))
    (fun os started H enc _ => lifted_fnSines os started H enc)
#print axioms fnSines_holds
theorem fnSines_card : Rows.FnSinesCardSaid :=
  Claim7.holds_tied_plain_at .later [] [.data, .data, .data, .sentinel, .sentinel] true (true, "3ddcbc6a90d5bb611202715297ab8f2307c173e61f76468aa0765b63b0391659") true
    fnSines_holds (fun _ h => by cases h) (by kernel_rfl) (fun _ h => by cases h) fnSines_row_tie rfl ⟨rfl, rfl⟩ (by kernel_rfl) rfl
    (fun f fn hf hfn => by
      obtain rfl : f = 9 := Option.some.inj ((show Tryd.prog.funcNamed Rows.fnSinesRow.func = some 9 by kernel_rfl).symm.trans hf) |>.symm
      obtain rfl : fn = Tryd.f9 := (Option.some.inj (Tryd.func9.symm.trans hfn)).symm
      exact ⟨by kernel_rfl, fun j t ht => by
        rw [Tryd.params9] at ht
        have hm : t ∈ [51, 51] := by simpa using Array.mem_of_getElem? ht
        have hall : ([51, 51].all fun u => !Tryd.prog.wantsStandIn u) = true := by kernel_rfl
        exact (show Tryd.prog.wantsStandIn t = false by simpa using List.all_eq_true.1 hall t hm)⟩)
    (by kernel_rfl)
#print axioms fnSines_card
end Go.Proofs.YtfiifnlnkedahaaDoor
