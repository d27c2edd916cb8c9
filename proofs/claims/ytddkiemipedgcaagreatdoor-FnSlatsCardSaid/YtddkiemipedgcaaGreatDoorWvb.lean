/-
  The blind with a text: what is read, and the program's reading.
-/
import Derived.Test.YtddkiemipedgcaaGreatDoorWbc
import Derived.Test.YtddkiemipedgcaaGreatDoorWsl
import Derived.Test.YtddkiemipedgcaaGreatDoorWj
namespace Go.Proofs.Hx
open Go Go.Proofs.Fl Go.Proofs.Pl
open Go.Lib hiding intOf
set_option linter.unusedVariables false
structure Bl where
  n : Int
  w : Nat
  g : Nat
  t : Int
  s : Nat
/-- The text l is the blind's b. -/
def BlindIs (l : List UInt8) (b : Bl) : Prop := ∃ x1 x2 x4, splitL 32 l = [itoa b.n, x1, x2, itoa b.t, x4] ∧ numRead x1 = some b.w ∧ numRead x2 = some b.g ∧ numRead x4 = some b.s ∧ blindOk b.n b.w b.g b.t b.s = true
theorem BlindIs.uniq {l : List UInt8} {b c : Bl} (h : BlindIs l b) (k : BlindIs l c) : b = c := by
  obtain ⟨x1, x2, x4, e, h1, h2, h4, _⟩ := h
  obtain ⟨y1, y2, y4, f, k1, k2, k4, _⟩ := k
  rw [e] at f
  simp only [List.cons.injEq] at f
  obtain ⟨f0, f1, f2, f3, f4, _⟩ := f
  subst f1; subst f2; subst f4
  have a0 := itoa_inj f0
  have a3 := itoa_inj f3
  rw [h1] at k1; rw [h2] at k2; rw [h4] at k4
  cases b; cases c
  simp_all
open Classical in
noncomputable def rbOf (l : List UInt8) : Option Bl := if h : ∃ b, BlindIs l b then some h.choose else none
theorem rb_yes {l : List UInt8} {b : Bl} (h : BlindIs l b) : rbOf l = some b := by
  have hx : ∃ b, BlindIs l b := ⟨b, h⟩
  unfold rbOf
  rw [dif_pos hx]
  exact congrArg some (BlindIs.uniq hx.choose_spec h)
theorem rb_is {l : List UInt8} {b : Bl} (h : rbOf l = some b) : BlindIs l b := by
  unfold rbOf at h
  split at h
  · rename_i hx
    rw [← Option.some.inj h]
    exact hx.choose_spec
  · cases h
theorem rb_no {l : List UInt8} (h : ∀ b, ¬ BlindIs l b) : rbOf l = none := by
  unfold rbOf
  rw [dif_neg (fun ⟨b, hb⟩ => h b hb)]
theorem rb_len {l : List UInt8} (h : (splitL 32 l).length ≠ 5) : rbOf l = none := rb_no fun b ⟨_, _, _, e, _⟩ => h (by rw [e]; rfl)
/-- Five words, and how each is read. -/
structure Five (l : List UInt8) (x0 x1 x2 x3 x4 : List UInt8) : Prop where
  words : splitL 32 l = [x0, x1, x2, x3, x4]
theorem Five.yes {l x0 x1 x2 x3 x4 : List UInt8} (h : Five l x0 x1 x2 x3 x4) {n t : Int} {wd g s : Nat} (h0 : itoa n = x0) (h1 : numRead x1 = some wd) (h2 : numRead x2 = some g) (h3 : itoa t = x3) (h4 : numRead x4 = some s) (ho : blindOk n wd g t s = true) :
    rbOf l = some ⟨n, wd, g, t, s⟩ := rb_yes ⟨x1, x2, x4, by rw [h.words, h0, h3], h1, h2, h4, ho⟩
theorem Five.no {l x0 x1 x2 x3 x4 : List UInt8} (h : Five l x0 x1 x2 x3 x4) (hn : ∀ b : Bl, itoa b.n = x0 → numRead x1 = some b.w → numRead x2 = some b.g → itoa b.t = x3 → numRead x4 = some b.s → blindOk b.n b.w b.g b.t b.s = true → False) : rbOf l = none := rb_no fun b ⟨y1, y2, y4, e, k1, k2, k4, ho⟩ => by
  rw [h.words] at e
  simp only [List.cons.injEq] at e
  obtain ⟨e0, e1, e2, e3, e4, _⟩ := e
  exact hn b e0.symm (by rw [e1]; exact k1) (by rw [e2]; exact k2) e3.symm (by rw [e4]; exact k4) ho
theorem ok_small {n t : Int} {wd g s : Nat} (h : blindOk n wd g t s = true) : Small n ∧ Small t ∧ 1 ≤ n ∧ n ≤ 60 ∧ -64 ≤ t ∧ t ≤ 64 := by
  obtain ⟨⟨a, b⟩, _, _, ⟨c, d⟩, _⟩ := blindOk_of h
  exact ⟨⟨by omega, by omega⟩, ⟨by omega, by omega⟩, a, b, c, d⟩
/-- A number that was read, and the code beside it. -/
def NumIs (r : Option Nat) (a : Nat) (c : Int) : Prop := (c = 0 ∧ r = some a) ∨ (c = 5 ∧ a = 0 ∧ r = none)
theorem numRes_is (r : Option Nat) : ∃ a c, numRes r = .tuple #[.float .f32 a, .int .i64 c] ∧ NumIs r a c := by
  cases r with
  | some v => exact ⟨v, 0, rfl, .inl ⟨rfl, rfl⟩⟩
  | none => exact ⟨0, 5, rfl, .inr ⟨rfl, rfl, rfl⟩⟩
theorem NumIs.zero {r : Option Nat} {a : Nat} (h : NumIs r a 0) : r = some a := by
  rcases h with ⟨_, h⟩ | ⟨h, _⟩
  · exact h
  · cases h
/-- The program's test of five words. -/
theorem five_impl {l x0 x1 x2 x3 x4 : List UInt8} {n t : Int} {o0 o3 : Bool} {wd g s : Nat} {q1 q2 q4 : Int} (F : Five l x0 x1 x2 x3 x4) (P0 : WholeP x0 n o0) (P1 : NumIs (numRead x1) wd q1) (P2 : NumIs (numRead x2) g q2) (P3 : WholeP x3 t o3) (P4 : NumIs (numRead x4) s q4) :
    ((o0 = true ∧ o3 = true ∧ q1 = 0 ∧ q2 = 0 ∧ q4 = 0 ∧ blindOk n wd g t s = true) → rbOf l = some ⟨n, wd, g, t, s⟩) ∧ (¬ (o0 = true ∧ o3 = true ∧ q1 = 0 ∧ q2 = 0 ∧ q4 = 0 ∧ blindOk n wd g t s = true) → rbOf l = none) := by
  refine ⟨fun ⟨h0, h3, h1, h2, h4, ho⟩ => ?_, fun hn => F.no fun b k0 k1 k2 k3 k4 ko => hn ?_⟩
  · subst h0; subst h3; subst h1; subst h2; subst h4
    exact F.yes P0 P1.zero P2.zero P3 P4.zero ho
  · obtain ⟨sn, st, _⟩ := ok_small ko
    cases o0
    · exact absurd k0 (P0 b.n sn)
    cases o3
    · exact absurd k3 (P3 b.t st)
    have e0 : n = b.n := itoa_inj ((show itoa n = x0 from P0).trans k0.symm)
    have e3 : t = b.t := itoa_inj ((show itoa t = x3 from P3).trans k3.symm)
    have f : ∀ {r : Option Nat} {a v : Nat} {c : Int}, NumIs r a c → r = some v → c = 0 ∧ a = v := by
      intro r a v c h e
      rcases h with ⟨h1, h2⟩ | ⟨_, _, h2⟩
      · rw [h2] at e; exact ⟨h1, Option.some.inj e⟩
      · rw [h2] at e; cases e
    obtain ⟨z1, w1⟩ := f P1 k1
    obtain ⟨z2, w2⟩ := f P2 k2
    obtain ⟨z4, w4⟩ := f P4 k4
    exact ⟨rfl, rfl, z1, z2, z4, by rw [e0, e3, w1, w2, w4]; exact ko⟩
/-- The ways on which a blind is read, or not. -/
theorem five_ways {n t : Int} {o0 o3 : Bool} {wd g s : Nat} {q1 q2 q4 : Int} (h1 : q1 = 0 ∨ q1 = 5) (h2 : q2 = 0 ∨ q2 = 5) (h4 : q4 = 0 ∨ q4 = 5) :
    (o0 = true ∧ o3 = true ∧ q1 = 0 ∧ q2 = 0 ∧ q4 = 0 ∧ (1 ≤ n ∧ n ≤ 60) ∧ (-64 ≤ t ∧ t ≤ 64)) ∨ (¬ (blindOk n wd g t s = true ∧ o0 = true ∧ o3 = true ∧ q1 = 0 ∧ q2 = 0 ∧ q4 = 0) ∧ (o0 = false ∨ (o0 = true ∧ o3 = false) ∨ (o0 = true ∧ o3 = true ∧ q1 = 5) ∨ (o0 = true ∧ o3 = true ∧ q1 = 0 ∧ q2 = 5) ∨ (o0 = true ∧ o3 = true ∧ q1 = 0 ∧ q2 = 0 ∧ q4 = 5) ∨ (o0 = true ∧ o3 = true ∧ q1 = 0 ∧ q2 = 0 ∧ q4 = 0 ∧ inR n 1 60 = false) ∨ (o0 = true ∧ o3 = true ∧ q1 = 0 ∧ q2 = 0 ∧ q4 = 0 ∧ inR n 1 60 = true ∧ inR t (-64) 64 = false))) := by
  cases o0
  · exact .inr ⟨(fun ⟨_, h, _⟩ => by cases h), .inl rfl⟩
  cases o3
  · exact .inr ⟨(fun ⟨_, _, h, _⟩ => by cases h), .inr (.inl ⟨rfl, rfl⟩)⟩
  rcases h1 with rfl | rfl
  · rcases h2 with rfl | rfl
    · rcases h4 with rfl | rfl
      · rcases bool_or (inR n 1 60) with r1 | r1
        · exact .inr ⟨(fun ⟨h, _⟩ => by have := (blindOk_of h).1; rw [inR_iff.2 this] at r1; cases r1), .inr (.inr (.inr (.inr (.inr (.inl ⟨rfl, rfl, rfl, rfl, rfl, r1⟩)))))⟩
        · rcases bool_or (inR t (-64) 64) with r2 | r2
          · exact .inr ⟨(fun ⟨h, _⟩ => by have := (blindOk_of h).2.2.2.1; rw [inR_iff.2 this] at r2; cases r2), .inr (.inr (.inr (.inr (.inr (.inr ⟨rfl, rfl, rfl, rfl, rfl, r1, r2⟩)))))⟩
          · exact .inl ⟨rfl, rfl, rfl, rfl, rfl, inR_iff.1 r1, inR_iff.1 r2⟩
      · exact .inr ⟨(fun ⟨_, _, _, _, _, h⟩ => by cases h), .inr (.inr (.inr (.inr (.inl ⟨rfl, rfl, rfl, rfl, rfl⟩))))⟩
    · exact .inr ⟨(fun ⟨_, _, _, _, h, _⟩ => by cases h), .inr (.inr (.inr (.inl ⟨rfl, rfl, rfl, rfl⟩)))⟩
  · exact .inr ⟨(fun ⟨_, _, _, h, _⟩ => by cases h), .inr (.inr (.inl ⟨rfl, rfl, rfl⟩))⟩
theorem NumIs.code {r : Option Nat} {a : Nat} {c : Int} (h : NumIs r a c) : c = 0 ∨ c = 5 := by
  rcases h with ⟨h, _⟩ | ⟨h, _⟩
  · exact .inl h
  · exact .inr h
theorem five_words {xs : List ByteArray} {l : List UInt8} (hx : xs.map (·.data.toList) = splitL 32 l) (h5 : xs.length = 5) : ∃ X0 X1 X2 X3 X4, xs = [X0, X1, X2, X3, X4] ∧ Five l X0.data.toList X1.data.toList X2.data.toList X3.data.toList X4.data.toList := by
  match xs, h5 with
  | [a, b, c, d, e], _ => exact ⟨a, b, c, d, e, rfl, ⟨by rw [← hx]; rfl⟩⟩
end Go.Proofs.Hx
namespace Go.Proofs.YtddkiemipedgcaaGreatDoor
open Go.RowKit Go.Proofs.Fl Go.Proofs.Pl Go.Proofs.Hx
open Go.Lib hiding intOf
set_option linter.unusedVariables false
/-- What 'ReadBlind' answers. -/
def blindOf : Option Bl → Array Value × Int
  | some b => (blindCells b.n b.w b.g b.t b.s, 0)
  | none => (zeroBlind, 5)
theorem bo_no {o : Option Bl} (h : o = none) : blindOf o = (zeroBlind, 5) := by rw [h]; rfl
theorem bo_yes {o : Option Bl} {n : Int} {wd g : Nat} {t : Int} {s : Nat} (h : o = some ⟨n, wd, g, t, s⟩) : blindOf o = (blindCells n wd g t s, 0) := by rw [h]; rfl
theorem rb_cases (l : List UInt8) : (blindOf (rbOf l)).1 = zeroBlind ∨ ∃ b : Bl, (blindOf (rbOf l)).1 = blindCells b.n b.w b.g b.t b.s ∧ blindOk b.n b.w b.g b.t b.s = true := by
  cases h : rbOf l with
  | none => exact .inl rfl
  | some b => exact .inr ⟨b, rfl, (rb_is h).choose_spec.choose_spec.choose_spec.2.2.2.2⟩
theorem rb_size (l : List UInt8) : (blindOf (rbOf l)).1.size = 5 := by
  rcases rb_cases l with e | ⟨b, e, _⟩ <;> rw [e] <;> rfl
theorem rb_one (l : List UInt8) : ∀ v ∈ (blindOf (rbOf l)).1.toList, v.oneCell' = true := by
  rcases rb_cases l with e | ⟨b, e, _⟩ <;> rw [e]
  · exact blind_one 0 0 0 0 0
  · exact blind_one _ _ _ _ _
theorem num_code (T : ByteArray) (hT : T.size ≤ 1048576) (w : World) (hW : Tabs w) (hE : Errs w) : Calls Tryz.prog 82 #[.string T] w fun e w' => (∃ a c, e = .returned (.tuple #[.float .f32 a, .int .i64 c]) ∧ NumIs (numRead T.data.toList) a c) ∧ Below w.heap.size w w' := by
  refine (num_impl T (by omega) w hW.tz hE).mono ?_
  rintro e w' ⟨rfl, hb⟩
  obtain ⟨a, c, e1, e2⟩ := numRes_is (numRead T.data.toList)
  exact ⟨⟨a, c, by rw [e1], e2⟩, hb⟩
set_option maxHeartbeats 8000000 in
set_option maxRecDepth 100000 in
theorem readBlind_impl (T : ByteArray) (hT : T.size ≤ 1048576) (w : World) (hW : Tabs w) (hE : Errs w) (hM : Mx w) :
    Calls Tryz.prog 33 #[.string T] w fun e w' => e = .returned (.tuple #[.agg (blindOf (rbOf T.data.toList)).1, .int .i64 (blindOf (rbOf T.data.toList)).2]) ∧ Below w.heap.size w w' := by
  have kp := hidd (Keep1.start w zeroBlind 56)
  have TW := hidd hW
  have EW := hidd hE
  have MW := hidd hM
  have HS := hidd (fun w h => split_at T hT w h)
  clear hW hE hM
  obtain ⟨l, hl⟩ : ∃ l, T.data.toList = l := ⟨_, rfl⟩
  rw [hl] at HS ⊢
  clear hl
  go_enter Tryz.func33, Tryz.ntmps33
  go_wp2_with fail
  refine (HS.out _ (MW.out.below ((Below.refl w.heap.size w).alloc (Nat.le_refl _) _))).mono ?_
  rintro e w3 ⟨xs, g, hx, rfl, hg, rg, hb3, hsm⟩
  have k3 := hidd (kp.out.step hb3)
  by_cases h5 : xs.length = 5
  · obtain ⟨X0, X1, X2, X3, X4, rfl, hF⟩ := five_words hx h5
    have F := hidd hF
    have s0 := hidd (hsm X0 (by simp))
    have s1 := hidd (hsm X1 (by simp))
    have s2 := hidd (hsm X2 (by simp))
    have s3 := hidd (hsm X3 (by simp))
    have s4 := hidd (hsm X4 (by simp))
    have G3 := hidd rg
    have c0 : w3.cell? ⟨g, 0, none⟩ = some (.string X0) := by rw [rg.cell]; rfl
    have c1 : ∀ W, Below w3.heap.size w3 W → W.cell? ⟨g, 1, none⟩ = some (.string X1) := fun W h => by rw [(rg.below h rg.lt).cell]; rfl
    have c2 : ∀ W, Below w3.heap.size w3 W → W.cell? ⟨g, 2, none⟩ = some (.string X2) := fun W h => by rw [(rg.below h rg.lt).cell]; rfl
    have c3 : ∀ W, Below w3.heap.size w3 W → W.cell? ⟨g, 3, none⟩ = some (.string X3) := fun W h => by rw [(rg.below h rg.lt).cell]; rfl
    have c4 : ∀ W, Below w3.heap.size w3 W → W.cell? ⟨g, 4, none⟩ = some (.string X4) := fun W h => by rw [(rg.below h rg.lt).cell]; rfl
    have C1 := hidd c1
    have C2 := hidd c2
    have C3 := hidd c3
    have C4 := hidd c4
    have TR := hidd (TW.out.below k3.out.below)
    have ER := hidd (EW.out.below k3.out.below)
    have hlen : [X0, X1, X2, X3, X4].length = 5 := rfl
    clear hx hb3 hsm hg rg hF h5 c1 c2 c3 c4
    go_wp2_with fail
    refine (whole_any X0 s0.out _ TR.out ER.out).mono ?_
    rintro e w4 ⟨⟨n, o0, rfl, n0, n1, hP0⟩, hb4⟩
    have P0 := hidd hP0
    have B4 := hidd hb4
    have d1 := C1.out _ hb4
    clear hP0 hb4 c0
    go_wp2_with fail
    refine (num_code X1 s1.out _ (TR.out.below B4.out) (ER.out.below B4.out)).mono ?_
    rintro e w5 ⟨⟨wd, q1, rfl, hP1⟩, hb5⟩
    have P1 := hidd hP1
    have B5 := hidd (B4.out.trans (hb5.mono B4.out.size))
    have d2 := C2.out _ B5.out
    clear hP1 hb5 d1
    go_wp2_with fail
    refine (num_code X2 s2.out _ (TR.out.below B5.out) (ER.out.below B5.out)).mono ?_
    rintro e w6 ⟨⟨gp, q2, rfl, hP2⟩, hb6⟩
    have P2 := hidd hP2
    have B6 := hidd (B5.out.trans (hb6.mono B5.out.size))
    have d3 := C3.out _ B6.out
    clear hP2 hb6 d2
    go_wp2_with fail
    refine (whole_any X3 s3.out _ (TR.out.below B6.out) (ER.out.below B6.out)).mono ?_
    rintro e w7 ⟨⟨t, o3, rfl, t0, t1, hP3⟩, hb7⟩
    have P3 := hidd hP3
    have B7 := hidd (B6.out.trans (hb7.mono B6.out.size))
    have d4 := C4.out _ B7.out
    clear hP3 hb7 d3
    go_wp2_with fail
    refine (num_code X4 s4.out _ (TR.out.below B7.out) (ER.out.below B7.out)).mono ?_
    rintro e w8 ⟨⟨sh, q4, rfl, hP4⟩, hb8⟩
    have P4 := hidd hP4
    have B8 := hidd (B7.out.trans (hb8.mono B7.out.size))
    have K8 := hidd (k3.out.step B8.out)
    clear hP4 hb8 d4 hlen
    have FI := hidd (five_impl F.out P0.out P1.out P2.out P3.out P4.out)
    rcases five_ways (n := n) (t := t) (o0 := o0) (o3 := o3) (wd := wd) (g := gp) (s := sh) P1.out.code P2.out.code P4.out.code with ⟨rfl, rfl, rfl, rfl, rfl, ⟨p0, p1⟩, ⟨u0, u1⟩⟩ | ⟨hno, ways⟩
    · have r1 : inR n 1 60 = true := inR_iff.2 ⟨p0, p1⟩
      have r2 : inR t (-64) 64 = true := inR_iff.2 ⟨u0, u1⟩
      have b8 := hidd (show w.heap.size + 1 ≤ w8.heap.size from by have := K8.out.row.lt; omega)
      have HV := hidd (fun w => blind_impl n wd gp t sh (by omega) (by omega) (by omega) (by omega) w)
      rcases bool_or (blindOk n wd gp t sh) with ho | ho
      · have fin := hidd (bo_no (FI.out.2 (fun h => by rw [ho] at h; cases h.2.2.2.2.2)))
        rw [ho] at HV
        clear ho
        go_wp2_with (first | (go_at_call 55; refine (in_impl _ _ _ _).mono ?_; rintro e w' ⟨rfl, rfl⟩) | (go_at_call 83; refine (tilt_impl _ _).mono ?_; rintro e w' ⟨rfl, rfl⟩) | (refine wpList_store_at rfl _ _ _ rfl w8.heap.size 0 rfl 5 zeroBlind (blindCells n wd gp t sh) rfl agg_blind (Row.new w8 zeroBlind 56) rfl (by decide) (blind_one _ _ _ _ _) ?_; intro w9 hw9 r9; rw [over_all (cs := zeroBlind) (xs := blindCells n wd gp t sh) rfl] at r9; have R9 := hidd r9; have K9 := hidd (keep1_stepB (K8.out.step ((Below.refl _ _).alloc (Nat.le_refl _) (.cells zeroBlind 56))) (hw9.below b8.out)); clear hw9 r9) | (refine wpList_load_all rfl _ _ rfl w8.heap.size rfl (blindCells n wd gp t sh) 5 agg_blind rfl R9.out ?_) | (go_at_call 44; refine (HV.out _).mono ?_; rintro e w10 ⟨rfl, hb10⟩; have K10 := hidd (K9.out.step hb10); clear hb10) | (refine wpList_store_at rfl _ _ _ rfl w.heap.size 0 rfl 5 zeroBlind zeroBlind rfl agg_blind K10.out.row rfl (by decide) (by decide) ?_; intro w11 hw11 r11))
        rw [over_all rfl] at r11
        refine bodyPost_ret (v := .tuple #[.agg zeroBlind, .int .i64 5]) (results_row2 rfl agg_blind _ _ _ _ rfl _ rfl rfl r11) rfl ⟨by rw [fin.out], K10.out.below.trans (hw11.below (by omega))⟩
      · have fin := hidd (bo_yes (FI.out.1 ⟨rfl, rfl, rfl, rfl, rfl, ho⟩))
        rw [ho] at HV
        clear ho
        go_wp2_with (first | (go_at_call 55; refine (in_impl _ _ _ _).mono ?_; rintro e w' ⟨rfl, rfl⟩) | (go_at_call 83; refine (tilt_impl _ _).mono ?_; rintro e w' ⟨rfl, rfl⟩) | (refine wpList_store_at rfl _ _ _ rfl w8.heap.size 0 rfl 5 zeroBlind (blindCells n wd gp t sh) rfl agg_blind (Row.new w8 zeroBlind 56) rfl (by decide) (blind_one _ _ _ _ _) ?_; intro w9 hw9 r9; rw [over_all (cs := zeroBlind) (xs := blindCells n wd gp t sh) rfl] at r9; have R9 := hidd r9; have K9 := hidd (keep1_stepB (K8.out.step ((Below.refl _ _).alloc (Nat.le_refl _) (.cells zeroBlind 56))) (hw9.below b8.out)); clear hw9 r9) | (refine wpList_load_all rfl _ _ rfl w8.heap.size rfl (blindCells n wd gp t sh) 5 agg_blind rfl R9.out ?_) | (go_at_call 44; refine (HV.out _).mono ?_; rintro e w10 ⟨rfl, hb10⟩; have K10 := hidd (K9.out.step hb10); have R10 := hidd (R9.out.below hb10 R9.out.lt); clear hb10) | (refine wpList_load_all rfl _ _ rfl w8.heap.size rfl (blindCells n wd gp t sh) 5 agg_blind rfl R10.out ?_) | (refine wpList_store_at rfl _ _ _ rfl w.heap.size 0 rfl 5 zeroBlind (blindCells n wd gp t sh) rfl agg_blind K10.out.row rfl (by decide) (blind_one _ _ _ _ _) ?_; intro w11 hw11 r11))
        rw [over_all (cs := zeroBlind) (xs := blindCells n wd gp t sh) rfl] at r11
        refine bodyPost_ret (v := .tuple #[.agg (blindCells n wd gp t sh), .int .i64 0]) (results_row2 rfl agg_blind _ _ _ _ rfl _ rfl rfl r11) rfl ⟨by rw [fin.out], K10.out.below.trans (hw11.below (by omega))⟩
    · have fin := hidd (bo_no (FI.out.2 (fun h => hno ⟨h.2.2.2.2.2, h.1, h.2.1, h.2.2.1, h.2.2.2.1, h.2.2.2.2.1⟩)))
      clear hno
      rcases ways with rfl | ⟨rfl, rfl⟩ | ⟨rfl, rfl, rfl⟩ | ⟨rfl, rfl, rfl, rfl⟩ | ⟨rfl, rfl, rfl, rfl, rfl⟩ | ⟨rfl, rfl, rfl, rfl, rfl, r1⟩ | ⟨rfl, rfl, rfl, rfl, rfl, r1, r2⟩
      all_goals
        go_wp2_with (first | (go_at_call 55; refine (in_impl _ _ _ _).mono ?_; rintro e w' ⟨rfl, rfl⟩) | (go_at_call 83; refine (tilt_impl _ _).mono ?_; rintro e w' ⟨rfl, rfl⟩) | (refine wpList_store_at rfl _ _ _ rfl _ 0 rfl 5 zeroBlind zeroBlind rfl agg_blind K8.out.row rfl (by decide) (by decide) ?_; intro w9 hw9 r9))
        rw [over_all rfl] at r9
        refine bodyPost_ret (v := .tuple #[.agg zeroBlind, .int .i64 5]) (results_row2 rfl agg_blind _ _ _ _ rfl _ rfl rfl r9) rfl ⟨by rw [fin.out], K8.out.below.trans (hw9.below (by omega))⟩
  · have fin := hidd (bo_no (rb_len (l := l) (by rw [← hx, List.length_map]; exact h5)))
    have h5' : ((xs.length : Int) != 5) = true := by rw [bne_iff_ne]; omega
    clear hx hb3 hsm hg rg h5
    go_wp2_with (refine wpList_store_at rfl _ _ _ rfl _ 0 rfl 5 zeroBlind zeroBlind rfl agg_blind k3.out.row rfl (by decide) (by decide) ?_; intro w9 hw9 r9)
    rw [over_all rfl] at r9
    refine bodyPost_ret (v := .tuple #[.agg zeroBlind, .int .i64 5]) (results_row2 rfl agg_blind _ _ _ _ rfl _ rfl rfl r9) rfl ⟨by rw [fin.out], k3.out.below.trans (hw9.below (by omega))⟩
end Go.Proofs.YtddkiemipedgcaaGreatDoor
