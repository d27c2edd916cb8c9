/-
  Slats: a blind's text read back; the gap that is found; the calls of the law of the slats, each at its arguments.
-/
import Derived.Test.YtddkiemipedgcaaGreatDoorPsl
import Derived.Test.YtddkiemipedgcaaGreatDoorWvb
import Derived.Test.YtddkiemipedgcaaGreatDoorWbv
import Derived.Test.YtddkiemipedgcaaGreatDoorWdb
import Derived.Test.YtddkiemipedgcaaGreatDoorWbc
import Derived.Test.YtddkiemipedgcaaGreatDoorWbg
import Derived.Test.YtddkiemipedgcaaGreatDoorWpa
namespace Go.Proofs.YtddkiemipedgcaaGreatDoor
open Go.RowKit Go.Proofs.Fl Go.Proofs.Pl Go.Proofs.Hx
open Go.Lib hiding intOf
set_option linter.unusedVariables false
theorem hexL_no32 (u : Nat) : ∀ j, (32 : UInt8) ∉ hexL u j
  | 0 => by simp [hexL]
  | j + 1 => by
    intro h
    rw [hexL, List.mem_cons] at h
    rcases h with h | h
    · have q : ∀ k : Nat, k < 16 → hexC k ≠ 32 := by decide
      exact q (u / 16 ^ j % 16) (Nat.mod_lt _ (by decide)) h.symm
    · exact hexL_no32 u j h
theorem itoa_no32 (a : Int) : (32 : UInt8) ∉ itoa a := by
  intro h
  have e : (32 : UInt8).toNat = 32 := by decide
  rcases itoa_chars a 32 h with c | ⟨c, d⟩ <;> omega
theorem canon_fin {a : Nat} (h : Fnt a) : canon a = a := by
  unfold canon; rw [if_neg (by rw [fne_same h]; exact Bool.false_ne_true)]
theorem read_fin {a : Nat} (h : Fnt a) (hl : a < 4294967296) : numRead (bH a) = some a := by
  have e := canon_fin h
  unfold bH
  rw [e]
  unfold numRead
  rw [if_pos (hexL_length _ 8), read_of_hexL a 8 0 (Nat.div_eq_of_lt hl), Option.filter_some, if_pos (by rw [e]; simp)]
theorem bT1_itoa {n : Int} (h : 1 ≤ n) : bT1 n = itoa n := by
  unfold bT1 itoa; rw [if_neg (by omega)]
/-- A blind's text, read, is the blind. -/
theorem rb_back {n : Int} {wd g : Nat} {t : Int} {s : Nat} (hd : DB n wd g t s) : rbOf (bP n wd g t s 8) = some ⟨n, wd, g, t, s⟩ := by
  refine rb_yes ⟨bH wd, bH g, bH s, ?_, read_fin (len_of hd.hw).1 hd.wl, read_fin (len_of hd.hg).1 hd.gl, read_fin hd.hs.1 hd.sl, hd.ok⟩
  have e : bP n wd g t s 8 = itoa n ++ 32 :: (bH wd ++ 32 :: (bH g ++ 32 :: (itoa t ++ 32 :: bH s))) := by
    rw [← bT1_itoa hd.n1]; simp [bP]
  have h8 : ∀ a, (32 : UInt8) ∉ bH a := fun a => hexL_no32 _ _
  rw [e, splitL_cut _ (itoa_no32 n), splitL_cut _ (h8 wd), splitL_cut _ (h8 g), splitL_cut _ (itoa_no32 t), splitL_none (h8 s)]
theorem bP_len {n : Int} {wd g : Nat} {t : Int} {s : Nat} (hd : DB n wd g t s) : (bP n wd g t s 8).length ≤ 100 := by
  obtain ⟨m, rfl⟩ : ∃ m : Nat, n = m := ⟨n.toNat, by have := hd.n1; omega⟩
  have lm : (bT1 (m : Int)).length ≤ 9 := dec_small (u := (m : Int).toNat) (by have := hd.n2; omega)
  have lt : (itoa t).length ≤ 10 := itoa_short ⟨by have := hd.t1; omega, by have := hd.t2; omega⟩
  have l1 := bH_len wd
  have l2 := bH_len g
  have l3 := bH_len s
  simp [bP]
  omega
theorem lt_not_ge {x y : Nat} (hx : Fnt x) (hy : Fnt y) : fge x y = !flt x y := by
  rw [fge_fin hx hy, flt_fin hx hy]
  by_cases h : V x < V y
  · rw [decide_eq_true h, decide_eq_false (by omega)]; rfl
  · rw [decide_eq_false h, decide_eq_true (by omega)]; rfl
theorem halves_open {wd : Nat} {t h : Int} {wanted : Nat} (f : flt (opn wd 1115684864 t h) wanted = false) : ∀ k, flt (opn wd (halves wd t h wanted k).2 t h) wanted = false
  | 0 => f
  | k + 1 => by
    have ih := halves_open f k
    rcases hp : halves wd t h wanted k with ⟨a, b⟩
    rw [hp] at ih
    rcases bool_or (flt (opn wd (fdiv (fadd a b) 1073741824) t h) wanted) with e | e
    · rw [halves_no hp e]; exact e
    · rw [halves_yes hp e]; exact ih
theorem halves30_open {wd : Nat} {t h : Int} {wanted : Nat} (f : flt (opn wd 1115684864 t h) wanted = false) : flt (opn wd (halves30 wd t h wanted).2 t h) wanted = false := by
  rw [← halves30_eq]; exact halves_open f 30
theorem full_len : isLen 1115684864 = true := by decide +kernel
theorem opn_fnt {wd g : Nat} {t h : Int} (hw : isLen wd = true) (hg : isLen g = true) (h1 : 1 ≤ h) (h2 : h ≤ 64) : Fnt (opn wd g t h) := (unit_fin (opn_unit (t := t) hw hg h1 h2)).1
/-- The gap that is found, if there is one. -/
theorem gap_way {wd : Nat} {t h : Int} {wanted : Nat} (hw : isLen wd = true) (h1 : 1 ≤ h) (h2 : h ≤ 64) (hf : Fnt wanted) :
    (gapAns 0 wd t h wanted = (0, 6) ∧ fge (opn wd 1115684864 t h) wanted = false) ∨ ∃ x, gapAns 0 wd t h wanted = (x, 0) ∧ isLen x = true ∧ Fnt x ∧ fge (opn wd x t h) wanted = true := by
  rcases bool_or (flt (opn wd 1115684864 t h) wanted) with e | e
  · refine .inr ⟨_, ga_ok rfl e, inlen_len (halves30_in wd t h wanted), (halves30_in wd t h wanted).1, ?_⟩
    rw [lt_not_ge (opn_fnt hw (inlen_len (halves30_in wd t h wanted)) h1 h2) hf, halves30_open e]; rfl
  · refine .inl ⟨ga_six rfl e, ?_⟩
    rw [lt_not_ge (opn_fnt hw full_len h1 h2) hf, e]; rfl
theorem DB.gap {n : Int} {wd g : Nat} {t : Int} {s : Nat} (hd : DB n wd g t s) {k : Nat} (hk : isLen k = true) : blindOk n wd k t s = true := by
  unfold blindOk; rw [inR_iff.2 ⟨hd.n1, hd.n2⟩, hd.hw, hk, inR_iff.2 ⟨hd.t1, hd.t2⟩, hd.hs.part]; rfl
theorem DB.i8 {n : Int} {wd g : Nat} {t : Int} {s : Nat} (hd : DB n wd g t s) : -128 ≤ n ∧ n ≤ 127 ∧ -32768 ≤ t ∧ t ≤ 32767 := by
  have := hd.n1; have := hd.n2; have := hd.t1; have := hd.t2; omega
theorem sl_ints (w : World) (h : Int) (T : TypeId) : Ints (w.alloc (.cells #[.int .i64 h, .int .i64 1, .int .i64 h] T)) (some ⟨w.heap.size, 0, none⟩) [h, 1, h] := by
  intro k hk
  refine ⟨w.heap.size, rfl, by simp, ?_⟩
  rw [(Row.new w #[.int .i64 h, .int .i64 1, .int .i64 h] T).cell]
  have hk' : k < 3 := hk
  obtain rfl | rfl | rfl : k = 0 ∨ k = 1 ∨ k = 2 := by omega
  all_goals rfl
theorem same_fin' {x : Nat} (h : Fnt x) : same x x = true := by
  unfold same; rw [fne_same h]; simp
section
variable (n : Int) (wd g : Nat) (t : Int) (s : Nat) (hd : DB n wd g t s) (h : Int) (h1 : 1 ≤ h) (h2 : h ≤ 64) (w : World)
include hd h1 h2
theorem sl_b_i : Calls Tryz.prog 35 #[.agg #[.int .i8 n, .float .f32 wd, .float .f32 g, .int .i16 t, .float .f32 s], .int .i64 h] w fun e w' => e = .returned (.tuple #[.float .f32 (blk wd g t h), .int .i64 0]) ∧ Below w.heap.size w w' := by
  have q := blockedBy_impl n wd g t s hd.i8.1 hd.i8.2.1 hd.i8.2.2.1 hd.i8.2.2.2 h w
  rw [code2_zero.2 ⟨hd.ok, inR_iff.2 ⟨h1, h2⟩⟩, cr_ok rfl] at q; exact q
theorem sl_b_s : Calls Tryz.prog 36 #[.agg #[.int .i8 n, .float .f32 wd, .float .f32 g, .int .i16 t, .float .f32 s], .int .i64 h] w fun e w' => e = .returned (.tuple #[.float .f32 (blk wd g t h), .int .i64 0]) ∧ Below w.heap.size w w' := by
  have q := blockedBy_spec n wd g t s hd.i8.1 hd.i8.2.1 hd.i8.2.2.1 hd.i8.2.2.2 h w
  rw [code2_zero.2 ⟨hd.ok, inR_iff.2 ⟨h1, h2⟩⟩, cr_ok rfl] at q; exact q
theorem sl_p_i : Calls Tryz.prog 39 #[.agg #[.int .i8 n, .float .f32 wd, .float .f32 g, .int .i16 t, .float .f32 s], .int .i64 h] w fun e w' => e = .returned (.tuple #[.float .f32 (pass wd g t s h), .int .i64 0]) ∧ Below w.heap.size w w' := by
  have q := passFor_impl n wd g t s hd.i8.1 hd.i8.2.1 hd.i8.2.2.1 hd.i8.2.2.2 h w
  rw [code2_zero.2 ⟨hd.ok, inR_iff.2 ⟨h1, h2⟩⟩, cr_ok rfl] at q; exact q
theorem sl_p_s : Calls Tryz.prog 40 #[.agg #[.int .i8 n, .float .f32 wd, .float .f32 g, .int .i16 t, .float .f32 s], .int .i64 h] w fun e w' => e = .returned (.tuple #[.float .f32 (pass wd g t s h), .int .i64 0]) ∧ Below w.heap.size w w' := by
  have q := passFor_spec n wd g t s hd.i8.1 hd.i8.2.1 hd.i8.2.2.1 hd.i8.2.2.2 h w
  rw [code2_zero.2 ⟨hd.ok, inR_iff.2 ⟨h1, h2⟩⟩, cr_ok rfl] at q; exact q
theorem sl_o_i (k : Nat) (hk : isLen k = true) : Calls Tryz.prog 37 #[.agg #[.int .i8 n, .float .f32 wd, .float .f32 k, .int .i16 t, .float .f32 s], .int .i64 h] w fun e w' => e = .returned (.tuple #[.float .f32 (opn wd k t h), .int .i64 0]) ∧ Below w.heap.size w w' := by
  have q := openFor_impl n wd k t s hd.i8.1 hd.i8.2.1 hd.i8.2.2.1 hd.i8.2.2.2 h w
  rw [code2_zero.2 ⟨hd.gap hk, inR_iff.2 ⟨h1, h2⟩⟩, cr_ok rfl] at q; exact q
theorem sl_o_s : Calls Tryz.prog 38 #[.agg #[.int .i8 n, .float .f32 wd, .float .f32 g, .int .i16 t, .float .f32 s], .int .i64 h] w fun e w' => e = .returned (.tuple #[.float .f32 (opn wd g t h), .int .i64 0]) ∧ Below w.heap.size w w' := by
  have q := openFor_spec n wd g t s hd.i8.1 hd.i8.2.1 hd.i8.2.2.1 hd.i8.2.2.2 h w
  rw [code2_zero.2 ⟨hd.ok, inR_iff.2 ⟨h1, h2⟩⟩, cr_ok rfl] at q; exact q
theorem sl_g_i (wanted : Nat) (hp : isPart wanted = true) : Calls Tryz.prog 46 #[.agg #[.int .i8 n, .float .f32 wd, .float .f32 g, .int .i16 t, .float .f32 s], .int .i64 h, .float .f32 wanted] w fun e w' => e = .returned (.tuple #[.float .f32 (gapAns 0 wd t h wanted).1, .int .i64 (gapAns 0 wd t h wanted).2]) ∧ Below w.heap.size w w' := by
  have q := gapFor_impl n wd g t s hd.i8.1 hd.i8.2.1 hd.i8.2.2.1 hd.i8.2.2.2 h wanted w
  rw [code2_zero.2 ⟨hd.ok, by rw [inR_iff.2 ⟨h1, h2⟩, hp]; rfl⟩] at q; exact q
theorem sl_g_s (wanted : Nat) (hp : isPart wanted = true) : Calls Tryz.prog 47 #[.agg #[.int .i8 n, .float .f32 wd, .float .f32 g, .int .i16 t, .float .f32 s], .int .i64 h, .float .f32 wanted] w fun e w' => e = .returned (.tuple #[.float .f32 (gapAns 0 wd t h wanted).1, .int .i64 (gapAns 0 wd t h wanted).2]) ∧ Below w.heap.size w w' := by
  have q := gapFor_spec n wd g t s hd.i8.1 hd.i8.2.1 hd.i8.2.2.1 hd.i8.2.2.2 h wanted w
  rw [code2_zero.2 ⟨hd.ok, by rw [inR_iff.2 ⟨h1, h2⟩, hp]; rfl⟩] at q; exact q
theorem sl_a_i (ad : Option Addr) (c : Nat) (hx : Ints w ad [h, 1, h]) : Calls Tryz.prog 41 #[.agg #[.int .i8 n, .float .f32 wd, .float .f32 g, .int .i16 t, .float .f32 s], .slice ad 3 c] w fun e w' => ∃ ad' c', e = .returned (.tuple #[.slice ad' 3 c', .int .i64 0]) ∧ Below w.heap.size w w' ∧ Flts w' ad' [pass wd g t s h, pass wd g t s 1, pass wd g t s h] := by
  have q := passAll_impl n wd g t s hd.i8.1 hd.i8.2.1 hd.i8.2.2.1 hd.i8.2.2.2 ad c [h, 1, h] (by simp) w hx
  have au : allUp [h, 1, h] = true := by
    unfold allUp; simp [inR_iff.2 ⟨h1, h2⟩, inR_iff.2 (show 1 ≤ (1 : Int) ∧ (1 : Int) ≤ 64 by omega)]
  rw [pa_0 hd.ok (by simp) au, pans_ok rfl] at q
  refine q.mono fun e w' ⟨v, a, b, o⟩ => ?_
  obtain ⟨ad', c', rfl, f, _⟩ := made_flts o
  exact ⟨ad', c', a, b, f⟩
omit h1 h2 in
theorem sl_h_i : Calls Tryz.prog 48 #[.agg #[.int .i8 n, .float .f32 wd, .float .f32 g, .int .i16 t, .float .f32 s]] w fun e w' => e = .returned (.tuple #[.float .f32 (fmul (floatOfInt .f32 n) g), .int .i64 0]) ∧ Below w.heap.size w w' := by
  have q := highOf_impl n wd g t s hd.i8.1 hd.i8.2.1 hd.i8.2.2.1 hd.i8.2.2.2 w
  rw [code2_zero.2 ⟨hd.ok, rfl⟩, cr_ok rfl] at q; exact q
omit h1 h2 in
theorem sl_t_i (hT : Tabs w) : Calls Tryz.prog 34 #[.agg #[.int .i8 n, .float .f32 wd, .float .f32 g, .int .i16 t, .float .f32 s]] w fun e w' => e = .returned (.string ⟨(bP n wd g t s 8).toArray⟩) ∧ Below w.heap.size w w' := by
  have q := blindText_impl n wd g t s hd.i8.1 hd.i8.2.1 hd.wl hd.gl hd.i8.2.2.1 hd.i8.2.2.2 hd.sl w hT
  rw [blindT_yes hd.ok] at q; exact q
omit h1 h2 in
theorem sl_r_i (hT : Tabs w) (hE : Errs w) (hM : Mx w) : Calls Tryz.prog 33 #[.string ⟨(bP n wd g t s 8).toArray⟩] w fun e w' => e = .returned (.tuple #[.agg #[.int .i8 n, .float .f32 wd, .float .f32 g, .int .i16 t, .float .f32 s], .int .i64 0]) ∧ Below w.heap.size w w' := by
  have q := readBlind_impl ⟨(bP n wd g t s 8).toArray⟩ (by have := bP_len hd; show (List.toArray _).size ≤ _; rw [List.size_toArray]; omega) w hT hE hM
  rw [show (⟨(bP n wd g t s 8).toArray⟩ : ByteArray).data.toList = bP n wd g t s 8 from rfl, bo_yes (rb_back hd)] at q; exact q
omit h1 h2 in
theorem sl_same : sameBlind n wd g t s n wd g t s = true := by
  have e1 := same_fin' (len_of hd.hw).1
  have e2 := same_fin' (len_of hd.hg).1
  have e3 := same_fin' hd.hs.1
  simp [sameBlind, e1, e2, e3]
omit h1 h2 in
theorem sl_s_s : Calls Tryz.prog 42 #[.agg #[.int .i8 n, .float .f32 wd, .float .f32 g, .int .i16 t, .float .f32 s], .agg #[.int .i8 n, .float .f32 wd, .float .f32 g, .int .i16 t, .float .f32 s]] w fun e w' => e = .returned (.bool true) ∧ Below w.heap.size w w' := by
  have q := same_blind_spec n wd g t s n wd g t s w
  rw [sl_same n wd g t s hd] at q; exact q
omit h1 h2 in
theorem sl_s_i : Calls Tryz.prog 43 #[.agg #[.int .i8 n, .float .f32 wd, .float .f32 g, .int .i16 t, .float .f32 s], .agg #[.int .i8 n, .float .f32 wd, .float .f32 g, .int .i16 t, .float .f32 s]] w fun e w' => e = .returned (.bool true) ∧ Below w.heap.size w w' := by
  have q := same_blind_impl n wd g t s n wd g t s w
  rw [sl_same n wd g t s hd] at q; exact q
omit h1 h2 in
theorem sl_v_i : Calls Tryz.prog 44 #[.agg #[.int .i8 n, .float .f32 wd, .float .f32 g, .int .i16 t, .float .f32 s]] w fun e w' => e = .returned (.bool true) ∧ Below w.heap.size w w' := by
  have q := blind_impl n wd g t s hd.i8.1 hd.i8.2.1 hd.i8.2.2.1 hd.i8.2.2.2 w
  rw [hd.ok] at q; exact q
end
section
open Go.Proofs
variable {P : Program} {ops : Array Oper} {Q : Exit → Act → World → Prop} {a : Act} {w : World} {rest : List Oper} {o : Oper}
/-- A whole row is loaded, under a guard that holds. -/
theorem wpList_load_all_g (hgd : Region.wanted o (yielded ops a.tmps) = true) (ty : TypeId) (x : Operand) (ho : o.op = .load ty x) (b : Nat) (hx : a.eval x = .pointer (some ⟨b, 0, none⟩)) (cs : Array Value) (n : Nat) (ht : IsAgg P ty n) (hn : cs.size = n) (hr : Row w b cs)
    (h : wpList P ops Q rest (a.put o.dst (.agg cs)) w) : wpList P ops Q (o :: rest) a w :=
  wpList_step fun K hK => by rw [if_pos hgd]; exact wp_load_all ty x ho b hx cs n ht hn hr (hK _ _ h)
end
end Go.Proofs.YtddkiemipedgcaaGreatDoor
