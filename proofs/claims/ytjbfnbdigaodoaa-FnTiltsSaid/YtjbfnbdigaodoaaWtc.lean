/-
  Tilts: the calls of the law of the tilts, each at its arguments.
-/
import Derived.Test.YtjbfnbdigaodoaaWtl
import Derived.Test.YtjbfnbdigaodoaaWdb
import Derived.Test.YtjbfnbdigaodoaaWbc
import Derived.Deep.CutRange
namespace Go.Proofs.Ytjbfnbdigaodoaa
open Go.RowKit Go.Proofs.Fl Go.Proofs.Pl
set_option linter.unusedVariables false

theorem below_new (w : World) (o : Obj) : Below w.heap.size w (w.alloc o) := (Below.refl _ _).alloc (Nat.le_refl _) o
/-- A list of numbers that is there. -/
def Lst (v : Value) (xs : List Int) (w : World) : Prop := ∃ ad c, v = .slice ad xs.length c ∧ Ints w ad xs
theorem Lst.step {v : Value} {xs : List Int} {w w1 : World} (h : Lst v xs w) (hb : Below w.heap.size w w1) : Lst v xs w1 := by
  obtain ⟨ad, c, e, i⟩ := h
  exact ⟨ad, c, e, i.below hb⟩
theorem lst_of {w : World} {base e : Nat} {v : Value} {xs : List Int} (h : w.ownsRow base e 1 v xs.length (xs.map (Value.int .i64))) : Lst v xs w := by
  obtain ⟨ad, c, e, i, _⟩ := (made_of h).ints
  exact ⟨ad, c, e, i⟩
theorem half_tone {t : Nat} (h : Tone t) : Tone (fdiv t 1073741824) :=
  quo_tone h.1 h.2.1 (by decide) (by decide) h.2.2 (b := 1073741824) (by decide) (by decide) (by decide) (by decide +kernel)
section
variable (n : Int) (wd g : Nat) (t : Int) (s : Nat) (hd : DB n wd g t s) (h : Int) (h1 : 1 ≤ h) (h2 : h ≤ 64) (w : World)
/-- The nearest tilt. -/
def nearOf (wd g s : Nat) (h : Int) (wanted : Nat) : Int := (least128 (toff wd g s h wanted) : Int) - 64
include hd h1 h2
theorem tf_i (wanted : Nat) (hp : isPart wanted = true) : Calls Try.prog 19 #[.agg #[.int .i8 n, .float .f32 wd, .float .f32 g, .int .i16 t, .float .f32 s], .int .i64 h, .float .f32 wanted] w fun e w' => e = .returned (.tuple #[.int .i64 (nearOf wd g s h wanted), .float .f32 (pass wd g (nearOf wd g s h wanted) s h), .int .i64 0]) ∧ Below w.heap.size w w' := by
  have q := tiltFor_impl n wd g t s (by have := hd.n1; omega) (by have := hd.n2; omega) (by have := hd.t1; omega) (by have := hd.t2; omega) h wanted w
  rw [t2_ok (code2_zero.2 ⟨hd.ok, by rw [inR_iff.2 ⟨h1, h2⟩, hp]; rfl⟩)] at q; exact q
theorem tf_s (wanted : Nat) (hp : isPart wanted = true) : Calls Try.prog 20 #[.agg #[.int .i8 n, .float .f32 wd, .float .f32 g, .int .i16 t, .float .f32 s], .int .i64 h, .float .f32 wanted] w fun e w' => e = .returned (.tuple #[.int .i64 (nearOf wd g s h wanted), .float .f32 (pass wd g (nearOf wd g s h wanted) s h), .int .i64 0]) ∧ Below w.heap.size w w' := by
  have q := tiltFor_spec n wd g t s (by have := hd.n1; omega) (by have := hd.n2; omega) (by have := hd.t1; omega) (by have := hd.t2; omega) h wanted w
  rw [t2_ok (code2_zero.2 ⟨hd.ok, by rw [inR_iff.2 ⟨h1, h2⟩, hp]; rfl⟩)] at q; exact q
theorem st_i : Calls Try.prog 21 #[.agg #[.int .i8 n, .float .f32 wd, .float .f32 g, .int .i16 t, .float .f32 s], .int .i64 h] w fun e w' => ∃ v, e = .returned (.tuple #[v, .int .i64 0]) ∧ Below w.heap.size w w' ∧ Lst v (tl129 (shutSo wd g h)) w' := by
  have q := shutTilts_impl n wd g t s (by have := hd.n1; omega) (by have := hd.n2; omega) (by have := hd.t1; omega) (by have := hd.t2; omega) h w
  rw [la_ok (code2_zero.2 ⟨hd.ok, inR_iff.2 ⟨h1, h2⟩⟩)] at q
  exact q.mono fun e w' ⟨v, a, b, c⟩ => ⟨v, a, b, lst_of c⟩
theorem st_s : Calls Try.prog 22 #[.agg #[.int .i8 n, .float .f32 wd, .float .f32 g, .int .i16 t, .float .f32 s], .int .i64 h] w fun e w' => ∃ v, e = .returned (.tuple #[v, .int .i64 0]) ∧ Below w.heap.size w w' ∧ Lst v (tl129 (shutSo wd g h)) w' := by
  have q := shutTilts_spec n wd g t s (by have := hd.n1; omega) (by have := hd.n2; omega) (by have := hd.t1; omega) (by have := hd.t2; omega) h w
  rw [la_ok (code2_zero.2 ⟨hd.ok, inR_iff.2 ⟨h1, h2⟩⟩)] at q
  exact q.mono fun e w' ⟨v, a, b, c⟩ => ⟨v, a, b, lst_of c⟩
theorem tw_i (lo hi : Nat) (hl : isPart lo = true) (hh : isPart hi = true) : Calls Try.prog 23 #[.agg #[.int .i8 n, .float .f32 wd, .float .f32 g, .int .i16 t, .float .f32 s], .int .i64 h, .float .f32 lo, .float .f32 hi] w fun e w' => ∃ v, e = .returned (.tuple #[v, .int .i64 0]) ∧ Below w.heap.size w w' ∧ Lst v (tl129 (inSo wd g s h lo hi)) w' := by
  have q := tiltsWithin_impl n wd g t s (by have := hd.n1; omega) (by have := hd.n2; omega) (by have := hd.t1; omega) (by have := hd.t2; omega) h lo hi w
  rw [la_ok (code2_zero.2 ⟨hd.ok, by rw [inR_iff.2 ⟨h1, h2⟩, hl, hh]; rfl⟩)] at q
  exact q.mono fun e w' ⟨v, a, b, c⟩ => ⟨v, a, b, lst_of c⟩
theorem tw_s (lo hi : Nat) (hl : isPart lo = true) (hh : isPart hi = true) : Calls Try.prog 24 #[.agg #[.int .i8 n, .float .f32 wd, .float .f32 g, .int .i16 t, .float .f32 s], .int .i64 h, .float .f32 lo, .float .f32 hi] w fun e w' => ∃ v, e = .returned (.tuple #[v, .int .i64 0]) ∧ Below w.heap.size w w' ∧ Lst v (tl129 (inSo wd g s h lo hi)) w' := by
  have q := tiltsWithin_spec n wd g t s (by have := hd.n1; omega) (by have := hd.n2; omega) (by have := hd.t1; omega) (by have := hd.t2; omega) h lo hi w
  rw [la_ok (code2_zero.2 ⟨hd.ok, by rw [inR_iff.2 ⟨h1, h2⟩, hl, hh]; rfl⟩)] at q
  exact q.mono fun e w' ⟨v, a, b, c⟩ => ⟨v, a, b, lst_of c⟩
theorem co_i : Calls Try.prog 25 #[.agg #[.int .i8 n, .float .f32 wd, .float .f32 g, .int .i16 t, .float .f32 s], .int .i64 h] w fun e w' => e = .returned (.tuple #[.int .i64 (cutOf (shutSo wd g h)).1, .int .i64 (cutOf (shutSo wd g h)).2]) ∧ Below w.heap.size w w' := by
  have q := cutOff_impl n wd g t s (by have := hd.n1; omega) (by have := hd.n2; omega) (by have := hd.t1; omega) (by have := hd.t2; omega) h w
  rw [la_ok (code2_zero.2 ⟨hd.ok, inR_iff.2 ⟨h1, h2⟩⟩)] at q; exact q
theorem co_s : Calls Try.prog 26 #[.agg #[.int .i8 n, .float .f32 wd, .float .f32 g, .int .i16 t, .float .f32 s], .int .i64 h] w fun e w' => e = .returned (.tuple #[.int .i64 (cutOf (shutSo wd g h)).1, .int .i64 (cutOf (shutSo wd g h)).2]) ∧ Below w.heap.size w w' := by
  have q := cutOff_spec n wd g t s (by have := hd.n1; omega) (by have := hd.n2; omega) (by have := hd.t1; omega) (by have := hd.t2; omega) h w
  rw [la_ok (code2_zero.2 ⟨hd.ok, inR_iff.2 ⟨h1, h2⟩⟩)] at q; exact q
omit h1 h2 in
theorem tt_i (u : Int) (u1 : -64 ≤ u) (u2 : u ≤ 64) : Calls Try.prog 28 #[.agg #[.int .i8 n, .float .f32 wd, .float .f32 g, .int .i16 t, .float .f32 s], .int .i64 u] w fun e w' => e = .returned (.tuple #[.agg #[.int .i8 n, .float .f32 wd, .float .f32 g, .int .i16 u, .float .f32 s], .int .i64 0]) ∧ Below w.heap.size w w' := by
  have q := tiltTo_impl n wd g t s (by have := hd.n1; omega) (by have := hd.n2; omega) (by have := hd.t1; omega) (by have := hd.t2; omega) u w
  rw [ta_ok (code2_zero.2 ⟨hd.ok, inR_iff.2 ⟨u1, u2⟩⟩)] at q; exact q
theorem pf_i : Calls Try.prog 29 #[.agg #[.int .i8 n, .float .f32 wd, .float .f32 g, .int .i16 t, .float .f32 s], .int .i64 h] w fun e w' => e = .returned (.tuple #[.float .f32 (pass wd g t s h), .int .i64 0]) ∧ Below w.heap.size w w' := by
  have q := passFor_impl n wd g t s (by have := hd.n1; omega) (by have := hd.n2; omega) (by have := hd.t1; omega) (by have := hd.t2; omega) h w
  rw [code2_zero.2 ⟨hd.ok, inR_iff.2 ⟨h1, h2⟩⟩, cr_ok rfl] at q; exact q
theorem of_i : Calls Try.prog 30 #[.agg #[.int .i8 n, .float .f32 wd, .float .f32 g, .int .i16 t, .float .f32 s], .int .i64 h] w fun e w' => e = .returned (.tuple #[.float .f32 (opn wd g t h), .int .i64 0]) ∧ Below w.heap.size w w' := by
  have q := openFor_impl n wd g t s (by have := hd.n1; omega) (by have := hd.n2; omega) (by have := hd.t1; omega) (by have := hd.t2; omega) h w
  rw [code2_zero.2 ⟨hd.ok, inR_iff.2 ⟨h1, h2⟩⟩, cr_ok rfl] at q; exact q
omit w h1 h2 in
theorem DB.tilt (u : Int) (u1 : -64 ≤ u) (u2 : u ≤ 64) : DB n wd g u s := ⟨hd.n1, hd.n2, hd.hw, hd.hg, u1, u2, hd.hs⟩
omit w in
theorem near_spec (wanted : Nat) (hp : isPart wanted = true) (u : Int) (u1 : -64 ≤ u) (u2 : u ≤ 64) :
    fge (tdist wd g s h wanted u) (tdist wd g s h wanted (nearOf wd g s h wanted)) = true ∧ (u < nearOf wd g s h wanted → feq (tdist wd g s h wanted u) (tdist wd g s h wanted (nearOf wd g s h wanted)) = false) := by
  have hf : ∀ v : Int, Fnt (tdist wd g s h wanted v) := fun v => by
    obtain ⟨_, _, c, _⟩ := tdist_steps (wanted := wanted) v hd.hw hd.hg hd.hs.part h1 h2 hp
    exact (size_spec c).1
  obtain ⟨k, rfl⟩ : ∃ k : Nat, u = (k : Int) - 64 := ⟨(u + 64).toNat, by omega⟩
  obtain ⟨a, b⟩ := least_spec (f := toff wd g s h wanted) 128 (fun j _ => hf _) k (by omega)
  rw [least128_eq] at a b
  refine ⟨?_, fun hlt => ?_⟩
  · rw [fge_fin (hf _) (hf _)]
    have a' : V (tdist wd g s h wanted (nearOf wd g s h wanted)) ≤ V (tdist wd g s h wanted ((k : Int) - 64)) := a
    simpa using a'
  · rw [feq_fin (hf _) (hf _)]
    have : V (toff wd g s h wanted (least128 (toff wd g s h wanted))) < V (toff wd g s h wanted k) := b (by unfold nearOf at hlt; omega)
    have e1 : toff wd g s h wanted (least128 (toff wd g s h wanted)) = tdist wd g s h wanted (nearOf wd g s h wanted) := rfl
    have e2 : toff wd g s h wanted k = tdist wd g s h wanted ((k : Int) - 64) := rfl
    rw [e1, e2] at this
    simp; intro e; omega
end
theorem near_in (wd g s : Nat) (h : Int) (wanted : Nat) : -64 ≤ nearOf wd g s h wanted ∧ nearOf wd g s h wanted ≤ 64 := by
  have := least128_le (toff wd g s h wanted)
  unfold nearOf; omega
/-- What the law of the tilts keeps. -/
structure TK (w0 : World) (b : Nat) (cs : Array Value) (Ca : Option Addr) (C : List Int) (Da : Option Addr) (D : List Int) (w : World) : Prop where
  below : Below w0.heap.size w0 w
  row : Row w b cs
  argC : ArgBytes w Ca C
  argD : ArgBytes w Da D
theorem TK.step {w0 : World} {b : Nat} {cs : Array Value} {Ca : Option Addr} {C : List Int} {Da : Option Addr} {D : List Int} {w w1 : World} (h : TK w0 b cs Ca C Da D w) (hb : Below w.heap.size w w1) : TK w0 b cs Ca C Da D w1 :=
  ⟨h.below.trans (hb.mono h.below.size), h.row.below hb h.row.lt, h.argC.step hb, h.argD.step hb⟩
theorem has_lst (v : Value) (so : Int → Bool) (u : Int) (u1 : -64 ≤ u) (u2 : u ≤ 64) (w : World) (h : Lst v (tl129 so) w) :
    Calls Try.prog 31 #[v, .int .i64 u] w fun e w' => e = .returned (.bool (so u)) ∧ w = w' := by
  obtain ⟨ad, c, rfl, i⟩ := h
  have q := has_any ad c (tl129 so) (by have := tl129_len so; omega) u w i
  rw [tl129_has so u u1 u2] at q; exact q
theorem same_lst (v v2 : Value) (xs : List Int) (hl : xs.length ≤ 129) (w : World) (h : Lst v xs w) (h2 : Lst v2 xs w) :
    Calls Try.prog 27 #[v, v2] w fun e w' => e = .returned (.bool true) ∧ Below w.heap.size w w' := by
  obtain ⟨ad, c, rfl, i⟩ := h
  obtain ⟨bd, d, rfl, j⟩ := h2
  exact same_any ad bd c d xs (by omega) w i j
theorem has_shut (v : Value) (wd g : Nat) (h : Int) (u : Int) (u1 : -64 ≤ u) (u2 : u ≤ 64) (w : World) (hl : Lst v (tl129 (shutSo wd g h)) w) :
    Calls Try.prog 31 #[v, .int .i64 u] w fun e w' => e = .returned (.bool (feq (opn wd g u h) 0)) ∧ w = w' := has_lst v _ u u1 u2 w hl
theorem has_in (v : Value) (wd g s : Nat) (h : Int) (lo hi : Nat) (u : Int) (u1 : -64 ≤ u) (u2 : u ≤ 64) (w : World) (hl : Lst v (tl129 (inSo wd g s h lo hi)) w) :
    Calls Try.prog 31 #[v, .int .i64 u] w fun e w' => e = .returned (.bool (fge (pass wd g u s h) lo && fle (pass wd g u s h) hi)) ∧ w = w' := has_lst v _ u u1 u2 w hl
end Go.Proofs.Ytjbfnbdigaodoaa
