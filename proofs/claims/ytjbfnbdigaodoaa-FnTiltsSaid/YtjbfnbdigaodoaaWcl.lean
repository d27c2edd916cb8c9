/-
  Cords: the calls of the law of the cords, each at its arguments.
-/
import Derived.Test.YtjbfnbdigaodoaaWcs
import Derived.Test.YtjbfnbdigaodoaaWds
import Derived.Test.YtjbfnbdigaodoaaPcl
namespace Go.Proofs.Ytjbfnbdigaodoaa
open Go.RowKit Go.Proofs.Fl Go.Proofs.Pl
set_option linter.unusedVariables false

theorem same_self {x : Nat} (h : Fnt x) : same x x = true := by
  have e : fne x x = false := by rw [fne_not, feq_fin h h]; simp
  unfold same; rw [e]; simp
section
variable (l s : Nat) (n : Int) (hc : cordOk l s n = true) (hn : n ≤ 20) (load : Nat) (hp : isPart load = true) (w : World)
include hc hn hp
theorem str_i : Calls Try.prog 8 #[.agg #[.float .f32 l, .float .f32 s, .int .i8 n], .float .f32 load] w fun e w' => e = .returned (.tuple #[.float .f32 (stretched l s load), .int .i64 0]) ∧ Below w.heap.size w w' := by
  have b := cordOk_of hc
  have h := stretchedCord_impl l s n (by omega) (by omega) load w
  rw [cordCode_0 hc hp, cr_ok rfl] at h; exact h
theorem str_s : Calls Try.prog 9 #[.agg #[.float .f32 l, .float .f32 s, .int .i8 n], .float .f32 load] w fun e w' => e = .returned (.tuple #[.float .f32 (stretched l s load), .int .i64 0]) ∧ Below w.heap.size w w' := by
  have b := cordOk_of hc
  have h := stretchedCord_spec l s n (by omega) (by omega) load w
  rw [cordCode_0 hc hp, cr_ok rfl] at h; exact h
variable (k : Int) (k0 : 0 ≤ k) (k1 : k ≤ n)
include k0 k1 in
theorem plc_i : Calls Try.prog 15 #[.agg #[.float .f32 l, .float .f32 s, .int .i8 n], .float .f32 load, .int .i64 k] w fun e w' => e = .returned (.tuple #[.float .f32 (place l s n load k), .int .i64 0]) ∧ Below w.heap.size w w' := by
  have b := cordOk_of hc
  have h := placeOf_impl l s n (by omega) (by omega) load k w
  rw [cordCode_0 hc (by rw [hp, inR_iff.2 ⟨k0, k1⟩]; rfl), cr_ok rfl] at h; exact h
include k0 k1 in
theorem plc_s : Calls Try.prog 16 #[.agg #[.float .f32 l, .float .f32 s, .int .i8 n], .float .f32 load, .int .i64 k] w fun e w' => e = .returned (.tuple #[.float .f32 (place l s n load k), .int .i64 0]) ∧ Below w.heap.size w w' := by
  have b := cordOk_of hc
  have h := placeOf_spec l s n (by omega) (by omega) load k w
  rw [cordCode_0 hc (by rw [hp, inR_iff.2 ⟨k0, k1⟩]; rfl), cr_ok rfl] at h; exact h
theorem plc_no : Calls Try.prog 15 #[.agg #[.float .f32 l, .float .f32 s, .int .i8 n], .float .f32 load, .int .i64 (n + 1)] w fun e w' => e = .returned (.tuple #[.float .f32 0, .int .i64 2]) ∧ Below w.heap.size w w' := by
  have b := cordOk_of hc
  have h := placeOf_impl l s n (by omega) (by omega) load (n + 1) w
  have hf : (isPart load && inR (n + 1) 0 n) = false := by
    rw [hp, inR_false.2 (by omega)]; rfl
  rw [cordCode_2 hc hf, cr_no (by decide)] at h; exact h
variable (wanted : Nat) (hw : isPlain wanted = true) (hww : wanted < 4294967296)
/-- The stop that is found. -/
def bestOf (l s : Nat) (n : Int) (load wanted : Nat) : Nat := leastOf (fun i => off l s n load wanted (i : Nat)) n.toNat
include hw in
theorem stop_i : Calls Try.prog 12 #[.agg #[.float .f32 l, .float .f32 s, .int .i8 n], .float .f32 load, .float .f32 wanted] w fun e w' => e = .returned (.tuple #[.int .i64 (bestOf l s n load wanted : Nat), .float .f32 (place l s n load (bestOf l s n load wanted : Nat)), .int .i64 0]) ∧ Below w.heap.size w w' := by
  have b := cordOk_of hc
  have h := stopFor_impl l s n (by omega) (by omega) load wanted w
  unfold stopAns at h
  rw [cordCode_0 hc (by rw [hp, hw]; rfl), cr_ok rfl] at h; exact h
include hw hww in
theorem stop_s : Calls Try.prog 13 #[.agg #[.float .f32 l, .float .f32 s, .int .i8 n], .float .f32 load, .float .f32 wanted] w fun e w' => e = .returned (.tuple #[.int .i64 (bestOf l s n load wanted : Nat), .float .f32 (place l s n load (bestOf l s n load wanted : Nat)), .int .i64 0]) ∧ Below w.heap.size w w' := by
  have b := cordOk_of hc
  have h := stopFor_spec l s n (by omega) (by omega) load wanted hww w
  unfold stopAns at h
  rw [cordCode_0 hc (by rw [hp, hw]; rfl), cr_ok rfl] at h; exact h
end
theorem wanted_ok {t : Nat} (h : Tone t) : Fnt t ∧ Fnt (fmul 1115684864 t) ∧ isPlain (fmul 1115684864 t) = true ∧ fmul 1115684864 t < 4294967296 := by
  obtain ⟨h1, h2, h3⟩ := h
  have a := fmul_le' (x := 1115684864) (a := 1115684864) (by decide) h3 (by decide) (by decide) (c := 1115684864) (by decide) (by decide +kernel)
  have f := fin_of_le a (by decide)
  have i := (mul_fin (x := 1115684864) (by decide) h1).2
  have sgf : sg (fmul 1115684864 t) = false := by rw [i.sg, h2]; decide
  refine ⟨h1, f, ?_, i.lt⟩
  have v0 : V 3380609024 = -(M 1233125376 : Int) := by decide +kernel
  have v1 : V 1233125376 = (M 1233125376 : Int) := by decide +kernel
  unfold isPlain
  rw [between_iff f (by decide) (by decide), v0, v1, V_pos sgf]
  have := M_mono (show rung (fmul 1115684864 t) ≤ 1233125376 by omega)
  simp; omega
/-- What stands before a stop's place. -/
def beforeOf (l s : Nat) (n : Int) (load : Nat) : Nat → Nat
  | 0 => 3212836864
  | k + 1 => place l s n load (k : Int)
theorem place_gt {l s load m k : Nat} (hl : isLen l = true) (hs : Tone s) (hp : Tone load) (h1 : 1 ≤ m) (h2 : m ≤ 20) (hk : k ≤ m) : fgt (place l s (m : Int) load (k : Int)) (beforeOf l s (m : Int) load k) = true := by
  have fk := (place_steps (n := (m : Int)) (stop := (k : Int)) hl hs.part hp.part (by omega) (by omega) (by omega) (by omega)).2.2.2.2.1
  cases k with
  | zero =>
    show fgt _ 3212836864 = true
    rw [fgt_fin fk (by decide)]
    have e : V (place l s (m : Int) load ((0 : Nat) : Int)) = 0 := place_0 hl hs hp h1 h2
    have v : V 3212836864 = -(M 1065353216 : Int) := by decide +kernel
    have p := M_pos (r := 1065353216) (by decide)
    rw [e, v]; simp; omega
  | succ k =>
    have fk' := (place_steps (n := (m : Int)) (stop := (k : Int)) hl hs.part hp.part (by omega) (by omega) (by omega) (by omega)).2.2.2.2.1
    show fgt _ (place l s (m : Int) load (k : Int)) = true
    rw [fgt_fin fk fk']
    have := place_lt hl hs hp h1 h2 hk
    simpa using this
theorem place_zero {l s load m : Nat} (hl : isLen l = true) (hs : Tone s) (hp : Tone load) (h1 : 1 ≤ m) (h2 : m ≤ 20) : fne (place l s (m : Int) load 0) 0 = false := by
  have fk := (place_steps (n := (m : Int)) (stop := 0) hl hs.part hp.part (by omega) (by omega) (by omega) (by omega)).2.2.2.2.1
  have v0 : V 0 = 0 := by decide
  rw [fne_not, feq_fin fk (by decide), place_0 hl hs hp h1 h2, v0]; simp
theorem off_fin {l s load m wanted k : Nat} (hl : isLen l = true) (hs : Tone s) (hp : Tone load) (hw : isPlain wanted = true) (h1 : 1 ≤ m) (h2 : m ≤ 20) (hk : k ≤ m) : Fnt (off l s (m : Int) load wanted (k : Int)) := by
  obtain ⟨_, _, a, _⟩ := off_steps (n := (m : Int)) (stop := (k : Int)) hl hs.part hp.part hw (by omega) (by omega) (by omega) (by omega)
  exact (size_spec a).1
theorem best_spec {l s load m wanted k : Nat} (hl : isLen l = true) (hs : Tone s) (hp : Tone load) (hw : isPlain wanted = true) (h1 : 1 ≤ m) (h2 : m ≤ 20) (hk : k ≤ m) :
    bestOf l s (m : Int) load wanted ≤ m ∧ fge (off l s (m : Int) load wanted (k : Int)) (off l s (m : Int) load wanted (bestOf l s (m : Int) load wanted : Nat)) = true ∧ (k < bestOf l s (m : Int) load wanted → feq (off l s (m : Int) load wanted (k : Int)) (off l s (m : Int) load wanted (bestOf l s (m : Int) load wanted : Nat)) = false) := by
  have hm : ((m : Int)).toNat = m := by omega
  have hle := least_le (fun i => off l s (m : Int) load wanted (i : Nat)) m
  have hb : bestOf l s (m : Int) load wanted = leastOf (fun i => off l s (m : Int) load wanted (i : Nat)) m := by unfold bestOf; rw [hm]
  obtain ⟨a, b⟩ := least_spec (f := fun i => off l s (m : Int) load wanted (i : Nat)) m (fun j hj => off_fin hl hs hp hw h1 h2 hj) k hk
  rw [hb]
  have f1 := off_fin (wanted := wanted) hl hs hp hw h1 h2 hk
  have f2 := off_fin (wanted := wanted) hl hs hp hw h1 h2 hle
  refine ⟨hle, ?_, fun hlt => ?_⟩
  · rw [fge_fin f1 f2]; simpa using a
  · rw [feq_fin f1 f2]
    have := b hlt
    simp; intro h; omega
/-- What the law of the cords keeps. -/
structure CK (w0 : World) (b : Nat) (cs : Array Value) (Ca : Option Addr) (C : List Int) (Da : Option Addr) (D : List Int) (w : World) : Prop where
  below : Below w0.heap.size w0 w
  row : Row w b cs
  argC : ArgBytes w Ca C
  argD : ArgBytes w Da D
theorem CK.step {w0 : World} {b : Nat} {cs : Array Value} {Ca : Option Addr} {C : List Int} {Da : Option Addr} {D : List Int} {w w1 : World} (h : CK w0 b cs Ca C Da D w) (hb : Below w.heap.size w w1) : CK w0 b cs Ca C Da D w1 :=
  ⟨h.below.trans (hb.mono h.below.size), h.row.below hb h.row.lt, h.argC.step hb, h.argD.step hb⟩
theorem size2_any (a : Nat) (ha : Fnt a) (hw : a < 4294967296) (w : World) : Calls Try.prog 14 #[.float .f32 a] w fun e w' => e = .returned (.float .f32 (size a)) ∧ w = w' := by
  go_enter Try.func14, Try.ntmps14
  go_wp2_with (go_at_call 51; refine (size_l01 _ ha hw _).mono ?_; rintro e w' ⟨rfl, rfl⟩)
  go_ret; exact ⟨rfl, rfl⟩
end Go.Proofs.Ytjbfnbdigaodoaa
