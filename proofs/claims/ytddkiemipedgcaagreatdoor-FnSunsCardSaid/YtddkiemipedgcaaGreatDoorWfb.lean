/-
  strconv.FormatUint at base 16, of a number below 2^32.
-/
import Derived.Test.YtddkiemipedgcaaGreatDoorWh
import Derived.Test.YtddkiemipedgcaaGreatDoorSr
namespace Go.Proofs.YtddkiemipedgcaaGreatDoor
open Go.RowKit Go.Proofs.Fl Go.Proofs.Hx
theorem two16 (w : World) : Calls Tryz.prog 176 #[.int .i64 16] w fun e w' => e = .returned (.bool true) ∧ w' = w := by
  go_enter Tryz.func176, Tryz.ntmps176
  go_wp2
  go_ret
  exact ⟨rfl, rfl⟩
theorem zeros64 (w : World) (h : w.cell? ⟨8, 15, none⟩ = some (.int .u8 4)) : Calls Tryz.prog 180 #[.int .u64 16] w fun e w' => e = .returned (.int .i64 4) ∧ w' = w := by
  have key : IntKind.u64.wrap (bits BinOp.and IntKind.u64 16 (IntKind.u64.wrap (-16)) * 285870213051353865) / 288230376151711744 = 15 := by decide +kernel
  go_enter Tryz.func180, Tryz.ntmps180
  go_wp2_with (simp only [key])
  go_ret
  exact ⟨rfl, rfl⟩
theorem zeros16 (w : World) (h : w.cell? ⟨8, 15, none⟩ = some (.int .u8 4)) : Calls Tryz.prog 177 #[.int .u64 16] w fun e w' => e = .returned (.int .i64 4) ∧ w' = w := by
  go_enter Tryz.func177, Tryz.ntmps177
  go_wp2_with fail
  refine (zeros64 _ h).mono ?_; rintro e w' ⟨rfl, rfl⟩
  go_wp2
  go_ret
  exact ⟨rfl, rfl⟩
set_option maxHeartbeats 1600000 in
set_option maxRecDepth 100000 in
theorem fmt_bits (u : Nat) (hu : u < 4294967296) (w : World) (ht : w.cell? ⟨8, 15, none⟩ = some (.int .u8 4)) (hg : 8 < w.heap.size) :
    Calls Tryz.prog 159 #[.slice none 0 0, .int .u64 u, .int .i64 16, .bool false, .bool false] w fun e w' => (∃ m, 1 ≤ m ∧ m ≤ 8 ∧ u < 16 ^ m ∧ e = .returned (.tuple #[.slice none 0 0, .string ⟨(hexL u m).toArray⟩])) ∧ Below w.heap.size w w' := by
  have H1 := hidd (fun w => two16 w)
  have H2 := hidd zeros16
  go_enter Tryz.func159, Tryz.ntmps159
  go_name_bytes_deep 38 PM hPM
  clear hPM
  go_name_bytes_deep 30 HX hHX
  have eHX : HexOk HX := by rw [← hHX]; exact hex16 (by decide +kernel)
  clear hHX
  have HE := hidd eHX
  clear eHX
  go_wp2_with (first
    | (go_at_call 176; refine (H1.out _).mono ?_; rintro e w' ⟨rfl, rfl⟩)
    | (go_at_call 177; refine (H2.out _ (by first | exact ht | (rw [World.cell?_alloc_past _ _ _ hg]; exact ht))).mono ?_; rintro e w' ⟨rfl, rfl⟩))
  go_loopw [13, 1] (fun vi vu wr => ∃ j : Nat, j ≤ 7 ∧ vi = .int .i64 (65 - (j : Int)) ∧ vu = .int .u64 ((u / 16 ^ j : Nat) : Int) ∧ wr = w.alloc (.cells (hexRow 65 u j) 171)) (fun vi _ _ => (1 + intOf vi).toNat)
  case atStart => exact ⟨0, by omega, rfl, by simp, by rw [hexRow_zero]; rfl⟩
  case round =>
    obtain ⟨j, hj, rfl, rfl, rfl⟩ := hrel
    obtain ⟨m, hm⟩ : ∃ m, m + (j + 1) = 65 := ⟨64 - j, by omega⟩
    have ei : (65 : Int) - (j : Int) = (m : Int) + 1 := by omega
    have hset := hexRow_set (n := 65) (u := u) (j := j) (by omega)
    rw [show 65 - (j + 1) = m by omega] at hset
    have hsz := hexRow_size (n := 65) (u := u) (j := j) (by omega)
    obtain ⟨x, hx⟩ := hexRow_at (n := 65) (u := u) (j := j) (i := m) (by omega) (by omega)
    have hv : u / 16 ^ j < 4294967296 := Nat.lt_of_le_of_lt (Nat.div_le_self _ _) hu
    have hm65 : m < 65 := by omega
    rw [ei]
    by_cases hge : 16 ≤ u / 16 ^ j
    · have hnx : u / 16 ^ (j + 1) = u / 16 ^ j / 16 := by rw [Nat.pow_succ, Nat.div_div_eq_div_mul]
      have hj7 : j + 1 ≤ 7 := by
        rcases Nat.lt_or_ge j 7 with h | h
        · omega
        · obtain rfl : j = 7 := by omega
          omega
      have hand : bits .and .u64 ((u / 16 ^ j : Nat) : Int) 15 = ((u / 16 ^ j % 16 : Nat) : Int) := by
        rw [show (15 : Int) = ((15 : Nat) : Int) from rfl, bits_and_u64_nat _ 15 (by omega) (by omega), show (15 : Nat) = 2 ^ 4 - 1 from rfl, Nat.and_two_pow_sub_one_eq_mod]
      generalize hC : hexRow 65 u j = C at *
      generalize hV : u / 16 ^ j = v at *
      have hidx : ∀ w, (Instr.index 9 (.string HX) (.int .u64 ((v : Int) % 16))).run Tryz.prog w = .ok (.int .u8 ((hexC (v % 16)).toNat : Int)) w := fun w => idx_hex HE.out 9 Tryz.underlying9 .u64 _ (v % 16) (by omega) (by omega) w
      have HS := hidd hset
      clear hset
      go_wp2
      go_roundw
      case rel => exact ⟨j + 1, hj7, by congr 1; omega, by rw [hnx]; congr 1, by rw [← HS.out]; rfl⟩
      case measure => simp [intOf]; omega
    · have hlt : u < 16 ^ (j + 1) := by
        have h := Nat.lt_mul_of_div_lt (show u / 16 ^ j < 16 by omega) (Nat.pow_pos (by decide))
        rw [Nat.pow_succ, Nat.mul_comm]
        exact h
      have hmod : u / 16 ^ j % 16 = u / 16 ^ j := Nat.mod_eq_of_lt (by omega)
      rw [hmod] at hset
      have hal : Tryz.prog.arrayLen 171 = 65 := by simp [Program.arrayLen, Tryz.underlying171]
      have hsl : ∀ W, (Instr.sliceAt 171 (.pointer (some ⟨w.heap.size, 0, none⟩)) (some (.int .i64 (m : Int))) none none).run Tryz.prog W = .ok (.slice (some ⟨w.heap.size, m, none⟩) (j + 1) (j + 1)) W := fun W => by
        rw [run_sliceAt_array_l W 171 ⟨w.heap.size, 0, none⟩ (by simp [Program.arrayLen, Program.elem, Tryz.underlying171]) .i64 m (by omega) (by rw [hal]; omega)]
        go_simp
        omega
      have hcv : (convert 22 9 (.slice (some ⟨w.heap.size, m, none⟩) (j + 1) (j + 1))).run Tryz.prog (w.alloc (.cells (hexRow 65 u (j + 1)) 171)) = .ok (.string ⟨(hexL u (j + 1)).toArray⟩) (w.alloc (.cells (hexRow 65 u (j + 1)) 171)) := by
        have h := run_convert_bytes_back (P := Tryz.prog) (w.alloc (.cells (hexRow 65 u (j + 1)) 171)) 22 9 5 ⟨w.heap.size, m, none⟩ (j + 1) (hexL u (j + 1)) Tryz.underlying22 Tryz.underlying5 Tryz.underlying9 (fun i hi => by
          rw [Lib.add_plain, World.cell?_alloc_new, show m + i = 65 - (j + 1) + i by omega]
          exact hexRow_digit (n := 65) (by omega) hi)
        rw [hexL_length] at h
        exact h
      have hb := (Below.refl w.heap.size w).alloc (Nat.le_refl _) (.cells (hexRow 65 u (j + 1)) 171)
      rw [← hset] at hcv hb
      clear hal hmod hset
      generalize hC : hexRow 65 u j = C at *
      generalize hV : u / 16 ^ j = v at *
      have hidx : ∀ w, (Instr.index 9 (.string HX) (.int .u64 (v : Int))).run Tryz.prog w = .ok (.int .u8 ((hexC v).toNat : Int)) w := fun w => idx_hex HE.out 9 Tryz.underlying9 .u64 _ v (by omega) (by omega) w
      have HB := hidd hb
      have HL := hidd hlt
      clear hb hlt
      simp only [cellB] at hcv HB
      go_wp2
      go_ret2
      exact ⟨⟨j + 1, by omega, by omega, HL.out, rfl⟩, HB.out⟩
theorem fmt_in (u : Nat) (hu : u < 4294967296) (w : World) (ht : w.cell? ⟨8, 15, none⟩ = some (.int .u8 4)) (hg : 8 < w.heap.size) :
    Calls Tryz.prog 138 #[.int .u64 u, .int .i64 16] w fun e w' => (∃ m, 1 ≤ m ∧ m ≤ 8 ∧ u < 16 ^ m ∧ e = .returned (.string ⟨(hexL u m).toArray⟩)) ∧ Below w.heap.size w w' := by
  go_enter Tryz.func138, Tryz.ntmps138
  go_wp2_with fail
  refine (fmt_bits u hu _ ht hg).mono ?_
  rintro e w' ⟨⟨m, h1, h2, h3, rfl⟩, hb⟩
  go_wp2
  go_ret
  exact ⟨⟨m, h1, h2, h3, rfl⟩, hb⟩
theorem fmt_pub (u : Nat) (hu : u < 4294967296) (w : World) (ht : w.cell? ⟨8, 15, none⟩ = some (.int .u8 4)) (hg : 8 < w.heap.size) :
    Calls Tryz.prog 121 #[.int .u64 u, .int .i64 16] w fun e w' => (∃ m, 1 ≤ m ∧ m ≤ 8 ∧ u < 16 ^ m ∧ e = .returned (.string ⟨(hexL u m).toArray⟩)) ∧ Below w.heap.size w w' := by
  go_enter Tryz.func121, Tryz.ntmps121
  go_wp2_with fail
  refine (fmt_in u hu _ ht hg).mono ?_
  rintro e w' ⟨⟨m, h1, h2, h3, rfl⟩, hb⟩
  go_wp2
  go_ret
  exact ⟨⟨m, h1, h2, h3, rfl⟩, hb⟩
theorem hex_cat {u m d : Nat} (h : d + m = 8) (hu : u < 16 ^ m) : (⟨(Lib.repeatL [48] d).toArray⟩ : ByteArray) ++ ⟨(hexL u m).toArray⟩ = ⟨(hexL u 8).toArray⟩ := by
  have e : Lib.repeatL [48] d = List.replicate d 48 := by have := Lib.repeatL_replicate 48 1 d; simpa using this
  rw [show 8 = m + d by omega, hexL_zero u m hu d, e]
  apply ByteArray.ext
  rw [ByteArray.data_append]
  simp
set_option maxHeartbeats 1600000 in
theorem text_impl (a : Nat) (ha : a < 4294967296) (w : World) (ht : w.cell? ⟨8, 15, none⟩ = some (.int .u8 4)) (hg : 8 < w.heap.size) :
    Calls Tryz.prog 84 #[.float .f32 a] w fun e w' => e = .returned (.string ⟨(hexL (canon a) 8).toArray⟩) ∧ Below w.heap.size w w' := by
  have hu := canon_lt ha
  have H1 := hidd (fmt_pub (canon a) hu w ht hg)
  cases hf : fne a a
  · have e : canon a = a := by unfold canon; rw [hf]; rfl
    rw [e] at H1 hu ⊢
    clear e
    go_enter Tryz.func84, Tryz.ntmps84
    go_wp2_with fail
    refine H1.out.mono ?_
    rintro e w' ⟨⟨m, h1, h2, h3, rfl⟩, hb⟩
    have hsz : (⟨(hexL a m).toArray⟩ : ByteArray).size = m := by show (hexL a m).toArray.size = m; rw [List.size_toArray, hexL_length]
    obtain ⟨d, hd⟩ : ∃ d, d + m = 8 := ⟨8 - m, by omega⟩
    have ed : (8 : Int) - (m : Int) = (d : Int) := by omega
    have hcat := hex_cat hd h3
    have hrl : (Lib.repeatL [48] d).length = d := by rw [Lib.repeatL_length]; simp
    generalize hS : (⟨(hexL a m).toArray⟩ : ByteArray) = S at *
    have HC := hidd hcat
    clear hcat h3
    go_wp2_with (go_at_call 122; refine (Tryz.strings_Repeat _ d _ (by omega) (by show 1 * d ≤ _; omega)).mono ?_; rintro e w'' ⟨rfl, hb2⟩)
    go_ret
    exact ⟨by rw [← HC.out]; rfl, hb.trans (hb2.mono hb.size)⟩
  · have e : canon a = 2143289344 := by unfold canon; rw [hf]; rfl
    rw [e] at H1 hu ⊢
    clear e
    go_enter Tryz.func84, Tryz.ntmps84
    go_wp2_with fail
    refine H1.out.mono ?_
    rintro e w' ⟨⟨m, h1, h2, h3, rfl⟩, hb⟩
    have hsz : (⟨(hexL 2143289344 m).toArray⟩ : ByteArray).size = m := by show (hexL 2143289344 m).toArray.size = m; rw [List.size_toArray, hexL_length]
    obtain ⟨d, hd⟩ : ∃ d, d + m = 8 := ⟨8 - m, by omega⟩
    have ed : (8 : Int) - (m : Int) = (d : Int) := by omega
    have hcat := hex_cat hd h3
    have hrl : (Lib.repeatL [48] d).length = d := by rw [Lib.repeatL_length]; simp
    generalize hS : (⟨(hexL 2143289344 m).toArray⟩ : ByteArray) = S at *
    have HC := hidd hcat
    clear hcat h3
    go_wp2_with (go_at_call 122; refine (Tryz.strings_Repeat _ d _ (by omega) (by show 1 * d ≤ _; omega)).mono ?_; rintro e w'' ⟨rfl, hb2⟩)
    go_ret
    exact ⟨by rw [← HC.out]; rfl, hb.trans (hb2.mono hb.size)⟩
end Go.Proofs.YtddkiemipedgcaaGreatDoor
