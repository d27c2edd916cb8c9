/-
  A number's text: the eight lower-case digits of its bits.
-/
import Derived.Test.YtfiifnlnkedahaaDoorWd
import Derived.Test.YtfiifnlnkedahaaDoorWe
import Derived.Test.YtfiifnlnkedahaaDoorRw
import Derived.Lib.ItoaNum
import Derived.Lib.ItoaMem
import Derived.BigGuard
namespace Go.Proofs.Hx
open Go
/-- The sixteen digits. -/
def hexC (n : Nat) : UInt8 := if n < 10 then UInt8.ofNat (48 + n) else UInt8.ofNat (87 + n)
/-- The last j digits of u, base 16. -/
def hexL (u : Nat) : Nat → List UInt8
  | 0 => []
  | j + 1 => hexC (u / 16 ^ j % 16) :: hexL u j
theorem hexL_length (u : Nat) : ∀ j, (hexL u j).length = j
  | 0 => rfl
  | j + 1 => by simp [hexL, hexL_length u j]
theorem hexL_zero (u : Nat) (m : Nat) (h : u < 16 ^ m) : ∀ d, hexL u (m + d) = List.replicate d 48 ++ hexL u m
  | 0 => rfl
  | d + 1 => by
    have h1 : u / 16 ^ (m + d) = 0 := Nat.div_eq_of_lt (Nat.lt_of_lt_of_le h (Nat.pow_le_pow_right (by decide) (by omega)))
    rw [show m + (d + 1) = (m + d) + 1 by omega, hexL, h1, hexL_zero u m h d, List.replicate_succ]
    rfl
def cellB (b : UInt8) : Value := .int .u8 (b.toNat : Int)
/-- A row of n cells whose last j are the last j digits of u. -/
def hexRow (n u j : Nat) : Array Value := (List.replicate (n - j) (Value.int .u8 0) ++ (hexL u j).map cellB).toArray
theorem hexRow_size {n u j : Nat} (h : j ≤ n) : (hexRow n u j).size = n := by simp [hexRow, hexL_length]; omega
theorem hexRow_zero (n u : Nat) : hexRow n u 0 = Array.replicate n (Value.int .u8 0) := by simp [hexRow, hexL]
theorem hexRow_set {n u j : Nat} (h : j < n) : (hexRow n u j).setIfInBounds (n - (j + 1)) (cellB (hexC (u / 16 ^ j % 16))) = hexRow n u (j + 1) := by
  obtain ⟨m, rfl⟩ : ∃ m, n = m + (j + 1) := ⟨n - (j + 1), by omega⟩
  unfold hexRow
  rw [show m + (j + 1) - j = m + 1 by omega, show m + (j + 1) - (j + 1) = m by omega]
  simp [hexL, List.replicate_succ', List.append_assoc]
theorem hexRow_at {n u j i : Nat} (h : j ≤ n) (hi : i < n) : ∃ x : Value, (hexRow n u j)[i]? = some x := by
  have : i < (hexRow n u j).size := by rw [hexRow_size h]; exact hi
  exact ⟨_, Array.getElem?_eq_getElem this⟩
theorem hexRow_digit {n u j i : Nat} (h : j ≤ n) (hi : i < (hexL u j).length) : (hexRow n u j)[n - j + i]? = some (.int .u8 ((hexL u j)[i].toNat : Int)) := by
  simp only [hexRow, List.getElem?_toArray]
  rw [List.getElem?_append_right (by simp)]
  simp [cellB, hi]
def HexOk (s : ByteArray) : Prop := ∀ m, m < 16 → s.data[m]? = some (hexC m)
theorem hex16 {s : ByteArray} (h : ∀ m : Fin 16, s.data[m.val]? = some (hexC m.val)) : HexOk s := fun m hm => h ⟨m, hm⟩
theorem idx_hex {P : Program} {s : ByteArray} (hs : HexOk s) (t : TypeId) (ht : P.underlying t = some .string) (k : IntKind) (i : Int) (n : Nat) (hi : i = n) (hn : n < 16) (w : World) :
    (Instr.index t (.string s) (.int k i)).run P w = .ok (cellB (hexC n)) w := by
  subst hi
  obtain ⟨h1, h2⟩ := Array.getElem?_eq_some_iff.1 (hs n hn)
  rw [run_index_string w t s k n ht, dif_pos ⟨by omega, by show (n : Int) < s.data.size; omega⟩]
  have e : ∀ (j : Nat) (hj : j < s.size), j = n → (s[j]'hj) = hexC n := fun j hj e => by subst e; exact h2
  rw [e _ _ (by omega)]
  rfl
/-- The bits of a number's text. -/
noncomputable def canon (a : Nat) : Nat := if Fl.fne a a then 2143289344 else a
theorem canon_lt {a : Nat} (h : a < 4294967296) : canon a < 4294967296 := by unfold canon; split <;> omega
end Go.Proofs.Hx
namespace Go.Proofs.YtfiifnlnkedahaaDoor
open Go.RowKit Go.Proofs.Fl Go.Proofs.Hx
theorem bits_spec (a : Nat) (w : World) : Calls Tryd.prog 76 #[.float .f32 a] w fun e w' => e = .returned (.int .u32 (canon a)) ∧ w' = w := by
  cases h : fne a a
  · have e : canon a = a := by unfold canon; rw [h]; rfl
    rw [e]
    clear e
    go_enter Tryd.func76, Tryd.ntmps76
    go_wp2
    all_goals (go_ret; exact ⟨rfl, rfl⟩)
  · have e : canon a = 2143289344 := by unfold canon; rw [h]; rfl
    rw [e]
    clear e
    go_enter Tryd.func76, Tryd.ntmps76
    go_wp2
    all_goals (go_ret; exact ⟨rfl, rfl⟩)
theorem make8 (u : Nat) (w : World) : (Instr.makeSlice 51 (.int .i64 8) (.int .i64 8)).run Tryd.prog w = .ok (.slice (some ⟨w.heap.size, 0, none⟩) 8 8) (w.alloc (.cells (hexRow 8 u 0) 5)) := by
  have h : (Tryd.prog.info? 5).map (fun i => (i.bytes, i.size, i.zero)) = some (1, 1, some (.int .u8 0)) := by kernel_rfl
  obtain ⟨i, hi, e⟩ := Option.map_eq_some_iff.1 h
  simp only [Prod.mk.injEq] at e
  obtain ⟨e1, e2, e3⟩ := e
  rw [run_makeSlice w 51 5 i (.int .u8 0) Tryd.underlying51 hi e3 .i64 .i64 8 8 (by decide) (by decide) (by rw [e2]; decide) (by rw [e1]; decide) (by decide), e2]
  have q : madeCells (Value.int IntKind.u8 0).cells (Int.toNat 8 * 1) = hexRow 8 u 0 := by
    rw [hexRow_zero]
    exact Array.ext' (by rw [show (Value.int IntKind.u8 0).cells = #[.int .u8 0] from rfl, toList_madeCells_one]; rfl)
  rw [q]; rfl
set_option maxHeartbeats 400000 in
set_option maxRecDepth 100000 in
theorem hex_spec (a : Nat) (ha : a < 4294967296) (w : World) : Calls Tryd.prog 40 #[.float .f32 a] w fun e w' => e = .returned (.string ⟨(hexL (canon a) 8).toArray⟩) ∧ Below w.heap.size w w' := by
  have hu := canon_lt ha
  generalize hc : canon a = u at *
  have HB : Hid (∀ w, Calls Tryd.prog 76 #[.float .f32 a] w fun e w' => e = .returned (.int .u32 u) ∧ w' = w) := hidd (by rw [← hc]; exact bits_spec a)
  clear hc
  go_enter Tryd.func40, Tryd.ntmps40
  go_name_bytes_deep 12 HX hHX
  have eHX : HexOk HX := by rw [← hHX]; exact hex16 (by decide +kernel)
  clear hHX
  have HE := hidd eHX
  have hmk := make8 u
  clear eHX
  go_wp2_with fail
  refine (HB.out _).mono ?_; rintro e w' ⟨rfl, rfl⟩
  go_wp2
  rename World => w
  go_loopw [5, 3] (fun vi vb wr => ∃ j : Nat, j ≤ 8 ∧ vi = .int .i64 (7 - (j : Int)) ∧ vb = .int .u32 ((u / 16 ^ j : Nat) : Int) ∧ wr = w.alloc (.cells (hexRow 8 u j) 5)) (fun vi _ _ => (1 + intOf vi).toNat)
  case atStart => exact ⟨0, by omega, rfl, by simp, rfl⟩
  case round =>
    obtain ⟨j, hj, rfl, rfl, rfl⟩ := hrel
    by_cases hlt : j < 8
    · obtain ⟨m, hm⟩ : ∃ m, m + (j + 1) = 8 := ⟨7 - j, by omega⟩
      have ei : (7 : Int) - (j : Int) = (m : Int) := by omega
      have hset := hexRow_set (n := 8) (u := u) hlt
      rw [show 8 - (j + 1) = m by omega] at hset
      have hsz := hexRow_size (n := 8) (u := u) (j := j) (by omega)
      obtain ⟨x, hx⟩ := hexRow_at (n := 8) (u := u) (j := j) (i := m) (by omega) (by omega)
      have hv : u / 16 ^ j < 4294967296 := Nat.lt_of_le_of_lt (Nat.div_le_self _ _) hu
      have hnx : u / 16 ^ (j + 1) = u / 16 ^ j / 16 := by rw [Nat.pow_succ, Nat.div_div_eq_div_mul]
      rw [ei]
      generalize hC : hexRow 8 u j = C at *
      generalize hV : u / 16 ^ j = v at *
      have hidx : ∀ w, (Instr.index 9 (.string HX) (.int .u32 ((v : Int) % 16))).run Tryd.prog w = .ok (.int .u8 ((hexC (v % 16)).toNat : Int)) w := fun w => idx_hex HE.out 9 Tryd.underlying9 .u32 _ (v % 16) (by omega) (by omega) w
      have hm8 : m < 8 := by omega
      have HS := hidd hset
      clear hset
      go_wp2
      go_roundw
      case rel => exact ⟨j + 1, by omega, by congr 1; omega, by rw [hnx]; congr 1, by rw [← HS.out]; rfl⟩
      case measure => simp [intOf]; omega
    · obtain rfl : j = 8 := by omega
      have hcv : (convert 51 9 (.slice (some ⟨w.heap.size, 0, none⟩) 8 8)).run Tryd.prog (w.alloc (.cells (hexRow 8 u 8) 5)) = .ok (.string ⟨(hexL u 8).toArray⟩) (w.alloc (.cells (hexRow 8 u 8) 5)) := by
        have h := run_convert_bytes_back (P := Tryd.prog) (w.alloc (.cells (hexRow 8 u 8) 5)) 51 9 5 ⟨w.heap.size, 0, none⟩ 8 (hexL u 8) Tryd.underlying51 Tryd.underlying5 Tryd.underlying9 (fun i hi => by
          rw [Lib.add_plain, World.cell?_alloc_new]
          exact hexRow_digit (n := 8) (Nat.le_refl _) hi)
        rw [hexL_length] at h
        exact h
      have hb := (Below.refl w.heap.size w).alloc (Nat.le_refl _) (.cells (hexRow 8 u 8) 5)
      generalize hW : w.alloc (.cells (hexRow 8 u 8) 5) = W at *
      clear hW
      generalize hX : u / 16 ^ 8 = X at *
      go_wp2
      go_ret
      exact ⟨rfl, hb⟩
theorem number_spec (a : Nat) (ha : a < 4294967296) (w : World) : Calls Tryd.prog 10 #[.float .f32 a] w fun e w' => e = .returned (.string ⟨(hexL (canon a) 8).toArray⟩) ∧ Below w.heap.size w w' := by
  go_enter Tryd.func10, Tryd.ntmps10
  go_wp2_with fail
  refine (hex_spec a ha _).mono ?_
  rintro e w' ⟨rfl, hb⟩
  go_wp2
  go_ret
  exact ⟨rfl, hb⟩
end Go.Proofs.YtfiifnlnkedahaaDoor
