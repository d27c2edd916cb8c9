/-
  Texts of whole numbers, written and read: the reference's functions.
-/
import Derived.Test.YtfiifnlnkedahaaDoorPw
import Derived.Test.YtfiifnlnkedahaaDoorWpr
import Derived.Lib.ConvBytes
import Derived.Deep.RegionWith
import Derived.IntWalk
import Derived.Lib.ItoaLen
namespace Go.Proofs.YtfiifnlnkedahaaDoor
open Go.RowKit Go.Proofs.Fl Go.Proofs.Hx
open Go.Lib hiding intOf
set_option linter.unusedVariables false
theorem bytes_text (l : List UInt8) : (⟨l.toArray⟩ : ByteArray).data.toList = l := rfl
theorem text_bytes (s : ByteArray) : (⟨s.data.toList.toArray⟩ : ByteArray) = s := rfl
theorem text_app (a b : List UInt8) : (⟨a.toArray⟩ : ByteArray) ++ ⟨b.toArray⟩ = ⟨(a ++ b).toArray⟩ := by
  apply ByteArray.ext
  rw [ByteArray.data_append]
  simp
/-- A text of one digit. -/
def digT (d : Nat) : ByteArray := ⟨[UInt8.ofNat (48 + d)].toArray⟩
theorem decDigits_step {n : Nat} (h : ¬ n < 10) : decDigits n = decDigits (n / 10) ++ [UInt8.ofNat (48 + n % 10)] := by rw [decDigits, dif_neg h]
theorem decDigits_size (n : Nat) (hn : n ≤ 1000000000000) : (decDigits n).length ≤ 20 := by rw [decDigits_length]; exact nDigits_le20 n (by omega)
theorem add_text {P : Program} (a b : List UInt8) (h : a.length + b.length ≤ 9223372036854775807) (w : World) : (Op.stringOp .add ⟨a.toArray⟩ ⟨b.toArray⟩).run P w = .ok (.string ⟨(a ++ b).toArray⟩) w := by
  rw [run_string_add_sum w _ _ (by simp [ByteArray.size]; omega), ByteArray.mk_append_mk]
/-- A text of one byte out of a row of one cell. -/
theorem conv_one {P : Program} {src dst e : TypeId} (h1 : P.underlying src = some (.slice e)) (h2 : P.underlying e = some (.int .u8)) (h3 : P.underlying dst = some .string) {w : World} {p : Nat} {d : Nat} {z : Int} (hd : d < 10) (hz : z = 48 + (d : Int))
    (hc : w.cell? ⟨p, 0, none⟩ = some (.int .u8 z)) : (convert src dst (.slice (some ⟨p, 0, none⟩) 1 1)).run P w = .ok (.string (digT d)) w := by
  subst hz
  have h := run_convert_bytes_back (P := P) w src dst e ⟨p, 0, none⟩ 1 [UInt8.ofNat (48 + d)] h1 h2 h3 (fun i hi => by
    obtain rfl : i = 0 := by simpa using hi
    have e : ([UInt8.ofNat (48 + d)][0]'hi).toNat = 48 + d := digit_toNat hd
    rw [e]
    exact hc)
  exact h
theorem below_cell {W w1 : World} (hb : Below W.heap.size W w1) : ∀ b o, b < W.heap.size → w1.cell? ⟨b, o, none⟩ = W.cell? ⟨b, o, none⟩ := fun b o h => hb.cell (p := ⟨b, o, none⟩) h
set_option maxHeartbeats 1600000 in
set_option maxRecDepth 100000 in
theorem decimal_spec : ∀ (m : Nat) (n : Nat) (hm : n ≤ m) (hn : n ≤ 1000000000000) (w : World),
    Calls Tryd.prog 87 #[.int .i64 n] w fun e w' => e = .returned (.string ⟨(decDigits n).toArray⟩) ∧ Below w.heap.size w w' := by
  intro m
  induction m using Nat.strongRecOn with
  | _ m ih =>
  intro n hm hn w
  by_cases h : n < 10
  · have hcv : (convert 51 9 (.slice (some ⟨w.heap.size, 0, none⟩) 1 1)).run Tryd.prog (w.alloc (.cells #[.int .u8 (48 + (n : Int))] 5)) = .ok (.string (digT n)) (w.alloc (.cells #[.int .u8 (48 + (n : Int))] 5)) :=
      conv_one Tryd.underlying51 Tryd.underlying5 Tryd.underlying9 h rfl (by rw [World.cell?_alloc_new]; rfl)
    have fin := hidd (show digT n = ⟨(decDigits n).toArray⟩ by rw [decDigits, dif_pos h]; rfl)
    have hb := hidd ((Below.refl w.heap.size w).alloc (Nat.le_refl _) (.cells #[.int .u8 (48 + (n : Int))] 5))
    clear ih hm
    have h9 : (n : Int) < 10 := by omega
    have h0 : (0 : Int) ≤ n := by omega
    go_enter Tryd.func87, Tryd.ntmps87
    go_wp2
    go_ret
    exact ⟨by rw [← fin.out]; rfl, hb.out⟩
  · have hadd : ∀ W, (Op.stringOp .add ⟨(decDigits (n / 10)).toArray⟩ (digT (n % 10))).run Tryd.prog W = .ok (.string ⟨(decDigits n).toArray⟩) W := fun W => by
      rw [decDigits_step h]
      exact add_text _ _ (by have := decDigits_size (n / 10) (by omega); simp; omega) W
    have H := hidd (fun w => ih (n / 10) (by omega) (n / 10) (Nat.le_refl _) (by omega) w)
    have hd : n % 10 < 10 := Nat.mod_lt _ (by decide)
    obtain ⟨d, hde⟩ : ∃ d, n % 10 = d := ⟨_, rfl⟩
    obtain ⟨q, hqe⟩ : ∃ q, n / 10 = q := ⟨_, rfl⟩
    have ed : Int.tmod (n : Int) 10 = (d : Int) := by rw [Int.tmod_eq_emod_of_nonneg (by omega)]; omega
    have eq : Int.tdiv (n : Int) 10 = (q : Int) := by rw [Int.tdiv_eq_ediv_of_nonneg (by omega)]; omega
    rw [hde] at hadd hd
    rw [hqe] at hadd H
    obtain ⟨S, hS⟩ : ∃ S : ByteArray, S = ⟨(decDigits q).toArray⟩ := ⟨_, rfl⟩
    obtain ⟨D, hD⟩ : ∃ D : ByteArray, D = digT d := ⟨_, rfl⟩
    obtain ⟨R, hR⟩ : ∃ R : ByteArray, R = ⟨(decDigits n).toArray⟩ := ⟨_, rfl⟩
    rw [← hS, ← hD, ← hR] at hadd
    rw [← hS] at H
    rw [← hR]
    have h9 : (10 : Int) ≤ n := by omega
    have w1 : IntKind.i64.wrap (q : Int) = q := IntWalk.i64_in _ (by omega)
    have w2 : IntKind.i64.wrap (48 + (d : Int)) = 48 + (d : Int) := IntWalk.i64_in _ (by omega)
    have w3 : IntKind.u8.wrap (48 + (d : Int)) = 48 + (d : Int) := IntWalk.u8_in _ (by omega)
    have hcv : ∀ (W : World) (p : Nat), W.cell? ⟨p, 0, none⟩ = some (.int .u8 (48 + (d : Int))) → (convert 51 9 (.slice (some ⟨p, 0, none⟩) 1 1)).run Tryd.prog W = .ok (.string D) W := fun W p hc => by
      rw [hD]; exact conv_one Tryd.underlying51 Tryd.underlying5 Tryd.underlying9 hd rfl hc
    clear ih hm hde hqe h hn hd hS hD hR
    go_enter Tryd.func87, Tryd.ntmps87
    go_wp2_with fail
    go_region_with (go_at_call 87; ((with_reducible refine (H.out _).mono ?_); rintro e wn ⟨rfl, hbn⟩; have cc := below_cell hbn; have B := hidd hbn; clear hbn))
    all_goals
      go_wp2
      go_ret
      refine ⟨rfl, ?_⟩
      first
        | exact ((Below.refl w.heap.size w).drew.trans (B.out.mono (by simp))).alloc (by have := B.out.size; simp at this; omega) _
        | exact ((Below.refl w.heap.size w).drew.alloc (by simp) _).trans (B.out.mono (by simp))
set_option maxHeartbeats 1600000 in
theorem signed_spec (a : Int) (h0 : -1000000000 ≤ a) (h1 : a ≤ 1000000000) (w : World) :
    Calls Tryd.prog 86 #[.int .i64 a] w fun e w' => e = .returned (.string ⟨(itoa a).toArray⟩) ∧ Below w.heap.size w w' := by
  by_cases h : a < 0
  · obtain ⟨n, rfl⟩ : ∃ n : Nat, a = -(n : Int) := ⟨a.natAbs, by omega⟩
    have e : itoa (-(n : Int)) = [45] ++ decDigits n := itoa_neg n (by omega)
    have H := hidd (fun w => decimal_spec n n (Nat.le_refl _) (by omega) w)
    have hadd : ∀ W, (Op.stringOp .add ⟨#[45]⟩ ⟨(decDigits n).toArray⟩).run Tryd.prog W = .ok (.string ⟨(itoa (-(n : Int))).toArray⟩) W := fun W => by
      rw [e]
      exact add_text [45] _ (by have := decDigits_size n (by omega); simp; omega) W
    obtain ⟨S, hS⟩ : ∃ S : ByteArray, S = ⟨(decDigits n).toArray⟩ := ⟨_, rfl⟩
    obtain ⟨R, hR⟩ : ∃ R : ByteArray, R = ⟨(itoa (-(n : Int))).toArray⟩ := ⟨_, rfl⟩
    rw [← hS, ← hR] at hadd
    rw [← hS] at H
    rw [← hR]
    have en : - -(n : Int) = n := by omega
    clear e hS hR
    go_enter Tryd.func86, Tryd.ntmps86
    go_wp2_with (go_at_call 87; ((with_reducible refine (H.out _).mono ?_); rintro e wn ⟨rfl, hbn⟩; have B := hidd hbn; clear hbn))
    go_ret
    exact ⟨rfl, B.out⟩
  · obtain ⟨n, rfl⟩ : ∃ n : Nat, a = (n : Int) := ⟨a.toNat, by omega⟩
    have e : itoa (n : Int) = decDigits n := itoa_nonneg n
    have H := hidd (fun w => decimal_spec n n (Nat.le_refl _) (by omega) w)
    rw [e]
    have hn0 : (0 : Int) ≤ n := by omega
    clear e h
    go_enter Tryd.func86, Tryd.ntmps86
    go_wp2_with (go_at_call 87; ((with_reducible refine (H.out _).mono ?_); rintro e wn ⟨rfl, hbn⟩; have B := hidd hbn; clear hbn))
    go_ret
    exact ⟨rfl, B.out⟩
set_option maxHeartbeats 1600000 in
set_option maxRecDepth 100000 in
theorem number_any (T : ByteArray) (hT : T.size ≤ 9223372036854775807) (w : World) : Calls Tryd.prog 58 #[.string T] w fun e w' => NumPost T e ∧ w' = w := by
  have hsz : T.size = T.data.toList.length := Lib.size_eq T
  by_cases h1 : T.size < 1
  · have fin := hidd (NumP.size (a := 0) (l := T.data.toList) (.inl (by omega)))
    have h1' : (T.size : Int) < 1 := by omega
    clear hsz
    go_enter Tryd.func58, Tryd.ntmps58
    go_wp2
    go_ret2
    exact ⟨⟨0, false, rfl, by omega, by omega, fin.out⟩, rfl⟩
  by_cases h9 : 9 < T.size
  · have fin := hidd (NumP.size (a := 0) (l := T.data.toList) (.inr (by omega)))
    have h1' : ¬ (T.size : Int) < 1 := by omega
    have h9' : (9 : Int) < T.size := by omega
    clear hsz
    go_enter Tryd.func58, Tryd.ntmps58
    go_wp2
    go_ret2
    exact ⟨⟨0, false, rfl, by omega, by omega, fin.out⟩, rfl⟩
  obtain ⟨c0, hc0, hi0⟩ := idx_text (P := Tryd.prog) 9 Tryd.underlying9 T 0 (by omega)
  have hl : T.data.toList = c0 :: T.data.toList.drop 1 := by simpa using hc0
  have hi0' : ∀ w, (Instr.index 9 (.string T) (.int .i64 0)).run Tryd.prog w = .ok (.int .u8 (c0.toNat : Int)) w := hi0
  clear hi0 hc0
  have h1' : ¬ (T.size : Int) < 1 := by omega
  have h9' : ¬ (9 : Int) < T.size := by omega
  by_cases hz : c0.toNat = 48 ∧ 1 < T.size
  · obtain ⟨hz1, hz2⟩ := hz
    have fin := hidd (NumP.zero (a := 0) (r := T.data.toList.drop 1) (l := T.data.toList) (by conv => lhs; rw [hl]
                                                                                              rw [show c0 = 48 from UInt8.toNat_inj.1 hz1]) (by omega))
    rw [hz1] at hi0'
    have hz2' : (1 : Int) < T.size := by omega
    clear hl hsz hz1 h1 h9
    go_enter Tryd.func58, Tryd.ntmps58
    go_wp2
    go_ret2
    exact ⟨⟨0, false, rfl, by omega, by omega, fin.out⟩, rfl⟩
  have HZ := hidd (show 1 < T.data.toList.length → ∀ c r, T.data.toList = c :: r → c.toNat ≠ 48 by
    intro a c r e
    rw [e] at hl
    obtain ⟨rfl, _⟩ := List.cons.inj hl
    intro q
    exact hz ⟨q, by omega⟩)
  have NE := hidd (show T.data.toList ≠ [] by rw [hl]; simp)
  have L9 := hidd (show T.data.toList.length ≤ 9 by omega)
  have SZ := hidd hsz
  obtain ⟨n0, hn0⟩ : ∃ n0, c0.toNat = n0 := ⟨_, rfl⟩
  rw [hn0] at hi0' hz
  clear hn0 hl
  have hz2 : (((n0 : Int) == 48) = false) ∨ (n0 = 48 ∧ ¬ (1 : Int) < T.size) := by
    by_cases h48 : n0 = 48
    · exact .inr ⟨h48, by omega⟩
    · exact .inl (by rw [beq_eq_false_iff_ne]; omega)
  clear hz
  rcases hz2 with hz | ⟨rfl, hz⟩
  all_goals
    clear hsz h1 h9
    go_enter Tryd.func58, Tryd.ntmps58
    go_wp2
    go_loop [4, 5] (fun vn vi => ∃ k acc : Nat, k ≤ T.size ∧ vi = .int .i64 k ∧ vn = .int .i64 acc ∧ Hid (decFrom 0 (T.data.toList.take k) = some acc ∧ acc < 10 ^ k)) (fun _ vi => T.size - (intOf vi).toNat)
    case atStart => exact ⟨0, 0, by omega, rfl, rfl, rfl, by decide⟩
    case round =>
      obtain ⟨k, acc, hk, rfl, rfl, hh⟩ := hrel
      by_cases hlt : k < T.size
      · obtain ⟨c, hc, hidx⟩ := idx_text (P := Tryd.prog) 9 Tryd.underlying9 T k hlt
        have hlt2 : k < T.data.toList.length := by have := SZ.out; omega
        have hget : T.data.toList[k]? = some c := by
          have := congrArg (·[0]?) hc
          simpa using this
        have hn := c.toNat_lt
        obtain ⟨n, hcn⟩ : ∃ n, c.toNat = n := ⟨_, rfl⟩
        rw [hcn] at hidx hn
        have hacc : acc < 100000000 := by
          have h2 := hh.out.2
          have := Nat.pow_le_pow_right (show 0 < 10 by decide) (show k ≤ 8 by omega)
          have e8 : (10 : Nat) ^ 8 = 100000000 := by decide
          omega
        have i0 : (0 : Int) ≤ (k : Int) := by omega
        have i1 : (k : Int) < (T.size : Int) := by omega
        by_cases hd : 48 ≤ n ∧ n ≤ 57
        · obtain ⟨d0, d1⟩ := hd
          have hdv : digitVal c = some (n - 48) := by unfold digitVal; rw [hcn, if_pos ⟨d0, d1⟩]
          have HR := hidd (And.intro (decFrom_take _ k 0 acc c (n - 48) hh.out.1 hget hdv) (show acc * 10 + (n - 48) < 10 ^ (k + 1) by have := hh.out.2; rw [Nat.pow_succ]; omega))
          clear hc hcn hget hdv hh
          go_wp2
          go_round
          case rel => exact ⟨k + 1, acc * 10 + (n - 48), by omega, by go_num, by congr 1; omega, HR.out⟩
          case measure => simp [intOf]; omega
        · have fin := hidd (NumP.digit (a := 0) (l := T.data.toList) (c := c) (List.mem_of_getElem? hget) (by omega))
          have hd2 : (n : Int) < 48 ∨ ¬ (n : Int) < 48 ∧ (57 : Int) < n := by omega
          clear hc hcn hget hh hd
          rcases hd2 with hd2 | ⟨hd2, hd3⟩
          all_goals
            go_wp2
            go_ret2
            exact ⟨⟨0, false, rfl, by omega, by omega, fin.out⟩, rfl⟩
      · obtain rfl : k = T.size := by omega
        have hacc : acc < 1000000000 := by
          have h2 := hh.out.2
          have h9 := L9.out
          have := Nat.pow_le_pow_right (show 0 < 10 by decide) (show T.size ≤ 9 by have := SZ.out; omega)
          have e8 : (10 : Nat) ^ 9 = 1000000000 := by decide
          omega
        have fin := hidd (NumP.yes NE.out L9.out HZ.out (by have h2 := hh.out.1; rw [SZ.out, List.take_length] at h2; exact h2))
        clear hh
        go_wp2
        go_ret2
        exact ⟨⟨(acc : Int), true, rfl, by omega, by omega, fin.out⟩, rfl⟩
set_option maxHeartbeats 1600000 in
set_option maxRecDepth 100000 in
theorem minus_any (T : ByteArray) (hT : T.size ≤ 9223372036854775807) (w : World) : Calls Tryd.prog 57 #[.string T] w fun e w' => MinusPost T e ∧ w' = w := by
  have hsz : T.size = T.data.toList.length := Lib.size_eq T
  have H := hidd (number_any T hT w)
  by_cases h1 : T.size ≤ 1
  · have fall := hidd (fun (a : Int) (ok : Bool) (h : NumP T.data.toList a ok) => MinusP.fall h (fun r hr => .inl (by
      have : T.data.toList.length = r.length + 1 := by rw [hr]; rfl
      exact List.length_eq_zero_iff.1 (by omega))))
    have h1' : ¬ (1 : Int) < T.size := by omega
    clear hsz
    go_enter Tryd.func57, Tryd.ntmps57
    go_wp2_with (go_at_call 58; ((with_reducible refine H.out.mono ?_); rintro e w2 ⟨⟨a, ok, rfl, a0, a1, hP⟩, rfl⟩; have NP := hidd hP; clear hP))
    go_ret2
    exact ⟨⟨a, ok, rfl, by omega, by omega, fall.out a ok NP.out⟩, rfl⟩
  obtain ⟨c0, hc0, hi0⟩ := idx_text (P := Tryd.prog) 9 Tryd.underlying9 T 0 (by omega)
  obtain ⟨c1, hc1, hi1⟩ := idx_text (P := Tryd.prog) 9 Tryd.underlying9 T 1 (by omega)
  have hl : T.data.toList = c0 :: c1 :: T.data.toList.drop 2 := by
    have a : T.data.toList = c0 :: T.data.toList.drop 1 := by simpa using hc0
    rw [hc1] at a
    exact a
  have hi0' : ∀ w, (Instr.index 9 (.string T) (.int .i64 0)).run Tryd.prog w = .ok (.int .u8 (c0.toNat : Int)) w := hi0
  have hi1' : ∀ w, (Instr.index 9 (.string T) (.int .i64 1)).run Tryd.prog w = .ok (.int .u8 (c1.toNat : Int)) w := hi1
  clear hi0 hi1 hc0 hc1
  have h1' : (1 : Int) < T.size := by omega
  have n45 : (45 : UInt8).toNat = 45 := rfl
  have n48 : (48 : UInt8).toNat = 48 := rfl
  by_cases hneg : c0.toNat = 45 ∧ c1.toNat ≠ 48
  · obtain ⟨g0, g1⟩ := hneg
    have e0 : c0 = 45 := UInt8.toNat_inj.1 g0
    subst e0
    have g1' : ((c1.toNat : Int) == 48) = false := by rw [beq_eq_false_iff_ne]; omega
    have g1'' : ((c1.toNat : Int) != 48) = true := by rw [bne_iff_ne]; omega
    rw [n45] at hi0'
    have hsub : (T.extract 1 T.size).data.toList = c1 :: T.data.toList.drop 2 := by
      rw [extract_to_end]
      conv => lhs; rw [hl]
      rfl
    have H2 := hidd (number_any (T.extract 1 T.size) (by rw [ByteArray.size_extract]; omega) w)
    have fin := hidd (fun (a : Int) (ok : Bool) (h : NumP (T.extract 1 T.size).data.toList a ok) => MinusP.neg (l := T.data.toList) (r := c1 :: T.data.toList.drop 2) (a := a) (ok := ok) hl (fun s hs => by
      have := (List.cons.inj hs).1
      subst this
      exact g1 rfl) (by rw [hsub] at h; exact h))
    clear hsz hl g0 g1 hsub n45 n48 H
    generalize c1.toNat = m1 at *
    go_enter Tryd.func57, Tryd.ntmps57
    go_wp2_with (go_at_call 58; ((with_reducible refine H2.out.mono ?_); rintro e w2 ⟨⟨a, ok, rfl, a0, a1, hP⟩, rfl⟩; have NP := hidd hP; clear hP))
    go_ret2
    exact ⟨⟨-a, ok, rfl, by omega, by omega, fin.out a ok NP.out⟩, rfl⟩
  · have fall := hidd (fun (a : Int) (ok : Bool) (h : NumP T.data.toList a ok) => MinusP.fall h (fun r hr => by
      rw [hl] at hr
      obtain ⟨e0, e1⟩ := List.cons.inj hr
      subst e0
      refine .inr ⟨T.data.toList.drop 2, ?_⟩
      rw [← e1]
      congr 1
      apply UInt8.toNat_inj.1
      by_cases q : c1.toNat = 48
      · exact q
      · exact absurd ⟨rfl, q⟩ hneg))
    have hcase : ((c0.toNat : Int) == 45) = false ∨ (c0.toNat = 45 ∧ c1.toNat = 48) := by
      by_cases q : c0.toNat = 45
      · exact .inr ⟨q, by
          by_cases q2 : c1.toNat = 48
          · exact q2
          · exact absurd ⟨q, q2⟩ hneg⟩
      · exact .inl (by rw [beq_eq_false_iff_ne]; omega)
    clear hsz hl hneg n45 n48
    generalize c0.toNat = m0 at *
    generalize c1.toNat = m1 at *
    rcases hcase with hcase | ⟨rfl, rfl⟩
    all_goals
      go_enter Tryd.func57, Tryd.ntmps57
      go_wp2_with (go_at_call 58; ((with_reducible refine H.out.mono ?_); rintro e w2 ⟨⟨a, ok, rfl, a0, a1, hP⟩, rfl⟩; have NP := hidd hP; clear hP))
      go_ret2
      exact ⟨⟨a, ok, rfl, by omega, by omega, fall.out a ok NP.out⟩, rfl⟩
end Go.Proofs.YtfiifnlnkedahaaDoor
