/-
  The number with a text: the program's reading.
-/
import Derived.Test.YtddkiemipedgcaaGreatDoorWpr
import Derived.Test.YtddkiemipedgcaaGreatDoorSe
import Derived.Test.YtddkiemipedgcaaGreatDoorWfb
namespace Go.Proofs.Hx
open Go
/-- What strconv's own reader answers at base 16. -/
def hexTuple (t : TypeId) : Option Nat → Value
  | some v => .tuple #[.int .u64 v, .nilIface]
  | none => .tuple #[.int .u64 0, .iface t (.int .i64 2)]
theorem bytes_ne {S T : ByteArray} (h : S ≠ T) : (S.toList == T.toList) = false := by
  rw [ByteArray.toList_eq, ByteArray.toList_eq, beq_eq_false_iff_ne]
  intro e
  exact h (ByteArray.ext (Array.toList_inj.1 e))
theorem or32 (n : Nat) (hn : n < 256) : ∃ L : Nat, bits .or .u8 (n : Int) 32 = (L : Int) ∧ L < 256 ∧ ((97 ≤ n ∧ n ≤ 102) → L = n) ∧ ((65 ≤ n ∧ n ≤ 70) → L = n + 32) ∧ (hv n = none → L < 97 ∨ 103 ≤ L) := by
  have : ∀ m : Fin 256, bits .or .u8 ((m.val : Nat) : Int) 32 = (((bits .or .u8 ((m.val : Nat) : Int) 32).toNat : Nat) : Int) ∧ (bits .or .u8 ((m.val : Nat) : Int) 32).toNat < 256 ∧ ((97 ≤ m.val ∧ m.val ≤ 102) → (bits .or .u8 ((m.val : Nat) : Int) 32).toNat = m.val) ∧ ((65 ≤ m.val ∧ m.val ≤ 70) → (bits .or .u8 ((m.val : Nat) : Int) 32).toNat = m.val + 32) ∧ (hv m.val = none → (bits .or .u8 ((m.val : Nat) : Int) 32).toNat < 97 ∨ 103 ≤ (bits .or .u8 ((m.val : Nat) : Int) 32).toNat) := by decide +kernel
  exact ⟨_, this ⟨n, hn⟩⟩
end Go.Proofs.Hx
namespace Go.Proofs.YtddkiemipedgcaaGreatDoor
open Go.RowKit Go.Proofs.Fl Go.Proofs.Hx
theorem lower_c (n L : Nat) (h : bits .or .u8 (n : Int) 32 = (L : Int)) (w : World) : Calls Tryz.prog 162 #[.int .u8 n] w fun e w' => e = .returned (.int .u8 L) ∧ w' = w := by
  go_enter Tryz.func162, Tryz.ntmps162
  go_wp2
  go_ret
  exact ⟨rfl, rfl⟩
set_option maxHeartbeats 16000000 in
set_option maxRecDepth 100000 in
theorem parse_in (T : ByteArray) (h8 : T.size = 8) (w : World) : Calls Tryz.prog 137 #[.string T, .int .i64 16, .int .i64 32] w fun e w' => e = .returned (hexTuple 145 (readHex hv 0 T.data.toList)) ∧ Below w.heap.size w w' := by
  have hemp : T.toList.isEmpty = false := by
    rw [← decide_eq_emptyBytes]
    exact decide_eq_false (fun h => by rw [h] at h8; exact absurd h8 (by decide))
  have hcv := Lib.run_convert_string_bytes (P := Tryz.prog) w 9 22 5 T Tryz.underlying9 Tryz.underlying22 Tryz.underlying5
  have hB : ∀ j, j < 8 → (Lib.bytesWorld w 5 T).cell? ⟨w.heap.size, j, none⟩ = some (.int .u8 (T.data.toList.getD j 0).toNat) := fun j hj => Lib.bytesWorld_cell w 5 T j (by omega)
  have hbl := hidd (Lib.bytesWorld_below w 5 T)
  rw [h8] at hcv
  obtain ⟨W1, hW1⟩ : ∃ W1, W1 = Lib.bytesWorld w 5 T := ⟨_, rfl⟩
  rw [← hW1] at hcv hB hbl
  clear hW1
  obtain ⟨bs, hL⟩ : ∃ bs, bs = T.data.toList := ⟨_, rfl⟩
  have hLn : bs.length = 8 := by rw [hL, ← Lib.size_eq]; exact h8
  rw [← hL] at hB ⊢
  clear hL
  have hmv : IntKind.u64.wrap (IntKind.u64.wrap 4294967296 - 1) = 4294967295 := by
    rw [IntKind.wrap_u64, IntKind.wrap_u64]
    decide
  have HL := hidd hLn
  clear hLn
  go_enter Tryz.func137, Tryz.ntmps137
  go_wp2
  go_loop [12, 13, 101] (fun vu vn vi => ∃ (k acc : Nat) (a : Int), vu = .bool false ∧ vn = .int .u64 a ∧ vi = .int .i64 k ∧ k ≤ 8 ∧ Hid (a = (acc : Int) ∧ acc < 16 ^ k ∧ readHex hv 0 bs = readHex hv acc (bs.drop k)))
    (fun _ _ vi => 8 - (intOf vi).toNat)
  case atStart => exact ⟨0, 0, 0, rfl, rfl, rfl, by omega, rfl, by decide, rfl⟩
  case round =>
    obtain ⟨k, acc, a, rfl, rfl, rfl, hk, hh⟩ := hrel
    obtain ⟨hac, ha, hr⟩ := hh.out
    clear hh
    by_cases hkn : k < 8
    · have hlen := HL.out
      have hc := hB k hkn
      have hdrop : bs.drop k = bs[k]'(by omega) :: bs.drop (k + 1) := List.drop_eq_getElem_cons (by omega)
      have hget : bs.getD k 0 = bs[k]'(by omega) := by simp [List.getD, List.getElem?_eq_getElem (show k < bs.length by omega)]
      rw [hdrop] at hr
      rw [hget] at hc
      generalize bs[k]'(by omega) = c at hc hr
      have hn := c.toNat_lt
      obtain ⟨n, hcn⟩ : ∃ n, c.toNat = n := ⟨_, rfl⟩
      rw [hcn] at hc hn
      have hp : 16 ^ k ≤ 268435456 := by
        have := Nat.pow_le_pow_right (show 0 < 16 by decide) (show k ≤ 7 by omega)
        simpa using this
      have a1 : a < 268435456 := by omega
      have a0 : 0 ≤ a := by omega
      have hpk : 16 ^ (k + 1) = 16 ^ k * 16 := Nat.pow_succ ..
      obtain ⟨L, hL, hL256, hLl, hLu, hLn⟩ := or32 n hn
      clear hB hdrop hget hlen hp
      by_cases hd : 48 ≤ n ∧ n ≤ 57
      · obtain ⟨d0, d1⟩ := hd
        have e : hv n = some (n - 48) := by unfold hv; rw [if_pos ⟨d0, d1⟩]
        rw [readHex_some hcn e] at hr
        have HR := hidd hr
        have HA := hidd (And.intro hac ha)
        have HP := hidd hpk
        clear hr e ha hac hpk hcn hL hLl hLu hLn
        have iov : a * 16 + ((n : Int) - 48) ≤ 4294967295 := by omega
        go_wp2
        exact ⟨⟨k + 1, acc * 16 + (n - 48), _, rfl, rfl, by first | rfl | (congr 1; omega), by omega, by have := HA.out; omega, by rw [HP.out]; have := HA.out; omega, HR.out⟩, by simp [intOf]; omega⟩
      · by_cases hd2 : 97 ≤ n ∧ n ≤ 102
        · have e : hv n = some (n - 87) := by unfold hv; rw [if_neg hd, if_pos hd2]
          obtain rfl := hLl hd2
          obtain ⟨d0, d1⟩ := hd2
          rw [readHex_some hcn e] at hr
          have HR := hidd hr
          have HA := hidd (And.intro hac ha)
          have HP := hidd hpk
          have H1 := hidd (fun w => lower_c _ _ hL w)
          have iov : a * 16 + ((L : Int) - 97 + 10) ≤ 4294967295 := by omega
          clear hr e ha hac hpk hcn hL hLl hLu hLn
          go_wp2_with (go_at_call 162; refine (H1.out _).mono ?_; rintro e w' ⟨rfl, rfl⟩)
          exact ⟨⟨k + 1, acc * 16 + (L - 87), _, rfl, rfl, by first | rfl | (congr 1; omega), by omega, by have := HA.out; omega, by rw [HP.out]; have := HA.out; omega, HR.out⟩, by simp [intOf]; omega⟩
        · by_cases hd3 : 65 ≤ n ∧ n ≤ 70
          · have e : hv n = some (n - 55) := by unfold hv; rw [if_neg hd, if_neg hd2, if_pos hd3]
            have hLv := hLu hd3
            obtain ⟨d0, d1⟩ := hd3
            rw [readHex_some hcn e] at hr
            have HR := hidd hr
            have HA := hidd (And.intro hac ha)
            have HP := hidd hpk
            have H1 := hidd (fun w => lower_c _ _ hL w)
            have iov : a * 16 + ((L : Int) - 97 + 10) ≤ 4294967295 := by omega
            have l0 : 97 ≤ L := by omega
            have l1 : L ≤ 102 := by omega
            have n0 : n < 97 := by omega
            have HV := hidd hLv
            clear hr e ha hac hpk hcn hL hLl hLu hLn hLv
            go_wp2_with (go_at_call 162; refine (H1.out _).mono ?_; rintro e w' ⟨rfl, rfl⟩)
            exact ⟨⟨k + 1, acc * 16 + (n - 55), _, rfl, rfl, by first | rfl | (congr 1; omega), by omega, by have := HA.out; have := HV.out; omega, by rw [HP.out]; have := HA.out; omega, HR.out⟩, by simp [intOf]; omega⟩
          · have e : hv n = none := by unfold hv; rw [if_neg hd, if_neg hd2, if_neg hd3]
            have hLv := hLn e
            rw [readHex_none hcn e] at hr
            have HR := hidd hr
            have H1 := hidd (fun w => lower_c _ _ hL w)
            clear hr e ha hac hpk hcn hL hLl hLu hLn
            rcases hLv with l0 | l0
            · by_cases hu : n = 95
              · subst hu
                go_wp2_with (go_at_call 162; refine (H1.out _).mono ?_; rintro e w' ⟨rfl, rfl⟩)
                all_goals (go_ret2; exact ⟨by rw [HR.out]; rfl, hbl.out⟩)
              · go_wp2_with (go_at_call 162; refine (H1.out _).mono ?_; rintro e w' ⟨rfl, rfl⟩)
                all_goals (go_ret2; exact ⟨by rw [HR.out]; rfl, hbl.out⟩)
            · by_cases hu : n = 95
              · subst hu
                go_wp2_with (go_at_call 162; refine (H1.out _).mono ?_; rintro e w' ⟨rfl, rfl⟩)
                all_goals (go_ret2; exact ⟨by rw [HR.out]; rfl, hbl.out⟩)
              · by_cases l1 : L ≤ 122
                · go_wp2_with (go_at_call 162; refine (H1.out _).mono ?_; rintro e w' ⟨rfl, rfl⟩)
                  all_goals (go_ret2; exact ⟨by rw [HR.out]; rfl, hbl.out⟩)
                · go_wp2_with (go_at_call 162; refine (H1.out _).mono ?_; rintro e w' ⟨rfl, rfl⟩)
                  all_goals (go_ret2; exact ⟨by rw [HR.out]; rfl, hbl.out⟩)
    · obtain rfl : k = 8 := by omega
      rw [List.drop_eq_nil_of_le (by rw [HL.out]; omega)] at hr
      have HR := hidd hr
      subst hac
      clear hr ha hB
      go_wp2
      go_ret2
      exact ⟨by rw [HR.out]; rfl, hbl.out⟩
/-- The two variables that hold the library's errors. -/
structure Errs (w : World) : Prop where
  no : ∃ te pe, w.cell? ⟨2, 0, none⟩ = some (.iface te pe)
  far : ∃ te pe, w.cell? ⟨3, 0, none⟩ = some (.iface te pe)
theorem Errs.below {w w' : World} (h : Errs w) (hb : Below w.heap.size w w') : Errs w' := by
  obtain ⟨a, b, h1⟩ := h.no
  obtain ⟨c, d, h2⟩ := h.far
  exact ⟨⟨a, b, (hb.cell (World.block_lt_of_cell? w _ h1)).trans h1⟩, ⟨c, d, (hb.cell (World.block_lt_of_cell? w _ h2)).trans h2⟩⟩
/-- What the public reader answers. -/
def PubPost (r : Option Nat) (e : Ending) : Prop := (∃ v, r = some v ∧ e = .returned (.tuple #[.int .u64 v, .nilIface])) ∨ (r = none ∧ ∃ t x, e = .returned (.tuple #[.int .u64 0, .iface t x]))
theorem parse_pub (T : ByteArray) (h8 : T.size = 8) (w : World) (hE : Errs w) : Calls Tryz.prog 119 #[.string T, .int .i64 16, .int .i64 32] w fun e w' => PubPost (readHex hv 0 T.data.toList) e ∧ Below w.heap.size w w' := by
  have H := hidd (parse_in T h8 w)
  go_enter Tryz.func119, Tryz.ntmps119
  go_wp2_with fail
  refine H.out.mono ?_
  rintro e w1 ⟨rfl, hb⟩
  have HB := hidd hb
  obtain ⟨r, hr⟩ : ∃ r, readHex hv 0 T.data.toList = r := ⟨_, rfl⟩
  rw [hr]
  have HR := hidd hr
  clear hr
  cases r with
  | some v =>
    unfold hexTuple
    go_wp2
    go_ret2
    exact ⟨.inl ⟨v, HR.out, rfl⟩, HB.out⟩
  | none =>
    obtain ⟨te, pe, he⟩ := (hE.below hb).no
    have HT := hidd (fun fn : ByteArray => Tryz.strconv_toError_syntax fn T 16 32 _ w1 (by omega) he (.inr ⟨te, pe, rfl⟩))
    clear he hb hE
    unfold hexTuple
    go_wp2_with fail
    refine (HT.out _).mono ?_
    rintro e w2 ⟨N, rfl, _, _, hb2⟩
    have HB2 := hidd (HB.out.trans (hb2.mono HB.out.size))
    clear hb2
    go_wp2
    go_ret2
    exact ⟨.inr ⟨HR.out, _, _, rfl⟩, HB2.out⟩
set_option maxHeartbeats 1600000 in
theorem num_impl (T : ByteArray) (hT : T.size ≤ 9223372036854775807) (w : World) (hz : w.cell? ⟨8, 15, none⟩ = some (.int .u8 4)) (hE : Errs w) : Calls Tryz.prog 82 #[.string T] w fun e w' => e = .returned (numRes (numRead T.data.toList)) ∧ Below w.heap.size w w' := by
  by_cases h8 : T.size = 8
  · have hl8 : T.data.toList.length = 8 := by rw [← Lib.size_eq]; exact h8
    have H := hidd (parse_pub T h8 w hE)
    have HA := hidd (read_agrees T.data.toList hl8)
    clear hl8 hE
    have HZ := hidd hz
    clear hz
    go_enter Tryz.func82, Tryz.ntmps82
    go_wp2_with fail
    refine H.out.mono ?_
    rintro e w1 ⟨hp, hb⟩
    have HB := hidd hb
    clear hb
    rcases hp with ⟨v, hr, rfl⟩ | ⟨hr, t, x, rfl⟩
    · have hv32 := read_bound (fun c d h => hv_lt h) hr
      have hv : v < 4294967296 := by
        have h8' := Lib.size_eq T
        rw [← h8', h8] at hv32
        simpa using hv32
      have hz := (HB.out.cell (World.block_lt_of_cell? w _ HZ.out)).trans HZ.out
      have HX := hidd (text_impl v hv w1 hz (World.block_lt_of_cell? w1 _ hz))
      have hn := HA.out
      rw [hr, Option.filter_some] at hn
      have hiff : hexL (canon v) 8 = T.data.toList ↔ (⟨(hexL (canon v) 8).toArray⟩ : ByteArray) = T := by
        constructor
        · intro h; rw [h]
        · intro h; rw [← h]
      obtain ⟨S, hS⟩ : ∃ S : ByteArray, S = ⟨(hexL (canon v) 8).toArray⟩ := ⟨_, rfl⟩
      rw [← hS] at HX hiff
      by_cases he : S = T
      · have hn2 : numRead T.data.toList = some v := by rw [hn, if_pos (decide_eq_true (hiff.2 he))]
        have HN := hidd hn2
        subst he
        clear hr hn hn2 hiff hv32 hS
        go_wp2_with fail
        refine HX.out.mono ?_
        rintro e w2 ⟨rfl, hb2⟩
        have HB2 := hidd (HB.out.trans (hb2.mono HB.out.size))
        clear hb2
        go_wp2
        go_ret2
        exact ⟨by rw [HN.out]; rfl, HB2.out⟩
      · have hn2 : numRead T.data.toList = none := by rw [hn, if_neg (fun h => he (hiff.1 (of_decide_eq_true h)))]
        have HN := hidd hn2
        have hne := bytes_ne he
        clear hr hn hn2 hiff hv32 hS
        go_wp2_with fail
        refine HX.out.mono ?_
        rintro e w2 ⟨rfl, hb2⟩
        have HB2 := hidd (HB.out.trans (hb2.mono HB.out.size))
        clear hb2
        go_wp2
        go_ret2
        exact ⟨by rw [HN.out]; rfl, HB2.out⟩
    · have hn : numRead T.data.toList = none := by rw [HA.out, hr]; rfl
      have HN := hidd hn
      clear hr hn
      go_wp2
      go_ret2
      exact ⟨by rw [HN.out]; rfl, HB.out⟩
  · have hn : numRead T.data.toList = none := by unfold numRead; rw [if_neg (by rw [← Lib.size_eq]; exact h8)]
    have HN := hidd hn
    clear hn
    go_enter Tryz.func82, Tryz.ntmps82
    go_wp2
    go_ret2
    exact ⟨by rw [HN.out]; rfl, Below.refl _ _⟩
end Go.Proofs.YtddkiemipedgcaaGreatDoor
