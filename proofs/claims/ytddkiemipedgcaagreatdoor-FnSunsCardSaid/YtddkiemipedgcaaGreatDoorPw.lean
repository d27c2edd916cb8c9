/-
  Texts of whole numbers, and texts cut at a byte: plain laws, of no program.
-/
import Derived.Lib.ItoaNum
import Derived.Lib.ItoaMem
import Derived.Lib.AtoiTie
import Derived.Lib.ParseIntBTie
import Derived.Lib.Split
import Derived.Lib.Join
namespace Go.Proofs.Hx
open Go Go.Lib
set_option linter.unusedVariables false

/-! The text of a whole number -/
theorem decFrom_append : ∀ (l r : List UInt8) (acc : Nat), decFrom acc (l ++ r) = (decFrom acc l).bind fun a => decFrom a r
  | [], r, acc => rfl
  | c :: l, r, acc => by
    simp only [List.cons_append, decFrom]
    cases digitVal c with
    | none => rfl
    | some d => exact decFrom_append l r _
theorem digit_toNat {d : Nat} (h : d < 10) : (UInt8.ofNat (48 + d)).toNat = 48 + d := by
  rw [UInt8.toNat_ofNat']; omega
theorem digitVal_dec {d : Nat} (h : d < 10) : digitVal (UInt8.ofNat (48 + d)) = some d := by
  unfold digitVal
  rw [digit_toNat h, if_pos (by omega)]
  congr 1; omega
theorem dec_digits (u : Nat) : ∀ c ∈ decDigits u, 48 ≤ c.toNat ∧ c.toNat ≤ 57 := by
  induction u using Nat.strongRecOn with
  | _ u ih =>
    by_cases h : u < 10
    · rw [decDigits, dif_pos h]
      intro c hc
      obtain rfl : c = UInt8.ofNat (48 + u) := by simpa using hc
      rw [digit_toNat h]; omega
    · rw [decDigits, dif_neg h]
      intro c hc
      rcases List.mem_append.1 hc with hc | hc
      · exact ih (u / 10) (by omega) c hc
      · obtain rfl : c = UInt8.ofNat (48 + u % 10) := by simpa using hc
        rw [digit_toNat (Nat.mod_lt _ (by decide))]; omega
theorem dec_value (u : Nat) : decFrom 0 (decDigits u) = some u := by
  induction u using Nat.strongRecOn with
  | _ u ih =>
    by_cases h : u < 10
    · rw [decDigits, dif_pos h]
      simp only [decFrom, digitVal_dec h]
      simp
    · rw [decDigits, dif_neg h, decFrom_append, ih (u / 10) (by omega)]
      simp only [Option.bind_some, decFrom, digitVal_dec (Nat.mod_lt u (by decide : 0 < 10))]
      congr 1; omega
theorem dec_ne_nil (u : Nat) : decDigits u ≠ [] := fun h => by have := dec_value u; have l := decDigits_length u; have p := nDigits_pos u; rw [h] at l; simp at l; omega
theorem dec_inj {u v : Nat} (h : decDigits u = decDigits v) : u = v := by
  have a := dec_value u
  rw [h, dec_value] at a
  exact (Option.some.inj a).symm
/-- The first digit of a number from 1 on is no zero. -/
theorem dec_head (u : Nat) (h1 : 1 ≤ u) : ∀ c r, decDigits u = c :: r → c.toNat ≠ 48 := by
  induction u using Nat.strongRecOn with
  | _ u ih =>
    intro c r hc
    by_cases h : u < 10
    · rw [decDigits, dif_pos h] at hc
      obtain ⟨rfl, _⟩ := List.cons.inj hc
      rw [digit_toNat h]; omega
    · rw [decDigits, dif_neg h] at hc
      cases hd : decDigits (u / 10) with
      | nil => exact absurd hd (dec_ne_nil _)
      | cons b s =>
        rw [hd] at hc
        obtain ⟨rfl, _⟩ := List.cons.inj hc
        exact ih (u / 10) (by omega) (by omega) _ _ hd
theorem dec_small {u : Nat} (h : u < 1000000000) : (decDigits u).length ≤ 9 := by
  rw [decDigits_length]
  by_cases h0 : u < 10
  · rw [nDigits_small h0]; omega
  · rcases Nat.lt_or_ge (nDigits u) 10 with a | a
    · omega
    · exfalso
      have key : ∀ k u, nDigits u = k + 2 → 10 ^ (k + 1) ≤ u := by
        intro k
        induction k with
        | zero =>
          intro u hu
          by_cases c : u < 10
          · rw [nDigits_small c] at hu; omega
          · omega
        | succ k ih =>
          intro u hu
          by_cases c : u < 10
          · rw [nDigits_small c] at hu; omega
          · rw [nDigits_big c] at hu
            have := ih (u / 10) (by omega)
            rw [Nat.pow_succ]; omega
      have := key (nDigits u - 2) u (by omega)
      have p : 10 ^ 9 ≤ 10 ^ (nDigits u - 2 + 1) := Nat.pow_le_pow_right (by decide) (by omega)
      have e : (10 : Nat) ^ 9 = 1000000000 := by decide
      omega
/-- Digits without a needless zero ahead are the text of what they spell. -/
theorem dec_of_value : ∀ (n : Nat) (l : List UInt8), l.length = n → ∀ u, l ≠ [] → (1 < l.length → ∀ c r, l = c :: r → c.toNat ≠ 48) → decFrom 0 l = some u → decDigits u = l := by
  intro n
  induction n with
  | zero => intro l hl u hn; exact absurd (List.length_eq_zero_iff.1 hl) hn
  | succ n ih =>
    intro l hl u hn hz hv
    obtain ⟨p, c, rfl⟩ : ∃ p c, l = p ++ [c] := ⟨l.dropLast, l.getLast hn, (List.dropLast_concat_getLast hn).symm⟩
    rw [decFrom_append] at hv
    cases hp : decFrom 0 p with
    | none => rw [hp] at hv; cases hv
    | some a =>
      rw [hp] at hv
      simp only [Option.bind_some, decFrom] at hv
      cases hd : digitVal c with
      | none => rw [hd] at hv; cases hv
      | some d =>
        rw [hd] at hv
        obtain ⟨d1, d2, d3⟩ := digitVal_eq hd
        obtain rfl : a * 10 + d = u := Option.some.inj hv
        have hc : UInt8.ofNat (48 + d) = c := by
          rw [d3, show 48 + (c.toNat - 48) = c.toNat by omega]; simp
        by_cases pe : p = []
        · subst pe
          cases hp
          rw [decDigits, dif_pos (by omega)]
          simp [hc]
        · have hpl : 0 < p.length := List.length_pos_iff.2 pe
          obtain ⟨b, s, hbs⟩ : ∃ b s, p = b :: s := by cases p with | nil => exact absurd rfl pe | cons b s => exact ⟨b, s, rfl⟩
          have hb : b.toNat ≠ 48 := hz (by simp; omega) b (s ++ [c]) (by rw [hbs]; rfl)
          have hdp := ih p (by simp at hl; omega) a pe (fun _ c' r' h => by rw [hbs] at h; obtain ⟨rfl, _⟩ := List.cons.inj h; exact hb) hp
          have ha : 1 ≤ a := by
            rcases Nat.eq_zero_or_pos a with h0 | h0
            · exfalso
              subst h0
              rw [decDigits, dif_pos (by decide), hbs] at hdp
              obtain ⟨h1, _⟩ := List.cons.inj hdp
              exact hb (by rw [← h1]; rfl)
            · exact h0
          rw [decDigits, dif_neg (by omega), show (a * 10 + d) / 10 = a by omega, show (a * 10 + d) % 10 = d by omega, hdp, hc]
theorem itoa_inj {a b : Int} (h : itoa a = itoa b) : a = b := by
  unfold itoa at h
  have no : ∀ u r, decDigits u ≠ 45 :: r := fun u r e => by
    have := dec_digits u 45 (by rw [e]; exact List.mem_cons_self)
    have e45 : (45 : UInt8).toNat = 45 := rfl
    omega
  split at h <;> split at h
  · have := dec_inj (List.cons.inj h).2; omega
  · exact absurd h.symm (no _ _)
  · exact absurd h (no _ _)
  · have := dec_inj h; omega
theorem itoa_chars (a : Int) : ∀ c ∈ itoa a, c.toNat = 45 ∨ 48 ≤ c.toNat ∧ c.toNat ≤ 57 := by
  intro c hc
  unfold itoa at hc
  split at hc
  · rcases List.mem_cons.1 hc with rfl | hc
    · exact .inl rfl
    · exact .inr (dec_digits _ c hc)
  · exact .inr (dec_digits _ c hc)
theorem itoa_ne_nil (a : Int) : itoa a ≠ [] := by
  unfold itoa; split
  · simp
  · exact dec_ne_nil _
theorem decNat_dec (u : Nat) : decNat (decDigits u) = some u := by
  unfold decNat
  rw [if_neg (by simpa using dec_ne_nil u), dec_value]
theorem atoi_itoa (a : Int) : atoi (itoa a) = some a := by
  unfold itoa
  split
  · show (decNat _).map _ = _
    rw [decNat_dec]
    show some (-((a.natAbs : Nat) : Int)) = some a
    congr 1; omega
  · cases hd : decDigits a.toNat with
    | nil => exact absurd hd (dec_ne_nil _)
    | cons c r =>
      have hc := dec_digits a.toNat c (by rw [hd]; exact List.mem_cons_self)
      show (if (c == 45) = true then _ else if (c == 43) = true then _ else (decNat (c :: r)).map fun (m : Nat) => (m : Int)) = some a
      rw [if_neg (by intro e; have := beq_iff_eq.1 e; subst this; have e45 : (45 : UInt8).toNat = 45 := rfl; omega), if_neg (by intro e; have := beq_iff_eq.1 e; subst this; have e43 : (43 : UInt8).toNat = 43 := rfl; omega), ← hd, decNat_dec]
      show some ((a.toNat : Nat) : Int) = some a
      congr 1; omega
def Small (a : Int) : Prop := -1000000000 < a ∧ a < 1000000000
theorem itoa_short {a : Int} (h : Small a) : (itoa a).length ≤ 10 := by
  obtain ⟨h1, h2⟩ := h
  unfold itoa
  split
  · have := dec_small (u := a.natAbs) (by omega); simp; omega
  · have := dec_small (u := a.toNat) (by omega); omega
theorem parse_itoa {a : Int} (h : Small a) : parseIntB 64 (itoa a) = .ok a := by
  rw [parseIntB_64, atoiAll_short _ (by have := itoa_short h; omega), atoi_itoa]
  rfl
/-- What readWhole answers of a text: the number whose text it is; or else no small number's text it is. -/
def WholeP (l : List UInt8) (a : Int) (ok : Bool) : Prop := if ok then itoa a = l else ∀ b, Small b → itoa b ≠ l
theorem WholeP.yes {l : List UInt8} {a : Int} (h : itoa a = l) : WholeP l a true := h
theorem WholeP.bad {l : List UInt8} {a : Int} (h : ∀ v, parseIntB 64 l ≠ .ok v) : WholeP l a false := fun b hb e => h b (by rw [← e]; exact parse_itoa hb)
theorem WholeP.other {l : List UInt8} {a v : Int} (h : parseIntB 64 l = .ok v) (hne : itoa v ≠ l) : WholeP l a false := fun b hb e => by
  have := parse_itoa hb
  rw [e, h] at this
  cases this
  exact hne e
/-- What l01Number answers of a text. -/
def NumP (l : List UInt8) (a : Int) (ok : Bool) : Prop := if ok then ∃ u : Nat, a = u ∧ u < 1000000000 ∧ decDigits u = l else ∀ u : Nat, u < 1000000000 → decDigits u ≠ l
/-- What l01Minus answers of a text. -/
def MinusP (l : List UInt8) (a : Int) (ok : Bool) : Prop := if ok then Small a ∧ itoa a = l else ∀ b, Small b → itoa b ≠ l
theorem NumP.size {l : List UInt8} {a : Int} (h : l.length < 1 ∨ 9 < l.length) : NumP l a false := fun u hu e => by
  have := dec_small hu
  rw [e] at this
  have := dec_ne_nil u
  rw [e] at this
  have := List.length_pos_iff.2 this
  omega
theorem NumP.zero {l : List UInt8} {a : Int} {r : List UInt8} (h : l = 48 :: r) (h1 : 1 < l.length) : NumP l a false := fun u hu e => by
  by_cases c : u = 0
  · subst c
    rw [decDigits, dif_pos (by decide)] at e
    rw [← e] at h1
    simp at h1
  · exact dec_head u (by omega) 48 r (by rw [e, h]) rfl
theorem NumP.digit {l : List UInt8} {a : Int} {c : UInt8} (hc : c ∈ l) (h : c.toNat < 48 ∨ 57 < c.toNat) : NumP l a false := fun u hu e => by
  have := dec_digits u c (by rw [e]; exact hc)
  omega
theorem NumP.yes {l : List UInt8} {u : Nat} (hn : l ≠ []) (h9 : l.length ≤ 9) (hz : 1 < l.length → ∀ c r, l = c :: r → c.toNat ≠ 48) (hv : decFrom 0 l = some u) : NumP l (u : Int) true :=
  ⟨u, rfl, by
    have := decFrom_lt l 0 u hv
    have p : 10 ^ l.length ≤ 10 ^ 9 := Nat.pow_le_pow_right (by decide) h9
    have e : (10 : Nat) ^ 9 = 1000000000 := by decide
    omega, dec_of_value _ l rfl u hn hz hv⟩
theorem MinusP.num {l : List UInt8} {a : Int} {ok : Bool} (h : NumP l a ok) (hm : ∀ r, l = 45 :: r → False) : MinusP l a ok := by
  cases ok
  · intro b hb e
    unfold itoa at e
    split at e
    · exact hm _ e.symm
    · exact h b.toNat (by unfold Small at hb; omega) e
  · obtain ⟨u, rfl, h1, h2⟩ := h
    refine ⟨⟨by omega, by omega⟩, ?_⟩
    unfold itoa
    rw [if_neg (by omega)]
    simpa using h2
/-- A text "-..": where its second byte is no zero. -/
theorem MinusP.neg {l r : List UInt8} {a : Int} {ok : Bool} (hl : l = 45 :: r) (hz : ∀ s, r ≠ 48 :: s) (h : NumP r a ok) : MinusP l (-a) ok := by
  subst hl
  cases ok
  · intro b hb e
    unfold itoa at e
    split at e
    · exact h b.natAbs (by unfold Small at hb; omega) (List.cons.inj e).2
    · have := dec_digits b.toNat 45 (by rw [e]; exact List.mem_cons_self)
      have e45 : (45 : UInt8).toNat = 45 := rfl
      omega
  · obtain ⟨u, rfl, h1, h2⟩ := h
    have hu : u ≠ 0 := by
      intro h0
      subst h0
      rw [decDigits, dif_pos (by decide)] at h2
      exact hz [] h2.symm
    refine ⟨⟨by omega, by omega⟩, ?_⟩
    unfold itoa
    rw [if_pos (by omega)]
    congr 1
    rw [← h2]
    congr 1
    omega
/-- "-" alone, "-0.." : no number's text; l01Number says so too. -/
theorem MinusP.none {l r : List UInt8} {a : Int} (hl : l = 45 :: r) (hz : r = [] ∨ ∃ s, r = 48 :: s) : MinusP l a false := fun b hb e => by
  subst hl
  unfold itoa at e
  split at e
  · have e' := (List.cons.inj e).2
    rcases hz with rfl | ⟨s, rfl⟩
    · exact dec_ne_nil _ e'
    · exact dec_head b.natAbs (by omega) 48 s e' rfl
  · have := dec_digits b.toNat 45 (by rw [e]; exact List.mem_cons_self)
    have e45 : (45 : UInt8).toNat = 45 := rfl
    omega

theorem MinusP.fall {l : List UInt8} {a : Int} {ok : Bool} (h : NumP l a ok) (hm : ∀ r, l = 45 :: r → r = [] ∨ ∃ s, r = 48 :: s) : MinusP l a ok := by
  by_cases hl : ∃ r, l = 45 :: r
  · obtain ⟨r, hr⟩ := hl
    cases ok
    · exact MinusP.none hr (hm r hr)
    · obtain ⟨u, _, _, e⟩ := h
      have := dec_digits u 45 (by rw [e, hr]; exact List.mem_cons_self)
      have e45 : (45 : UInt8).toNat = 45 := rfl
      omega
  · exact MinusP.num h (fun r hr => hl ⟨r, hr⟩)
/-- How the reference's two readers end. -/
def NumPost (T : ByteArray) (e : Ending) : Prop := ∃ a ok, e = .returned (.tuple #[.int .i64 a, .bool ok]) ∧ 0 ≤ a ∧ a < 1000000000 ∧ NumP T.data.toList a ok
def MinusPost (T : ByteArray) (e : Ending) : Prop := ∃ a ok, e = .returned (.tuple #[.int .i64 a, .bool ok]) ∧ -1000000000 < a ∧ a < 1000000000 ∧ MinusP T.data.toList a ok

/-! Texts cut at a byte -/
/-- A text cut at each byte c. -/
def splitL (c : UInt8) : List UInt8 → List (List UInt8)
  | [] => [[]]
  | b :: r => if b = c then [] :: splitL c r else match splitL c r with
    | [] => [[b]]
    | h :: t => (b :: h) :: t
theorem splitL_ne_nil (c : UInt8) : ∀ l, splitL c l ≠ []
  | [] => by simp [splitL]
  | b :: r => by
    unfold splitL
    split
    · simp
    · split <;> simp
theorem splitL_none {c : UInt8} : ∀ {l : List UInt8}, c ∉ l → splitL c l = [l]
  | [], _ => rfl
  | b :: r, h => by
    unfold splitL
    rw [if_neg (fun e => h (by rw [e]; exact List.mem_cons_self)), splitL_none (fun e => h (List.mem_cons_of_mem _ e))]
theorem splitL_cut {c : UInt8} : ∀ {p : List UInt8} (r : List UInt8), c ∉ p → splitL c (p ++ c :: r) = p :: splitL c r
  | [], r, _ => by
    show splitL c (c :: r) = _
    rw [splitL, if_pos rfl]
  | b :: p, r, h => by
    show splitL c (b :: (p ++ c :: r)) = _
    rw [splitL, if_neg (fun e => h (by rw [e]; exact List.mem_cons_self)), splitL_cut r (fun e => h (List.mem_cons_of_mem _ e))]
theorem splitL_join (c : UInt8) : ∀ l, [c].intercalate (splitL c l) = l
  | [] => rfl
  | b :: r => by
    have ih := splitL_join c r
    unfold splitL
    by_cases h : b = c
    · rw [if_pos h]
      cases hs : splitL c r with
      | nil => exact absurd hs (splitL_ne_nil c r)
      | cons x t =>
        rw [hs] at ih
        rw [← ih, h]
        cases t <;> simp [List.intercalate]
    · rw [if_neg h]
      cases hs : splitL c r with
      | nil => exact absurd hs (splitL_ne_nil c r)
      | cons x t =>
        rw [hs] at ih
        rw [← ih]
        cases t <;> simp [List.intercalate]
theorem splitL_none_back {c : UInt8} {l : List UInt8} (h : (splitL c l).length = 1) : c ∉ l := by
  induction l with
  | nil => simp
  | cons b r ih =>
    unfold splitL at h
    by_cases e : b = c
    · rw [if_pos e] at h
      have := splitL_ne_nil c r
      simp at h
      exact absurd h this
    · rw [if_neg e] at h
      cases hs : splitL c r with
      | nil => exact absurd hs (splitL_ne_nil c r)
      | cons x t =>
        rw [hs] at h
        have ht := ih (by rw [hs]; simpa using h)
        intro hm
        rcases List.mem_cons.1 hm with rfl | hm
        · exact e rfl
        · exact ht hm
theorem splitL_two {c : UInt8} {l p q : List UInt8} (h : splitL c l = [p, q]) : l = p ++ c :: q := by
  have := splitL_join c l
  rw [h] at this
  rw [← this]
  simp [List.intercalate]
theorem splitL_of_two {c : UInt8} {p q : List UInt8} (hp : c ∉ p) (hq : c ∉ q) : splitL c (p ++ c :: q) = [p, q] := by
  rw [splitL_cut q hp, splitL_none hq]
/-- The library's cut at a text of one byte. -/
theorem index_split (c : UInt8) (s : List UInt8) : (index s [c] = -1 ∧ c ∉ s) ∨ ∃ i : Nat, index s [c] = i ∧ i < s.length ∧ c ∉ s.take i ∧ s = s.take i ++ c :: s.drop (i + 1) := by
  induction s with
  | nil => exact .inl ⟨rfl, by simp⟩
  | cons b r ih =>
    by_cases h : b = c
    · subst h
      exact .inr ⟨0, by unfold index; rw [if_pos (by simp)]; rfl, by simp, by simp, by simp⟩
    · have hp : List.isPrefixOf [c] (b :: r) = false := by simp [List.isPrefixOf, Ne.symm h]
      rcases ih with ⟨h1, h2⟩ | ⟨i, h1, h2, h3, h4⟩
      · refine .inl ⟨by unfold index; rw [hp, h1]; rfl, ?_⟩
        intro hm
        rcases List.mem_cons.1 hm with rfl | hm
        · exact h rfl
        · exact h2 hm
      · refine .inr ⟨i + 1, ?_, by simpa using h2, ?_, ?_⟩
        · unfold index
          rw [hp, h1]
          have : ((i : Int) == -1) = false := by rw [beq_eq_false_iff_ne]; omega
          simp [this]
        · rw [List.take_succ_cons]
          intro hm
          rcases List.mem_cons.1 hm with rfl | hm
          · exact h rfl
          · exact h3 hm
        · rw [List.take_succ_cons, List.drop_succ_cons, List.cons_append, ← h4]
theorem splitK_eq (c : UInt8) : ∀ (n : Nat) (s : List UInt8), s.length = n → splitK [c] 0 (count s [c]) s = splitL c s := by
  intro n
  induction n using Nat.strongRecOn with
  | _ n ih =>
    intro s hs
    rcases index_split c s with ⟨h1, h2⟩ | ⟨i, h1, h2, h3, h4⟩
    · rw [count_miss h1, splitL_none h2]; rfl
    · rw [count_hit (by simp) h1, Nat.add_comm]
      unfold splitK
      have hm : ¬ (index s [c] == -1) = true := fun e => by have := beq_iff_eq.1 e; omega
      rw [if_neg hm, h1]
      have e1 : ((i : Nat) : Int).toNat = i := by omega
      rw [e1]
      have := ih (s.drop (i + [c].length)).length (by rw [List.length_drop]; simp; omega) _ rfl
      rw [this]
      conv => rhs; rw [h4]
      rw [splitL_cut _ h3]
      rfl
theorem splitK_len (c : UInt8) : ∀ (n : Nat) (s : List UInt8), s.length = n → (splitK [c] 0 (count s [c]) s).length = count s [c] + 1 := by
  intro n
  induction n using Nat.strongRecOn with
  | _ n ih =>
    intro s hs
    rcases index_split c s with ⟨h1, h2⟩ | ⟨i, h1, h2, h3, h4⟩
    · rw [count_miss h1]; rfl
    · rw [count_hit (by simp) h1, Nat.add_comm 1]
      unfold splitK
      have hm : ¬ (index s [c] == -1) = true := fun e => by have := beq_iff_eq.1 e; omega
      rw [if_neg hm, h1]
      have e1 : ((i : Nat) : Int).toNat = i := by omega
      rw [e1, List.length_cons, ih (s.drop (i + [c].length)).length (by rw [List.length_drop]; simp; omega) _ rfl]
theorem splitB_len {sep : ByteArray} {c : UInt8} (hsep : sep.data.toList = [c]) (s : ByteArray) : (splitB sep 0 (countB s sep) s).length = countB s sep + 1 := by
  have h : ((splitB sep 0 (countB s sep) s).map (·.data.toList)).length = countB s sep + 1 := by
    rw [splitB_data]
    show (splitK sep.data.toList 0 (count s.data.toList sep.data.toList) s.data.toList).length = count s.data.toList sep.data.toList + 1
    rw [hsep]
    exact splitK_len c _ _ rfl
  simpa using h
theorem splitB_eq {sep : ByteArray} {c : UInt8} (hsep : sep.data.toList = [c]) (s : ByteArray) : (splitB sep 0 (countB s sep) s).map (·.data.toList) = splitL c s.data.toList := by
  rw [splitB_data, hsep]
  show splitK [c] 0 (count s.data.toList sep.data.toList) _ = _
  rw [hsep]
  exact splitK_eq c _ _ rfl
theorem cut_yes {c : UInt8} {p q : List UInt8} (hp : c ∉ p) : cut (p ++ c :: q) [c] = (p, q, true) := by
  rcases index_split c (p ++ c :: q) with ⟨_, h2⟩ | ⟨i, h1, h2, h3, h4⟩
  · exact absurd (by simp) h2
  · unfold cut
    rw [h1, if_pos (by omega)]
    have e1 : ((i : Nat) : Int).toNat = i := by omega
    rw [e1]
    have key : p = (p ++ c :: q).take i ∧ q = (p ++ c :: q).drop (i + 1) := by
      have a := splitL_cut q hp
      have b := splitL_cut ((p ++ c :: q).drop (i + 1)) h3
      rw [← h4, a] at b
      have hpi := (List.cons.inj b).1
      refine ⟨hpi, ?_⟩
      have h5 := h4
      rw [← hpi] at h5
      exact (List.cons.inj (List.append_cancel_left h5)).2
    show (_, (p ++ c :: q).drop (i + 1), true) = _
    rw [← key.1, ← key.2]
theorem cut_cases (c : UInt8) (s : List UInt8) : (c ∉ s ∧ cut s [c] = (s, [], false)) ∨ ∃ p q, c ∉ p ∧ s = p ++ c :: q ∧ cut s [c] = (p, q, true) := by
  rcases index_split c s with ⟨h1, h2⟩ | ⟨i, h1, h2, h3, h4⟩
  · exact .inl ⟨h2, by unfold cut; rw [h1, if_neg (by omega)]⟩
  · exact .inr ⟨_, _, h3, h4, (congrArg (fun t => cut t [c]) h4).trans (cut_yes h3)⟩
end Go.Proofs.Hx
