/-
  Suns: what the law on suns says of all suns. No program here.
-/
import Derived.Test.YtddkiemipedgcaaGreatDoorPsn
import Derived.Test.YtddkiemipedgcaaGreatDoorWmi
import Derived.Test.YtddkiemipedgcaaGreatDoorWla
import Derived.Test.YtddkiemipedgcaaGreatDoorWsh
import Derived.Test.YtddkiemipedgcaaGreatDoorWrd
import Derived.Test.YtddkiemipedgcaaGreatDoorWst
import Derived.Test.YtddkiemipedgcaaGreatDoorWhs
namespace Go.Proofs.Hx
open Go Go.Proofs.Fl Go.Proofs.Pl
open Go.Lib hiding intOf
set_option linter.unusedVariables false
theorem splitL_words {c : UInt8} : ∀ {xs : List (List UInt8)}, xs ≠ [] → (∀ x ∈ xs, c ∉ x) → splitL c ([c].intercalate xs) = xs
  | [], h, _ => absurd rfl h
  | [x], _, hx => by
    have e : [c].intercalate [x] = x := by simp [List.intercalate]
    rw [e, splitL_none (hx x (by simp))]
  | x :: y :: t, _, hx => by
    have ih := splitL_words (c := c) (xs := y :: t) (by simp) (fun z hz => hx z (List.mem_cons_of_mem _ hz))
    have e : [c].intercalate (x :: y :: t) = x ++ c :: [c].intercalate (y :: t) := by simp [List.intercalate]
    rw [e, splitL_cut _ (hx x (by simp)), ih]
theorem itoa_no32' (a : Int) : (32 : UInt8) ∉ itoa a := by
  intro h
  have e : (32 : UInt8).toNat = 32 := by decide
  rcases itoa_chars a 32 h with c | ⟨c, d⟩ <;> omega
theorem wordL_is {L : List Int} (hok : sunOk L = true) {k : Nat} (hk : k < 24) : WordIs (wordL L k) (hgt L k) (trn L k) := by
  obtain ⟨h1, h2, h3, h4⟩ := sunOk_at hok hk
  refine ⟨h1, h2, h3, h4, ?_⟩
  have e : itoa (trn L k) = decDigits (trn L k).toNat := by unfold itoa; rw [if_neg (by omega)]
  rw [e]; simp [wordL]
theorem text_split {L : List Int} (hok : sunOk L = true) : splitL 32 (textL L 24) = (List.range 24).map (wordL L) := by
  rw [textL_join]
  refine splitL_words (by simp) fun x hx => ?_
  rw [List.mem_map] at hx
  obtain ⟨k, hk, rfl⟩ := hx
  rw [List.mem_range] at hk
  have w := (wordL_is hok hk).2.2.2.2
  rw [w]
  intro h
  rw [List.mem_append, List.mem_cons] at h
  rcases h with h | h | h
  · exact itoa_no32' _ h
  · exact absurd h (by decide)
  · exact itoa_no32' _ h
theorem text_word {L : List Int} (hok : sunOk L = true) {k : Nat} (hk : k < 24) : (splitL 32 (textL L 24)).getD k [] = wordL L k := by
  rw [text_split hok]; simp [hk]
theorem text_ok {L : List Int} (hok : sunOk L = true) : RdOk (textL L 24) :=
  ⟨by rw [text_split hok]; simp, fun k hk => ⟨_, _, by rw [text_word hok hk]; exact wordL_is hok hk⟩⟩
theorem text_rd {L : List Int} (hok : sunOk L = true) {k : Nat} (hk : k < 24) : rdF (textL L 24) k = hgt L k ∧ rdG (textL L 24) k = trn L k := by
  unfold rdF rdG
  rw [text_word hok hk]
  exact wA_is (wordL_is hok hk)
end Go.Proofs.Hx
namespace Go.Proofs.YtddkiemipedgcaaGreatDoor
open Go.RowKit Go.Proofs.Fl Go.Proofs.Pl Go.Proofs.Hx
open Go.Lib hiding intOf
set_option linter.unusedVariables false
theorem fill24_at (F G : Nat → Int) {i : Nat} (hi : i < 48) : (fill24 F G)[i]? = some (if i < 24 then F i else G (i - 24)) := by
  rw [← fill24_eq]
  unfold fill
  simp only [List.getElem?_map, List.getElem?_range hi, Option.map_some]
  congr 1
  by_cases c : i < 24
  · simp [c]
  · simp [c, show i < 48 from hi]
theorem fill24_hgt (F G : Nat → Int) {k : Nat} (hk : k < 24) : hgt (fill24 F G) k = F k := by
  unfold hgt
  rw [List.getD_eq_getElem?_getD, fill24_at F G (by omega), if_pos hk]; rfl
theorem fill24_trn (F G : Nat → Int) {k : Nat} (hk : k < 24) : trn (fill24 F G) k = G k := by
  unfold trn
  rw [List.getD_eq_getElem?_getD, fill24_at F G (by omega), if_neg (by omega), show 24 + k - 24 = k by omega]; rfl
theorem fill24_of {F G : Nat → Int} {L : List Int} (hL : L.length = 48) (hF : ∀ k, k < 24 → F k = hgt L k) (hG : ∀ k, k < 24 → G k = trn L k) : fill24 F G = L := by
  apply List.ext_getElem?
  intro i
  by_cases hi : i < 48
  · rw [fill24_at F G hi]
    have e : L[i]? = some (L.getD i 0) := by rw [List.getD_eq_getElem?_getD, List.getElem?_eq_getElem (by omega)]; rfl
    rw [e]
    congr 1
    by_cases c : i < 24
    · rw [if_pos c, hF i c]; rfl
    · rw [if_neg c, hG (i - 24) (by omega)]
      unfold trn
      rw [show 24 + (i - 24) = i by omega]
  · rw [List.getElem?_eq_none (by rw [fill24_len]; omega), List.getElem?_eq_none (by omega)]
theorem fill24_ok {F G : Nat → Int} (h : ∀ k, k < 24 → -64 ≤ F k ∧ F k ≤ 64 ∧ 0 ≤ G k ∧ G k ≤ 255) : sunOk (fill24 F G) = true :=
  sunOk_of fun k hk => by
    obtain ⟨a, b, c, d⟩ := h k hk
    exact hour_yes (by rw [fill24_hgt F G hk]; exact inR_iff.2 ⟨a, b⟩) (by rw [fill24_trn F G hk]; exact inR_iff.2 ⟨c, d⟩)
theorem ok_range {L : List Int} (hL : L.length = 48) (hok : sunOk L = true) : ∀ x ∈ L, -32768 ≤ x ∧ x ≤ 32767 := by
  intro x hx
  obtain ⟨i, hi, rfl⟩ := List.mem_iff_getElem.1 hx
  have e : L.getD i 0 = L[i] := by simp [hi]
  by_cases c : i < 24
  · obtain ⟨h1, h2, _, _⟩ := sunOk_at hok c
    have q : hgt L i = L[i] := e
    omega
  · obtain ⟨_, _, h3, h4⟩ := sunOk_at hok (show i - 24 < 24 by omega)
    have q : trn L (i - 24) = L[i] := by unfold trn; rw [show 24 + (i - 24) = i by omega]; exact e
    omega
/-- A sun that is good. -/
structure Sn (L : List Int) : Prop where
  len : L.length = 48
  ok : sunOk L = true
theorem Sn.rng {L : List Int} (h : Sn L) : ∀ x ∈ L, -32768 ≤ x ∧ x ≤ 32767 := ok_range h.len h.ok
theorem rd_text {L : List Int} (h : Sn L) : rdAns (textL L 24) = (L, 0) := by
  rw [rdAns_ok (text_ok h.ok), fill24_of h.len (fun k hk => (text_rd h.ok hk).1) (fun k hk => (text_rd h.ok hk).2)]
/-- The mirrored sun. -/
def mir (L : List Int) : List Int := fill24 (mirF L) (mirG L)
theorem mir_sn {L : List Int} (h : Sn L) : Sn (mir L) := ⟨fill24_len _ _, fill24_ok fun k hk => by
  obtain ⟨a, b, _, _⟩ := sunOk_at h.ok (show 23 - k < 24 by omega)
  unfold mirF mirG
  omega⟩
theorem mir_hgt (L : List Int) {k : Nat} (hk : k < 24) : hgt (mir L) k = hgt L (23 - k) := fill24_hgt _ _ hk
theorem mir_trn (L : List Int) {k : Nat} (hk : k < 24) : trn (mir L) k = (-(trn L (23 - k))) % 256 := fill24_trn _ _ hk
theorem mir_mir {L : List Int} (h : Sn L) : mir (mir L) = L := by
  refine fill24_of h.len (fun k hk => ?_) (fun k hk => ?_)
  · show hgt (mir L) (23 - k) = _
    rw [mir_hgt L (by omega), show 23 - (23 - k) = k by omega]
  · show (-(trn (mir L) (23 - k))) % 256 = _
    rw [mir_trn L (by omega), show 23 - (23 - k) = k by omega]
    obtain ⟨_, _, c, d⟩ := sunOk_at h.ok hk
    omega
theorem cos_even : ∀ k : Nat, k < 256 → cosine (k : Int) = cosine (-(k : Int)) := by decide +kernel
theorem cosine_neg (a : Int) : cosine (-a) = cosine a := by
  obtain ⟨k, hk, e⟩ := ang_nat a
  rw [← cosine_eq (a := (k : Int)) (b := a) e, cos_even k hk]
  exact cosine_eq (by omega)
theorem mir_fall {L : List Int} (h : Sn L) {k : Nat} (hk : k < 24) (f : Int) : fall (mir L) (23 - k) ((256 - f) % 256) = fall L k f := by
  unfold fall fallRaw
  rw [mir_hgt L (by omega), mir_trn L (by omega), show 23 - (23 - k) = k by omega]
  have e : cosine (-trn L k % 256 - (256 - f) % 256) = cosine (trn L k - f) := by
    rw [← cosine_neg (trn L k - f)]
    exact cosine_eq (by omega)
  rw [e]
/-- The sun some hours later. -/
def lat (L : List Int) (n : Int) : List Int := fill24 (latF L n) (latG L n)
theorem lat_sn {L : List Int} (h : Sn L) (n : Int) : Sn (lat L n) := ⟨fill24_len _ _, fill24_ok fun k hk => sunOk_at h.ok (show (((k : Int) - n) % 24).toNat < 24 by omega)⟩
theorem lat_lat {L : List Int} (h : Sn L) (n : Int) : lat (lat L n) ((24 - n) % 24) = L := by
  refine fill24_of h.len (fun k hk => ?_) (fun k hk => ?_)
  · show hgt (lat L n) (((k : Int) - (24 - n) % 24) % 24).toNat = _
    rw [show hgt (lat L n) (((k : Int) - (24 - n) % 24) % 24).toNat = latF L n (((k : Int) - (24 - n) % 24) % 24).toNat from fill24_hgt _ _ (by omega)]
    unfold latF
    congr 1
    omega
  · show trn (lat L n) (((k : Int) - (24 - n) % 24) % 24).toNat = _
    rw [show trn (lat L n) (((k : Int) - (24 - n) % 24) % 24).toNat = latG L n (((k : Int) - (24 - n) % 24) % 24).toNat from fill24_trn _ _ (by omega)]
    unfold latG
    congr 1
    omega
/-! ### light -/
theorem fall_ge (L : List Int) (k : Nat) (f : Int) : fge (fall L k f) 0 = true := by
  have u := unit_fin (fall_unit L k f)
  have v0 : V 0 = 0 := by decide
  rw [fge_fin u.1 (by decide), v0]
  have : V (fall L k f) = (M (rung (fall L k f)) : Int) := by unfold V; rw [u.2.2.1]; rfl
  rw [this]
  simp
theorem fall_fnt (L : List Int) (k : Nat) (f : Int) : Fnt (fall L k f) := (unit_fin (fall_unit L k f)).1
theorem sine_pos : ∀ k : Nat, k < 65 → 1 ≤ k → fgt (sine (k : Int)) 0 = true := by decide +kernel
theorem ground_up {L : List Int} (h : Sn L) {k : Nat} (hk : k < 24) : fgt (ground L k) 0 = isUp L k := by
  obtain ⟨h1, h2, _, _⟩ := sunOk_at h.ok hk
  unfold ground isUp
  by_cases c : 0 < hgt L k
  · rw [if_pos c, decide_eq_true c]
    obtain ⟨n, hn⟩ := Int.eq_ofNat_of_zero_le (show 0 ≤ hgt L k by omega)
    rw [hn]
    exact sine_pos n (by omega) (by omega)
  · rw [if_neg c, decide_eq_false c]; decide
theorem ground_fnt {L : List Int} (h : Sn L) {k : Nat} (hk : k < 24) : Fnt (ground L k) := (unit_fin (ground_unit (sunOk_at h.ok hk).2.1)).1
theorem fall_down {L : List Int} {k : Nat} {f : Int} (h : isUp L k = false) : fall L k f = 0 := by
  unfold isUp at h
  unfold fall
  rw [if_neg (by simpa using h)]
theorem best_first {f : Nat → Nat} (hf : ∀ i, Fnt (f i)) : ∀ n, (bestOf f n).1 ≤ n ∧ Fnt (bestOf f n).2 ∧ ∀ i, i ≤ n → V (f i) ≤ V (bestOf f n).2 ∧ (i < (bestOf f n).1 → V (f i) < V (bestOf f n).2)
  | 0 => ⟨Nat.le_refl _, hf 0, fun i hi => by
      obtain rfl : i = 0 := by omega
      exact ⟨Int.le_refl _, fun h => by cases h⟩⟩
  | n + 1 => by
    obtain ⟨h1, h2, h3⟩ := best_first hf n
    by_cases c : fgt (f (n + 1)) (bestOf f n).2 = true
    · rw [best_yes c]
      rw [fgt_fin (hf _) h2, decide_eq_true_eq] at c
      refine ⟨Nat.le_refl _, hf _, fun i hi => ?_⟩
      by_cases e : i = n + 1
      · subst e; exact ⟨Int.le_refl _, fun h => absurd h (Nat.lt_irrefl _)⟩
      · have := (h3 i (by omega)).1
        have c' : V (bestOf f n).2 < V (f (n + 1)) := c
        exact ⟨by show V (f i) ≤ V (f (n + 1)); omega, fun _ => by show V (f i) < V (f (n + 1)); omega⟩
    · rw [best_no c]
      rw [fgt_fin (hf _) h2, decide_eq_true_eq] at c
      refine ⟨by omega, h2, fun i hi => ?_⟩
      by_cases e : i = n + 1
      · subst e; exact ⟨by omega, fun h => by omega⟩
      · exact h3 i (by omega)
/-- No value is greater than the best, and none before it is as great. -/
theorem best_is {f : Nat → Nat} (hf : ∀ i, Fnt (f i)) {n i : Nat} (hi : i ≤ n) : fle (f i) (bestOf f n).2 = true ∧ (i < (bestOf f n).1 → feq (f i) (bestOf f n).2 = false) := by
  obtain ⟨h1, h2, h3⟩ := best_first hf n
  obtain ⟨a, b⟩ := h3 i hi
  refine ⟨by rw [fle_fin (hf i) h2]; simpa using a, fun h => ?_⟩
  have := b h
  rw [feq_fin (hf i) h2]; simp; omega
theorem hasI_hl {so : Nat → Bool} : ∀ {n k : Nat}, hasI (hl so n) (k : Int) = (decide (k < n) && so k)
  | 0, k => by simp [hl, hasI]
  | n + 1, k => by
    have ih := hasI_hl (so := so) (n := n) (k := k)
    rcases bool_or (so n) with e | e
    · rw [hl_no e, ih]
      by_cases c : k = n
      · subst c; rw [e]; simp
      · by_cases d : k < n
        · simp [d, show k < n + 1 by omega]
        · simp [d, show ¬ k < n + 1 by omega]
    · rw [hl_yes e, hasI_app, ih]
      by_cases c : k = n
      · subst c; rw [e]; simp
      · have c' : ((n : Int) == (k : Int)) = false := by simp; omega
        rw [c']
        by_cases d : k < n
        · simp [d, show k < n + 1 by omega]
        · simp [d, show ¬ k < n + 1 by omega]
theorem has_hour {so : Nat → Bool} {k : Nat} (hk : k < 24) : hasI (hl24 so) (k : Int) = so k := by
  rw [← hl24_eq, hasI_hl]; simp [hk]
end Go.Proofs.YtddkiemipedgcaaGreatDoor
