/-
  Slices of float32 that the call itself made; a slice of int64 that is copied.
-/
import Derived.Test.YtfkbjkdapfdeeaaWo
import Derived.Test.YtfkbjkdapfdeeaaWe
import Derived.Test.YtfkbjkdapfdeeaaPc
import Derived.Test.YtfkbjkdapfdeeaaPs
namespace Go.Proofs.Ytfkbjkdapfdeeaa
open Go.RowKit Go.Proofs.Fl Go.Proofs.Pl
set_option linter.unusedVariables false

/-- The numbers xs lie at ad. -/
def Flts (w : World) (ad : Option Addr) (xs : List Nat) : Prop := ∀ k, k < xs.length → ∃ g, ad = some ⟨g, 0, none⟩ ∧ g < w.heap.size ∧ w.cell? ⟨g, k, none⟩ = some (.float .f32 (xs.getD k 0))
theorem Flts.below {w w' : World} {ad : Option Addr} {xs : List Nat} (h : Flts w ad xs) (hb : Below w.heap.size w w') : Flts w' ad xs := by
  intro k hk
  obtain ⟨g, e, hg, hc⟩ := h k hk
  exact ⟨g, e, Nat.lt_of_lt_of_le hg hb.size, (World.cell?_of_block (hb.block g hg)).trans hc⟩
theorem WroteAt.flts {w w' : World} {ad bd : Option Addr} {xs : List Nat} (h : WroteAt w w' ad) (hx : Flts w bd xs) (hne : ∀ g, bd = some ⟨g, 0, none⟩ → ad ≠ some ⟨g, 0, none⟩) : Flts w' bd xs := by
  intro k hk
  obtain ⟨g, e, hg, hc⟩ := hx k hk
  exact ⟨g, e, by rw [h.size]; exact hg, (World.cell?_of_block (h.block g (hne g e))).trans hc⟩
theorem made_flts {w : World} {base e : Nat} {v : Value} {xs : List Nat} (h : w.ownsRow base e 1 v xs.length (xs.map (Value.float .f32))) :
    ∃ ad c, v = .slice ad xs.length c ∧ Flts w ad xs ∧ Mine w base ad xs.length ∧ (∀ g, ad = some ⟨g, 0, none⟩ → base ≤ g ∧ g < w.heap.size) := by
  rcases h.2 with ⟨rfl, hx⟩ | ⟨g, cap, cur, rfl, hbg, hg, hnc, hcm, hcs, htake⟩
  · have : xs = [] := by simpa using hx
    subst this
    exact ⟨none, 0, rfl, fun k hk => by simp at hk, .inl rfl, fun g e => by cases e⟩
  · have hlt : g < w.heap.size := by
      by_cases c : g < w.heap.size
      · exact c
      · rw [Array.getElem?_eq_none (by omega)] at hg; cases hg
    refine ⟨some ⟨g, 0, none⟩, cap, rfl, fun k hk => ⟨g, rfl, hlt, ?_⟩, .inr ⟨g, cur, rfl, hbg, ⟨e, hg⟩, by omega⟩, fun k e => by cases e; exact ⟨hbg, hlt⟩⟩
    rw [h.cellAt k (by omega), List.getElem?_map, List.getElem?_eq_getElem hk]
    simp [hk]
def fmarks (n : Nat) : List Nat := (List.range n).map fun (k : Nat) => floatOfInt .f32 (1 + (k : Int))
theorem fmarks_len (n : Nat) : (fmarks n).length = n := by simp [fmarks]
theorem fmarks_at {n k : Nat} (h : k < n) : (fmarks n).getD k 0 = floatOfInt .f32 (1 + (k : Int)) := by simp [fmarks, h]
theorem fne_self {x : Nat} (h : Fnt x) : fne x x = false := by
  have e := order_fin h h
  unfold fne; rw [e, Int.compare_eq_eq.2 rfl]; rfl
/-- The numbers xs lie at an argument's address. -/
def ArgInts (w : World) (ao : Option Addr) (xs : List Int) : Prop := ∀ k, k < xs.length → ∃ a : Addr, ao = some a ∧ a.block < w.heap.size ∧ w.cell? (a.add k) = some (.int .i64 (xs.getD k 0))
theorem ArgInts.below {w w' : World} {ao : Option Addr} {xs : List Int} (h : ArgInts w ao xs) (hb : Below w.heap.size w w') : ArgInts w' ao xs := by
  intro k hk
  obtain ⟨a, e, ha, hc⟩ := h k hk
  have hblk : (a.add k).block = a.block := by unfold Addr.add; split <;> rfl
  exact ⟨a, e, Nat.lt_of_lt_of_le ha hb.size, (World.cell?_of_block (by rw [hblk]; exact hb.block a.block ha)).trans hc⟩
theorem upto_set {L : List Int} {k : Nat} (h : k < L.length) : (upto L k).set k (L.getD k 0) = upto L (k + 1) := by
  have e1 : L.length - k = (L.length - (k + 1)) + 1 := by omega
  unfold upto
  rw [e1, List.replicate_succ, List.set_append_right _ _ (by simp; omega)]
  have e2 : k - (L.take k).length = 0 := by simp; omega
  have e3 : L.take (k + 1) = L.take k ++ [L[k]] := (List.take_append_getElem h).symm
  have e4 : L.getD k 0 = L[k] := by simp [h]
  rw [e2, List.set_cons_zero, e3, e4, List.append_assoc]
  rfl
theorem ionef : IsOne Try.prog 23 := isOne_float Try.underlying23
theorem eq_floats (ad bd : Option Addr) (c d : Nat) (xs : List Nat) (hl : xs.length ≤ 4611686018427387904) (hf : ∀ k, k < xs.length → Fnt (xs.getD k 0)) (w : World) (h1 : Flts w ad xs) (h2 : Flts w bd xs) :
    Calls Try.prog 37 #[.slice ad xs.length c, .slice bd xs.length d] w fun e w' => e = .returned (.bool true) ∧ Below w.heap.size w w' := by
  have H1 := hidd h1
  have H2 := hidd h2
  clear h1 h2
  have HF := hidd hf
  clear hf
  go_enter Try.func37, Try.ntmps37
  go_wp2_with fail
  go_loopw [5] (fun i wr => ∃ k : Nat, k ≤ xs.length ∧ i = .int .i64 k ∧ Below w.heap.size w wr) (fun i _ => xs.length - (intOf i).toNat)
  case atStart => exact ⟨0, by omega, rfl, Below.refl _ _⟩
  case round =>
    obtain ⟨k, hk, rfl, kr⟩ := hrel
    have kq := hidd kr
    clear kr
    by_cases hlt : k < xs.length
    · obtain ⟨g, rfl, hg, hc1⟩ := H1.out k hlt
      obtain ⟨g2, rfl, hg2, hc2⟩ := H2.out k hlt
      obtain ⟨x, hx⟩ : ∃ x, x = xs.getD k 0 := ⟨_, rfl⟩
      have fx := HF.out k hlt
      rw [← hx] at hc1 hc2 fx
      clear hx
      have nx := hidd (widen_fin fx).2
      have C1 := hidd (And.intro hg hc1)
      have C2 := hidd (And.intro hg2 hc2)
      clear hg hc1 hg2 hc2
      have i0 : (0 : Int) ≤ (k : Int) := by omega
      have i1 : (k : Int) < (xs.length : Int) := by omega
      go_wp2_with fail
      refine wp_region_in (fun w' => Below w.heap.size w w') (by kernel_rfl) (by kernel_rfl) kq.out.drew ?_
      repeat (first | (refine wpQuiet_step (fun K hK => ?_); rw [if_pos (by rfl)]; refine quiet_load_cell _ _ rfl _ rfl (.float .f32 x) (ionef) (fun w' hw' => ((World.cell?_of_block (hw'.block g C1.out.1)).trans C1.out.2)) ?_; go_simp; refine hK _ ?_; clear hK K) | (refine wpQuiet_step (fun K hK => ?_); rw [if_pos (by rfl)]; refine quiet_load_cell _ _ rfl _ rfl (.float .f32 x) (ionef) (fun w' hw' => ((World.cell?_of_block (hw'.block g2 C2.out.1)).trans C2.out.2)) ?_; go_simp; refine hK _ ?_; clear hK K) | (refine wpQuiet_step (fun K hK => ?_); go_simp; first | (refine hK _ ?_; clear hK K) | (apply Exists.intro; refine ⟨fun w' hw' => ?_, hK _ ?_⟩; (first | rfl | exact ⟨rfl, rfl⟩ | ((go_at_call 27; exact (sameFloat_same _ nx.out _).mono fun e w'' h => ⟨h.1, h.2 ▸ hw'⟩))); clear hK K)))
      refine wpQuiet_nil ?_
      intro w1 j1
      have j2 := hidd j1
      clear j1
      go_wp2
      go_roundw
      case rel => exact ⟨k + 1, by omega, by go_num, j2.out⟩
      case measure => simp [intOf]; omega
    · obtain rfl : k = xs.length := by omega
      go_wp2
      go_ret; exact ⟨rfl, kq.out⟩
theorem mark_floats (ad : Option Addr) (c : Nat) (n : Nat) (hn : n ≤ 100) (base : Nat) (w : World) (hm : Mine w base ad n) :
    Calls Try.prog 40 #[.slice ad n c, .int .i64 1] w fun e w' => e = .returned (.int .i64 (1 + (n : Int))) ∧ WroteAt w w' ad ∧ Flts w' ad (fmarks n) := by
  go_enter Try.func40, Try.ntmps40
  go_wp2_with fail
  go_loopw [1, 5] (fun kk i wr => ∃ k : Nat, k ≤ n ∧ i = .int .i64 k ∧ kk = .int .i64 (1 + (k : Int)) ∧ WroteAt w wr ad ∧ (n = 0 ∨ ∃ g cs, ad = some ⟨g, 0, none⟩ ∧ Row wr g cs ∧ n ≤ cs.size ∧ ∀ j, j < k → cs[j]? = some (.float .f32 (floatOfInt .f32 (1 + (j : Int)))))) (fun _ i _ => n - (intOf i).toNat)
  case atStart =>
    refine ⟨0, by omega, rfl, rfl, WroteAt.refl _ _, ?_⟩
    rcases hm with h | ⟨g, cs, e, _, r, hs⟩
    · exact .inl h
    · exact .inr ⟨g, cs, e, r, hs, fun j hj => by omega⟩
  case round =>
    obtain ⟨k, hk, rfl, rfl, kr, km⟩ := hrel
    have kq := hidd kr
    clear kr
    by_cases hlt : k < n
    · rcases km with h | ⟨g, cs, rfl, r, hs, hj⟩
      · omega
      obtain ⟨cv, hcc⟩ : ∃ cv, wr.cell? ⟨g, k, none⟩ = some cv := ⟨cs[k]'(by omega), by rw [r.cell]; simp [show k < cs.size by omega]⟩
      have hff := r.frozen k
      have R := hidd (And.intro r (And.intro hs hj))
      clear r hs hj
      have i0 : (0 : Int) ≤ (k : Int) := by omega
      have i1 : (k : Int) < (n : Int) := by omega
      go_wp2
      go_roundw
      case rel =>
        obtain ⟨r, hs, hj⟩ := R.out
        refine ⟨k + 1, by omega, by go_num, by go_num, ?_, .inr ⟨g, _, rfl, r.set k (.float .f32 (floatOfInt .f32 (1 + (k : Int)))), by simpa using hs, ?_⟩⟩
        · have q := kq.out
          exact ⟨q.os, q.tape, q.output, by simp [World.setCell]; exact q.size, fun i hi => (heap_setCell_other wr _ i _ (fun e => hi (by rw [e]))).trans (q.block i hi)⟩
        · intro j hjk
          rw [Array.getElem?_setIfInBounds]
          by_cases e : k = j
          · subst e; rw [if_pos rfl]; simp [show k < cs.size by omega]
          · rw [if_neg e]; exact hj j (by omega)
      case measure => simp [intOf]; omega
    · obtain rfl : k = n := by omega
      have KM := hidd km
      clear km
      go_wp2
      go_ret
      refine ⟨rfl, kq.out, fun j hj => ?_⟩
      rw [fmarks_len] at hj
      rcases KM.out with h | ⟨g, cs, e, r, hs, hjj⟩
      · omega
      · exact ⟨g, e, r.lt, by rw [r.cell, hjj j hj, fmarks_at hj]⟩
theorem held_floats (ad : Option Addr) (c : Nat) (n : Nat) (hn : n ≤ 100) (w : World) (hm : Flts w ad (fmarks n)) :
    Calls Try.prog 41 #[.slice ad n c, .int .i64 1] w fun e w' => e = .returned (.int .i64 (1 + (n : Int))) ∧ w = w' := by
  have M := hidd hm
  clear hm
  go_enter Try.func41, Try.ntmps41
  go_wp2_with fail
  go_loop [1, 5] (fun kk i => ∃ k : Nat, k ≤ n ∧ i = .int .i64 k ∧ kk = .int .i64 (1 + (k : Int))) (fun _ i => n - (intOf i).toNat)
  case atStart => exact ⟨0, by omega, rfl, rfl⟩
  case round =>
    obtain ⟨k, hk, rfl, rfl⟩ := hrel
    by_cases hlt : k < n
    · obtain ⟨g, rfl, hg, hc⟩ := M.out k (by rw [fmarks_len]; exact hlt)
      rw [fmarks_at hlt] at hc
      have fw := (whole_fin (show 0 ≤ 1 + (k : Int) by omega) (show 1 + (k : Int) ≤ 100 by omega)).1
      have fz := fne_self fw
      have i0 : (0 : Int) ≤ (k : Int) := by omega
      have i1 : (k : Int) < (n : Int) := by omega
      go_wp2
      go_round
      case rel => exact ⟨k + 1, by omega, by go_num, by go_num⟩
      case measure => simp [intOf]; omega
    · obtain rfl : k = n := by omega
      go_wp2
      go_ret; exact ⟨rfl, rfl⟩
theorem Try.infoJ : (Try.prog.info? 2).map (fun i => (i.zero, i.size, i.bytes)) = some (some (.int .i64 0), 1, 8) := by kernel_rfl
theorem to_ints (ao : Option Addr) (cap : Nat) (xs : List Int) (hn : xs.length ≤ 1048576) (w : World) (h : ArgInts w ao xs) :
    Calls Try.prog 35 #[.slice ao xs.length cap] w fun e w' => ∃ v, e = .returned v ∧ Below w.heap.size w w' ∧ w'.ownsRow w.heap.size 2 1 v xs.length (xs.map (Value.int .i64)) := by
  have H := hidd h
  clear h
  obtain ⟨i0, hi, hz0, hz1, hz2⟩ := info_parts Try.infoJ
  go_enter Try.func35, Try.ntmps35
  go_wp2_with (refine wpList_make_full _ rfl _ _ 41 rfl (w.heap.size) 2 i0 (.int .i64 0) 1 Try.underlying41 hi hz0 hz1 .i64 .i64 _ _ xs.length rfl rfl rfl rfl (by rw [hz2]; omega) (by unfold maxLen; omega) (Nat.le_refl _) ?_; intro w1 own1 hg1; have o1 := hidd own1; have b1 := hidd ((Below.refl w.heap.size w).grown hg1 (Nat.le_refl _) (by intro k hk; cases hk)); clear own1 hg1)
  go_loopw [4] (fun i wr => ∃ k : Nat, k ≤ xs.length ∧ i = .int .i64 k ∧ wr.ownsRow w.heap.size 2 1 (.slice (some ⟨w.heap.size, 0, none⟩) xs.length xs.length) xs.length ((upto xs k).map (Value.int .i64)) ∧ Below w.heap.size w wr) (fun i _ => xs.length - (intOf i).toNat)
  case atStart =>
    have q := o1.out
    rw [show (Value.int .i64 0).cells = #[Value.int .i64 0] from rfl, Nat.mul_one, toList_madeCells_one] at q
    exact ⟨0, by omega, rfl, by unfold upto; simpa using q, b1.out⟩
  case round =>
    obtain ⟨k, hk, rfl, ko, kb⟩ := hrel
    have kq := hidd (And.intro ko kb)
    clear ko kb
    by_cases hlt : k < xs.length
    · obtain ⟨a, rfl, ha, hc⟩ := (H.out.below kq.out.2) k hlt
      have hul : (upto xs k).length = xs.length := upto_len hk
      have c2 : wr.cell? ⟨w.heap.size, k, none⟩ = some (.int .i64 ((upto xs k).getD k 0)) := by
        rw [kq.out.1.cellAt k (by omega), List.getElem?_map, List.getElem?_eq_getElem (by omega)]
        simp [hul, hlt]
      have f2 := kq.out.1.frozenAt k
      have UL := hidd hul
      clear hul
      obtain ⟨x, hx⟩ : ∃ x, x = xs.getD k 0 := ⟨_, rfl⟩
      rw [← hx] at hc
      have HX := hidd hx
      clear hx
      have i0' : (0 : Int) ≤ (k : Int) := by omega
      have i1 : (k : Int) < (xs.length : Int) := by omega
      go_wp2
      go_roundw
      case rel =>
        refine ⟨k + 1, by omega, by go_num, ?_, kq.out.2.setCell (by simp) _⟩
        have st := (kq.out.1.stored k (.int .i64 x)).1
        rw [← upto_set hlt, ← HX.out, List.map_set]
        exact st
      case measure => simp [intOf]; omega
    · obtain rfl : k = xs.length := by omega
      have q := kq.out.1
      rw [upto_all] at q
      have Q := hidd q
      clear q
      go_wp2
      go_ret; exact ⟨_, rfl, kq.out.2, Q.out⟩
end Go.Proofs.Ytfkbjkdapfdeeaa
