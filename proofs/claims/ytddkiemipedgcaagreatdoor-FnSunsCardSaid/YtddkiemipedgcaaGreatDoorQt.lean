/-
  A region that draws its order: quiet operations (in a class of worlds) ahead of a tail that is in one forced order.
-/
import Derived.StillTail
import Derived.Deep.Quiet
import Derived.KernelRfl
namespace Go.Proofs.Fl
open Go
section
variable {P : Program} {ops : Array Oper} {md : Region.Mode} {C : World → Prop}
/-- Each operation from m to n - 1 is waited for by a later one up to n. -/
def sinkFrom (md : Region.Mode) (ops : Array Oper) (m n : Nat) : Bool :=
  (List.range n).all fun i => decide (i < m) || (List.range (n + 1)).any fun j => decide (i < j) && Region.waitsFor md ops j i
theorem tail_stays {m n : Nat} {done : Array Bool} (hs : sinkFrom md ops m n = true) (hc : Region.chainB md ops n = true) (hn : n < ops.size) (inv : HeadInv md ops n done) :
    ∀ (d i : Nat), n - i = d → m ≤ i → i < n → done.getD i true = false → ∀ t, n ≤ t → t ∉ Region.ready md ops done := by
  intro d
  induction d using Nat.strongRecOn with
  | _ d ih =>
    intro i hd hm hi hun t ht hr
    obtain ⟨_, p, hp, hall⟩ := mem_ready.1 hr
    have htl : t < ops.size := (Array.getElem?_eq_some_iff.1 hp).1
    by_cases e : t = n
    · subst e
      have h1 := List.all_eq_true.1 hs i (List.mem_range.2 hi)
      rw [Bool.or_eq_true] at h1
      rcases h1 with h1 | h1
      · have := of_decide_eq_true h1; omega
      obtain ⟨j, hj, hj2⟩ := List.any_eq_true.1 h1
      rw [Bool.and_eq_true] at hj2
      have hij := of_decide_eq_true hj2.1
      obtain ⟨q, hq, x, hx, hb, hon⟩ := Region.waitsFor_spec hj2.2
      have hjn := List.mem_range.1 hj
      by_cases c : j = t
      · subst c
        obtain rfl : q = p := Option.some.inj (hq.symm.trans hp)
        have h2 := hall x hx hb
        rw [hon, getD_both hun] at h2
        cases h2
      · cases hl : done.getD j false with
        | true =>
          have h2 := inv.closed j q hq hl x hx hb
          rw [hon, getD_both hun] at h2
          cases h2
        | false => exact ih (t - j) (by omega) j rfl (by omega) (by omega) (getD_in (by rw [inv.size]; omega) hl) t (Nat.le_refl _) hr
    · have h1 := List.all_eq_true.1 hc t (List.mem_range.2 htl)
      rw [Bool.or_eq_true] at h1
      rcases h1 with h1 | h1
      · have := of_decide_eq_true h1; omega
      · obtain ⟨q, hq, x, hx, hb, hon⟩ := Region.waitsFor_spec h1
        obtain rfl : q = p := Option.some.inj (hq.symm.trans hp)
        have h2 := hall x hx hb
        rw [hon, getD_both (inv.tail (t - 1) (by omega) (by omega))] at h2
        cases h2
/-- The operations before number n come up in any order, each of them quiet; behind f of them L. -/
def headQ (P : Program) (md : Region.Mode) (ops : Array Oper) (C : World → Prop) (n : Nat) (L : Array Bool → Act → Prop) : Nat → Array Bool → Act → Prop
  | 0, done, a => L done a
  | f + 1, done, a => Region.ready md ops done ≠ [] ∧ ∀ i, i ∈ Region.ready md ops done → i < n ∧ qOp P ops C i (headQ P md ops C n L f (done.setIfInBounds i true)) a
theorem headQ_any {n g : Nat} {L : Array Bool → Act → Prop} {Q : Exit → Act → World → Prop} (hL : ∀ done a w, C w → L done a → wpAny P md ops Q g done a w) :
    ∀ (f : Nat) (done : Array Bool) (a : Act) (w : World), C w → headQ P md ops C n L f done a → wpAny P md ops Q (f + g) done a w := by
  intro f
  induction f with
  | zero => intro done a w hw h; rw [Nat.zero_add]; exact hL _ _ _ hw h
  | succ f ih =>
    intro done a w hw h
    have e : f + 1 + g = (f + g) + 1 := by omega
    rw [e]
    refine ⟨fun h0 => absurd h0 h.1, fun i hi => ?_⟩
    exact wpOp_of_qOp hw (fun b w2 hw2 hb => ih _ b w2 hw2 hb) (h.2 i hi).2
theorem headQ_swap {m n i : Nat} {o : Oper} {v : Value} {L : Array Bool → Act → Prop} (ho : ops[i]? = some o) (sel : ∀ (j : Nat) (p : Oper) cs b, ops[j]? = some p → p.op ≠ .select cs b)
    (hs : sinkFrom md ops m n = true) (hc : Region.chainB md ops n = true) (hn : n < ops.size) (him : m ≤ i) (hin : i < n) (hL : ∀ done a, L done a → ∀ j, j ∈ Region.ready md ops done → n ≤ j) :
    ∀ (f : Nat) (done : Array Bool) (a : Act), HeadInv md ops n done →
      (∀ j p, ops[j]? = some p → j ≠ i → done.getD j true = false → (∀ e ∈ p.after, Region.binds md e = true → e.on ≠ i) → o.apart ops p = true) →
      i ∈ Region.ready md ops done → YieldsIn P ops C o v a →
      headQ P md ops C n L f (done.setIfInBounds i true) (a.put o.dst v) → headQ P md ops C n L (f + 1) done a := by
  intro f
  induction f with
  | zero =>
    intro done a inv hf hr hy H
    have hne : Region.ready md ops done ≠ [] := List.ne_nil_of_mem hr
    refine ⟨hne, fun j hj => ?_⟩
    have hlt : j < n := by
      by_cases c : j < n
      · exact c
      · exact absurd hj (tail_stays hs hc hn inv _ i rfl him hin (mem_ready.1 hr).1 j (by omega))
    by_cases e : j = i
    · subst e; exact ⟨hlt, hy.qOp ho H⟩
    · have := hL _ _ H j (ready_mono hj e)
      omega
  | succ f ih =>
    intro done a inv hf hr hy H
    have hne : Region.ready md ops done ≠ [] := List.ne_nil_of_mem hr
    have hun := (mem_ready.1 hr).1
    refine ⟨hne, fun j hj => ?_⟩
    have hlt : j < n := by
      by_cases c : j < n
      · exact c
      · exact absurd hj (tail_stays hs hc hn inv _ i rfl him hin hun j (by omega))
    by_cases e : j = i
    · subst e; exact ⟨hlt, hy.qOp ho H⟩
    · refine ⟨hlt, ?_⟩
      obtain ⟨hju, p, hp, hall⟩ := mem_ready.1 hj
      have waits : ∀ e ∈ p.after, Region.binds md e = true → e.on ≠ i := by
        intro x hx hb he
        have q := hall x hx hb
        rw [he, getD_both hun] at q
        cases q
      have q := qOp_put hp (hf j p hp e hju waits) (fun cs b => sel i o cs b ho) (fun cs b => sel j p cs b hp) hy (H.2 j (ready_mono hj e)).2
      refine qOp_mono (fun b hb => ?_) q
      refine ih (done.setIfInBounds j true) b (inv.set hj hlt) ?_ (ready_mono hr (Ne.symm e)) hb.1 ?_
      · intro k pk hk hki hku hkw
        refine hf k pk hk hki ?_ hkw
        by_cases c : j = k
        · subst c; exact hju
        · rw [getD_set_ne true c] at hku; exact hku
      · rw [Array.setIfInBounds_comm _ _ e]
        exact hb.2
theorem headQ_lex {m n g : Nat} {R : Act → Prop} (sel : Region.noSelect ops = true) (hs : sinkFrom md ops m n = true) (hc : Region.chainB md ops n = true) (hn : n < ops.size) :
    ∀ (l : List Oper) (k : Nat) (done : Array Bool) (a : Act), m ≤ k → (∀ j, j < l.length → l[j]? = ops[k + j]?) → k + l.length = n → HeadInv md ops n done →
    Region.lexHead md ops g l.length k done = true → wpQuiet P ops C R l a →
    headQ P md ops C n (fun d b => Region.seqB md ops g n d = true ∧ R b) l.length done a := by
  intro l
  induction l with
  | nil =>
    intro k done a _ _ hk _ hB h
    have e : k = n := by simpa using hk
    subst e
    exact ⟨hB, h⟩
  | cons o l ih =>
    intro k done a hmk hl hk inv hB h
    have h0 : ops[k]? = some o := by simpa using (hl 0 (by simp)).symm
    have hkn : k < n := by simp only [List.length_cons] at hk; omega
    simp only [List.length_cons, Region.lexHead, Bool.and_eq_true] at hB
    obtain ⟨⟨hr, hf⟩, hB2⟩ := hB
    have hr2 : k ∈ Region.ready md ops done := by simpa using hr
    have hq : qOp P ops C k (wpQuiet P ops C R l) a := by unfold qOp; simp only [h0]; exact h
    obtain ⟨v, hy, hK⟩ := yieldsIn_of_qOp h0 hq
    refine headQ_swap h0 (Region.noSelect_spec sel) hs hc hn hmk hkn (fun d b hd => seqB_ready hd.1) l.length done a inv (Region.free_spec h0 hf) hr2 hy ?_
    refine ih (k + 1) _ _ (by omega) (fun j hj => ?_) (by simp only [List.length_cons] at hk; omega) (inv.set hr2 hkn) hB2 hK
    have := hl (j + 1) (by simp; omega)
    simpa [Nat.add_assoc, Nat.add_comm 1 j] using this
theorem sink_zero {n : Nat} (h : Region.sinkB md ops n = true) : sinkFrom md ops 0 n = true := by
  refine List.all_eq_true.2 fun i hi => ?_
  rw [Bool.or_eq_true]
  exact .inr (List.all_eq_true.1 h i hi)
/-- One walk: the quiet head as it is written, in the class C; then the tail, from every world of the class. -/
theorem wp_region_head {id : Nat} {Q : Exit → Act → World → Prop} {a : Act} {w : World} {l : List Oper} (C : World → Prop) (n : Nat) (hm : P.follows .mixedOrders = true) (hB : Region.lexTailB .any l.toArray n = true) (hC : C w.drew)
    (h : wpQuiet P l.toArray C (fun b => ∀ w2, C w2 → wpList P l.toArray Q (l.drop n) b w2) (l.take n) a) : (Code.region id l.toArray true).wp P Q a w := by
  simp only [Region.lexTailB, Bool.and_eq_true, decide_eq_true_eq] at hB
  obtain ⟨⟨⟨⟨sel, hn⟩, hs⟩, hc⟩, hlex⟩ := hB
  have hn2 : n < l.length := by simpa using hn
  have htl : (l.take n).length = n := by simp; omega
  have hdl : (l.drop n).length = l.toArray.size - n := by simp
  have inv0 : HeadInv .any l.toArray n (Array.replicate l.toArray.size false) := by
    refine ⟨by simp, fun j p _ hl => ?_, fun t _ ht => getD_in (by simpa using ht) (getD_replicate_false _ _)⟩
    rw [getD_replicate_false] at hl; cases hl
  have H := headQ_lex (md := .any) (m := 0) (g := l.toArray.size - n) sel (sink_zero hs) hc hn (l.take n) 0 _ a (Nat.le_refl _) (fun j hj => by
    rw [htl] at hj
    simp [hj]) (by simpa using htl) inv0 (by rw [htl]; exact hlex) h
  refine wp_region_any hm ?_
  have K := headQ_any (Q := Q) (g := l.toArray.size - n) (fun d b w2 hw2 hd => by
    have q := wpAny_of_seq (md := .any) (Q' := Q) (l.drop n) n d b w2 (fun j => by simp [List.getElem?_drop]) (by rw [hdl]; exact hd.1) (hd.2 w2 hw2)
    rwa [hdl] at q) _ _ _ _ hC H
  rw [htl, show n + (l.toArray.size - n) = l.toArray.size by omega] at K
  exact K
def lexTail1 (ops : Array Oper) (n : Nat) : Bool :=
  Region.noSelect ops && decide (1 ≤ n) && decide (n < ops.size) && sinkFrom .any ops 1 n && Region.chainB .any ops n && Region.free .any ops (Array.replicate ops.size false) 0 && (Region.ready .any ops (Array.replicate ops.size false)).contains 0 && Region.lexHead .any ops (ops.size - n) (n - 1) 1 ((Array.replicate ops.size false).setIfInBounds 0 true)
/-- The same where the first operation is not waited for by the tail's first one: it yields its value in whatever world. -/
theorem wp_region_head1 {id : Nat} {Q : Exit → Act → World → Prop} {a : Act} {w : World} {o : Oper} {l : List Oper} (C : World → Prop) (n : Nat) (v : Value) (hm : P.follows .mixedOrders = true) (hB : lexTail1 (o :: l).toArray n = true) (hC : C w.drew)
    (hQ : ∀ c b x, Q (.panic c) (b.put o.dst v) x → Q (.panic c) b x) (hy : Yields P (o :: l).toArray o v a)
    (h : wpQuiet P (o :: l).toArray C (fun b => ∀ w2, C w2 → wpList P (o :: l).toArray Q ((o :: l).drop n) b w2) (l.take (n - 1)) (a.put o.dst v)) : (Code.region id (o :: l).toArray true).wp P Q a w := by
  unfold lexTail1 at hB
  simp only [Bool.and_eq_true, decide_eq_true_eq] at hB
  obtain ⟨⟨⟨⟨⟨⟨⟨sel, h1⟩, hn⟩, hs⟩, hc⟩, hf⟩, hr⟩, hlex⟩ := hB
  have hsz : (o :: l).toArray.size = l.length + 1 := by simp
  have hn2 : n < l.length + 1 := by rw [← hsz]; exact hn
  obtain ⟨k, rfl⟩ : ∃ k, n = k + 1 := ⟨n - 1, by omega⟩
  have htl : (l.take k).length = k := by simp; omega
  have hdl : ((o :: l).drop (k + 1)).length = (o :: l).toArray.size - (k + 1) := by simp
  have h0 : (o :: l).toArray[0]? = some o := by simp
  have inv0 : HeadInv .any (o :: l).toArray (k + 1) (Array.replicate (o :: l).toArray.size false) := by
    refine ⟨by simp, fun j p _ hl => ?_, fun t _ ht => getD_in (by simpa using ht) (getD_replicate_false _ _)⟩
    rw [getD_replicate_false] at hl; cases hl
  have inv1 := inv0.set (i := 0) (by simpa using hr) (by omega)
  have H := headQ_lex (md := .any) (m := 1) (g := (o :: l).toArray.size - (k + 1)) sel hs hc hn (l.take k) 1 _ (a.put o.dst v) (Nat.le_refl _) (fun j hj => by
    rw [htl] at hj
    rw [List.getElem?_take, if_pos hj]
    simp [Nat.add_comm 1 j]) (by rw [htl]; omega) inv1 (by rw [htl]; exact hlex) h
  refine wp_region_any hm ?_
  have K := headQ_any (Q := Q) (g := (o :: l).toArray.size - (k + 1)) (fun d b w2 hw2 hd => by
    have q := wpAny_of_seq (md := .any) (Q' := Q) ((o :: l).drop (k + 1)) (k + 1) d b w2 (fun j => by simp [List.getElem?_drop, show k + 1 + j = (k + j) + 1 by omega]) (by rw [hdl]; exact hd.1) (hd.2 w2 hw2)
    rwa [hdl] at q) _ _ _ _ hC H
  rw [htl, show k + ((o :: l).toArray.size - (k + 1)) = l.length by rw [hsz]; omega] at K
  have T := wpAny_take (fuel := l.length) h0 sel hf hr hQ hy K
  rw [← hsz] at T
  exact T
end
end Go.Proofs.Fl
