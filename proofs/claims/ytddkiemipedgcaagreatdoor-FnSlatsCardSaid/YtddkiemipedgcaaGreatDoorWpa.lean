/-
  What passes of light from several heights.
-/
import Derived.Test.YtddkiemipedgcaaGreatDoorWof
import Derived.Test.YtddkiemipedgcaaGreatDoorWbb
import Derived.Test.YtddkiemipedgcaaGreatDoorWbt
namespace Go.Proofs.YtddkiemipedgcaaGreatDoor
open Go.RowKit Go.Proofs.Fl Go.Proofs.Pl
set_option linter.unusedVariables false

def plist (wd g : Nat) (t : Int) (s : Nat) (xs : List Int) (k : Nat) : List Nat := (xs.take k).map fun h => pass wd g t s h
theorem plist_len (wd g : Nat) (t : Int) (s : Nat) (xs : List Int) (k : Nat) : (plist wd g t s xs k).length ≤ k := by unfold plist; simp; omega
theorem plist_succ {wd g : Nat} {t : Int} {s : Nat} {xs : List Int} {k : Nat} {x : Int} (h : k < xs.length) (hx : x = xs.getD k 0) : plist wd g t s xs (k + 1) = plist wd g t s xs k ++ [pass wd g t s x] := by
  have e3 : xs.take (k + 1) = xs.take k ++ [xs[k]] := (List.take_append_getElem h).symm
  have e4 : x = xs[k] := by rw [hx]; simp [h]
  unfold plist
  rw [e3, List.map_append, e4]; rfl
def allUp (xs : List Int) : Bool := xs.all fun h => inR h 1 64
theorem allUp_yes {xs : List Int} (h : ∀ j, j < xs.length → inR (xs.getD j 0) 1 64 = true) : allUp xs = true := by
  unfold allUp; rw [List.all_eq_true]
  intro x hx
  obtain ⟨j, hj, e⟩ := List.getElem_of_mem hx
  have := h j hj
  rw [List.getD_eq_getElem?_getD, List.getElem?_eq_getElem hj, e] at this
  exact this
theorem allUp_no {xs : List Int} {k : Nat} {x : Int} (hk : k < xs.length) (hx : x = xs.getD k 0) (h : inR x 1 64 = false) : allUp xs = false := by
  cases c : allUp xs
  · rfl
  · unfold allUp at c; rw [List.all_eq_true] at c
    have := c (xs[k]) (List.getElem_mem hk)
    have e : x = xs[k] := by rw [hx]; simp [hk]
    rw [← e, h] at this; cases this
theorem up_succ {xs : List Int} {k : Nat} {x : Int} (hx : x = xs.getD k 0) (h0 : inR x 1 64 = true) (h : ∀ j, j < k → inR (xs.getD j 0) 1 64 = true) : ∀ j, j < k + 1 → inR (xs.getD j 0) 1 64 = true := by
  intro j hj
  by_cases e : j = k
  · subst e; rw [← hx]; exact h0
  · exact h j (by omega)
def paCode (ok : Bool) (xs : List Int) : Int := if ok = true then if 100 < xs.length then 3 else if allUp xs = true then 0 else 2 else 1
theorem pa_1 {ok : Bool} {xs : List Int} (h : ok = false) : paCode ok xs = 1 := by unfold paCode; rw [if_neg (by rw [h]; exact Bool.false_ne_true)]
theorem pa_3 {ok : Bool} {xs : List Int} (h : ok = true) (h2 : 100 < xs.length) : paCode ok xs = 3 := by unfold paCode; rw [if_pos h, if_pos h2]
theorem pa_2 {ok : Bool} {xs : List Int} (h : ok = true) (h2 : ¬ 100 < xs.length) (h3 : allUp xs = false) : paCode ok xs = 2 := by unfold paCode; rw [if_pos h, if_neg h2, if_neg (by rw [h3]; exact Bool.false_ne_true)]
theorem pa_0 {ok : Bool} {xs : List Int} (h : ok = true) (h2 : ¬ 100 < xs.length) (h3 : allUp xs = true) : paCode ok xs = 0 := by unfold paCode; rw [if_pos h, if_neg h2, if_pos h3]
def paAns (c : Int) (wd g : Nat) (t : Int) (s : Nat) (xs : List Int) : List Nat × Int := if c = 0 then (plist wd g t s xs xs.length, 0) else ([], c)
theorem pans_ok {c : Int} {wd g : Nat} {t : Int} {s : Nat} {xs : List Int} (h : c = 0) : paAns c wd g t s xs = (plist wd g t s xs xs.length, 0) := if_pos h
theorem pans_no {c : Int} {wd g : Nat} {t : Int} {s : Nat} {xs : List Int} (h : c ≠ 0) : paAns c wd g t s xs = ([], c) := if_neg h
theorem pans_len (ok : Bool) (wd g : Nat) (t : Int) (s : Nat) (xs : List Int) : (paAns (paCode ok xs) wd g t s xs).1.length ≤ 100 := by
  by_cases h : paCode ok xs = 0
  · rw [pans_ok h]
    have hn : ¬ 100 < xs.length := by
      intro c
      cases ok
      · rw [pa_1 rfl] at h; cases h
      · rw [pa_3 rfl c] at h; cases h
    have := plist_len wd g t s xs xs.length
    show (plist wd g t s xs xs.length).length ≤ 100
    omega
  · rw [pans_no h]; simp
theorem pans_fnt (n : Int) (wd g : Nat) (t : Int) (s : Nat) (xs : List Int) : ∀ k, k < (paAns (paCode (blindOk n wd g t s) xs) wd g t s xs).1.length → Fnt ((paAns (paCode (blindOk n wd g t s) xs) wd g t s xs).1.getD k 0) := by
  intro k hk
  by_cases h : paCode (blindOk n wd g t s) xs = 0
  · rw [pans_ok h] at hk ⊢
    have hk' : k < xs.length := by have := plist_len wd g t s xs xs.length; have q : k < (plist wd g t s xs xs.length).length := hk; omega
    have ho : blindOk n wd g t s = true := by
      cases c : blindOk n wd g t s
      · rw [pa_1 c] at h; cases h
      · rfl
    have hn : ¬ 100 < xs.length := by intro c; rw [pa_3 ho c] at h; cases h
    have hu : allUp xs = true := by
      cases c : allUp xs
      · rw [pa_2 ho hn c] at h; cases h
      · rfl
    unfold allUp at hu
    rw [List.all_eq_true] at hu
    obtain ⟨u1, u2⟩ := inR_iff.1 (hu xs[k] (List.getElem_mem hk'))
    obtain ⟨_, b2, b3, _, b5⟩ := blindOk_of ho
    have e : (plist wd g t s xs xs.length).getD k 0 = pass wd g t s xs[k] := by unfold plist; simp [hk']
    show Fnt ((plist wd g t s xs xs.length).getD k 0)
    rw [e]
    exact (pass_fin b2 b3 b5 u1 u2).2.2.1
  · rw [pans_no h] at hk; cases hk
theorem mine_wrote {w w' : World} {base n : Nat} {ad bd : Option Addr} (h : Mine w base bd n) (hw : WroteAt w w' ad) (hne : ∀ g, bd = some ⟨g, 0, none⟩ → ad ≠ some ⟨g, 0, none⟩) : Mine w' base bd n := by
  rcases h with h | ⟨g, cs, e, hg, ⟨T, r⟩, hs⟩
  · exact .inl h
  · exact .inr ⟨g, cs, e, hg, ⟨T, (hw.block g (hne g e)).trans r⟩, hs⟩
theorem argints_wrote {w w' : World} {B : Nat} {ao : Option Addr} {xs : List Int} (h : ArgInts w ao xs) (hb : Below B w w') (hB : ∀ a : Addr, ao = some a → xs.length ≠ 0 → a.block < B) : ArgInts w' ao xs := by
  intro k hk
  obtain ⟨a, e, ha, hc⟩ := h k hk
  have hblk : (a.add k).block = a.block := by unfold Addr.add; split <;> rfl
  exact ⟨a, e, Nat.lt_of_lt_of_le ha hb.size, (World.cell?_of_block (by rw [hblk]; exact hb.block a.block (hB a e (by omega)))).trans hc⟩
theorem one_onef (x : Nat) : ∀ u ∈ [Value.float .f32 x], u.oneCell' = true := by intro u h; simp at h; subst h; rfl
theorem ownf_none (w : World) (b e : Nat) : w.ownsRow b e 1 (.slice none 0 0) ([] : List Nat).length (([] : List Nat).map (Value.float .f32)) := World.ownsRow_nil _ _ _ _
theorem ownf_new (w : World) (e : TypeId) (b : Nat) (hb : b ≤ w.heap.size) : (w.alloc (.cells #[] e)).ownsRow b e 1 (.slice (some ⟨w.heap.size, 0, none⟩) 0 0) ([] : List Nat).length (([] : List Nat).map (Value.float .f32)) :=
  World.ownsRow_lit (base := b) (e := e) (size := 1) w #[] 0 hb (by decide) rfl
theorem pl_snoc {w : World} {b e : Nat} {v : Value} {wd g : Nat} {t : Int} {s : Nat} {xs : List Int} {k : Nat} {x : Int} (hk : k < xs.length) (hx : x = xs.getD k 0) (h : w.ownsRow b e 1 v ((plist wd g t s xs k).length + 1) ((plist wd g t s xs k).map (Value.float .f32) ++ [.float .f32 (pass wd g t s x)])) :
    w.ownsRow b e 1 v (plist wd g t s xs (k + 1)).length ((plist wd g t s xs (k + 1)).map (Value.float .f32)) := by
  rw [plist_succ hk hx]; simpa using h
theorem Tryz.infoF : (Tryz.prog.info? 30).map (fun i => (i.zero, i.size, i.bytes)) = some (some (.float .f32 0), 1, 4) := by kernel_rfl

set_option maxHeartbeats 4000000 in
set_option maxRecDepth 100000 in
theorem passAll_impl (n : Int) (wd g : Nat) (t : Int) (s : Nat) (n1 : -128 ≤ n) (n2 : n ≤ 127) (t1 : -32768 ≤ t) (t2 : t ≤ 32767) (ad : Option Addr) (c : Nat) (xs : List Int) (hxl : xs.length ≤ 1048576) (w : World) (hx : Ints w ad xs) :
    Calls Tryz.prog 41 #[.agg #[.int .i8 n, .float .f32 wd, .float .f32 g, .int .i16 t, .float .f32 s], .slice ad xs.length c] w fun e w' => ∃ v, e = .returned (.tuple #[v, .int .i64 (paAns (paCode (blindOk n wd g t s) xs) wd g t s xs).2]) ∧ Below w.heap.size w w' ∧ w'.ownsRow w.heap.size 30 1 v ((paAns (paCode (blindOk n wd g t s) xs) wd g t s xs).1).length (((paAns (paCode (blindOk n wd g t s) xs) wd g t s xs).1).map (Value.float .f32)) := by
  have kp := hidd (Keep1.start w (blindCells n wd g (t) s) 56)
  have HX := hidd hx
  clear hx
  rcases bool_or (blindOk n wd g t s) with e | e
  · have fin := hidd (show (paAns (paCode (blindOk n wd g t s) xs) wd g t s xs) = ([], 1) by rw [pa_1 e]; exact pans_no (by decide))
    go_enter Tryz.func41, Tryz.ntmps41
    go_wp2_with (first | (refine wpList_load_all rfl _ _ rfl _ rfl (blindCells n wd g (t) s) 5 agg_blind rfl kp.out.row ?_) | (go_at_call 44; refine (blind_impl n wd g t s n1 n2 t1 t2 _).mono ?_; rintro e wn ⟨rfl, hbn⟩; have kn := hidd (kp.out.step hbn); clear kp hbn; have kp := kn; clear kn))
    go_ret2; exact ⟨_, by rw [fin.out]; rfl, kp.out.below, by rw [fin.out]; exact ownf_none _ _ _⟩
  · by_cases hn : 100 < xs.length
    · have fin := hidd (show (paAns (paCode (blindOk n wd g t s) xs) wd g t s xs) = ([], 3) by rw [pa_3 e hn]; exact pans_no (by decide))
      have hn' : (100 : Int) < (xs.length : Int) := by omega
      go_enter Tryz.func41, Tryz.ntmps41
      go_wp2_with (first | (refine wpList_load_all rfl _ _ rfl _ rfl (blindCells n wd g (t) s) 5 agg_blind rfl kp.out.row ?_) | (go_at_call 44; refine (blind_impl n wd g t s n1 n2 t1 t2 _).mono ?_; rintro e wn ⟨rfl, hbn⟩; have kn := hidd (kp.out.step hbn); clear kp hbn; have kp := kn; clear kn))
      go_ret2; exact ⟨_, by rw [fin.out]; rfl, kp.out.below, by rw [fin.out]; exact ownf_none _ _ _⟩
    · have hn' : (xs.length : Int) ≤ 100 := by omega
      obtain ⟨b1, b2, b3, b4, b5⟩ := blindOk_of e
      have G := hidd (And.intro b2 (And.intro b3 b5))
      have T12 := hidd b4
      have E := hidd e
      clear b1 b2 b3 b4 b5
      obtain ⟨i0, hi, hz0, hz1, hz2⟩ := info_parts Tryz.infoF
      go_enter Tryz.func41, Tryz.ntmps41
      go_wp2_with (first | (refine wpList_load_all rfl _ _ rfl _ rfl (blindCells n wd g (t) s) 5 agg_blind rfl kp.out.row ?_) | (go_at_call 44; refine (blind_impl n wd g t s n1 n2 t1 t2 _).mono ?_; rintro e w2 ⟨rfl, hb2⟩; replace kp := hidd (kp.out.step hb2); clear hb2))
      go_loopw [6, 20] (fun v i wr => ∃ k : Nat, k ≤ xs.length ∧ i = .int .i64 k ∧ wr.ownsRow (w.heap.size + 1) 30 1 v (plist wd g t s xs k).length ((plist wd g t s xs k).map (Value.float .f32)) ∧ Keep1 w wr (blindCells n wd g (t) s) ∧ Hid (∀ j, j < k → inR (xs.getD j 0) 1 64 = true)) (fun _ i _ => xs.length - (intOf i).toNat)
      case atStart => exact ⟨0, by omega, rfl, ownf_new w2 _ (w.heap.size + 1) (by have := kp.out.row.lt; omega), ⟨kp.out.below.alloc (by have := kp.out.row.lt; omega) _, kp.out.row.alloc _⟩, fun j hj => by omega⟩
      case round =>
        obtain ⟨k, hk, rfl, ko, kr, UP⟩ := hrel
        have kq := hidd (And.intro ko kr)
        clear ko kr
        have hle := plist_len wd g t s xs k
        by_cases hlt : k < xs.length
        · obtain ⟨gg, rfl, hgg, hcc⟩ := (HX.out.below kq.out.2.below) k hlt
          obtain ⟨x, hx⟩ : ∃ x, x = xs.getD k 0 := ⟨_, rfl⟩
          rw [← hx] at hcc
          have X0 := hidd hx
          clear hx
          have i0' : (0 : Int) ≤ (k : Int) := by omega
          have i1 : (k : Int) < (xs.length : Int) := by omega
          rcases bool_or (inR x 1 64) with hu | hu
          · have fin := hidd (show (paAns (paCode (blindOk n wd g t s) xs) wd g t s xs) = ([], 2) by rw [pa_2 E.out hn (allUp_no hlt X0.out hu)]; exact pans_no (by decide))
            go_wp2_with (go_at_call 86; refine (up_impl _ _).mono ?_; rintro e w' ⟨rfl, rfl⟩)
            go_ret2; exact ⟨_, by rw [fin.out]; rfl, kq.out.2.below, by rw [fin.out]; exact ownf_none _ _ _⟩
          · obtain ⟨u1, u2⟩ := inR_iff.1 hu
            go_wp2_with (first | (go_at_call 86; refine (up_impl _ _).mono ?_; rintro e w' ⟨rfl, rfl⟩) | (refine wpList_load_all rfl _ _ rfl _ rfl (blindCells n wd g (t) s) 5 agg_blind rfl kq.out.2.row ?_) | (go_at_call 93; refine (pass_impl n wd g t s G.out.1 G.out.2.1 G.out.2.2 T12.out.1 T12.out.2 x u1 u2 _).mono ?_; rintro e w3 ⟨rfl, hb3⟩; have k3 := hidd (kq.out.2.step hb3); have o3 := hidd (own_below kq.out.1 hb3); have z3 := hidd k3.out.row.lt; clear hb3) | (at_builtin; refine wpList_append_own _ rfl _ _ 62 rfl (w.heap.size + 1) 30 i0 (.float .f32 0) 1 4 Tryz.underlying62 hi hz0 hz1 hz2 rfl (by decide) _ _ _ rfl (o3.out.alloc _) ⟨w3.heap.size, 0, none⟩ 1 1 [.float .f32 (pass wd g t s x)] rfl rfl (cell_one _ _ _) (one_onef _) (by unfold maxLen; omega) (by omega) (by have := z3.out; simp; omega) ?_))
            intro v' w4 own' hg' _
            have ab := hidd (app_below o3.out hg' (by have := z3.out; omega))
            have o4 := hidd (pl_snoc hlt X0.out own')
            clear own' hg'
            go_wp2
            go_roundw
            case rel => exact ⟨k + 1, by omega, by go_num, o4.out, keep1_stepB k3.out (ab.out.mono (by omega)), up_succ X0.out hu UP.out⟩
            case measure => simp [intOf]; omega
        · obtain rfl : k = xs.length := by omega
          have fin := hidd (show (paAns (paCode (blindOk n wd g t s) xs) wd g t s xs) = (plist wd g t s xs xs.length, 0) by rw [pa_0 E.out hn (allUp_yes UP.out)]; exact pans_ok rfl)
          go_wp2
          go_ret2; exact ⟨_, by rw [fin.out]; rfl, kq.out.2.below, by rw [fin.out]; exact own_mono kq.out.1 (by omega)⟩
end Go.Proofs.YtddkiemipedgcaaGreatDoor
