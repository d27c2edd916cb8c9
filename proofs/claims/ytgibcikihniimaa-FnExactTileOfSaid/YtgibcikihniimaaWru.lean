/-
  Rooms: TileOf.
-/
import Derived.Test.YtgibcikihniimaaWrt
import Derived.Laws.ResultCell
import Derived.Deep.RegionHeld3
namespace Go.Proofs.Ytgibcikihniimaa
open Go.RowKit Go.Proofs.Fl Go.Proofs.Pl
set_option linter.unusedVariables false

/-- Two results, of which the first lies in a row. -/
theorem results_row2 {P : Program} {fn : Func} {p u : Tmp} {ty : TypeId} (h : fn.results = #[.cell p ty, .tmp u]) {n : Nat} (ht : IsAgg P ty n) (tmps : Array Value) (w : World) (b : Nat) (cs : Array Value) (hn : cs.size = n) (y : Value)
    (hp : tmps.getD p undef = .pointer (some ⟨b, 0, none⟩)) (hu : tmps.getD u undef = y) (hr : Row w b cs) : (results fn tmps).run P w = .ok (.tuple #[.agg cs, y]) w := by
  have h1 := run_loadVar_at (P := P) (w := w) b 0 n ty cs ht hr (by omega)
  have : cs.extract 0 (0 + n) = cs := by rw [Nat.zero_add, ← hn]; simp
  rw [this] at h1
  rw [results_cell_tmp h, hp, hu]
  simp [asAddr, Result.andThen, h1]
theorem tile_one (x : Int × Int) : ∀ v ∈ (tileCells x).toList, v.oneCell' = true := by intro v h; simp [tileCells] at h; rcases h with rfl | rfl <;> rfl
set_option maxHeartbeats 4000000 in
theorem tileOf_spec (wd hg : Int) (ad : Option Addr) (cap : Nat) (xs : List Win) (wl at_ : Int) (l : Nat) (hn : xs.length ≤ 1048576) (w : World) (h : Wins w ad xs) (hx : ∀ k, k < xs.length → WinB (xs.getD k wd0)) (b1 : -128 ≤ wd) (b2 : wd ≤ 127) (b3 : -128 ≤ hg) (b4 : hg ≤ 127) (b5 : -128 ≤ wl) (b6 : wl ≤ 127) (b7 : -128 ≤ at_) (b8 : at_ ≤ 127) :
    Calls Try.prog 17 #[.agg #[.int .i8 wd, .int .i8 hg, .slice ad xs.length cap], .agg #[.int .i8 wl, .int .i8 at_, .float .f32 l]] w
      fun e w' => e = .returned (.tuple #[.agg (tileCells (tileAns wd hg xs wl at_ l)), .int .i64 (toCode (roomOk wd hg xs) (fitsIn wd hg wl at_ l))]) ∧ Below w.heap.size w w' := by
  have K := hidd (Keep3.start w (roomCells wd hg (.slice ad xs.length cap)) (winCells wl at_ l) (tileCells (0, 0)) 37 48 45)
  have H := hidd (h.step K.out.below)
  have HX := hidd hx
  clear h hx
  go_enter Try.func17, Try.ntmps17
  go_wp2_with (refine wpList_load_all rfl _ _ rfl _ rfl (winCells wl at_ l) 3 agg_win rfl K.out.row2 ?_)
  refine (window_spec w.heap.size wd hg wl at_ l _ _ K.out.row b1 b2 b3 b4 b5 b6 b7 b8).mono ?_
  rintro e w1 ⟨rfl, hb⟩
  replace H := hidd (H.out.step hb)
  replace K := hidd (K.out.step hb)
  clear hb
  go_wp2_with fail
  refine (asked_l03 w.heap.size wd hg ad cap xs _ hn _ K.out.row H.out HX.out b1 b2 b3 b4).mono ?_
  rintro e w2 ⟨rfl, hb⟩
  replace K := hidd (K.out.step hb)
  clear hb H HX
  rcases bool_or (roomOk wd hg xs) with h1 | h1
  · have fin := hidd (ta_no1 (wl := wl) (at_ := at_) (l := l) h1)
    have fin2 := hidd (tc_1 (fit := fitsIn wd hg wl at_ l) h1)
    clear h1
    rw [fin2.out]
    go_wp2_with (refine wpList_store_at rfl _ _ _ rfl (w.heap.size + 1 + 1) 0 rfl 2 (tileCells (0, 0)) _ rfl agg_tile K.out.row3 rfl (by decide) (tile_one (0, 0)) ?_; intro w4 hw4 r4)
    rw [over_all (by rfl)] at r4
    refine bodyPost_ret (v := .tuple #[.agg (tileCells (0, 0)), .int .i64 1]) (results_row2 rfl agg_tile _ _ (w.heap.size + 1 + 1) _ rfl _ rfl rfl r4) rfl ⟨by rw [fin.out, fin2.out], K.out.below.trans (hw4.below (by omega))⟩
  · rcases bool_or (fitsIn wd hg wl at_ l) with h2 | h2
    · have fin := hidd (ta_no2 h1 h2)
      have fin2 := hidd (tc_2 h1 h2)
      clear h1 h2
      rw [fin2.out]
      go_wp2_with (refine wpList_store_at rfl _ _ _ rfl (w.heap.size + 1 + 1) 0 rfl 2 (tileCells (0, 0)) _ rfl agg_tile K.out.row3 rfl (by decide) (tile_one (0, 0)) ?_; intro w4 hw4 r4)
      rw [over_all (by rfl)] at r4
      refine bodyPost_ret (v := .tuple #[.agg (tileCells (0, 0)), .int .i64 2]) (results_row2 rfl agg_tile _ _ (w.heap.size + 1 + 1) _ rfl _ rfl rfl r4) rfl ⟨by rw [fin.out, fin2.out], K.out.below.trans (hw4.below (by omega))⟩
    · have fin := hidd (ta_yes h1 h2)
      have fin2 := hidd (tc_0 h1 h2)
      obtain ⟨q1, q2, q3, q4⟩ := roomOk_size h1
      clear h1 h2
      rw [fin2.out]
      go_wp2_with (refine wpList_load_all rfl _ _ rfl _ rfl (winCells wl at_ l) 3 agg_win rfl K.out.row2 ?_)
      refine (tile_spec w.heap.size wd hg wl at_ l _ _ K.out.row q1 q2 q3 q4).mono ?_
      rintro e w3 ⟨rfl, hb⟩
      replace K := hidd (K.out.step hb)
      clear hb
      go_wp2_with (refine wpList_store_at rfl _ _ _ rfl (w.heap.size + 1 + 1) 0 rfl 2 (tileCells (0, 0)) _ rfl agg_tile K.out.row3 rfl (by decide) (tile_one (tileOf wd hg wl at_)) ?_; intro w4 hw4 r4)
      rw [over_all (by rfl)] at r4
      refine bodyPost_ret (v := .tuple #[.agg (tileCells (tileOf wd hg wl at_)), .int .i64 0]) (results_row2 rfl agg_tile _ _ (w.heap.size + 1 + 1) _ rfl _ rfl rfl r4) rfl ⟨by rw [fin.out, fin2.out], K.out.below.trans (hw4.below (by omega))⟩
structure TileS (w0 : World) (a b c : Array Value) (ad : Option Addr) (xs : List Win) (w : World) : Prop where
  k : Keep3 w0 w a b c
  h : Wins w ad xs
theorem TileS.step {w0 w w1 : World} {a b c : Array Value} {ad : Option Addr} {xs : List Win} (h : TileS w0 a b c ad xs w) (hb : Below w.heap.size w w1) : TileS w0 a b c ad xs w1 := ⟨h.k.step hb, h.h.step hb⟩
set_option maxHeartbeats 4000000 in
theorem tileOf_impl (wd hg : Int) (ad : Option Addr) (cap : Nat) (xs : List Win) (wl at_ : Int) (l : Nat) (hn : xs.length ≤ 1048576) (w : World) (h : Wins w ad xs) (b1 : -128 ≤ wd) (b2 : wd ≤ 127) (b3 : -128 ≤ hg) (b4 : hg ≤ 127) :
    Calls Try.prog 19 #[.agg #[.int .i8 wd, .int .i8 hg, .slice ad xs.length cap], .agg #[.int .i8 wl, .int .i8 at_, .float .f32 l]] w
      fun e w' => e = .returned (.tuple #[.agg (tileCells (tileAns wd hg xs wl at_ l)), .int .i64 (toCode (roomOk wd hg xs) (fitsIn wd hg wl at_ l))]) ∧ Below w.heap.size w w' := by
  have K := hidd (Keep3.start w (roomCells wd hg (.slice ad xs.length cap)) (winCells wl at_ l) (tileCells (0, 0)) 37 48 45)
  have H := hidd (h.step K.out.below)
  clear h
  go_enter Try.func19, Try.ntmps19
  go_wp2_with fail
  refine wp_region_in (fun w' => TileS w (roomCells wd hg (.slice ad xs.length cap)) (winCells wl at_ l) (tileCells (0, 0)) ad xs w') (by kernel_rfl) (by kernel_rfl) ⟨K.out.drew, H.out⟩ ?_
  repeat (first | (refine wpQuiet_step (fun K hK => ?_); rw [if_pos (by rfl)]; refine quiet_load_all _ _ rfl _ rfl (roomCells wd hg (.slice ad xs.length cap)) _ (agg_room) (rfl) (fun w' hw' => hw'.k.row) ?_; go_simp; refine hK _ ?_; clear hK K) | (refine wpQuiet_step (fun K hK => ?_); rw [if_pos (by rfl)]; refine quiet_load_all _ _ rfl _ rfl (winCells wl at_ l) _ (agg_win) (rfl) (fun w' hw' => hw'.k.row2) ?_; go_simp; refine hK _ ?_; clear hK K) | (refine wpQuiet_step (fun K hK => ?_); go_simp; first | (refine hK _ ?_; clear hK K) | (apply Exists.intro; refine ⟨fun w' hw' => ?_, hK _ ?_⟩; (first | rfl | exact ⟨rfl, rfl⟩ | ((first | (go_at_call 30; exact (fits_row w.heap.size wd hg wl at_ l _ _ hw'.k.row).mono fun e w'' h => ⟨h.1, hw'.step h.2⟩) | (go_at_call 34; exact (code_room wd hg ad cap xs _ hn _ hw'.h b1 b2 b3 b4).mono fun e w'' h => ⟨h.1, hw'.step h.2⟩)))); clear hK K)))
  refine wpQuiet_nil ?_
  intro w2 j1
  replace K := hidd j1.k
  clear j1 H
  rcases bool_or (roomOk wd hg xs) with h1 | h1
  · have fin := hidd (ta_no1 (wl := wl) (at_ := at_) (l := l) h1)
    have fin2 := hidd (tc_1 (fit := fitsIn wd hg wl at_ l) h1)
    clear h1
    rw [fin2.out]
    go_wp2_with (refine wpList_store_at rfl _ _ _ rfl (w.heap.size + 1 + 1) 0 rfl 2 (tileCells (0, 0)) _ rfl agg_tile K.out.row3 rfl (by decide) (tile_one (0, 0)) ?_; intro w4 hw4 r4)
    rw [over_all (by rfl)] at r4
    refine bodyPost_ret (v := .tuple #[.agg (tileCells (0, 0)), .int .i64 1]) (results_row2 rfl agg_tile _ _ (w.heap.size + 1 + 1) _ rfl _ rfl rfl r4) rfl ⟨by rw [fin.out, fin2.out], K.out.below.trans (hw4.below (by omega))⟩
  · rcases bool_or (fitsIn wd hg wl at_ l) with h2 | h2
    · have fin := hidd (ta_no2 h1 h2)
      have fin2 := hidd (tc_2 h1 h2)
      clear h1 h2
      rw [fin2.out]
      go_wp2_with (refine wpList_store_at rfl _ _ _ rfl (w.heap.size + 1 + 1) 0 rfl 2 (tileCells (0, 0)) _ rfl agg_tile K.out.row3 rfl (by decide) (tile_one (0, 0)) ?_; intro w4 hw4 r4)
      rw [over_all (by rfl)] at r4
      refine bodyPost_ret (v := .tuple #[.agg (tileCells (0, 0)), .int .i64 2]) (results_row2 rfl agg_tile _ _ (w.heap.size + 1 + 1) _ rfl _ rfl rfl r4) rfl ⟨by rw [fin.out, fin2.out], K.out.below.trans (hw4.below (by omega))⟩
    · have fin := hidd (ta_yes h1 h2)
      have fin2 := hidd (tc_0 h1 h2)
      obtain ⟨q1, q2, q3, q4⟩ := roomOk_size h1
      clear h1 h2
      rw [fin2.out]
      go_wp2_with (refine wpList_load_all rfl _ _ rfl _ rfl (winCells wl at_ l) 3 agg_win rfl K.out.row2 ?_)
      refine (tile_impl w.heap.size wd hg wl at_ l _ _ K.out.row q1 q2 q3 q4).mono ?_
      rintro e w3 ⟨rfl, hb⟩
      replace K := hidd (K.out.step hb)
      clear hb
      go_wp2_with (refine wpList_store_at rfl _ _ _ rfl (w.heap.size + 1 + 1) 0 rfl 2 (tileCells (0, 0)) _ rfl agg_tile K.out.row3 rfl (by decide) (tile_one (tileOf wd hg wl at_)) ?_; intro w4 hw4 r4)
      rw [over_all (by rfl)] at r4
      refine bodyPost_ret (v := .tuple #[.agg (tileCells (tileOf wd hg wl at_)), .int .i64 0]) (results_row2 rfl agg_tile _ _ (w.heap.size + 1 + 1) _ rfl _ rfl rfl r4) rfl ⟨by rw [fin.out, fin2.out], K.out.below.trans (hw4.below (by omega))⟩
/-- What a statement 'x, code := TileOf(..)' leaves. -/
def TileCut (s6 s7 : Value) (x : Int × Int) (code : Int) (S : World → Prop) (w : World) : Prop := ∃ g : Nat, s6 = .pointer (some ⟨g, 0, none⟩) ∧ s7 = .int .i64 code ∧ Row w g (tileCells x) ∧ S w
/-- What a room's law keeps once the reference has answered and the room was copied: block x is the copy, block g the answer. -/
structure TS2 (S : World → Prop) (x : Nat) (wd hg : Int) (ad : Option Addr) (c : Nat) (xs : List Win) (g : Nat) (t : Int × Int) (w : World) : Prop where
  s : S w
  row : Row w x (roomCells wd hg (.slice ad xs.length c))
  win : Wins w ad xs
  tile : Row w g (tileCells t)
theorem TS2.step {S : World → Prop} {x : Nat} {wd hg : Int} {ad : Option Addr} {c : Nat} {xs : List Win} {g : Nat} {t : Int × Int} {w w1 : World} (hs : S w → S w1) (h : TS2 S x wd hg ad c xs g t w) (hb : Below w.heap.size w w1) : TS2 S x wd hg ad c xs g t w1 :=
  ⟨hs h.s, h.row.below hb h.row.lt, h.win.step hb, h.tile.below hb h.tile.lt⟩
theorem TS2.new {S : World → Prop} {x : Nat} {wd hg : Int} {ad : Option Addr} {c : Nat} {xs : List Win} {g : Nat} {t : Int × Int} {w : World} (_ : TS2 S x wd hg ad c xs g t w) (cs : Array Value) (T : TypeId) : Row (w.alloc (.cells cs T)) w.heap.size cs := Row.new _ _ _
theorem TS2.lim {S : World → Prop} {x : Nat} {wd hg : Int} {ad : Option Addr} {c : Nat} {xs : List Win} {g : Nat} {t : Int × Int} {w : World} (h : TS2 S x wd hg ad c xs g t w) : x < w.heap.size ∧ g < w.heap.size ∧ ∀ a, ad = some a → xs.length ≠ 0 → a.block < w.heap.size :=
  ⟨h.row.lt, h.tile.lt, h.win.lt⟩
theorem TS2.stepB {S : World → Prop} {x : Nat} {wd hg : Int} {ad : Option Addr} {c : Nat} {xs : List Win} {g : Nat} {t : Int × Int} {w w1 : World} {k : Nat} (hs : S w → S w1) (h : TS2 S x wd hg ad c xs g t w) (hl : x < k ∧ g < k ∧ ∀ a, ad = some a → xs.length ≠ 0 → a.block < k) (hb : Wrote w w1 k) : TS2 S x wd hg ad c xs g t w1 :=
  ⟨hs h.s, hb.row h.row (by omega), h.win.below (hb.below (Nat.le_refl k)) hl.2.2, hb.row h.tile (by omega)⟩
section
variable {P : Program} {ops : Array Oper} {S : World → Prop} {o : Oper} {a : Act}
theorem take_move (x : Operand) (ho : o.op = .move x) (hw : Region.wanted o (yielded ops a.tmps) = true) : YieldsIf P ops S o (a.eval x) a := by
  refine .inl ⟨hw, fun w hS => ?_⟩
  unfold execOp
  simp only [ho]
  rfl
theorem take_extract (x : Operand) (i : Nat) (ho : o.op = .extract x i) (vs : Array Value) (hx : a.eval x = .tuple vs) (v : Value) (hv : vs[i]? = some v) (hw : Region.wanted o (yielded ops a.tmps) = true) : YieldsIf P ops S o v a := by
  refine .inl ⟨hw, fun w hS => ?_⟩
  unfold execOp
  simp only [ho]
  have he : (Instr.extract (a.eval x) i) = pure v := by rw [hx]; unfold Instr.extract; simp only [hv]
  rw [he]
  rfl
end
end Go.Proofs.Ytgibcikihniimaa
