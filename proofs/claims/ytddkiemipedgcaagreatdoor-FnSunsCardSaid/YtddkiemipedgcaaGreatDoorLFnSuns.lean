/-
  'Rows.FnSunsSaid': for every input the law 'FnSuns' returns true and leaves its arguments as they were. No condition.
-/
import Derived.Test.YtddkiemipedgcaaGreatDoorRo
import Derived.Test.YtddkiemipedgcaaGreatDoorRib
import Derived.Test.YtddkiemipedgcaaGreatDoorRw7
import Derived.Test.YtddkiemipedgcaaGreatDoorWsy
namespace Go.Proofs.YtddkiemipedgcaaGreatDoor
open Go.ChangeShapes Go.WideShapes Go.ChangeAt Go.RowKit Go.Proofs.Fl Go.Proofs.Pl
set_option linter.unusedVariables false

open Go.Proofs.Hx
structure SuK (w : World) (b : Nat) (cs : Array Value) (Ca : Option Addr) (C : List Int) (Da : Option Addr) (D : List Int) (w' : World) : Prop where
  below : Below w.heap.size w w'
  row : Row w' b cs
  argC : ArgBytes w' Ca C
  argD : ArgBytes w' Da D
theorem SuK.step {w w1 w2 : World} {b : Nat} {cs : Array Value} {Ca Da : Option Addr} {C D : List Int} (h : SuK w b cs Ca C Da D w1) (hb : Below w1.heap.size w1 w2) : SuK w b cs Ca C Da D w2 :=
  ⟨h.below.trans (hb.mono h.below.size), h.row.below hb h.row.lt, h.argC.step hb, h.argD.step hb⟩
theorem new_below {w w2 : World} {o : Obj} (hw : Wrote (w.alloc o) w2 w.heap.size) : Below w.heap.size w w2 := ((Below.refl _ _).alloc (Nat.le_refl _) _).trans (hw.below (Nat.le_refl _))
set_option maxRecDepth 100000 in
set_option maxHeartbeats 8000000 in
theorem walk_fnSuns (w : World) (Ca : Option Addr) (Cc : Nat) (C : List Int) (hC5 : C.length ≤ 9223372036854775807) (hC6 : ArgBytes w Ca C) (Da : Option Addr) (Dc : Nat) (D : List Int) (hD5 : D.length ≤ 9223372036854775807) (hD6 : ArgBytes w Da D) (hT : Tabs w) (hE : Errs w) (hM : Mx w) :
    Calls Tryz.prog 3 #[.slice Ca C.length Cc, .slice Da D.length Dc] w fun e w' => e = .returned (.bool true) ∧ Below w.heap.size w w' := by
  by_cases hbig : C.length ≤ 3000 ∧ D.length ≤ 3000
  · obtain ⟨hC3, hD3⟩ := hbig
    have HC := hidd hC6
    have HD := hidd hD6
    have HT := hidd hT
    have HE := hidd hE
    have HM := hidd hM
    clear hC6 hD6 hT hE hM
    go_enter Tryz.func3, Tryz.ntmps3
    go_wp2_with (go_at_call 5; refine (long_no Ca Da _ _ Cc Dc hC3 hD3 _).mono ?_; rintro e w' ⟨rfl, rfl⟩)
    refine (sun_any Ca Cc C hC3 _ HC.out).mono ?_
    rintro e w1 ⟨L, rfl, hs, hb0⟩
    have HS := hidd hs
    clear hs
    have HY := hidd (mir_sn HS.out)
    go_wp2_with (refine wpList_store_at rfl _ _ _ rfl w1.heap.size 0 rfl 48 (sunCells zeroSun) (sunCells L) rfl agg_impl (Row.new w1 (sunCells zeroSun) 27) (sun_size HS.out.len) (by decide) (sun_one _) ?_; intro w2 hw hr; rw [over_all (cs := sunCells zeroSun) (xs := sunCells L) (by rw [sun_size HS.out.len]; rfl)] at hr; have hb := new_below hw; have K := hidd (show SuK w w1.heap.size (sunCells L) Ca C Da D w2 from ⟨hb0.trans (hb.mono hb0.size), hr, (HC.out.step hb0).step hb, (HD.out.step hb0).step hb⟩); clear hw hr hb hb0 HC HD)
    refine (at_any Da Dc D hD3 0 (by omega) 256 (by omega) _ K.out.argD).mono ?_
    rintro e w3 ⟨fi, rfl, f0, f1, _, rfl⟩
    obtain ⟨fn, rfl⟩ := Int.eq_ofNat_of_zero_le f0
    have f2 : (fn : Int) ≤ 255 := by omega
    clear f1
    go_wp2_with fail
    refine (part_any Da Dc D hD3 _ K.out.argD).mono ?_
    rintro e w4 ⟨least, rfl, hl, hb⟩
    have HP := hidd hl
    replace K := hidd (K.out.step hb)
    clear hb
    clear hl
    go_wp2_with (refine wpList_load_all rfl _ _ rfl w1.heap.size rfl (sunCells L) 48 agg_impl (sun_size HS.out.len) K.out.row ?_)
    refine (su_t L HS.out _ (HT.out.below K.out.below)).mono ?_
    rintro e w5 ⟨rfl, hb⟩
    replace K := hidd (K.out.step hb)
    clear hb
    go_wp2_with fail
    refine (su_r L HS.out _ (HT.out.below K.out.below) (HE.out.below K.out.below) (HM.out.below K.out.below)).mono ?_
    rintro e w6 ⟨rfl, hb⟩
    replace K := hidd (K.out.step hb)
    clear hb
    go_wp2_with (first | (refine wpList_store_at rfl _ _ _ rfl w6.heap.size 0 rfl 48 (sunCells zeroSun) (sunCells (L)) rfl agg_impl (Row.new w6 (sunCells zeroSun) 27) (sun_size HS.out.len) (by decide) (sun_one _) ?_; intro w7 hw hr; rw [over_all (cs := sunCells zeroSun) (xs := sunCells (L)) (by rw [sun_size HS.out.len]; rfl)] at hr; have hb := new_below hw; replace K := hidd (K.out.step hb); have R8 := hidd hr; clear hw hr hb) | (refine wpList_load_all rfl _ _ rfl w1.heap.size rfl (sunCells L) 48 agg_impl (sun_size HS.out.len) K.out.row ?_))
    clear HT HE HM
    refine (su_m_i L HS.out _).mono ?_
    rintro e w8 ⟨rfl, hb⟩
    replace K := hidd (K.out.step hb)
    replace R8 := hidd (R8.out.below hb R8.out.lt)
    clear hb
    go_wp2_with (first | (refine wpList_store_at rfl _ _ _ rfl w8.heap.size 0 rfl 48 (sunCells zeroSun) (sunCells (mir L)) rfl agg_impl (Row.new w8 (sunCells zeroSun) 27) (sun_size HY.out.len) (by decide) (sun_one _) ?_; intro w9 hw hr; rw [over_all (cs := sunCells zeroSun) (xs := sunCells (mir L)) (by rw [sun_size HY.out.len]; rfl)] at hr; have hb := new_below hw; replace K := hidd (K.out.step hb); replace R8 := hidd (R8.out.below hb R8.out.lt); have R10 := hidd hr; clear hw hr hb) | (refine wpList_load_all rfl _ _ rfl w1.heap.size rfl (sunCells L) 48 agg_impl (sun_size HS.out.len) K.out.row ?_))
    refine (su_m_s L HS.out _).mono ?_
    rintro e w10 ⟨rfl, hb⟩
    replace K := hidd (K.out.step hb)
    replace R8 := hidd (R8.out.below hb R8.out.lt)
    replace R10 := hidd (R10.out.below hb R10.out.lt)
    clear hb
    go_wp2_with (first | (refine wpList_store_at rfl _ _ _ rfl w10.heap.size 0 rfl 48 (sunCells zeroSun) (sunCells (mir L)) rfl agg_impl (Row.new w10 (sunCells zeroSun) 27) (sun_size HY.out.len) (by decide) (sun_one _) ?_; intro w11 hw hr; rw [over_all (cs := sunCells zeroSun) (xs := sunCells (mir L)) (by rw [sun_size HY.out.len]; rfl)] at hr; have hb := new_below hw; replace K := hidd (K.out.step hb); replace R8 := hidd (R8.out.below hb R8.out.lt); replace R10 := hidd (R10.out.below hb R10.out.lt); have R12 := hidd hr; clear hw hr hb) | (refine wpList_load_all rfl _ _ rfl w10.heap.size rfl (sunCells (mir L)) 48 agg_impl (sun_size HY.out.len) R12.out ?_))
    have HX := hidd (fun w => su_m_i (mir L) HY.out w)
    rw [mir_mir HS.out] at HX
    refine (HX.out _).mono ?_
    rintro e w12 ⟨rfl, hb⟩
    replace K := hidd (K.out.step hb)
    replace R8 := hidd (R8.out.below hb R8.out.lt)
    replace R10 := hidd (R10.out.below hb R10.out.lt)
    replace R12 := hidd (R12.out.below hb R12.out.lt)
    clear hb
    go_wp2_with (first | (refine wpList_store_at rfl _ _ _ rfl w12.heap.size 0 rfl 48 (sunCells zeroSun) (sunCells (L)) rfl agg_impl (Row.new w12 (sunCells zeroSun) 27) (sun_size HS.out.len) (by decide) (sun_one _) ?_; intro w13 hw hr; rw [over_all (cs := sunCells zeroSun) (xs := sunCells (L)) (by rw [sun_size HS.out.len]; rfl)] at hr; have hb := new_below hw; replace K := hidd (K.out.step hb); replace R8 := hidd (R8.out.below hb R8.out.lt); replace R10 := hidd (R10.out.below hb R10.out.lt); replace R12 := hidd (R12.out.below hb R12.out.lt); have R14 := hidd hr; clear hw hr hb) | (refine wpList_load_all rfl _ _ rfl w1.heap.size rfl (sunCells L) 48 agg_impl (sun_size HS.out.len) K.out.row ?_))
    clear HX
    refine (su_bh_i L HS.out _ fn f0 f2).mono ?_
    rintro e w14 ⟨rfl, hb⟩
    replace K := hidd (K.out.step hb)
    replace R8 := hidd (R8.out.below hb R8.out.lt)
    replace R10 := hidd (R10.out.below hb R10.out.lt)
    replace R12 := hidd (R12.out.below hb R12.out.lt)
    replace R14 := hidd (R14.out.below hb R14.out.lt)
    clear hb
    go_wp2_with (refine wpList_load_all rfl _ _ rfl w1.heap.size rfl (sunCells L) 48 agg_impl (sun_size HS.out.len) K.out.row ?_)
    refine (su_bh_s L HS.out _ fn f0 f2).mono ?_
    rintro e w15 ⟨rfl, hb⟩
    replace K := hidd (K.out.step hb)
    replace R8 := hidd (R8.out.below hb R8.out.lt)
    replace R10 := hidd (R10.out.below hb R10.out.lt)
    replace R12 := hidd (R12.out.below hb R12.out.lt)
    replace R14 := hidd (R14.out.below hb R14.out.lt)
    clear hb
    go_wp2_with (refine wpList_load_all rfl _ _ rfl w1.heap.size rfl (sunCells L) 48 agg_impl (sun_size HS.out.len) K.out.row ?_)
    refine (su_bf_i L HS.out _).mono ?_
    rintro e w16 ⟨rfl, hb⟩
    replace K := hidd (K.out.step hb)
    replace R8 := hidd (R8.out.below hb R8.out.lt)
    replace R10 := hidd (R10.out.below hb R10.out.lt)
    replace R12 := hidd (R12.out.below hb R12.out.lt)
    replace R14 := hidd (R14.out.below hb R14.out.lt)
    clear hb
    go_wp2_with (refine wpList_load_all rfl _ _ rfl w1.heap.size rfl (sunCells L) 48 agg_impl (sun_size HS.out.len) K.out.row ?_)
    refine (su_bf_s L HS.out _).mono ?_
    rintro e w17 ⟨rfl, hb⟩
    replace K := hidd (K.out.step hb)
    replace R8 := hidd (R8.out.below hb R8.out.lt)
    replace R10 := hidd (R10.out.below hb R10.out.lt)
    replace R12 := hidd (R12.out.below hb R12.out.lt)
    replace R14 := hidd (R14.out.below hb R14.out.lt)
    clear hb
    go_wp2_with (refine wpList_load_all rfl _ _ rfl w1.heap.size rfl (sunCells L) 48 agg_impl (sun_size HS.out.len) K.out.row ?_)
    refine (su_h_i L HS.out _ fn f0 f2 least HP.out.part).mono ?_
    rintro e w18 ⟨v1, rfl, hb, hv⟩
    replace K := hidd (K.out.step hb)
    replace R8 := hidd (R8.out.below hb R8.out.lt)
    replace R10 := hidd (R10.out.below hb R10.out.lt)
    replace R12 := hidd (R12.out.below hb R12.out.lt)
    replace R14 := hidd (R14.out.below hb R14.out.lt)
    clear hb
    have L1 := hidd hv
    clear hv
    go_wp2_with (refine wpList_load_all rfl _ _ rfl w1.heap.size rfl (sunCells L) 48 agg_impl (sun_size HS.out.len) K.out.row ?_)
    refine (su_h_s L HS.out _ fn f0 f2 least HP.out.part).mono ?_
    rintro e w19 ⟨v2, rfl, hb, hv⟩
    replace K := hidd (K.out.step hb)
    replace R8 := hidd (R8.out.below hb R8.out.lt)
    replace R10 := hidd (R10.out.below hb R10.out.lt)
    replace R12 := hidd (R12.out.below hb R12.out.lt)
    replace R14 := hidd (R14.out.below hb R14.out.lt)
    replace L1 := hidd (L1.out.step hb)
    clear hb
    have L2 := hidd hv
    clear hv
    have hm : Tryz.prog.eqGuardType Tryz.prog.depth 27 = false := by kernel_rfl
    have hq := run_eq_sun L L HS.out.len HS.out.len
    have hq2 := run_eq_sun (mir L) (mir L) HY.out.len HY.out.len
    have se := sunEq_self L
    have se2 := sunEq_self (mir L)
    go_upto_region 16 with (fail)
    refine wp_region_lit ?_
    dsimp only [List.append]
    go_wp2_with (first | (refine wpList_load_all_g ?hg _ _ rfl w6.heap.size rfl (sunCells (L)) 48 agg_impl (sun_size HS.out.len) R8.out ?_; case hg => go_loud (rfl)) | (refine wpList_load_all_g ?hg _ _ rfl w1.heap.size rfl (sunCells (L)) 48 agg_impl (sun_size HS.out.len) K.out.row ?_; case hg => go_loud (rfl)))
    refine (su_s L HS.out _).mono ?_
    rintro e w20 ⟨rfl, hb⟩
    replace K := hidd (K.out.step hb)
    replace R8 := hidd (R8.out.below hb R8.out.lt)
    replace R10 := hidd (R10.out.below hb R10.out.lt)
    replace R12 := hidd (R12.out.below hb R12.out.lt)
    replace R14 := hidd (R14.out.below hb R14.out.lt)
    replace L1 := hidd (L1.out.step hb)
    replace L2 := hidd (L2.out.step hb)
    clear hb
    go_wp2_with (refine wpList_load_all_g ?hg _ _ rfl w1.heap.size rfl (sunCells (L)) 48 agg_impl (sun_size HS.out.len) K.out.row ?_; case hg => go_loud (rfl))
    refine (su_v L HS.out _).mono ?_
    rintro e w21 ⟨rfl, hb⟩
    replace K := hidd (K.out.step hb)
    replace R8 := hidd (R8.out.below hb R8.out.lt)
    replace R10 := hidd (R10.out.below hb R10.out.lt)
    replace R12 := hidd (R12.out.below hb R12.out.lt)
    replace R14 := hidd (R14.out.below hb R14.out.lt)
    replace L1 := hidd (L1.out.step hb)
    replace L2 := hidd (L2.out.step hb)
    clear hb
    obtain ⟨a1, c1, e1, i1⟩ := L1.out
    obtain ⟨a2, c2, e2, i2⟩ := L2.out
    subst e1
    subst e2
    have I1 := hidd i1
    have I2 := hidd i2
    clear i1 i2 L1 L2
    obtain ⟨t1, t2, t3⟩ := best_first (f := fun k => fall L k (fn : Int)) (fun k => fall_fnt L k fn) 23
    obtain ⟨u1, u2, u3⟩ := best_first (f := fun k => dayFall L (k : Int)) (fun k => dayFall_fin L k) 255
    have BH := hidd (show ∀ k, k < 24 → fle (fall L k (fn : Int)) (bestH L fn).2 = true ∧ (k < (bestH L fn).1 → feq (fall L k (fn : Int)) (bestH L fn).2 = false) from fun k hk => best_is (f := fun k => fall L k (fn : Int)) (fun k => fall_fnt L k fn) (n := 23) (by omega))
    have BF := hidd (show fle (dayFall L (fn : Int)) (bestF L).2 = true ∧ (fn < (bestF L).1 → feq (dayFall L (fn : Int)) (bestF L).2 = false) from best_is (f := fun k => dayFall L (k : Int)) (fun k => dayFall_fin L k) (n := 255) (by omega))
    replace t2 : Fnt (bestH L fn).2 := t2
    replace u2 : Fnt (bestF L).2 := u2
    have sm1 := same_fin' t2
    have sm2 := same_fin' u2
    clear t1 t3 u1 u3
    go_wp2_with (first | (go_at_call 21; refine (same_spec _ _ _).mono ?_; rintro e w' ⟨rfl, rfl⟩) | (refine wpList_load_all_g ?hg _ _ rfl w8.heap.size rfl (sunCells (mir L)) 48 agg_impl (sun_size HY.out.len) R10.out ?_; case hg => go_loud (rfl)) | (refine wpList_load_all_g ?hg _ _ rfl w10.heap.size rfl (sunCells (mir L)) 48 agg_impl (sun_size HY.out.len) R12.out ?_; case hg => go_loud (rfl)) | (refine wpList_load_all_g ?hg _ _ rfl w12.heap.size rfl (sunCells (L)) 48 agg_impl (sun_size HS.out.len) R14.out ?_; case hg => go_loud (rfl)) | (refine wpList_load_all_g ?hg _ _ rfl w1.heap.size rfl (sunCells (L)) 48 agg_impl (sun_size HS.out.len) K.out.row ?_; case hg => go_loud (rfl)))
    refine (same_any a1 a2 c1 c2 _ (by have := hl24_len (hourSo L fn least); omega) _ I1.out I2.out).mono ?_
    rintro e w22 ⟨rfl, hb⟩
    replace K := hidd (K.out.step hb)
    replace R12 := hidd (R12.out.below hb R12.out.lt)
    replace I2 := hidd (I2.out.below hb)
    clear hb R8 R10 R14 I1 hq hq2 se se2 hm sm1 sm2
    have hlf := HP.out.1
    have z0 : Fnt 0 := by decide
    go_wp2_with fail
    go_loopw [32, 33, 34] (fun a b i wr => ∃ k : Nat, k ≤ 24 ∧ i = .int .i64 k ∧ a = .float .f32 (sumTo (fun k => fall L k (fn : Int)) k) ∧ b = .float .f32 (sumTo (ground L) k) ∧ SuK w w1.heap.size (sunCells L) Ca C Da D wr ∧ Row wr w10.heap.size (sunCells (mir L)) ∧ Ints wr a2 (hl24 (hourSo L fn least))) (fun _ _ i _ => 24 - (intOf i).toNat)
    case atStart => exact ⟨0, by omega, rfl, rfl, rfl, K.out, R12.out, I2.out⟩
    case round =>
      obtain ⟨k, hk, rfl, rfl, rfl, hK, hR, hI⟩ := hrel
      clear K R12 I2
      have K := hidd hK
      have R12 := hidd hR
      have I2 := hidd hI
      clear hK hR hI
      by_cases hlt : k < 24
      · obtain ⟨g, hg⟩ : ∃ g, g = (256 - (fn : Int)) % 256 := ⟨_, rfl⟩
        have hg0 : 0 ≤ g := by omega
        have hg1 : (256 - (fn : Int)) % 256 = g := hg.symm
        have hg2 : (256 - (fn : Int)).tmod 256 = g := by rw [Int.tmod_eq_emod_of_nonneg (by omega)]; exact hg1
        have Hg := hidd hg
        clear hg
        go_wp2_with (refine wpList_load_all rfl _ _ rfl w1.heap.size rfl (sunCells L) 48 agg_impl (sun_size HS.out.len) K.out.row ?_)
        refine (su_f_i L HS.out _ k hlt fn f0 f2).mono ?_
        rintro e x1 ⟨rfl, hb⟩
        replace K := hidd (K.out.step hb)
        replace R12 := hidd (R12.out.below hb R12.out.lt)
        replace I2 := hidd (I2.out.below hb)
        clear hb
        go_wp2_with (refine wpList_load_all rfl _ _ rfl w10.heap.size rfl (sunCells (mir L)) 48 agg_impl (sun_size HY.out.len) R12.out ?_)
        refine (su_f_m L HS.out _ k hlt fn f0 f2 _ g rfl Hg.out).mono ?_
        rintro e x2 ⟨rfl, hb⟩
        replace K := hidd (K.out.step hb)
        replace R12 := hidd (R12.out.below hb R12.out.lt)
        replace I2 := hidd (I2.out.below hb)
        clear hb
        go_wp2_with (refine wpList_load_all rfl _ _ rfl w1.heap.size rfl (sunCells L) 48 agg_impl (sun_size HS.out.len) K.out.row ?_)
        refine (su_u L HS.out _ k hlt).mono ?_
        rintro e x3 ⟨rfl, hb⟩
        replace K := hidd (K.out.step hb)
        replace R12 := hidd (R12.out.below hb R12.out.lt)
        replace I2 := hidd (I2.out.below hb)
        clear hb
        go_wp2_with (refine wpList_load_all rfl _ _ rfl w1.heap.size rfl (sunCells L) 48 agg_impl (sun_size HS.out.len) K.out.row ?_)
        refine (su_g L HS.out _ k hlt).mono ?_
        rintro e x4 ⟨rfl, hb⟩
        replace K := hidd (K.out.step hb)
        replace R12 := hidd (R12.out.below hb R12.out.lt)
        replace I2 := hidd (I2.out.below hb)
        clear hb
        clear hg0 hg1 hg2
        have p1 := fall_fnt L k fn
        have p2 := ground_fnt HS.out hlt
        have p3 := fne_self p1
        have p4 := fall_ge L k fn
        obtain ⟨p5, p6⟩ := BH.out k hlt
        have p7 := ground_up HS.out hlt
        have p8 := (has_hour (so := hourSo L fn least) hlt).trans (show hourSo L fn least k = fge (fall L k (fn : Int)) least from rfl)
        have p9 : Fnt (sumTo (fun k => fall L k (fn : Int)) k) := sum_fin (fun k _ => fall_unit L k fn) hk
        have p10 : Fnt (sumTo (ground L) k) := sum_fin (fun k hk => ground_unit (sunOk_at HS.out.ok hk).2.1) hk
        have P6 := hidd p6
        have P8 := hidd p8
        clear p6 p8
        have CK : (feq (fall L k (fn : Int)) (bestH L fn).2 = false) ∨ (feq (fall L k (fn : Int)) (bestH L fn).2 = true ∧ ((bestH L fn).1 : Int) ≤ (k : Int)) := by
          rcases bool_or (feq (fall L k (fn : Int)) (bestH L fn).2) with c | c
          · exact .inl c
          · refine .inr ⟨c, ?_⟩
            by_cases d : k < (bestH L fn).1
            · rw [P6.out d] at c; cases c
            · omega
        have CU : (isUp L k = true) ∨ (isUp L k = false ∧ fne (fall L k (fn : Int)) 0 = false) := by
          rcases bool_or (isUp L k) with c | c
          · exact .inr ⟨c, by rw [fall_down c]; decide⟩
          · exact .inl c
        rcases bool_or (fge (fall L k (fn : Int)) least) with ls | ls
        all_goals
          rw [ls] at P8
          rcases CK with ck | ⟨ck, ck2⟩
          all_goals
            rcases CU with cu | ⟨cu, cu2⟩
            all_goals
              rw [cu] at p7
              go_wp2_with (go_at_call 27; refine (has_any a2 c2 _ (by have := hl24_len (hourSo L fn least); omega) _ _ I2.out).mono ?_; rintro e wz ⟨rfl, rfl⟩; rw [P8.out])
              all_goals go_roundw
              all_goals first | (exact ⟨k + 1, by omega, by go_num, rfl, rfl, K.out, R12.out, I2.out⟩) | (simp [intOf]; done) | (simp [intOf]; omega)
      · obtain rfl : k = 24 := by omega
        clear I2 R12
        rw [sum24_eq, sum24_eq]
        have EF : sum24 (fun k => fall L k (fn : Int)) = dayFall L fn := rfl
        have EG : sum24 (ground L) = dayGround L := rfl
        rw [EF, EG]
        clear EF EG
        go_wp2_with (refine wpList_load_all rfl _ _ rfl w1.heap.size rfl (sunCells L) 48 agg_impl (sun_size HS.out.len) K.out.row ?_)
        refine (su_fd L HS.out _ fn f0 f2).mono ?_
        rintro e y1 ⟨rfl, hb⟩
        replace K := hidd (K.out.step hb)
        clear hb
        go_wp2_with (refine wpList_load_all rfl _ _ rfl w1.heap.size rfl (sunCells L) 48 agg_impl (sun_size HS.out.len) K.out.row ?_)
        refine (su_gd L HS.out _).mono ?_
        rintro e y2 ⟨rfl, hb⟩
        replace K := hidd (K.out.step hb)
        clear hb
        have p1 := dayFall_fin L fn
        have p2 := dayGround_fin HS.out.ok
        have p3 := fne_self p1
        have p4 := fne_self p2
        obtain ⟨p5, p6⟩ := BF.out
        have P6 := hidd p6
        clear p6
        have CK : (feq (dayFall L (fn : Int)) (bestF L).2 = false) ∨ (feq (dayFall L (fn : Int)) (bestF L).2 = true ∧ ((bestF L).1 : Int) ≤ (fn : Int)) := by
          rcases bool_or (feq (dayFall L (fn : Int)) (bestF L).2) with c | c
          · exact .inl c
          · refine .inr ⟨c, ?_⟩
            by_cases d : fn < (bestF L).1
            · rw [P6.out d] at c; cases c
            · omega
        rcases CK with ck | ⟨ck, ck2⟩
        all_goals
          go_wp2_with fail
          refine (at_any Da Dc D hD3 1 (by omega) 24 (by omega) _ K.out.argD).mono ?_
          rintro e y3 ⟨n, rfl, n0, n1, _, rfl⟩
          have n2 : n ≤ 23 := by omega
          have HN := hidd (lat_sn HS.out n)
          obtain ⟨m, hm0⟩ : ∃ m, m = (24 - n) % 24 := ⟨_, rfl⟩
          have m0 : 0 ≤ m := by omega
          have m2 : m ≤ 23 := by omega
          have hm1 : (24 - n) % 24 = m := hm0.symm
          have hm2 : (24 - n).tmod 24 = m := by rw [Int.tmod_eq_emod_of_nonneg (by omega)]; exact hm1
          have HB := hidd (fun w => su_l_i (lat L n) HN.out w m m0 m2)
          rw [show lat (lat L n) m = L by rw [hm0]; exact lat_lat HS.out n] at HB
          clear hm0
          go_wp2_with (refine wpList_load_all rfl _ _ rfl w1.heap.size rfl (sunCells L) 48 agg_impl (sun_size HS.out.len) K.out.row ?_)
          refine (su_l_i L HS.out _ n n0 n2).mono ?_
          rintro e y4 ⟨rfl, hb⟩
          replace K := hidd (K.out.step hb)
          clear hb
          go_wp2_with (first | (refine wpList_store_at rfl _ _ _ rfl y4.heap.size 0 rfl 48 (sunCells zeroSun) (sunCells (lat L n)) rfl agg_impl (Row.new y4 (sunCells zeroSun) 27) (sun_size HN.out.len) (by decide) (sun_one _) ?_; intro y5 hw hr; rw [over_all (cs := sunCells zeroSun) (xs := sunCells (lat L n)) (by rw [sun_size HN.out.len]; rfl)] at hr; have hb := new_below hw; replace K := hidd (K.out.step hb); have R48 := hidd hr; clear hw hr hb) | (refine wpList_load_all rfl _ _ rfl w1.heap.size rfl (sunCells L) 48 agg_impl (sun_size HS.out.len) K.out.row ?_))
          refine (su_l_s L HS.out _ n n0 n2).mono ?_
          rintro e y6 ⟨rfl, hb⟩
          replace K := hidd (K.out.step hb)
          replace R48 := hidd (R48.out.below hb R48.out.lt)
          clear hb
          have hm : Tryz.prog.eqGuardType Tryz.prog.depth 27 = false := by kernel_rfl
          have hq := run_eq_sun L L HS.out.len HS.out.len
          have hq2 := run_eq_sun (lat L n) (lat L n) HN.out.len HN.out.len
          have se := sunEq_self L
          have se2 := sunEq_self (lat L n)
          go_wp2_with (first | (refine wpList_store_at rfl _ _ _ rfl y6.heap.size 0 rfl 48 (sunCells zeroSun) (sunCells (lat L n)) rfl agg_impl (Row.new y6 (sunCells zeroSun) 27) (sun_size HN.out.len) (by decide) (sun_one _) ?_; intro y7 hw hr; rw [over_all (cs := sunCells zeroSun) (xs := sunCells (lat L n)) (by rw [sun_size HN.out.len]; rfl)] at hr; have hb := new_below hw; replace K := hidd (K.out.step hb); replace R48 := hidd (R48.out.below hb R48.out.lt); have R50 := hidd hr; clear hw hr hb) | (refine wpList_load_all_g ?hg _ _ rfl y4.heap.size rfl (sunCells (lat L n)) 48 agg_impl (sun_size HN.out.len) R48.out ?_; case hg => go_loud (rfl)) | (refine wpList_load_all_g ?hg _ _ rfl y6.heap.size rfl (sunCells (lat L n)) 48 agg_impl (sun_size HN.out.len) R50.out ?_; case hg => go_loud (rfl)) | (refine wpList_load_all rfl _ _ rfl y6.heap.size rfl (sunCells (lat L n)) 48 agg_impl (sun_size HN.out.len) R50.out ?_))
          refine (HB.out _).mono ?_
          rintro e y8 ⟨rfl, hb⟩
          replace K := hidd (K.out.step hb)
          replace R48 := hidd (R48.out.below hb R48.out.lt)
          replace R50 := hidd (R50.out.below hb R50.out.lt)
          clear hb
          go_wp2_with (first | (refine wpList_store_at rfl _ _ _ rfl y8.heap.size 0 rfl 48 (sunCells zeroSun) (sunCells (L)) rfl agg_impl (Row.new y8 (sunCells zeroSun) 27) (sun_size HS.out.len) (by decide) (sun_one _) ?_; intro y9 hw hr; rw [over_all (cs := sunCells zeroSun) (xs := sunCells (L)) (by rw [sun_size HS.out.len]; rfl)] at hr; have hb := new_below hw; replace K := hidd (K.out.step hb); replace R48 := hidd (R48.out.below hb R48.out.lt); replace R50 := hidd (R50.out.below hb R50.out.lt); have R52 := hidd hr; clear hw hr hb) | (refine wpList_load_all_g ?hg _ _ rfl y8.heap.size rfl (sunCells (L)) 48 agg_impl (sun_size HS.out.len) R52.out ?_; case hg => go_loud (rfl)) | (refine wpList_load_all_g ?hg _ _ rfl w1.heap.size rfl (sunCells (L)) 48 agg_impl (sun_size HS.out.len) K.out.row ?_; case hg => go_loud (rfl)))
          all_goals (go_ret; exact ⟨by simp, K.out.below⟩)
  · have hb2 : (decide (3000 < C.length) || decide (3000 < D.length)) = true := by
      rw [Bool.or_eq_true, decide_eq_true_eq, decide_eq_true_eq]; omega
    have HL := hidd (fun w => long_any Ca Da C.length D.length Cc Dc hC5 hD5 w)
    rw [hb2] at HL
    clear hb2
    go_enter Tryz.func3, Tryz.ntmps3
    go_wp2_with (go_at_call 5; refine (HL.out _).mono ?_; rintro e w2 ⟨rfl, rfl⟩)
    go_ret
    exact ⟨rfl, Below.refl _ _⟩

theorem tabs_fnSuns {W : World} (h : laidMetH Tryz.prog Rows.fnSunsRow.laid W) : Tabs W ∧ Errs W := by
  rw [MakeChecks.laidMetH_plain _ _ _ (by kernel_rfl)] at h
  exact ⟨tabs_of h, errs_of7 h⟩
set_option maxRecDepth 100000 in
theorem lifted_fnSuns (os : Os) (started : os.Started) (H : Type) (enc : TypeId × Value → H) :
    ReturnsInHanded {} Tryz.checked os 3 .any (fun w args => (Rows.fnSunsSpec.pre enc Tryz.prog Tryz.f3 [] false w args ∧ laidMetH Tryz.prog Rows.fnSunsRow.laid w) ∧ sizedMet enc Tryz.prog Tryz.f3 (OpenSpec.ofChange Rows.fnSunsSpec) false w args) (Rows.fnSunsSpec.post enc Tryz.prog Tryz.f3 false true false false) := by
  refine handed_both (C := Tryz.checked) (X := fun w _ => laidMetH Tryz.prog Rows.fnSunsRow.laid w) (fun _ _ _ hh h => h.of_heap hh) own started (by kernel_rfl) Tryz.func3
    (ChangeSpec.witness_shaped (enc := enc) (C := Tryz.checked) (os := os) (X := fun w _ => laidMetH Tryz.prog Rows.fnSunsRow.laid w) false (World.laidAll Tryz.prog os Rows.fnSunsRow.laid) #[.slice none 0 0, .slice none 0 0] 60 (World.laidAll_os _ _ _) (World.shaped_of_ZipB (by kernel_rfl) (by kernel_rfl)) (by kernel_rfl) (by kernel_rfl) (by kernel_rfl) (door7 os _)) ?_
  intro W base args ds gs before hval0 hW _ hL hSh
  have hval : ∀ (j : Nat) t v, Tryz.f3.params[j]? = some t → args[j]? = some v → Value.okWide Tryz.prog W .any base t v := hval0
  have hW' := hW
  obtain ⟨p, q, hA0, hV, rfl, hfz, hnd⟩ := hW
  have hA : DataW.TrodAll enc Tryz.prog W 0 (fun _ => true) true Tryz.f3.params.toList args.toList ds p := hA0
  rw [Tryz.params3] at hA hval
  obtain ⟨v0, vs0, d0, ds0, p0, q0, hargs, rfl, rfl, h0, r0⟩ := trodAll_cons hA
  obtain ⟨v1, vs1, d1, ds1, p1, q1, rfl, rfl, rfl, h1, r1⟩ := trodAll_cons r0
  obtain ⟨rfl, rfl, rfl⟩ := trodAll_nil r1
  obtain rfl : args = #[v0, v1] := by cases args; simp_all
  obtain ⟨rfl, rfl⟩ := trodVars_none hV
  have lt0 : ∀ x ∈ p0, x.block < W.heap.size := by obtain ⟨m, hm⟩ := h0; exact DataW.trod_lt m _ _ _ hm
  have lt1 : ∀ x ∈ p1, x.block < W.heap.size := by obtain ⟨m, hm⟩ := h1; exact DataW.trod_lt m _ _ _ hm
  obtain ⟨Ca, Cc, C, rfl, hC5, hC6⟩ := arg_bytes (hval 0 22 v0 rfl rfl) h0
  obtain ⟨Da, Dc, D, rfl, hD5, hD6⟩ := arg_bytes (hval 1 22 v1 rfl rfl) h1
  clear hA0 hval0
  refine (walk_fnSuns W Ca Cc C hC5 hC6 Da Dc D hD5 hD6 (tabs_fnSuns hL).1 (tabs_fnSuns hL).2 (mx_of hSh)).mono fun e W' ⟨he, bel⟩ => ?_
  subst he
  exact ⟨_, rfl, _, _, _, [], _, [], hW', trodAll_mk1 (shut_bool Tryz.underlying4 _), (trodAll_cons_mk (Below.trod laidOut (by kernel_rfl) (of_decide_eq_true (by kernel_rfl)) h0 bel lt0) (trodAll_cons_mk (Below.trod laidOut (by kernel_rfl) (of_decide_eq_true (by kernel_rfl)) h1 bel lt1) trodAll_mk0)), rfl, bel.frame _, fun h => by cases h⟩

/-- THE STATEMENT. -/
theorem fnSuns_holds : Rows.FnSunsSaid :=
  OpenClaim.holds_of_wide 3 Tryz.f3 rfl rfl rfl rfl rfl rfl rfl ⟨rfl, rfl, rfl, rfl, rfl⟩ rfl rfl rfl rfl rfl (by kernel_rfl) Tryz.func3 (by kernel_rfl)
    (of_decide_eq_true (by kernel_rfl)) (by unfold Func.isWrapper; first | (rw [if_pos (by decide +kernel)]; kernel_rfl) | (rw [if_neg (by decide +kernel)]; exact ⟨rfl, rfl⟩))
    (fun os started H enc _ => lifted_fnSuns os started H enc)
#print axioms fnSuns_holds
theorem fnSuns_card : Rows.FnSunsCardSaid :=
  Claim7.holds_tied_plain_at .later [] [.data, .data, .data, .data, .sentinel, .sentinel, .pinned] true (true, "c24d4c2ffe5179f8771ce7123cd2a130918d0ab247cfa2d6e2aedfdc29cd6ce9") true
    fnSuns_holds (fun _ h => by cases h) (by kernel_rfl) (fun _ h => by cases h) fnSuns_row_tie rfl ⟨rfl, rfl⟩ (by kernel_rfl) rfl
    (fun f fn hf hfn => by
      obtain rfl : f = 3 := Option.some.inj ((show Tryz.prog.funcNamed Rows.fnSunsRow.func = some 3 by kernel_rfl).symm.trans hf) |>.symm
      obtain rfl : fn = Tryz.f3 := (Option.some.inj (Tryz.func3.symm.trans hfn)).symm
      exact ⟨by kernel_rfl, fun j t ht => by
        rw [Tryz.params3] at ht
        have hm : t ∈ [22, 22] := by simpa using Array.mem_of_getElem? ht
        have hall : ([22, 22].all fun u => !Tryz.prog.wantsStandIn u) = true := by kernel_rfl
        exact (show Tryz.prog.wantsStandIn t = false by simpa using List.all_eq_true.1 hall t hm)⟩)
    (by kernel_rfl)
#print axioms fnSuns_card
end Go.Proofs.YtddkiemipedgcaaGreatDoor
