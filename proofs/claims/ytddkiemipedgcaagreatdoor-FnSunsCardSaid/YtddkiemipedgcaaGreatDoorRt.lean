/-
  What the tables that the rows list give a walk; a world that meets the condition.
-/
import Derived.Test.YtddkiemipedgcaaGreatDoorRo
import Derived.Test.YtddkiemipedgcaaGreatDoorCards
import Derived.Test.YtddkiemipedgcaaGreatDoorTie
import Derived.Lib.LaidTab
import Derived.Lib.ItoaNum
import Derived.LaidMore
import Derived.MakeChecks
import Derived.OpenShut
import Derived.Stop.Joined
import Derived.Stop.LaidErr
import Derived.SevenTiedAt
namespace Go.Proofs.YtddkiemipedgcaaGreatDoor
open Go.ChangeShapes Go.WideShapes Go.ChangeAt Go.RowKit
set_option maxRecDepth 100000

/-- What a walk reads of the library's tables. -/
structure Tabs (w : World) : Prop where
  tz : w.cell? ⟨8, 15, none⟩ = some (.int .u8 4)
  pow : Lib.TabIs Tryz.prog w "internal/strconv.uint64pow10" .u64 Lib.pow10Tab
theorem Tabs.size {w : World} (h : Tabs w) : 8 < w.heap.size := World.block_lt_of_cell? w _ h.tz
theorem Tabs.below {w w' : World} (h : Tabs w) (hb : Below w.heap.size w w') : Tabs w' := by
  refine ⟨(hb.cell h.size).trans h.tz, ?_⟩
  have hp := h.pow
  unfold Lib.TabIs World.var? at *
  have hg : Tryz.prog.globalNamed "internal/strconv.uint64pow10" = some 4 := by kernel_rfl
  rw [hg] at hp ⊢
  simp only [Option.bind_some] at hp ⊢
  have hs := h.size
  rw [hb.block 4 (by omega)]
  exact hp
def l32 : List Int := [0, 1, 28, 2, 29, 14, 24, 3, 30, 22, 20, 15, 25, 17, 4, 8, 31, 27, 13, 23, 21, 19, 16, 7, 26, 12, 18, 6, 11, 5, 10, 9]
def l64 : List Int := [0, 1, 56, 2, 57, 49, 28, 3, 61, 58, 42, 50, 38, 29, 17, 4, 62, 47, 59, 36, 45, 43, 51, 22, 53, 39, 33, 30, 24, 18, 12, 5, 63, 55, 48, 27, 60, 41, 37, 16, 46, 35, 44, 21, 52, 32, 23, 11, 54, 26, 40, 15, 34, 20, 31, 10, 25, 14, 19, 9, 13, 8, 7, 6]
theorem d64 : (Rows.laid_math_bits_deBruijn64tab : DataW Unit) = Lib.tabData .u8 l64 := rfl
theorem dpow : (Rows.laid_internal_strconv_uint64pow10 : DataW Unit) = Lib.tabData .u64 Lib.pow10Tab := by kernel_rfl
theorem tabs_of {W : World} {rest : List (String × DataW Unit)} (h : laidMet Tryz.prog (("math/bits.deBruijn32tab", Rows.laid_math_bits_deBruijn32tab) :: ("math/bits.deBruijn64tab", Rows.laid_math_bits_deBruijn64tab) :: ("internal/strconv.uint64pow10", Rows.laid_internal_strconv_uint64pow10) :: rest) W) : Tabs W := by
  have h1 := laidMet.tail h
  have h2 := laidMet.tail h1
  rw [d64] at h1
  rw [dpow] at h2
  have t1 := Lib.tabIs_of_head (t := 183) (e := 5) (n := 64) (by kernel_rfl : Tryz.prog.globalNamed "math/bits.deBruijn64tab" = some 8) (by kernel_rfl) Tryz.underlying183 Tryz.underlying5 (by kernel_rfl) (by kernel_rfl) h1
  have t2 := Lib.tabIs_of_head (t := 170) (e := 105) (n := 20) (by kernel_rfl : Tryz.prog.globalNamed "internal/strconv.uint64pow10" = some 4) (by kernel_rfl) Tryz.underlying170 Tryz.underlying105 (by kernel_rfl) (by kernel_rfl) h2
  exact ⟨t1.cell (by kernel_rfl : Tryz.prog.globalNamed "math/bits.deBruijn64tab" = some 8) 15 (by decide), t2⟩
end Go.Proofs.YtddkiemipedgcaaGreatDoor
