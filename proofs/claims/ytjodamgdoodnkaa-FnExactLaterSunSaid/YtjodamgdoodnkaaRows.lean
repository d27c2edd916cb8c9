/-
  No cell of these rows narrows 'for every input' (looked for: loops, veiled, ifaces, maps, wideKeys, modest, calm, conditions, laid).
  DERIVED. THE GIVEN ROWS OF THIS SEAT. 12 by the template 'for every input the law returns true; each argument reads behind the call as it read before'; 0 by the template 'total and deterministic' (their statements: YtjodamgdoodnkaaTotals.lean).
  GIVEN WITH THE SEED: the statements are not yours to turn. If you find one false, say at which input.
  Laid BY PROGRAM, IN A SANDBOX (cutbox-rows.mjs): the forced cells as the released guide's own fill.sh prints them over the translation 4f5b8bfaeaebe98f… (all of the seat's roots in one cut). By AI agents, Wed Nov 11 2026. No macro, syntax, notation, axiom, sorry.
-/
import Derived.Test.YtjodamgdoodnkaaChecked
import GoSem.Claim
import GoSem.ClaimJoined
import GoSem.ClaimMapViews
import Derived.JoinedTies
import Derived.KernelRfl
namespace Go.Proofs.Ytjodamgdoodnkaa
/- THE CELL 'sum', in the pinned program and in every row, IS THE sha256 OF THE DUMP (.gsa) THAT YtjodamgdoodnkaaProg.lean LOADS. Nothing in Lean hashes anything: it is a label: what it is worth is what the hold of that sum in a sandbox is worth. -/
noncomputable def Try.pinned : Pinned := { name := "ytjodamgdoodnkaa", sum := "4f5b8bfaeaebe98fa6c616f2047b0aa38f12c5c7edce194279f91496065e74f0", checked := Try.checked }
namespace Rows
def none {H : Type} : Left H := { results := [], args := [] }

/-- 'laws.FnExactSameSun': WHATEVER THE INPUT: true; the input reads as it did. -/
def fnExactSameSunSpec : ChangeSpec := { name := "fnExactSameSun", fn := fun _ => fun
  | [d1, d2] => { results := [.lit (.bool true)], args := [d1, d2] }
  | _ => none }
def fnExactSameSunRow : OpenClaim := { program := "ytjodamgdoodnkaa", sum := "4f5b8bfaeaebe98fa6c616f2047b0aa38f12c5c7edce194279f91496065e74f0", func := "loop.example/g01367/laws.FnExactSameSun", spec := "fnExactSameSun", apart := false }
def FnExactSameSunSaid : Prop := fnExactSameSunRow.holds Try.pinned (OpenSpec.ofChange fnExactSameSunSpec)

/-- ITS FALSE NEIGHBOUR: 'it returns false'. Refute it at one input. -/
def fnExactSameSunWrong : ChangeSpec := { name := "fnExactSameSun", fn := fun _ => fun
  | [d1, d2] => { results := [.lit (.bool false)], args := [d1, d2] }
  | _ => none }
def FnExactSameSunWrongFalsely : Prop := fnExactSameSunRow.holds Try.pinned (OpenSpec.ofChange fnExactSameSunWrong)

/-- 'laws.FnExactValidSun': WHATEVER THE INPUT: true; the input reads as it did. -/
def fnExactValidSunSpec : ChangeSpec := { name := "fnExactValidSun", fn := fun _ => fun
  | [d] => { results := [.lit (.bool true)], args := [d] }
  | _ => none }
def fnExactValidSunRow : OpenClaim := { program := "ytjodamgdoodnkaa", sum := "4f5b8bfaeaebe98fa6c616f2047b0aa38f12c5c7edce194279f91496065e74f0", func := "loop.example/g01367/laws.FnExactValidSun", spec := "fnExactValidSun", apart := false }
def FnExactValidSunSaid : Prop := fnExactValidSunRow.holds Try.pinned (OpenSpec.ofChange fnExactValidSunSpec)

/-- ITS FALSE NEIGHBOUR: 'it returns false'. Refute it at one input. -/
def fnExactValidSunWrong : ChangeSpec := { name := "fnExactValidSun", fn := fun _ => fun
  | [d] => { results := [.lit (.bool false)], args := [d] }
  | _ => none }
def FnExactValidSunWrongFalsely : Prop := fnExactValidSunRow.holds Try.pinned (OpenSpec.ofChange fnExactValidSunWrong)

/-- 'laws.FnExactIsUp': WHATEVER THE INPUT: true; the input reads as it did. -/
def fnExactIsUpSpec : ChangeSpec := { name := "fnExactIsUp", fn := fun _ => fun
  | [d1, d2] => { results := [.lit (.bool true)], args := [d1, d2] }
  | _ => none }
def fnExactIsUpRow : OpenClaim := { program := "ytjodamgdoodnkaa", sum := "4f5b8bfaeaebe98fa6c616f2047b0aa38f12c5c7edce194279f91496065e74f0", func := "loop.example/g01367/laws.FnExactIsUp", spec := "fnExactIsUp", apart := false }
def FnExactIsUpSaid : Prop := fnExactIsUpRow.holds Try.pinned (OpenSpec.ofChange fnExactIsUpSpec)

/-- ITS FALSE NEIGHBOUR: 'it returns false'. Refute it at one input. -/
def fnExactIsUpWrong : ChangeSpec := { name := "fnExactIsUp", fn := fun _ => fun
  | [d1, d2] => { results := [.lit (.bool false)], args := [d1, d2] }
  | _ => none }
def FnExactIsUpWrongFalsely : Prop := fnExactIsUpRow.holds Try.pinned (OpenSpec.ofChange fnExactIsUpWrong)

/-- 'laws.FnExactMirrorSun': WHATEVER THE INPUT: true; the input reads as it did. -/
def fnExactMirrorSunSpec : ChangeSpec := { name := "fnExactMirrorSun", fn := fun _ => fun
  | [d] => { results := [.lit (.bool true)], args := [d] }
  | _ => none }
def fnExactMirrorSunRow : OpenClaim := { program := "ytjodamgdoodnkaa", sum := "4f5b8bfaeaebe98fa6c616f2047b0aa38f12c5c7edce194279f91496065e74f0", func := "loop.example/g01367/laws.FnExactMirrorSun", spec := "fnExactMirrorSun", apart := false }
def FnExactMirrorSunSaid : Prop := fnExactMirrorSunRow.holds Try.pinned (OpenSpec.ofChange fnExactMirrorSunSpec)

/-- ITS FALSE NEIGHBOUR: 'it returns false'. Refute it at one input. -/
def fnExactMirrorSunWrong : ChangeSpec := { name := "fnExactMirrorSun", fn := fun _ => fun
  | [d] => { results := [.lit (.bool false)], args := [d] }
  | _ => none }
def FnExactMirrorSunWrongFalsely : Prop := fnExactMirrorSunRow.holds Try.pinned (OpenSpec.ofChange fnExactMirrorSunWrong)

/-- 'laws.FnExactLaterSun': WHATEVER THE INPUT: true; the input reads as it did. -/
def fnExactLaterSunSpec : ChangeSpec := { name := "fnExactLaterSun", fn := fun _ => fun
  | [d1, d2] => { results := [.lit (.bool true)], args := [d1, d2] }
  | _ => none }
def fnExactLaterSunRow : OpenClaim := { program := "ytjodamgdoodnkaa", sum := "4f5b8bfaeaebe98fa6c616f2047b0aa38f12c5c7edce194279f91496065e74f0", func := "loop.example/g01367/laws.FnExactLaterSun", spec := "fnExactLaterSun", apart := false }
def FnExactLaterSunSaid : Prop := fnExactLaterSunRow.holds Try.pinned (OpenSpec.ofChange fnExactLaterSunSpec)

/-- ITS FALSE NEIGHBOUR: 'it returns false'. Refute it at one input. -/
def fnExactLaterSunWrong : ChangeSpec := { name := "fnExactLaterSun", fn := fun _ => fun
  | [d1, d2] => { results := [.lit (.bool false)], args := [d1, d2] }
  | _ => none }
def FnExactLaterSunWrongFalsely : Prop := fnExactLaterSunRow.holds Try.pinned (OpenSpec.ofChange fnExactLaterSunWrong)

/-- 'laws.FnExactGroundLight': WHATEVER THE INPUT: true; the input reads as it did. -/
def fnExactGroundLightSpec : ChangeSpec := { name := "fnExactGroundLight", fn := fun _ => fun
  | [d1, d2] => { results := [.lit (.bool true)], args := [d1, d2] }
  | _ => none }
def fnExactGroundLightRow : OpenClaim := { program := "ytjodamgdoodnkaa", sum := "4f5b8bfaeaebe98fa6c616f2047b0aa38f12c5c7edce194279f91496065e74f0", func := "loop.example/g01367/laws.FnExactGroundLight", spec := "fnExactGroundLight", recurses := true, apart := false }
def FnExactGroundLightSaid : Prop := fnExactGroundLightRow.holds Try.pinned (OpenSpec.ofChange fnExactGroundLightSpec)

/-- ITS FALSE NEIGHBOUR: 'it returns false'. Refute it at one input. -/
def fnExactGroundLightWrong : ChangeSpec := { name := "fnExactGroundLight", fn := fun _ => fun
  | [d1, d2] => { results := [.lit (.bool false)], args := [d1, d2] }
  | _ => none }
def FnExactGroundLightWrongFalsely : Prop := fnExactGroundLightRow.holds Try.pinned (OpenSpec.ofChange fnExactGroundLightWrong)

/-- 'laws.FnExactGroundDay': WHATEVER THE INPUT: true; the input reads as it did. -/
def fnExactGroundDaySpec : ChangeSpec := { name := "fnExactGroundDay", fn := fun _ => fun
  | [d] => { results := [.lit (.bool true)], args := [d] }
  | _ => none }
def fnExactGroundDayRow : OpenClaim := { program := "ytjodamgdoodnkaa", sum := "4f5b8bfaeaebe98fa6c616f2047b0aa38f12c5c7edce194279f91496065e74f0", func := "loop.example/g01367/laws.FnExactGroundDay", spec := "fnExactGroundDay", unfollowed := true, recurses := true, apart := false }
def FnExactGroundDaySaid : Prop := fnExactGroundDayRow.holds Try.pinned (OpenSpec.ofChange fnExactGroundDaySpec)

/-- ITS FALSE NEIGHBOUR: 'it returns false'. Refute it at one input. -/
def fnExactGroundDayWrong : ChangeSpec := { name := "fnExactGroundDay", fn := fun _ => fun
  | [d] => { results := [.lit (.bool false)], args := [d] }
  | _ => none }
def FnExactGroundDayWrongFalsely : Prop := fnExactGroundDayRow.holds Try.pinned (OpenSpec.ofChange fnExactGroundDayWrong)

/-- 'laws.FnExactFallOn': WHATEVER THE INPUT: true; the input reads as it did. -/
def fnExactFallOnSpec : ChangeSpec := { name := "fnExactFallOn", fn := fun _ => fun
  | [d1, d2, d3] => { results := [.lit (.bool true)], args := [d1, d2, d3] }
  | _ => none }
def fnExactFallOnRow : OpenClaim := { program := "ytjodamgdoodnkaa", sum := "4f5b8bfaeaebe98fa6c616f2047b0aa38f12c5c7edce194279f91496065e74f0", func := "loop.example/g01367/laws.FnExactFallOn", spec := "fnExactFallOn", recurses := true, apart := false }
def FnExactFallOnSaid : Prop := fnExactFallOnRow.holds Try.pinned (OpenSpec.ofChange fnExactFallOnSpec)

/-- ITS FALSE NEIGHBOUR: 'it returns false'. Refute it at one input. -/
def fnExactFallOnWrong : ChangeSpec := { name := "fnExactFallOn", fn := fun _ => fun
  | [d1, d2, d3] => { results := [.lit (.bool false)], args := [d1, d2, d3] }
  | _ => none }
def FnExactFallOnWrongFalsely : Prop := fnExactFallOnRow.holds Try.pinned (OpenSpec.ofChange fnExactFallOnWrong)

/-- 'laws.FnExactFallDay': WHATEVER THE INPUT: true; the input reads as it did. -/
def fnExactFallDaySpec : ChangeSpec := { name := "fnExactFallDay", fn := fun _ => fun
  | [d1, d2] => { results := [.lit (.bool true)], args := [d1, d2] }
  | _ => none }
def fnExactFallDayRow : OpenClaim := { program := "ytjodamgdoodnkaa", sum := "4f5b8bfaeaebe98fa6c616f2047b0aa38f12c5c7edce194279f91496065e74f0", func := "loop.example/g01367/laws.FnExactFallDay", spec := "fnExactFallDay", unfollowed := true, recurses := true, apart := false }
def FnExactFallDaySaid : Prop := fnExactFallDayRow.holds Try.pinned (OpenSpec.ofChange fnExactFallDaySpec)

/-- ITS FALSE NEIGHBOUR: 'it returns false'. Refute it at one input. -/
def fnExactFallDayWrong : ChangeSpec := { name := "fnExactFallDay", fn := fun _ => fun
  | [d1, d2] => { results := [.lit (.bool false)], args := [d1, d2] }
  | _ => none }
def FnExactFallDayWrongFalsely : Prop := fnExactFallDayRow.holds Try.pinned (OpenSpec.ofChange fnExactFallDayWrong)

/-- 'laws.FnExactBestHour': WHATEVER THE INPUT: true; the input reads as it did. -/
def fnExactBestHourSpec : ChangeSpec := { name := "fnExactBestHour", fn := fun _ => fun
  | [d1, d2] => { results := [.lit (.bool true)], args := [d1, d2] }
  | _ => none }
def fnExactBestHourRow : OpenClaim := { program := "ytjodamgdoodnkaa", sum := "4f5b8bfaeaebe98fa6c616f2047b0aa38f12c5c7edce194279f91496065e74f0", func := "loop.example/g01367/laws.FnExactBestHour", spec := "fnExactBestHour", unfollowed := true, recurses := true, apart := false }
def FnExactBestHourSaid : Prop := fnExactBestHourRow.holds Try.pinned (OpenSpec.ofChange fnExactBestHourSpec)

/-- ITS FALSE NEIGHBOUR: 'it returns false'. Refute it at one input. -/
def fnExactBestHourWrong : ChangeSpec := { name := "fnExactBestHour", fn := fun _ => fun
  | [d1, d2] => { results := [.lit (.bool false)], args := [d1, d2] }
  | _ => none }
def FnExactBestHourWrongFalsely : Prop := fnExactBestHourRow.holds Try.pinned (OpenSpec.ofChange fnExactBestHourWrong)

/-- 'laws.FnExactBestFacing': WHATEVER THE INPUT: true; the input reads as it did. -/
def fnExactBestFacingSpec : ChangeSpec := { name := "fnExactBestFacing", fn := fun _ => fun
  | [d] => { results := [.lit (.bool true)], args := [d] }
  | _ => none }
def fnExactBestFacingRow : OpenClaim := { program := "ytjodamgdoodnkaa", sum := "4f5b8bfaeaebe98fa6c616f2047b0aa38f12c5c7edce194279f91496065e74f0", func := "loop.example/g01367/laws.FnExactBestFacing", spec := "fnExactBestFacing", unfollowed := true, recurses := true, apart := false }
def FnExactBestFacingSaid : Prop := fnExactBestFacingRow.holds Try.pinned (OpenSpec.ofChange fnExactBestFacingSpec)

/-- ITS FALSE NEIGHBOUR: 'it returns false'. Refute it at one input. -/
def fnExactBestFacingWrong : ChangeSpec := { name := "fnExactBestFacing", fn := fun _ => fun
  | [d] => { results := [.lit (.bool false)], args := [d] }
  | _ => none }
def FnExactBestFacingWrongFalsely : Prop := fnExactBestFacingRow.holds Try.pinned (OpenSpec.ofChange fnExactBestFacingWrong)

/-- 'laws.FnExactSunHours': WHATEVER THE INPUT: true; the input reads as it did. -/
def fnExactSunHoursSpec : ChangeSpec := { name := "fnExactSunHours", fn := fun _ => fun
  | [d1, d2, d3] => { results := [.lit (.bool true)], args := [d1, d2, d3] }
  | _ => none }
def fnExactSunHoursRow : OpenClaim := { program := "ytjodamgdoodnkaa", sum := "4f5b8bfaeaebe98fa6c616f2047b0aa38f12c5c7edce194279f91496065e74f0", func := "loop.example/g01367/laws.FnExactSunHours", spec := "fnExactSunHours", recurses := true, apart := false }
def FnExactSunHoursSaid : Prop := fnExactSunHoursRow.holds Try.pinned (OpenSpec.ofChange fnExactSunHoursSpec)

/-- ITS FALSE NEIGHBOUR: 'it returns false'. Refute it at one input. -/
def fnExactSunHoursWrong : ChangeSpec := { name := "fnExactSunHours", fn := fun _ => fun
  | [d1, d2, d3] => { results := [.lit (.bool false)], args := [d1, d2, d3] }
  | _ => none }
def FnExactSunHoursWrongFalsely : Prop := fnExactSunHoursRow.holds Try.pinned (OpenSpec.ofChange fnExactSunHoursWrong)

/- THE SECOND FORM. 'bulk': how many values and letters a reading holds, each counted each time it is reached (what is shared counts as often as it is met; a slice's spare places count too). A statement '..UptoSaid' is the law's where the arguments, and the package variables that the reading takes, are together of bulk at most 1048576: NARROWER than '..Said'. Prove '..Said' where nothing that the law and all that it calls make is longer than what came in: it says more and counts as full. Else prove '..UptoSaid'. A law counts once. -/
mutual
def uptoBulk {H : Type} : DataW H → Nat
  | .lit (.string bytes) => bytes.length + 1
  | .lit _ => 1
  | .nil => 1
  | .ptr d => uptoBulk d + 1
  | .slice elems spare => uptoBulkAll elems + uptoBulkAll spare + 1
  | .agg parts => uptoBulkAll parts + 1
  | .iface _ d => uptoBulk d + 1
  | .map entries => uptoBulkEntries entries + 1
  | .held _ => 1
def uptoBulkAll {H : Type} : List (DataW H) → Nat
  | [] => 0
  | d :: r => uptoBulk d + uptoBulkAll r
def uptoBulkEntries {H : Type} : List (Lit × DataW H) → Nat
  | [] => 0
  | x :: r => uptoBulkEntry x + uptoBulkEntries r
def uptoBulkEntry {H : Type} : Lit × DataW H → Nat
  | (.string bytes, d) => bytes.length + uptoBulk d + 1
  | (_, d) => uptoBulk d + 1
 end
def uptoSmall : (H : Type) → List (DataW H) → Bool := fun _ ds => decide (uptoBulkAll ds ≤ 1048576)
def OpenSpec.upto (s : _root_.Go.ChangeSpec) : _root_.Go.OpenSpec := { _root_.Go.OpenSpec.ofChange s with cond := some uptoSmall }

/-- 'laws.FnExactSameSun', WHERE WHAT IT READS IS OF BULK AT MOST 1048576: true; the input reads as it did. -/
def fnExactSameSunUptoRow : OpenClaim := { program := "ytjodamgdoodnkaa", sum := "4f5b8bfaeaebe98fa6c616f2047b0aa38f12c5c7edce194279f91496065e74f0", func := "loop.example/g01367/laws.FnExactSameSun", spec := "fnExactSameSun", apart := false, narrowed := true }
def FnExactSameSunUptoSaid : Prop := fnExactSameSunUptoRow.holds Try.pinned (OpenSpec.upto fnExactSameSunSpec)

/-- 'laws.FnExactValidSun', WHERE WHAT IT READS IS OF BULK AT MOST 1048576: true; the input reads as it did. -/
def fnExactValidSunUptoRow : OpenClaim := { program := "ytjodamgdoodnkaa", sum := "4f5b8bfaeaebe98fa6c616f2047b0aa38f12c5c7edce194279f91496065e74f0", func := "loop.example/g01367/laws.FnExactValidSun", spec := "fnExactValidSun", apart := false, narrowed := true }
def FnExactValidSunUptoSaid : Prop := fnExactValidSunUptoRow.holds Try.pinned (OpenSpec.upto fnExactValidSunSpec)

/-- 'laws.FnExactIsUp', WHERE WHAT IT READS IS OF BULK AT MOST 1048576: true; the input reads as it did. -/
def fnExactIsUpUptoRow : OpenClaim := { program := "ytjodamgdoodnkaa", sum := "4f5b8bfaeaebe98fa6c616f2047b0aa38f12c5c7edce194279f91496065e74f0", func := "loop.example/g01367/laws.FnExactIsUp", spec := "fnExactIsUp", apart := false, narrowed := true }
def FnExactIsUpUptoSaid : Prop := fnExactIsUpUptoRow.holds Try.pinned (OpenSpec.upto fnExactIsUpSpec)

/-- 'laws.FnExactMirrorSun', WHERE WHAT IT READS IS OF BULK AT MOST 1048576: true; the input reads as it did. -/
def fnExactMirrorSunUptoRow : OpenClaim := { program := "ytjodamgdoodnkaa", sum := "4f5b8bfaeaebe98fa6c616f2047b0aa38f12c5c7edce194279f91496065e74f0", func := "loop.example/g01367/laws.FnExactMirrorSun", spec := "fnExactMirrorSun", apart := false, narrowed := true }
def FnExactMirrorSunUptoSaid : Prop := fnExactMirrorSunUptoRow.holds Try.pinned (OpenSpec.upto fnExactMirrorSunSpec)

/-- 'laws.FnExactLaterSun', WHERE WHAT IT READS IS OF BULK AT MOST 1048576: true; the input reads as it did. -/
def fnExactLaterSunUptoRow : OpenClaim := { program := "ytjodamgdoodnkaa", sum := "4f5b8bfaeaebe98fa6c616f2047b0aa38f12c5c7edce194279f91496065e74f0", func := "loop.example/g01367/laws.FnExactLaterSun", spec := "fnExactLaterSun", apart := false, narrowed := true }
def FnExactLaterSunUptoSaid : Prop := fnExactLaterSunUptoRow.holds Try.pinned (OpenSpec.upto fnExactLaterSunSpec)

/-- 'laws.FnExactGroundLight', WHERE WHAT IT READS IS OF BULK AT MOST 1048576: true; the input reads as it did. -/
def fnExactGroundLightUptoRow : OpenClaim := { program := "ytjodamgdoodnkaa", sum := "4f5b8bfaeaebe98fa6c616f2047b0aa38f12c5c7edce194279f91496065e74f0", func := "loop.example/g01367/laws.FnExactGroundLight", spec := "fnExactGroundLight", recurses := true, apart := false, narrowed := true }
def FnExactGroundLightUptoSaid : Prop := fnExactGroundLightUptoRow.holds Try.pinned (OpenSpec.upto fnExactGroundLightSpec)

/-- 'laws.FnExactGroundDay', WHERE WHAT IT READS IS OF BULK AT MOST 1048576: true; the input reads as it did. -/
def fnExactGroundDayUptoRow : OpenClaim := { program := "ytjodamgdoodnkaa", sum := "4f5b8bfaeaebe98fa6c616f2047b0aa38f12c5c7edce194279f91496065e74f0", func := "loop.example/g01367/laws.FnExactGroundDay", spec := "fnExactGroundDay", unfollowed := true, recurses := true, apart := false, narrowed := true }
def FnExactGroundDayUptoSaid : Prop := fnExactGroundDayUptoRow.holds Try.pinned (OpenSpec.upto fnExactGroundDaySpec)

/-- 'laws.FnExactFallOn', WHERE WHAT IT READS IS OF BULK AT MOST 1048576: true; the input reads as it did. -/
def fnExactFallOnUptoRow : OpenClaim := { program := "ytjodamgdoodnkaa", sum := "4f5b8bfaeaebe98fa6c616f2047b0aa38f12c5c7edce194279f91496065e74f0", func := "loop.example/g01367/laws.FnExactFallOn", spec := "fnExactFallOn", recurses := true, apart := false, narrowed := true }
def FnExactFallOnUptoSaid : Prop := fnExactFallOnUptoRow.holds Try.pinned (OpenSpec.upto fnExactFallOnSpec)

/-- 'laws.FnExactFallDay', WHERE WHAT IT READS IS OF BULK AT MOST 1048576: true; the input reads as it did. -/
def fnExactFallDayUptoRow : OpenClaim := { program := "ytjodamgdoodnkaa", sum := "4f5b8bfaeaebe98fa6c616f2047b0aa38f12c5c7edce194279f91496065e74f0", func := "loop.example/g01367/laws.FnExactFallDay", spec := "fnExactFallDay", unfollowed := true, recurses := true, apart := false, narrowed := true }
def FnExactFallDayUptoSaid : Prop := fnExactFallDayUptoRow.holds Try.pinned (OpenSpec.upto fnExactFallDaySpec)

/-- 'laws.FnExactBestHour', WHERE WHAT IT READS IS OF BULK AT MOST 1048576: true; the input reads as it did. -/
def fnExactBestHourUptoRow : OpenClaim := { program := "ytjodamgdoodnkaa", sum := "4f5b8bfaeaebe98fa6c616f2047b0aa38f12c5c7edce194279f91496065e74f0", func := "loop.example/g01367/laws.FnExactBestHour", spec := "fnExactBestHour", unfollowed := true, recurses := true, apart := false, narrowed := true }
def FnExactBestHourUptoSaid : Prop := fnExactBestHourUptoRow.holds Try.pinned (OpenSpec.upto fnExactBestHourSpec)

/-- 'laws.FnExactBestFacing', WHERE WHAT IT READS IS OF BULK AT MOST 1048576: true; the input reads as it did. -/
def fnExactBestFacingUptoRow : OpenClaim := { program := "ytjodamgdoodnkaa", sum := "4f5b8bfaeaebe98fa6c616f2047b0aa38f12c5c7edce194279f91496065e74f0", func := "loop.example/g01367/laws.FnExactBestFacing", spec := "fnExactBestFacing", unfollowed := true, recurses := true, apart := false, narrowed := true }
def FnExactBestFacingUptoSaid : Prop := fnExactBestFacingUptoRow.holds Try.pinned (OpenSpec.upto fnExactBestFacingSpec)

/-- 'laws.FnExactSunHours', WHERE WHAT IT READS IS OF BULK AT MOST 1048576: true; the input reads as it did. -/
def fnExactSunHoursUptoRow : OpenClaim := { program := "ytjodamgdoodnkaa", sum := "4f5b8bfaeaebe98fa6c616f2047b0aa38f12c5c7edce194279f91496065e74f0", func := "loop.example/g01367/laws.FnExactSunHours", spec := "fnExactSunHours", recurses := true, apart := false, narrowed := true }
def FnExactSunHoursUptoSaid : Prop := fnExactSunHoursUptoRow.holds Try.pinned (OpenSpec.upto fnExactSunHoursSpec)

end Rows
end Go.Proofs.Ytjodamgdoodnkaa
