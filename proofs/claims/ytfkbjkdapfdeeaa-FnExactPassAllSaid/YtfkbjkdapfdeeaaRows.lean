/-
  No cell of these rows narrows 'for every input' (looked for: loops, veiled, ifaces, maps, wideKeys, modest, calm, conditions, laid).
  DERIVED. THE GIVEN ROWS OF THIS SEAT. 14 by the template 'for every input the law returns true; each argument reads behind the call as it read before'; 0 by the template 'total and deterministic' (their statements: YtfkbjkdapfdeeaaTotals.lean).
  GIVEN WITH THE SEED: the statements are not yours to turn. If you find one false, say at which input.
  Laid BY PROGRAM, IN A SANDBOX (cutbox-rows.mjs): the forced cells as the released guide's own fill.sh prints them over the translation e9f42a81ced45746… (all of the seat's roots in one cut). By AI agents, Wed Nov 11 2026. No macro, syntax, notation, axiom, sorry.
-/
import Derived.Test.YtfkbjkdapfdeeaaChecked
import GoSem.Claim
import GoSem.ClaimJoined
import GoSem.ClaimMapViews
import Derived.JoinedTies
import Derived.KernelRfl
namespace Go.Proofs.Ytfkbjkdapfdeeaa
/- THE CELL 'sum', in the pinned program and in every row, IS THE sha256 OF THE DUMP (.gsa) THAT YtfkbjkdapfdeeaaProg.lean LOADS. Nothing in Lean hashes anything: it is a label: what it is worth is what the hold of that sum in a sandbox is worth. -/
noncomputable def Try.pinned : Pinned := { name := "ytfkbjkdapfdeeaa", sum := "e9f42a81ced45746a3393186e08700fcf68c9f7752b5e0c36b248da1820f1999", checked := Try.checked }
namespace Rows
def none {H : Type} : Left H := { results := [], args := [] }

/-- 'laws.FnExactSameBlind': WHATEVER THE INPUT: true; the input reads as it did. -/
def fnExactSameBlindSpec : ChangeSpec := { name := "fnExactSameBlind", fn := fun _ => fun
  | [d1, d2] => { results := [.lit (.bool true)], args := [d1, d2] }
  | _ => none }
def fnExactSameBlindRow : OpenClaim := { program := "ytfkbjkdapfdeeaa", sum := "e9f42a81ced45746a3393186e08700fcf68c9f7752b5e0c36b248da1820f1999", func := "loop.example/g01367/laws.FnExactSameBlind", spec := "fnExactSameBlind", inPlace := ["math.Float32bits"], apart := false }
def FnExactSameBlindSaid : Prop := fnExactSameBlindRow.holds Try.pinned (OpenSpec.ofChange fnExactSameBlindSpec)

/-- ITS FALSE NEIGHBOUR: 'it returns false'. Refute it at one input. -/
def fnExactSameBlindWrong : ChangeSpec := { name := "fnExactSameBlind", fn := fun _ => fun
  | [d1, d2] => { results := [.lit (.bool false)], args := [d1, d2] }
  | _ => none }
def FnExactSameBlindWrongFalsely : Prop := fnExactSameBlindRow.holds Try.pinned (OpenSpec.ofChange fnExactSameBlindWrong)

/-- 'laws.FnExactValidBlind': WHATEVER THE INPUT: true; the input reads as it did. -/
def fnExactValidBlindSpec : ChangeSpec := { name := "fnExactValidBlind", fn := fun _ => fun
  | [d] => { results := [.lit (.bool true)], args := [d] }
  | _ => none }
def fnExactValidBlindRow : OpenClaim := { program := "ytfkbjkdapfdeeaa", sum := "e9f42a81ced45746a3393186e08700fcf68c9f7752b5e0c36b248da1820f1999", func := "loop.example/g01367/laws.FnExactValidBlind", spec := "fnExactValidBlind", apart := false }
def FnExactValidBlindSaid : Prop := fnExactValidBlindRow.holds Try.pinned (OpenSpec.ofChange fnExactValidBlindSpec)

/-- ITS FALSE NEIGHBOUR: 'it returns false'. Refute it at one input. -/
def fnExactValidBlindWrong : ChangeSpec := { name := "fnExactValidBlind", fn := fun _ => fun
  | [d] => { results := [.lit (.bool false)], args := [d] }
  | _ => none }
def FnExactValidBlindWrongFalsely : Prop := fnExactValidBlindRow.holds Try.pinned (OpenSpec.ofChange fnExactValidBlindWrong)

/-- 'laws.FnExactTiltTo': WHATEVER THE INPUT: true; the input reads as it did. -/
def fnExactTiltToSpec : ChangeSpec := { name := "fnExactTiltTo", fn := fun _ => fun
  | [d1, d2] => { results := [.lit (.bool true)], args := [d1, d2] }
  | _ => none }
def fnExactTiltToRow : OpenClaim := { program := "ytfkbjkdapfdeeaa", sum := "e9f42a81ced45746a3393186e08700fcf68c9f7752b5e0c36b248da1820f1999", func := "loop.example/g01367/laws.FnExactTiltTo", spec := "fnExactTiltTo", apart := false }
def FnExactTiltToSaid : Prop := fnExactTiltToRow.holds Try.pinned (OpenSpec.ofChange fnExactTiltToSpec)

/-- ITS FALSE NEIGHBOUR: 'it returns false'. Refute it at one input. -/
def fnExactTiltToWrong : ChangeSpec := { name := "fnExactTiltTo", fn := fun _ => fun
  | [d1, d2] => { results := [.lit (.bool false)], args := [d1, d2] }
  | _ => none }
def FnExactTiltToWrongFalsely : Prop := fnExactTiltToRow.holds Try.pinned (OpenSpec.ofChange fnExactTiltToWrong)

/-- 'laws.FnExactHighOf': WHATEVER THE INPUT: true; the input reads as it did. -/
def fnExactHighOfSpec : ChangeSpec := { name := "fnExactHighOf", fn := fun _ => fun
  | [d] => { results := [.lit (.bool true)], args := [d] }
  | _ => none }
def fnExactHighOfRow : OpenClaim := { program := "ytfkbjkdapfdeeaa", sum := "e9f42a81ced45746a3393186e08700fcf68c9f7752b5e0c36b248da1820f1999", func := "loop.example/g01367/laws.FnExactHighOf", spec := "fnExactHighOf", apart := false }
def FnExactHighOfSaid : Prop := fnExactHighOfRow.holds Try.pinned (OpenSpec.ofChange fnExactHighOfSpec)

/-- ITS FALSE NEIGHBOUR: 'it returns false'. Refute it at one input. -/
def fnExactHighOfWrong : ChangeSpec := { name := "fnExactHighOf", fn := fun _ => fun
  | [d] => { results := [.lit (.bool false)], args := [d] }
  | _ => none }
def FnExactHighOfWrongFalsely : Prop := fnExactHighOfRow.holds Try.pinned (OpenSpec.ofChange fnExactHighOfWrong)

/-- 'laws.FnExactBlockedBy': WHATEVER THE INPUT: true; the input reads as it did. -/
def fnExactBlockedBySpec : ChangeSpec := { name := "fnExactBlockedBy", fn := fun _ => fun
  | [d1, d2] => { results := [.lit (.bool true)], args := [d1, d2] }
  | _ => none }
def fnExactBlockedByRow : OpenClaim := { program := "ytfkbjkdapfdeeaa", sum := "e9f42a81ced45746a3393186e08700fcf68c9f7752b5e0c36b248da1820f1999", func := "loop.example/g01367/laws.FnExactBlockedBy", spec := "fnExactBlockedBy", recurses := true, apart := false }
def FnExactBlockedBySaid : Prop := fnExactBlockedByRow.holds Try.pinned (OpenSpec.ofChange fnExactBlockedBySpec)

/-- ITS FALSE NEIGHBOUR: 'it returns false'. Refute it at one input. -/
def fnExactBlockedByWrong : ChangeSpec := { name := "fnExactBlockedBy", fn := fun _ => fun
  | [d1, d2] => { results := [.lit (.bool false)], args := [d1, d2] }
  | _ => none }
def FnExactBlockedByWrongFalsely : Prop := fnExactBlockedByRow.holds Try.pinned (OpenSpec.ofChange fnExactBlockedByWrong)

/-- 'laws.FnExactOpenFor': WHATEVER THE INPUT: true; the input reads as it did. -/
def fnExactOpenForSpec : ChangeSpec := { name := "fnExactOpenFor", fn := fun _ => fun
  | [d1, d2] => { results := [.lit (.bool true)], args := [d1, d2] }
  | _ => none }
def fnExactOpenForRow : OpenClaim := { program := "ytfkbjkdapfdeeaa", sum := "e9f42a81ced45746a3393186e08700fcf68c9f7752b5e0c36b248da1820f1999", func := "loop.example/g01367/laws.FnExactOpenFor", spec := "fnExactOpenFor", recurses := true, apart := false }
def FnExactOpenForSaid : Prop := fnExactOpenForRow.holds Try.pinned (OpenSpec.ofChange fnExactOpenForSpec)

/-- ITS FALSE NEIGHBOUR: 'it returns false'. Refute it at one input. -/
def fnExactOpenForWrong : ChangeSpec := { name := "fnExactOpenFor", fn := fun _ => fun
  | [d1, d2] => { results := [.lit (.bool false)], args := [d1, d2] }
  | _ => none }
def FnExactOpenForWrongFalsely : Prop := fnExactOpenForRow.holds Try.pinned (OpenSpec.ofChange fnExactOpenForWrong)

/-- 'laws.FnExactPassFor': WHATEVER THE INPUT: true; the input reads as it did. -/
def fnExactPassForSpec : ChangeSpec := { name := "fnExactPassFor", fn := fun _ => fun
  | [d1, d2] => { results := [.lit (.bool true)], args := [d1, d2] }
  | _ => none }
def fnExactPassForRow : OpenClaim := { program := "ytfkbjkdapfdeeaa", sum := "e9f42a81ced45746a3393186e08700fcf68c9f7752b5e0c36b248da1820f1999", func := "loop.example/g01367/laws.FnExactPassFor", spec := "fnExactPassFor", recurses := true, apart := false }
def FnExactPassForSaid : Prop := fnExactPassForRow.holds Try.pinned (OpenSpec.ofChange fnExactPassForSpec)

/-- ITS FALSE NEIGHBOUR: 'it returns false'. Refute it at one input. -/
def fnExactPassForWrong : ChangeSpec := { name := "fnExactPassFor", fn := fun _ => fun
  | [d1, d2] => { results := [.lit (.bool false)], args := [d1, d2] }
  | _ => none }
def FnExactPassForWrongFalsely : Prop := fnExactPassForRow.holds Try.pinned (OpenSpec.ofChange fnExactPassForWrong)

/-- 'laws.FnExactPassAll': WHATEVER THE INPUT: true; the input reads as it did. -/
def fnExactPassAllSpec : ChangeSpec := { name := "fnExactPassAll", fn := fun _ => fun
  | [d1, d2] => { results := [.lit (.bool true)], args := [d1, d2] }
  | _ => none }
def fnExactPassAllRow : OpenClaim := { program := "ytfkbjkdapfdeeaa", sum := "e9f42a81ced45746a3393186e08700fcf68c9f7752b5e0c36b248da1820f1999", func := "loop.example/g01367/laws.FnExactPassAll", spec := "fnExactPassAll", recurses := true, apart := false }
def FnExactPassAllSaid : Prop := fnExactPassAllRow.holds Try.pinned (OpenSpec.ofChange fnExactPassAllSpec)

/-- ITS FALSE NEIGHBOUR: 'it returns false'. Refute it at one input. -/
def fnExactPassAllWrong : ChangeSpec := { name := "fnExactPassAll", fn := fun _ => fun
  | [d1, d2] => { results := [.lit (.bool false)], args := [d1, d2] }
  | _ => none }
def FnExactPassAllWrongFalsely : Prop := fnExactPassAllRow.holds Try.pinned (OpenSpec.ofChange fnExactPassAllWrong)

/-- 'laws.FnExactGapFor': WHATEVER THE INPUT: true; the input reads as it did. -/
def fnExactGapForSpec : ChangeSpec := { name := "fnExactGapFor", fn := fun _ => fun
  | [d1, d2, d3] => { results := [.lit (.bool true)], args := [d1, d2, d3] }
  | _ => none }
def fnExactGapForRow : OpenClaim := { program := "ytfkbjkdapfdeeaa", sum := "e9f42a81ced45746a3393186e08700fcf68c9f7752b5e0c36b248da1820f1999", func := "loop.example/g01367/laws.FnExactGapFor", spec := "fnExactGapFor", unfollowed := true, recurses := true, apart := false }
def FnExactGapForSaid : Prop := fnExactGapForRow.holds Try.pinned (OpenSpec.ofChange fnExactGapForSpec)

/-- ITS FALSE NEIGHBOUR: 'it returns false'. Refute it at one input. -/
def fnExactGapForWrong : ChangeSpec := { name := "fnExactGapFor", fn := fun _ => fun
  | [d1, d2, d3] => { results := [.lit (.bool false)], args := [d1, d2, d3] }
  | _ => none }
def FnExactGapForWrongFalsely : Prop := fnExactGapForRow.holds Try.pinned (OpenSpec.ofChange fnExactGapForWrong)

/-- 'laws.FnExactCutOff': WHATEVER THE INPUT: true; the input reads as it did. -/
def fnExactCutOffSpec : ChangeSpec := { name := "fnExactCutOff", fn := fun _ => fun
  | [d1, d2] => { results := [.lit (.bool true)], args := [d1, d2] }
  | _ => none }
def fnExactCutOffRow : OpenClaim := { program := "ytfkbjkdapfdeeaa", sum := "e9f42a81ced45746a3393186e08700fcf68c9f7752b5e0c36b248da1820f1999", func := "loop.example/g01367/laws.FnExactCutOff", spec := "fnExactCutOff", unfollowed := true, recurses := true, apart := false }
def FnExactCutOffSaid : Prop := fnExactCutOffRow.holds Try.pinned (OpenSpec.ofChange fnExactCutOffSpec)

/-- ITS FALSE NEIGHBOUR: 'it returns false'. Refute it at one input. -/
def fnExactCutOffWrong : ChangeSpec := { name := "fnExactCutOff", fn := fun _ => fun
  | [d1, d2] => { results := [.lit (.bool false)], args := [d1, d2] }
  | _ => none }
def FnExactCutOffWrongFalsely : Prop := fnExactCutOffRow.holds Try.pinned (OpenSpec.ofChange fnExactCutOffWrong)

/-- 'laws.FnExactShutTilts': WHATEVER THE INPUT: true; the input reads as it did. -/
def fnExactShutTiltsSpec : ChangeSpec := { name := "fnExactShutTilts", fn := fun _ => fun
  | [d1, d2] => { results := [.lit (.bool true)], args := [d1, d2] }
  | _ => none }
def fnExactShutTiltsRow : OpenClaim := { program := "ytfkbjkdapfdeeaa", sum := "e9f42a81ced45746a3393186e08700fcf68c9f7752b5e0c36b248da1820f1999", func := "loop.example/g01367/laws.FnExactShutTilts", spec := "fnExactShutTilts", unfollowed := true, recurses := true, apart := false }
def FnExactShutTiltsSaid : Prop := fnExactShutTiltsRow.holds Try.pinned (OpenSpec.ofChange fnExactShutTiltsSpec)

/-- ITS FALSE NEIGHBOUR: 'it returns false'. Refute it at one input. -/
def fnExactShutTiltsWrong : ChangeSpec := { name := "fnExactShutTilts", fn := fun _ => fun
  | [d1, d2] => { results := [.lit (.bool false)], args := [d1, d2] }
  | _ => none }
def FnExactShutTiltsWrongFalsely : Prop := fnExactShutTiltsRow.holds Try.pinned (OpenSpec.ofChange fnExactShutTiltsWrong)

/-- 'laws.FnExactTiltFor': WHATEVER THE INPUT: true; the input reads as it did. -/
def fnExactTiltForSpec : ChangeSpec := { name := "fnExactTiltFor", fn := fun _ => fun
  | [d1, d2, d3] => { results := [.lit (.bool true)], args := [d1, d2, d3] }
  | _ => none }
def fnExactTiltForRow : OpenClaim := { program := "ytfkbjkdapfdeeaa", sum := "e9f42a81ced45746a3393186e08700fcf68c9f7752b5e0c36b248da1820f1999", func := "loop.example/g01367/laws.FnExactTiltFor", spec := "fnExactTiltFor", unfollowed := true, recurses := true, apart := false }
def FnExactTiltForSaid : Prop := fnExactTiltForRow.holds Try.pinned (OpenSpec.ofChange fnExactTiltForSpec)

/-- ITS FALSE NEIGHBOUR: 'it returns false'. Refute it at one input. -/
def fnExactTiltForWrong : ChangeSpec := { name := "fnExactTiltFor", fn := fun _ => fun
  | [d1, d2, d3] => { results := [.lit (.bool false)], args := [d1, d2, d3] }
  | _ => none }
def FnExactTiltForWrongFalsely : Prop := fnExactTiltForRow.holds Try.pinned (OpenSpec.ofChange fnExactTiltForWrong)

/-- 'laws.FnExactTiltsWithin': WHATEVER THE INPUT: true; the input reads as it did. -/
def fnExactTiltsWithinSpec : ChangeSpec := { name := "fnExactTiltsWithin", fn := fun _ => fun
  | [d1, d2, d3, d4] => { results := [.lit (.bool true)], args := [d1, d2, d3, d4] }
  | _ => none }
def fnExactTiltsWithinRow : OpenClaim := { program := "ytfkbjkdapfdeeaa", sum := "e9f42a81ced45746a3393186e08700fcf68c9f7752b5e0c36b248da1820f1999", func := "loop.example/g01367/laws.FnExactTiltsWithin", spec := "fnExactTiltsWithin", unfollowed := true, recurses := true, apart := false }
def FnExactTiltsWithinSaid : Prop := fnExactTiltsWithinRow.holds Try.pinned (OpenSpec.ofChange fnExactTiltsWithinSpec)

/-- ITS FALSE NEIGHBOUR: 'it returns false'. Refute it at one input. -/
def fnExactTiltsWithinWrong : ChangeSpec := { name := "fnExactTiltsWithin", fn := fun _ => fun
  | [d1, d2, d3, d4] => { results := [.lit (.bool false)], args := [d1, d2, d3, d4] }
  | _ => none }
def FnExactTiltsWithinWrongFalsely : Prop := fnExactTiltsWithinRow.holds Try.pinned (OpenSpec.ofChange fnExactTiltsWithinWrong)

/-- 'laws.FnTilts': WHATEVER THE INPUT: true; the input reads as it did. -/
def fnTiltsSpec : ChangeSpec := { name := "fnTilts", fn := fun _ => fun
  | [d1, d2] => { results := [.lit (.bool true)], args := [d1, d2] }
  | _ => none }
def fnTiltsRow : OpenClaim := { program := "ytfkbjkdapfdeeaa", sum := "e9f42a81ced45746a3393186e08700fcf68c9f7752b5e0c36b248da1820f1999", func := "loop.example/g01367/laws.FnTilts", spec := "fnTilts", inPlace := ["math.Float32bits"], unfollowed := true, recurses := true, apart := false }
def FnTiltsSaid : Prop := fnTiltsRow.holds Try.pinned (OpenSpec.ofChange fnTiltsSpec)

/-- ITS FALSE NEIGHBOUR: 'it returns false'. Refute it at one input. -/
def fnTiltsWrong : ChangeSpec := { name := "fnTilts", fn := fun _ => fun
  | [d1, d2] => { results := [.lit (.bool false)], args := [d1, d2] }
  | _ => none }
def FnTiltsWrongFalsely : Prop := fnTiltsRow.holds Try.pinned (OpenSpec.ofChange fnTiltsWrong)

/- THE SECOND FORM. 'bulk': how many values and letters a reading holds, each counted each time it is reached (what is shared counts as often as it is met; a slice's spare places count too). A statement '..UptoSaid' is the law's where the arguments, and the package variables that the reading takes, are together of bulk at most 1048576: NARROWER than '..Said'. Prove '..Said' where nothing that the law and all that it calls make is longer than what came in: it says more and counts as full. Else prove '..UptoSaid'. A law counts once. -/
mutual
def uptoBulk {H : Type} : DataW H → Nat
  | .lit (.string bytes) => bytes.length + 1
  | .lit _ => 1
  | .nil => 1
  | .ptr d => uptoBulk d + 1
  | .slice elems spare => uptoBulkAll elems + uptoBulkAll spare + 1
  | .agg parts => uptoBulkAll parts + 1
  | .iface _ d => uptoBulk d + 1
  | .map entries => uptoBulkEntries entries + 1
  | .held _ => 1
def uptoBulkAll {H : Type} : List (DataW H) → Nat
  | [] => 0
  | d :: r => uptoBulk d + uptoBulkAll r
def uptoBulkEntries {H : Type} : List (Lit × DataW H) → Nat
  | [] => 0
  | x :: r => uptoBulkEntry x + uptoBulkEntries r
def uptoBulkEntry {H : Type} : Lit × DataW H → Nat
  | (.string bytes, d) => bytes.length + uptoBulk d + 1
  | (_, d) => uptoBulk d + 1
 end
def uptoSmall : (H : Type) → List (DataW H) → Bool := fun _ ds => decide (uptoBulkAll ds ≤ 1048576)
def OpenSpec.upto (s : _root_.Go.ChangeSpec) : _root_.Go.OpenSpec := { _root_.Go.OpenSpec.ofChange s with cond := some uptoSmall }

/-- 'laws.FnExactSameBlind', WHERE WHAT IT READS IS OF BULK AT MOST 1048576: true; the input reads as it did. -/
def fnExactSameBlindUptoRow : OpenClaim := { program := "ytfkbjkdapfdeeaa", sum := "e9f42a81ced45746a3393186e08700fcf68c9f7752b5e0c36b248da1820f1999", func := "loop.example/g01367/laws.FnExactSameBlind", spec := "fnExactSameBlind", inPlace := ["math.Float32bits"], apart := false, narrowed := true }
def FnExactSameBlindUptoSaid : Prop := fnExactSameBlindUptoRow.holds Try.pinned (OpenSpec.upto fnExactSameBlindSpec)

/-- 'laws.FnExactValidBlind', WHERE WHAT IT READS IS OF BULK AT MOST 1048576: true; the input reads as it did. -/
def fnExactValidBlindUptoRow : OpenClaim := { program := "ytfkbjkdapfdeeaa", sum := "e9f42a81ced45746a3393186e08700fcf68c9f7752b5e0c36b248da1820f1999", func := "loop.example/g01367/laws.FnExactValidBlind", spec := "fnExactValidBlind", apart := false, narrowed := true }
def FnExactValidBlindUptoSaid : Prop := fnExactValidBlindUptoRow.holds Try.pinned (OpenSpec.upto fnExactValidBlindSpec)

/-- 'laws.FnExactTiltTo', WHERE WHAT IT READS IS OF BULK AT MOST 1048576: true; the input reads as it did. -/
def fnExactTiltToUptoRow : OpenClaim := { program := "ytfkbjkdapfdeeaa", sum := "e9f42a81ced45746a3393186e08700fcf68c9f7752b5e0c36b248da1820f1999", func := "loop.example/g01367/laws.FnExactTiltTo", spec := "fnExactTiltTo", apart := false, narrowed := true }
def FnExactTiltToUptoSaid : Prop := fnExactTiltToUptoRow.holds Try.pinned (OpenSpec.upto fnExactTiltToSpec)

/-- 'laws.FnExactHighOf', WHERE WHAT IT READS IS OF BULK AT MOST 1048576: true; the input reads as it did. -/
def fnExactHighOfUptoRow : OpenClaim := { program := "ytfkbjkdapfdeeaa", sum := "e9f42a81ced45746a3393186e08700fcf68c9f7752b5e0c36b248da1820f1999", func := "loop.example/g01367/laws.FnExactHighOf", spec := "fnExactHighOf", apart := false, narrowed := true }
def FnExactHighOfUptoSaid : Prop := fnExactHighOfUptoRow.holds Try.pinned (OpenSpec.upto fnExactHighOfSpec)

/-- 'laws.FnExactBlockedBy', WHERE WHAT IT READS IS OF BULK AT MOST 1048576: true; the input reads as it did. -/
def fnExactBlockedByUptoRow : OpenClaim := { program := "ytfkbjkdapfdeeaa", sum := "e9f42a81ced45746a3393186e08700fcf68c9f7752b5e0c36b248da1820f1999", func := "loop.example/g01367/laws.FnExactBlockedBy", spec := "fnExactBlockedBy", recurses := true, apart := false, narrowed := true }
def FnExactBlockedByUptoSaid : Prop := fnExactBlockedByUptoRow.holds Try.pinned (OpenSpec.upto fnExactBlockedBySpec)

/-- 'laws.FnExactOpenFor', WHERE WHAT IT READS IS OF BULK AT MOST 1048576: true; the input reads as it did. -/
def fnExactOpenForUptoRow : OpenClaim := { program := "ytfkbjkdapfdeeaa", sum := "e9f42a81ced45746a3393186e08700fcf68c9f7752b5e0c36b248da1820f1999", func := "loop.example/g01367/laws.FnExactOpenFor", spec := "fnExactOpenFor", recurses := true, apart := false, narrowed := true }
def FnExactOpenForUptoSaid : Prop := fnExactOpenForUptoRow.holds Try.pinned (OpenSpec.upto fnExactOpenForSpec)

/-- 'laws.FnExactPassFor', WHERE WHAT IT READS IS OF BULK AT MOST 1048576: true; the input reads as it did. -/
def fnExactPassForUptoRow : OpenClaim := { program := "ytfkbjkdapfdeeaa", sum := "e9f42a81ced45746a3393186e08700fcf68c9f7752b5e0c36b248da1820f1999", func := "loop.example/g01367/laws.FnExactPassFor", spec := "fnExactPassFor", recurses := true, apart := false, narrowed := true }
def FnExactPassForUptoSaid : Prop := fnExactPassForUptoRow.holds Try.pinned (OpenSpec.upto fnExactPassForSpec)

/-- 'laws.FnExactPassAll', WHERE WHAT IT READS IS OF BULK AT MOST 1048576: true; the input reads as it did. -/
def fnExactPassAllUptoRow : OpenClaim := { program := "ytfkbjkdapfdeeaa", sum := "e9f42a81ced45746a3393186e08700fcf68c9f7752b5e0c36b248da1820f1999", func := "loop.example/g01367/laws.FnExactPassAll", spec := "fnExactPassAll", recurses := true, apart := false, narrowed := true }
def FnExactPassAllUptoSaid : Prop := fnExactPassAllUptoRow.holds Try.pinned (OpenSpec.upto fnExactPassAllSpec)

/-- 'laws.FnExactGapFor', WHERE WHAT IT READS IS OF BULK AT MOST 1048576: true; the input reads as it did. -/
def fnExactGapForUptoRow : OpenClaim := { program := "ytfkbjkdapfdeeaa", sum := "e9f42a81ced45746a3393186e08700fcf68c9f7752b5e0c36b248da1820f1999", func := "loop.example/g01367/laws.FnExactGapFor", spec := "fnExactGapFor", unfollowed := true, recurses := true, apart := false, narrowed := true }
def FnExactGapForUptoSaid : Prop := fnExactGapForUptoRow.holds Try.pinned (OpenSpec.upto fnExactGapForSpec)

/-- 'laws.FnExactCutOff', WHERE WHAT IT READS IS OF BULK AT MOST 1048576: true; the input reads as it did. -/
def fnExactCutOffUptoRow : OpenClaim := { program := "ytfkbjkdapfdeeaa", sum := "e9f42a81ced45746a3393186e08700fcf68c9f7752b5e0c36b248da1820f1999", func := "loop.example/g01367/laws.FnExactCutOff", spec := "fnExactCutOff", unfollowed := true, recurses := true, apart := false, narrowed := true }
def FnExactCutOffUptoSaid : Prop := fnExactCutOffUptoRow.holds Try.pinned (OpenSpec.upto fnExactCutOffSpec)

/-- 'laws.FnExactShutTilts', WHERE WHAT IT READS IS OF BULK AT MOST 1048576: true; the input reads as it did. -/
def fnExactShutTiltsUptoRow : OpenClaim := { program := "ytfkbjkdapfdeeaa", sum := "e9f42a81ced45746a3393186e08700fcf68c9f7752b5e0c36b248da1820f1999", func := "loop.example/g01367/laws.FnExactShutTilts", spec := "fnExactShutTilts", unfollowed := true, recurses := true, apart := false, narrowed := true }
def FnExactShutTiltsUptoSaid : Prop := fnExactShutTiltsUptoRow.holds Try.pinned (OpenSpec.upto fnExactShutTiltsSpec)

/-- 'laws.FnExactTiltFor', WHERE WHAT IT READS IS OF BULK AT MOST 1048576: true; the input reads as it did. -/
def fnExactTiltForUptoRow : OpenClaim := { program := "ytfkbjkdapfdeeaa", sum := "e9f42a81ced45746a3393186e08700fcf68c9f7752b5e0c36b248da1820f1999", func := "loop.example/g01367/laws.FnExactTiltFor", spec := "fnExactTiltFor", unfollowed := true, recurses := true, apart := false, narrowed := true }
def FnExactTiltForUptoSaid : Prop := fnExactTiltForUptoRow.holds Try.pinned (OpenSpec.upto fnExactTiltForSpec)

/-- 'laws.FnExactTiltsWithin', WHERE WHAT IT READS IS OF BULK AT MOST 1048576: true; the input reads as it did. -/
def fnExactTiltsWithinUptoRow : OpenClaim := { program := "ytfkbjkdapfdeeaa", sum := "e9f42a81ced45746a3393186e08700fcf68c9f7752b5e0c36b248da1820f1999", func := "loop.example/g01367/laws.FnExactTiltsWithin", spec := "fnExactTiltsWithin", unfollowed := true, recurses := true, apart := false, narrowed := true }
def FnExactTiltsWithinUptoSaid : Prop := fnExactTiltsWithinUptoRow.holds Try.pinned (OpenSpec.upto fnExactTiltsWithinSpec)

/-- 'laws.FnTilts', WHERE WHAT IT READS IS OF BULK AT MOST 1048576: true; the input reads as it did. -/
def fnTiltsUptoRow : OpenClaim := { program := "ytfkbjkdapfdeeaa", sum := "e9f42a81ced45746a3393186e08700fcf68c9f7752b5e0c36b248da1820f1999", func := "loop.example/g01367/laws.FnTilts", spec := "fnTilts", inPlace := ["math.Float32bits"], unfollowed := true, recurses := true, apart := false, narrowed := true }
def FnTiltsUptoSaid : Prop := fnTiltsUptoRow.holds Try.pinned (OpenSpec.upto fnTiltsSpec)

end Rows
end Go.Proofs.Ytfkbjkdapfdeeaa
