/-
  No cell of these rows narrows 'for every input' (looked for: loops, veiled, ifaces, maps, wideKeys, modest, calm, conditions, laid).
  DERIVED. THE GIVEN ROWS OF THIS SEAT. 4 by the template 'for every input the law returns true; each argument reads behind the call as it read before'; 0 by the template 'total and deterministic' (their statements: YtgibcikihniimaaTotals.lean).
  GIVEN WITH THE SEED: the statements are not yours to turn. If you find one false, say at which input.
  Laid BY PROGRAM, IN A SANDBOX (cutbox-rows.mjs): the forced cells as the released guide's own fill.sh prints them over the translation d9f1be5e0ad88f00… (all of the seat's roots in one cut). By AI agents, Wed Nov 11 2026. No macro, syntax, notation, axiom, sorry.
-/
import Derived.Test.YtgibcikihniimaaChecked
import GoSem.Claim
import GoSem.ClaimJoined
import GoSem.ClaimMapViews
import Derived.JoinedTies
import Derived.KernelRfl
namespace Go.Proofs.Ytgibcikihniimaa
/- THE CELL 'sum', in the pinned program and in every row, IS THE sha256 OF THE DUMP (.gsa) THAT YtgibcikihniimaaProg.lean LOADS. Nothing in Lean hashes anything: it is a label: what it is worth is what the hold of that sum in a sandbox is worth. -/
noncomputable def Try.pinned : Pinned := { name := "ytgibcikihniimaa", sum := "d9f1be5e0ad88f006974b71615f92c3d1bdf6a11c7bfe088b6c2f989a7ad5a07", checked := Try.checked }
namespace Rows
def none {H : Type} : Left H := { results := [], args := [] }

/-- 'laws.FnExactValidPerson': WHATEVER THE INPUT: true; the input reads as it did. -/
def fnExactValidPersonSpec : ChangeSpec := { name := "fnExactValidPerson", fn := fun _ => fun
  | [d] => { results := [.lit (.bool true)], args := [d] }
  | _ => none }
def fnExactValidPersonRow : OpenClaim := { program := "ytgibcikihniimaa", sum := "d9f1be5e0ad88f006974b71615f92c3d1bdf6a11c7bfe088b6c2f989a7ad5a07", func := "loop.example/g01367/laws.FnExactValidPerson", spec := "fnExactValidPerson", apart := false }
def FnExactValidPersonSaid : Prop := fnExactValidPersonRow.holds Try.pinned (OpenSpec.ofChange fnExactValidPersonSpec)

/-- ITS FALSE NEIGHBOUR: 'it returns false'. Refute it at one input. -/
def fnExactValidPersonWrong : ChangeSpec := { name := "fnExactValidPerson", fn := fun _ => fun
  | [d] => { results := [.lit (.bool false)], args := [d] }
  | _ => none }
def FnExactValidPersonWrongFalsely : Prop := fnExactValidPersonRow.holds Try.pinned (OpenSpec.ofChange fnExactValidPersonWrong)

/-- 'laws.FnExactSameRoom': WHATEVER THE INPUT: true; the input reads as it did. -/
def fnExactSameRoomSpec : ChangeSpec := { name := "fnExactSameRoom", fn := fun _ => fun
  | [d1, d2] => { results := [.lit (.bool true)], args := [d1, d2] }
  | _ => none }
def fnExactSameRoomRow : OpenClaim := { program := "ytgibcikihniimaa", sum := "d9f1be5e0ad88f006974b71615f92c3d1bdf6a11c7bfe088b6c2f989a7ad5a07", func := "loop.example/g01367/laws.FnExactSameRoom", spec := "fnExactSameRoom", inPlace := ["math.Float32bits"], apart := false }
def FnExactSameRoomSaid : Prop := fnExactSameRoomRow.holds Try.pinned (OpenSpec.ofChange fnExactSameRoomSpec)

/-- ITS FALSE NEIGHBOUR: 'it returns false'. Refute it at one input. -/
def fnExactSameRoomWrong : ChangeSpec := { name := "fnExactSameRoom", fn := fun _ => fun
  | [d1, d2] => { results := [.lit (.bool false)], args := [d1, d2] }
  | _ => none }
def FnExactSameRoomWrongFalsely : Prop := fnExactSameRoomRow.holds Try.pinned (OpenSpec.ofChange fnExactSameRoomWrong)

/-- 'laws.FnExactValidRoom': WHATEVER THE INPUT: true; the input reads as it did. -/
def fnExactValidRoomSpec : ChangeSpec := { name := "fnExactValidRoom", fn := fun _ => fun
  | [d] => { results := [.lit (.bool true)], args := [d] }
  | _ => none }
def fnExactValidRoomRow : OpenClaim := { program := "ytgibcikihniimaa", sum := "d9f1be5e0ad88f006974b71615f92c3d1bdf6a11c7bfe088b6c2f989a7ad5a07", func := "loop.example/g01367/laws.FnExactValidRoom", spec := "fnExactValidRoom", apart := false }
def FnExactValidRoomSaid : Prop := fnExactValidRoomRow.holds Try.pinned (OpenSpec.ofChange fnExactValidRoomSpec)

/-- ITS FALSE NEIGHBOUR: 'it returns false'. Refute it at one input. -/
def fnExactValidRoomWrong : ChangeSpec := { name := "fnExactValidRoom", fn := fun _ => fun
  | [d] => { results := [.lit (.bool false)], args := [d] }
  | _ => none }
def FnExactValidRoomWrongFalsely : Prop := fnExactValidRoomRow.holds Try.pinned (OpenSpec.ofChange fnExactValidRoomWrong)

/-- 'laws.FnExactTileOf': WHATEVER THE INPUT: true; the input reads as it did. -/
def fnExactTileOfSpec : ChangeSpec := { name := "fnExactTileOf", fn := fun _ => fun
  | [d1, d2] => { results := [.lit (.bool true)], args := [d1, d2] }
  | _ => none }
def fnExactTileOfRow : OpenClaim := { program := "ytgibcikihniimaa", sum := "d9f1be5e0ad88f006974b71615f92c3d1bdf6a11c7bfe088b6c2f989a7ad5a07", func := "loop.example/g01367/laws.FnExactTileOf", spec := "fnExactTileOf", apart := false }
def FnExactTileOfSaid : Prop := fnExactTileOfRow.holds Try.pinned (OpenSpec.ofChange fnExactTileOfSpec)

/-- ITS FALSE NEIGHBOUR: 'it returns false'. Refute it at one input. -/
def fnExactTileOfWrong : ChangeSpec := { name := "fnExactTileOf", fn := fun _ => fun
  | [d1, d2] => { results := [.lit (.bool false)], args := [d1, d2] }
  | _ => none }
def FnExactTileOfWrongFalsely : Prop := fnExactTileOfRow.holds Try.pinned (OpenSpec.ofChange fnExactTileOfWrong)

/- THE SECOND FORM. 'bulk': how many values and letters a reading holds, each counted each time it is reached (what is shared counts as often as it is met; a slice's spare places count too). A statement '..UptoSaid' is the law's where the arguments, and the package variables that the reading takes, are together of bulk at most 1048576: NARROWER than '..Said'. Prove '..Said' where nothing that the law and all that it calls make is longer than what came in: it says more and counts as full. Else prove '..UptoSaid'. A law counts once. -/
mutual
def uptoBulk {H : Type} : DataW H → Nat
  | .lit (.string bytes) => bytes.length + 1
  | .lit _ => 1
  | .nil => 1
  | .ptr d => uptoBulk d + 1
  | .slice elems spare => uptoBulkAll elems + uptoBulkAll spare + 1
  | .agg parts => uptoBulkAll parts + 1
  | .iface _ d => uptoBulk d + 1
  | .map entries => uptoBulkEntries entries + 1
  | .held _ => 1
def uptoBulkAll {H : Type} : List (DataW H) → Nat
  | [] => 0
  | d :: r => uptoBulk d + uptoBulkAll r
def uptoBulkEntries {H : Type} : List (Lit × DataW H) → Nat
  | [] => 0
  | x :: r => uptoBulkEntry x + uptoBulkEntries r
def uptoBulkEntry {H : Type} : Lit × DataW H → Nat
  | (.string bytes, d) => bytes.length + uptoBulk d + 1
  | (_, d) => uptoBulk d + 1
 end
def uptoSmall : (H : Type) → List (DataW H) → Bool := fun _ ds => decide (uptoBulkAll ds ≤ 1048576)
def OpenSpec.upto (s : _root_.Go.ChangeSpec) : _root_.Go.OpenSpec := { _root_.Go.OpenSpec.ofChange s with cond := some uptoSmall }

/-- 'laws.FnExactValidPerson', WHERE WHAT IT READS IS OF BULK AT MOST 1048576: true; the input reads as it did. -/
def fnExactValidPersonUptoRow : OpenClaim := { program := "ytgibcikihniimaa", sum := "d9f1be5e0ad88f006974b71615f92c3d1bdf6a11c7bfe088b6c2f989a7ad5a07", func := "loop.example/g01367/laws.FnExactValidPerson", spec := "fnExactValidPerson", apart := false, narrowed := true }
def FnExactValidPersonUptoSaid : Prop := fnExactValidPersonUptoRow.holds Try.pinned (OpenSpec.upto fnExactValidPersonSpec)

/-- 'laws.FnExactSameRoom', WHERE WHAT IT READS IS OF BULK AT MOST 1048576: true; the input reads as it did. -/
def fnExactSameRoomUptoRow : OpenClaim := { program := "ytgibcikihniimaa", sum := "d9f1be5e0ad88f006974b71615f92c3d1bdf6a11c7bfe088b6c2f989a7ad5a07", func := "loop.example/g01367/laws.FnExactSameRoom", spec := "fnExactSameRoom", inPlace := ["math.Float32bits"], apart := false, narrowed := true }
def FnExactSameRoomUptoSaid : Prop := fnExactSameRoomUptoRow.holds Try.pinned (OpenSpec.upto fnExactSameRoomSpec)

/-- 'laws.FnExactValidRoom', WHERE WHAT IT READS IS OF BULK AT MOST 1048576: true; the input reads as it did. -/
def fnExactValidRoomUptoRow : OpenClaim := { program := "ytgibcikihniimaa", sum := "d9f1be5e0ad88f006974b71615f92c3d1bdf6a11c7bfe088b6c2f989a7ad5a07", func := "loop.example/g01367/laws.FnExactValidRoom", spec := "fnExactValidRoom", apart := false, narrowed := true }
def FnExactValidRoomUptoSaid : Prop := fnExactValidRoomUptoRow.holds Try.pinned (OpenSpec.upto fnExactValidRoomSpec)

/-- 'laws.FnExactTileOf', WHERE WHAT IT READS IS OF BULK AT MOST 1048576: true; the input reads as it did. -/
def fnExactTileOfUptoRow : OpenClaim := { program := "ytgibcikihniimaa", sum := "d9f1be5e0ad88f006974b71615f92c3d1bdf6a11c7bfe088b6c2f989a7ad5a07", func := "loop.example/g01367/laws.FnExactTileOf", spec := "fnExactTileOf", apart := false, narrowed := true }
def FnExactTileOfUptoSaid : Prop := fnExactTileOfUptoRow.holds Try.pinned (OpenSpec.upto fnExactTileOfSpec)

end Rows
end Go.Proofs.Ytgibcikihniimaa
