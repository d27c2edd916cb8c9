/-
  No cell of these rows narrows 'for every input' (looked for: loops, veiled, ifaces, maps, wideKeys, modest, calm, conditions, laid).
  DERIVED. THE GIVEN ROWS OF THIS SEAT. 12 by the template 'for every input the law returns true; each argument reads behind the call as it read before'; 0 by the template 'total and deterministic' (their statements: YthoknpbcdgljjaaTotals.lean).
  GIVEN WITH THE SEED: the statements are not yours to turn. If you find one false, say at which input.
  Laid BY PROGRAM, IN A SANDBOX (cutbox-rows.mjs): the forced cells as the released guide's own fill.sh prints them over the translation 42e02ccd4d323c2f… (all of the seat's roots in one cut). By AI agents, Wed Nov 11 2026. No macro, syntax, notation, axiom, sorry.
-/
import Derived.Test.YthoknpbcdgljjaaChecked
import GoSem.Claim
import GoSem.ClaimJoined
import GoSem.ClaimMapViews
import Derived.JoinedTies
import Derived.KernelRfl
namespace Go.Proofs.Ythoknpbcdgljjaa
/- THE CELL 'sum', in the pinned program and in every row, IS THE sha256 OF THE DUMP (.gsa) THAT YthoknpbcdgljjaaProg.lean LOADS. Nothing in Lean hashes anything: it is a label: what it is worth is what the hold of that sum in a sandbox is worth. -/
noncomputable def Try.pinned : Pinned := { name := "ythoknpbcdgljjaa", sum := "42e02ccd4d323c2f38e4d39c4f88881a6bbc5bebd78c334580049721349d346d", checked := Try.checked }
namespace Rows
def none {H : Type} : Left H := { results := [], args := [] }

/-- 'laws.FnExactConstants': WHATEVER THE INPUT: true; the input reads as it did. -/
def fnExactConstantsSpec : ChangeSpec := { name := "fnExactConstants", fn := fun _ => fun
  | [] => { results := [.lit (.bool true)], args := [] }
  | _ => none }
def fnExactConstantsRow : OpenClaim := { program := "ythoknpbcdgljjaa", sum := "42e02ccd4d323c2f38e4d39c4f88881a6bbc5bebd78c334580049721349d346d", func := "loop.example/g01367/laws.FnExactConstants", spec := "fnExactConstants", apart := false }
def FnExactConstantsSaid : Prop := fnExactConstantsRow.holds Try.pinned (OpenSpec.ofChange fnExactConstantsSpec)

/-- ITS FALSE NEIGHBOUR: 'it returns false'. Refute it at one input. -/
def fnExactConstantsWrong : ChangeSpec := { name := "fnExactConstants", fn := fun _ => fun
  | [] => { results := [.lit (.bool false)], args := [] }
  | _ => none }
def FnExactConstantsWrongFalsely : Prop := fnExactConstantsRow.holds Try.pinned (OpenSpec.ofChange fnExactConstantsWrong)

/-- 'laws.FnExactIsPart': WHATEVER THE INPUT: true; the input reads as it did. -/
def fnExactIsPartSpec : ChangeSpec := { name := "fnExactIsPart", fn := fun _ => fun
  | [d] => { results := [.lit (.bool true)], args := [d] }
  | _ => none }
def fnExactIsPartRow : OpenClaim := { program := "ythoknpbcdgljjaa", sum := "42e02ccd4d323c2f38e4d39c4f88881a6bbc5bebd78c334580049721349d346d", func := "loop.example/g01367/laws.FnExactIsPart", spec := "fnExactIsPart", apart := false }
def FnExactIsPartSaid : Prop := fnExactIsPartRow.holds Try.pinned (OpenSpec.ofChange fnExactIsPartSpec)

/-- ITS FALSE NEIGHBOUR: 'it returns false'. Refute it at one input. -/
def fnExactIsPartWrong : ChangeSpec := { name := "fnExactIsPart", fn := fun _ => fun
  | [d] => { results := [.lit (.bool false)], args := [d] }
  | _ => none }
def FnExactIsPartWrongFalsely : Prop := fnExactIsPartRow.holds Try.pinned (OpenSpec.ofChange fnExactIsPartWrong)

/-- 'laws.FnExactIsPlain': WHATEVER THE INPUT: true; the input reads as it did. -/
def fnExactIsPlainSpec : ChangeSpec := { name := "fnExactIsPlain", fn := fun _ => fun
  | [d] => { results := [.lit (.bool true)], args := [d] }
  | _ => none }
def fnExactIsPlainRow : OpenClaim := { program := "ythoknpbcdgljjaa", sum := "42e02ccd4d323c2f38e4d39c4f88881a6bbc5bebd78c334580049721349d346d", func := "loop.example/g01367/laws.FnExactIsPlain", spec := "fnExactIsPlain", apart := false }
def FnExactIsPlainSaid : Prop := fnExactIsPlainRow.holds Try.pinned (OpenSpec.ofChange fnExactIsPlainSpec)

/-- ITS FALSE NEIGHBOUR: 'it returns false'. Refute it at one input. -/
def fnExactIsPlainWrong : ChangeSpec := { name := "fnExactIsPlain", fn := fun _ => fun
  | [d] => { results := [.lit (.bool false)], args := [d] }
  | _ => none }
def FnExactIsPlainWrongFalsely : Prop := fnExactIsPlainRow.holds Try.pinned (OpenSpec.ofChange fnExactIsPlainWrong)

/-- 'laws.FnExactSameNumber': WHATEVER THE INPUT: true; the input reads as it did. -/
def fnExactSameNumberSpec : ChangeSpec := { name := "fnExactSameNumber", fn := fun _ => fun
  | [d1, d2] => { results := [.lit (.bool true)], args := [d1, d2] }
  | _ => none }
def fnExactSameNumberRow : OpenClaim := { program := "ythoknpbcdgljjaa", sum := "42e02ccd4d323c2f38e4d39c4f88881a6bbc5bebd78c334580049721349d346d", func := "loop.example/g01367/laws.FnExactSameNumber", spec := "fnExactSameNumber", inPlace := ["math.Float32bits"], apart := false }
def FnExactSameNumberSaid : Prop := fnExactSameNumberRow.holds Try.pinned (OpenSpec.ofChange fnExactSameNumberSpec)

/-- ITS FALSE NEIGHBOUR: 'it returns false'. Refute it at one input. -/
def fnExactSameNumberWrong : ChangeSpec := { name := "fnExactSameNumber", fn := fun _ => fun
  | [d1, d2] => { results := [.lit (.bool false)], args := [d1, d2] }
  | _ => none }
def FnExactSameNumberWrongFalsely : Prop := fnExactSameNumberRow.holds Try.pinned (OpenSpec.ofChange fnExactSameNumberWrong)

/-- 'laws.FnExactCodeName': WHATEVER THE INPUT: true; the input reads as it did. -/
def fnExactCodeNameSpec : ChangeSpec := { name := "fnExactCodeName", fn := fun _ => fun
  | [d] => { results := [.lit (.bool true)], args := [d] }
  | _ => none }
def fnExactCodeNameRow : OpenClaim := { program := "ythoknpbcdgljjaa", sum := "42e02ccd4d323c2f38e4d39c4f88881a6bbc5bebd78c334580049721349d346d", func := "loop.example/g01367/laws.FnExactCodeName", spec := "fnExactCodeName", apart := false }
def FnExactCodeNameSaid : Prop := fnExactCodeNameRow.holds Try.pinned (OpenSpec.ofChange fnExactCodeNameSpec)

/-- ITS FALSE NEIGHBOUR: 'it returns false'. Refute it at one input. -/
def fnExactCodeNameWrong : ChangeSpec := { name := "fnExactCodeName", fn := fun _ => fun
  | [d] => { results := [.lit (.bool false)], args := [d] }
  | _ => none }
def FnExactCodeNameWrongFalsely : Prop := fnExactCodeNameRow.holds Try.pinned (OpenSpec.ofChange fnExactCodeNameWrong)

/-- 'laws.FnExactSineOf': WHATEVER THE INPUT: true; the input reads as it did. -/
def fnExactSineOfSpec : ChangeSpec := { name := "fnExactSineOf", fn := fun _ => fun
  | [d] => { results := [.lit (.bool true)], args := [d] }
  | _ => none }
def fnExactSineOfRow : OpenClaim := { program := "ythoknpbcdgljjaa", sum := "42e02ccd4d323c2f38e4d39c4f88881a6bbc5bebd78c334580049721349d346d", func := "loop.example/g01367/laws.FnExactSineOf", spec := "fnExactSineOf", recurses := true, apart := false }
def FnExactSineOfSaid : Prop := fnExactSineOfRow.holds Try.pinned (OpenSpec.ofChange fnExactSineOfSpec)

/-- ITS FALSE NEIGHBOUR: 'it returns false'. Refute it at one input. -/
def fnExactSineOfWrong : ChangeSpec := { name := "fnExactSineOf", fn := fun _ => fun
  | [d] => { results := [.lit (.bool false)], args := [d] }
  | _ => none }
def FnExactSineOfWrongFalsely : Prop := fnExactSineOfRow.holds Try.pinned (OpenSpec.ofChange fnExactSineOfWrong)

/-- 'laws.FnExactCosineOf': WHATEVER THE INPUT: true; the input reads as it did. -/
def fnExactCosineOfSpec : ChangeSpec := { name := "fnExactCosineOf", fn := fun _ => fun
  | [d] => { results := [.lit (.bool true)], args := [d] }
  | _ => none }
def fnExactCosineOfRow : OpenClaim := { program := "ythoknpbcdgljjaa", sum := "42e02ccd4d323c2f38e4d39c4f88881a6bbc5bebd78c334580049721349d346d", func := "loop.example/g01367/laws.FnExactCosineOf", spec := "fnExactCosineOf", recurses := true, apart := false }
def FnExactCosineOfSaid : Prop := fnExactCosineOfRow.holds Try.pinned (OpenSpec.ofChange fnExactCosineOfSpec)

/-- ITS FALSE NEIGHBOUR: 'it returns false'. Refute it at one input. -/
def fnExactCosineOfWrong : ChangeSpec := { name := "fnExactCosineOf", fn := fun _ => fun
  | [d] => { results := [.lit (.bool false)], args := [d] }
  | _ => none }
def FnExactCosineOfWrongFalsely : Prop := fnExactCosineOfRow.holds Try.pinned (OpenSpec.ofChange fnExactCosineOfWrong)

/-- 'laws.FnExactValidCord': WHATEVER THE INPUT: true; the input reads as it did. -/
def fnExactValidCordSpec : ChangeSpec := { name := "fnExactValidCord", fn := fun _ => fun
  | [d] => { results := [.lit (.bool true)], args := [d] }
  | _ => none }
def fnExactValidCordRow : OpenClaim := { program := "ythoknpbcdgljjaa", sum := "42e02ccd4d323c2f38e4d39c4f88881a6bbc5bebd78c334580049721349d346d", func := "loop.example/g01367/laws.FnExactValidCord", spec := "fnExactValidCord", apart := false }
def FnExactValidCordSaid : Prop := fnExactValidCordRow.holds Try.pinned (OpenSpec.ofChange fnExactValidCordSpec)

/-- ITS FALSE NEIGHBOUR: 'it returns false'. Refute it at one input. -/
def fnExactValidCordWrong : ChangeSpec := { name := "fnExactValidCord", fn := fun _ => fun
  | [d] => { results := [.lit (.bool false)], args := [d] }
  | _ => none }
def FnExactValidCordWrongFalsely : Prop := fnExactValidCordRow.holds Try.pinned (OpenSpec.ofChange fnExactValidCordWrong)

/-- 'laws.FnExactStretchedCord': WHATEVER THE INPUT: true; the input reads as it did. -/
def fnExactStretchedCordSpec : ChangeSpec := { name := "fnExactStretchedCord", fn := fun _ => fun
  | [d1, d2] => { results := [.lit (.bool true)], args := [d1, d2] }
  | _ => none }
def fnExactStretchedCordRow : OpenClaim := { program := "ythoknpbcdgljjaa", sum := "42e02ccd4d323c2f38e4d39c4f88881a6bbc5bebd78c334580049721349d346d", func := "loop.example/g01367/laws.FnExactStretchedCord", spec := "fnExactStretchedCord", apart := false }
def FnExactStretchedCordSaid : Prop := fnExactStretchedCordRow.holds Try.pinned (OpenSpec.ofChange fnExactStretchedCordSpec)

/-- ITS FALSE NEIGHBOUR: 'it returns false'. Refute it at one input. -/
def fnExactStretchedCordWrong : ChangeSpec := { name := "fnExactStretchedCord", fn := fun _ => fun
  | [d1, d2] => { results := [.lit (.bool false)], args := [d1, d2] }
  | _ => none }
def FnExactStretchedCordWrongFalsely : Prop := fnExactStretchedCordRow.holds Try.pinned (OpenSpec.ofChange fnExactStretchedCordWrong)

/-- 'laws.FnExactPlaceOf': WHATEVER THE INPUT: true; the input reads as it did. -/
def fnExactPlaceOfSpec : ChangeSpec := { name := "fnExactPlaceOf", fn := fun _ => fun
  | [d1, d2, d3] => { results := [.lit (.bool true)], args := [d1, d2, d3] }
  | _ => none }
def fnExactPlaceOfRow : OpenClaim := { program := "ythoknpbcdgljjaa", sum := "42e02ccd4d323c2f38e4d39c4f88881a6bbc5bebd78c334580049721349d346d", func := "loop.example/g01367/laws.FnExactPlaceOf", spec := "fnExactPlaceOf", apart := false }
def FnExactPlaceOfSaid : Prop := fnExactPlaceOfRow.holds Try.pinned (OpenSpec.ofChange fnExactPlaceOfSpec)

/-- ITS FALSE NEIGHBOUR: 'it returns false'. Refute it at one input. -/
def fnExactPlaceOfWrong : ChangeSpec := { name := "fnExactPlaceOf", fn := fun _ => fun
  | [d1, d2, d3] => { results := [.lit (.bool false)], args := [d1, d2, d3] }
  | _ => none }
def FnExactPlaceOfWrongFalsely : Prop := fnExactPlaceOfRow.holds Try.pinned (OpenSpec.ofChange fnExactPlaceOfWrong)

/-- 'laws.FnExactStopFor': WHATEVER THE INPUT: true; the input reads as it did. -/
def fnExactStopForSpec : ChangeSpec := { name := "fnExactStopFor", fn := fun _ => fun
  | [d1, d2, d3] => { results := [.lit (.bool true)], args := [d1, d2, d3] }
  | _ => none }
def fnExactStopForRow : OpenClaim := { program := "ythoknpbcdgljjaa", sum := "42e02ccd4d323c2f38e4d39c4f88881a6bbc5bebd78c334580049721349d346d", func := "loop.example/g01367/laws.FnExactStopFor", spec := "fnExactStopFor", unfollowed := true, recurses := true, apart := false }
def FnExactStopForSaid : Prop := fnExactStopForRow.holds Try.pinned (OpenSpec.ofChange fnExactStopForSpec)

/-- ITS FALSE NEIGHBOUR: 'it returns false'. Refute it at one input. -/
def fnExactStopForWrong : ChangeSpec := { name := "fnExactStopFor", fn := fun _ => fun
  | [d1, d2, d3] => { results := [.lit (.bool false)], args := [d1, d2, d3] }
  | _ => none }
def FnExactStopForWrongFalsely : Prop := fnExactStopForRow.holds Try.pinned (OpenSpec.ofChange fnExactStopForWrong)

/-- 'laws.FnCords': WHATEVER THE INPUT: true; the input reads as it did. -/
def fnCordsSpec : ChangeSpec := { name := "fnCords", fn := fun _ => fun
  | [d1, d2] => { results := [.lit (.bool true)], args := [d1, d2] }
  | _ => none }
def fnCordsRow : OpenClaim := { program := "ythoknpbcdgljjaa", sum := "42e02ccd4d323c2f38e4d39c4f88881a6bbc5bebd78c334580049721349d346d", func := "loop.example/g01367/laws.FnCords", spec := "fnCords", inPlace := ["math.Float32bits"], unfollowed := true, recurses := true, apart := false }
def FnCordsSaid : Prop := fnCordsRow.holds Try.pinned (OpenSpec.ofChange fnCordsSpec)

/-- ITS FALSE NEIGHBOUR: 'it returns false'. Refute it at one input. -/
def fnCordsWrong : ChangeSpec := { name := "fnCords", fn := fun _ => fun
  | [d1, d2] => { results := [.lit (.bool false)], args := [d1, d2] }
  | _ => none }
def FnCordsWrongFalsely : Prop := fnCordsRow.holds Try.pinned (OpenSpec.ofChange fnCordsWrong)

/- THE SECOND FORM. 'bulk': how many values and letters a reading holds, each counted each time it is reached (what is shared counts as often as it is met; a slice's spare places count too). A statement '..UptoSaid' is the law's where the arguments, and the package variables that the reading takes, are together of bulk at most 1048576: NARROWER than '..Said'. Prove '..Said' where nothing that the law and all that it calls make is longer than what came in: it says more and counts as full. Else prove '..UptoSaid'. A law counts once. -/
mutual
def uptoBulk {H : Type} : DataW H → Nat
  | .lit (.string bytes) => bytes.length + 1
  | .lit _ => 1
  | .nil => 1
  | .ptr d => uptoBulk d + 1
  | .slice elems spare => uptoBulkAll elems + uptoBulkAll spare + 1
  | .agg parts => uptoBulkAll parts + 1
  | .iface _ d => uptoBulk d + 1
  | .map entries => uptoBulkEntries entries + 1
  | .held _ => 1
def uptoBulkAll {H : Type} : List (DataW H) → Nat
  | [] => 0
  | d :: r => uptoBulk d + uptoBulkAll r
def uptoBulkEntries {H : Type} : List (Lit × DataW H) → Nat
  | [] => 0
  | x :: r => uptoBulkEntry x + uptoBulkEntries r
def uptoBulkEntry {H : Type} : Lit × DataW H → Nat
  | (.string bytes, d) => bytes.length + uptoBulk d + 1
  | (_, d) => uptoBulk d + 1
 end
def uptoSmall : (H : Type) → List (DataW H) → Bool := fun _ ds => decide (uptoBulkAll ds ≤ 1048576)
def OpenSpec.upto (s : _root_.Go.ChangeSpec) : _root_.Go.OpenSpec := { _root_.Go.OpenSpec.ofChange s with cond := some uptoSmall }

/-- 'laws.FnExactConstants', WHERE WHAT IT READS IS OF BULK AT MOST 1048576: true; the input reads as it did. -/
def fnExactConstantsUptoRow : OpenClaim := { program := "ythoknpbcdgljjaa", sum := "42e02ccd4d323c2f38e4d39c4f88881a6bbc5bebd78c334580049721349d346d", func := "loop.example/g01367/laws.FnExactConstants", spec := "fnExactConstants", apart := false, narrowed := true }
def FnExactConstantsUptoSaid : Prop := fnExactConstantsUptoRow.holds Try.pinned (OpenSpec.upto fnExactConstantsSpec)

/-- 'laws.FnExactIsPart', WHERE WHAT IT READS IS OF BULK AT MOST 1048576: true; the input reads as it did. -/
def fnExactIsPartUptoRow : OpenClaim := { program := "ythoknpbcdgljjaa", sum := "42e02ccd4d323c2f38e4d39c4f88881a6bbc5bebd78c334580049721349d346d", func := "loop.example/g01367/laws.FnExactIsPart", spec := "fnExactIsPart", apart := false, narrowed := true }
def FnExactIsPartUptoSaid : Prop := fnExactIsPartUptoRow.holds Try.pinned (OpenSpec.upto fnExactIsPartSpec)

/-- 'laws.FnExactIsPlain', WHERE WHAT IT READS IS OF BULK AT MOST 1048576: true; the input reads as it did. -/
def fnExactIsPlainUptoRow : OpenClaim := { program := "ythoknpbcdgljjaa", sum := "42e02ccd4d323c2f38e4d39c4f88881a6bbc5bebd78c334580049721349d346d", func := "loop.example/g01367/laws.FnExactIsPlain", spec := "fnExactIsPlain", apart := false, narrowed := true }
def FnExactIsPlainUptoSaid : Prop := fnExactIsPlainUptoRow.holds Try.pinned (OpenSpec.upto fnExactIsPlainSpec)

/-- 'laws.FnExactSameNumber', WHERE WHAT IT READS IS OF BULK AT MOST 1048576: true; the input reads as it did. -/
def fnExactSameNumberUptoRow : OpenClaim := { program := "ythoknpbcdgljjaa", sum := "42e02ccd4d323c2f38e4d39c4f88881a6bbc5bebd78c334580049721349d346d", func := "loop.example/g01367/laws.FnExactSameNumber", spec := "fnExactSameNumber", inPlace := ["math.Float32bits"], apart := false, narrowed := true }
def FnExactSameNumberUptoSaid : Prop := fnExactSameNumberUptoRow.holds Try.pinned (OpenSpec.upto fnExactSameNumberSpec)

/-- 'laws.FnExactCodeName', WHERE WHAT IT READS IS OF BULK AT MOST 1048576: true; the input reads as it did. -/
def fnExactCodeNameUptoRow : OpenClaim := { program := "ythoknpbcdgljjaa", sum := "42e02ccd4d323c2f38e4d39c4f88881a6bbc5bebd78c334580049721349d346d", func := "loop.example/g01367/laws.FnExactCodeName", spec := "fnExactCodeName", apart := false, narrowed := true }
def FnExactCodeNameUptoSaid : Prop := fnExactCodeNameUptoRow.holds Try.pinned (OpenSpec.upto fnExactCodeNameSpec)

/-- 'laws.FnExactSineOf', WHERE WHAT IT READS IS OF BULK AT MOST 1048576: true; the input reads as it did. -/
def fnExactSineOfUptoRow : OpenClaim := { program := "ythoknpbcdgljjaa", sum := "42e02ccd4d323c2f38e4d39c4f88881a6bbc5bebd78c334580049721349d346d", func := "loop.example/g01367/laws.FnExactSineOf", spec := "fnExactSineOf", recurses := true, apart := false, narrowed := true }
def FnExactSineOfUptoSaid : Prop := fnExactSineOfUptoRow.holds Try.pinned (OpenSpec.upto fnExactSineOfSpec)

/-- 'laws.FnExactCosineOf', WHERE WHAT IT READS IS OF BULK AT MOST 1048576: true; the input reads as it did. -/
def fnExactCosineOfUptoRow : OpenClaim := { program := "ythoknpbcdgljjaa", sum := "42e02ccd4d323c2f38e4d39c4f88881a6bbc5bebd78c334580049721349d346d", func := "loop.example/g01367/laws.FnExactCosineOf", spec := "fnExactCosineOf", recurses := true, apart := false, narrowed := true }
def FnExactCosineOfUptoSaid : Prop := fnExactCosineOfUptoRow.holds Try.pinned (OpenSpec.upto fnExactCosineOfSpec)

/-- 'laws.FnExactValidCord', WHERE WHAT IT READS IS OF BULK AT MOST 1048576: true; the input reads as it did. -/
def fnExactValidCordUptoRow : OpenClaim := { program := "ythoknpbcdgljjaa", sum := "42e02ccd4d323c2f38e4d39c4f88881a6bbc5bebd78c334580049721349d346d", func := "loop.example/g01367/laws.FnExactValidCord", spec := "fnExactValidCord", apart := false, narrowed := true }
def FnExactValidCordUptoSaid : Prop := fnExactValidCordUptoRow.holds Try.pinned (OpenSpec.upto fnExactValidCordSpec)

/-- 'laws.FnExactStretchedCord', WHERE WHAT IT READS IS OF BULK AT MOST 1048576: true; the input reads as it did. -/
def fnExactStretchedCordUptoRow : OpenClaim := { program := "ythoknpbcdgljjaa", sum := "42e02ccd4d323c2f38e4d39c4f88881a6bbc5bebd78c334580049721349d346d", func := "loop.example/g01367/laws.FnExactStretchedCord", spec := "fnExactStretchedCord", apart := false, narrowed := true }
def FnExactStretchedCordUptoSaid : Prop := fnExactStretchedCordUptoRow.holds Try.pinned (OpenSpec.upto fnExactStretchedCordSpec)

/-- 'laws.FnExactPlaceOf', WHERE WHAT IT READS IS OF BULK AT MOST 1048576: true; the input reads as it did. -/
def fnExactPlaceOfUptoRow : OpenClaim := { program := "ythoknpbcdgljjaa", sum := "42e02ccd4d323c2f38e4d39c4f88881a6bbc5bebd78c334580049721349d346d", func := "loop.example/g01367/laws.FnExactPlaceOf", spec := "fnExactPlaceOf", apart := false, narrowed := true }
def FnExactPlaceOfUptoSaid : Prop := fnExactPlaceOfUptoRow.holds Try.pinned (OpenSpec.upto fnExactPlaceOfSpec)

/-- 'laws.FnExactStopFor', WHERE WHAT IT READS IS OF BULK AT MOST 1048576: true; the input reads as it did. -/
def fnExactStopForUptoRow : OpenClaim := { program := "ythoknpbcdgljjaa", sum := "42e02ccd4d323c2f38e4d39c4f88881a6bbc5bebd78c334580049721349d346d", func := "loop.example/g01367/laws.FnExactStopFor", spec := "fnExactStopFor", unfollowed := true, recurses := true, apart := false, narrowed := true }
def FnExactStopForUptoSaid : Prop := fnExactStopForUptoRow.holds Try.pinned (OpenSpec.upto fnExactStopForSpec)

/-- 'laws.FnCords', WHERE WHAT IT READS IS OF BULK AT MOST 1048576: true; the input reads as it did. -/
def fnCordsUptoRow : OpenClaim := { program := "ythoknpbcdgljjaa", sum := "42e02ccd4d323c2f38e4d39c4f88881a6bbc5bebd78c334580049721349d346d", func := "loop.example/g01367/laws.FnCords", spec := "fnCords", inPlace := ["math.Float32bits"], unfollowed := true, recurses := true, apart := false, narrowed := true }
def FnCordsUptoSaid : Prop := fnCordsUptoRow.holds Try.pinned (OpenSpec.upto fnCordsSpec)

end Rows
end Go.Proofs.Ythoknpbcdgljjaa
