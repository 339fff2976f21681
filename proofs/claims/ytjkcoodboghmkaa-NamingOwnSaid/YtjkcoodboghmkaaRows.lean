/-
  No cell of these rows narrows 'for every input' (looked for: loops, veiled, ifaces, maps, wideKeys, modest, calm, conditions, laid).
  DERIVED. THE GIVEN ROWS OF THIS SEAT. 11 by the template 'for every input the law returns true; each argument reads behind the call as it read before'; 0 by the template 'total and deterministic' (their statements: YtjkcoodboghmkaaTotals.lean).
  GIVEN WITH THE SEED: the statements are not yours to turn. If you find one false, say at which input.
  Laid BY PROGRAM, IN A SANDBOX (cutbox-rows.mjs): the forced cells as the released guide's own fill.sh prints them over the translation 72cfb261a940e59e… (all of the seat's roots in one cut). By AI agents, Wed Nov 11 2026. No macro, syntax, notation, axiom, sorry.
-/
import Derived.Test.YtjkcoodboghmkaaChecked
import GoSem.Claim
import GoSem.ClaimJoined
import GoSem.ClaimMapViews
import Derived.JoinedTies
import Derived.KernelRfl
namespace Go.Proofs.Ytjkcoodboghmkaa
/- THE CELL 'sum', in the pinned program and in every row, IS THE sha256 OF THE DUMP (.gsa) THAT YtjkcoodboghmkaaProg.lean LOADS. Nothing in Lean hashes anything: it is a label: what it is worth is what the hold of that sum in a sandbox is worth. -/
noncomputable def Try.pinned : Pinned := { name := "ytjkcoodboghmkaa", sum := "72cfb261a940e59e822a791ef7b6738d52907076b21c7fc669aaa04180a853dc", checked := Try.checked }
namespace Rows
def none {H : Type} : Left H := { results := [], args := [] }

/-- 'cairnlaw09.NamingNumbers': WHATEVER THE INPUT: true; the input reads as it did. -/
def namingNumbersSpec : ChangeSpec := { name := "namingNumbers", fn := fun _ => fun
  | [] => { results := [.lit (.bool true)], args := [] }
  | _ => none }
def namingNumbersRow : OpenClaim := { program := "ytjkcoodboghmkaa", sum := "72cfb261a940e59e822a791ef7b6738d52907076b21c7fc669aaa04180a853dc", func := "cairn/cairnlaw09.NamingNumbers", spec := "namingNumbers", recurses := true, apart := false }
def NamingNumbersSaid : Prop := namingNumbersRow.holds Try.pinned (OpenSpec.ofChange namingNumbersSpec)

/-- ITS FALSE NEIGHBOUR: 'it returns false'. Refute it at one input. -/
def namingNumbersWrong : ChangeSpec := { name := "namingNumbers", fn := fun _ => fun
  | [] => { results := [.lit (.bool false)], args := [] }
  | _ => none }
def NamingNumbersWrongFalsely : Prop := namingNumbersRow.holds Try.pinned (OpenSpec.ofChange namingNumbersWrong)

/-- 'cairnlaw09.NamingObjects': WHATEVER THE INPUT: true; the input reads as it did. -/
def namingObjectsSpec : ChangeSpec := { name := "namingObjects", fn := fun _ => fun
  | [d] => { results := [.lit (.bool true)], args := [d] }
  | _ => none }
def namingObjectsRow : OpenClaim := { program := "ytjkcoodboghmkaa", sum := "72cfb261a940e59e822a791ef7b6738d52907076b21c7fc669aaa04180a853dc", func := "cairn/cairnlaw09.NamingObjects", spec := "namingObjects", recurses := true, apart := false }
def NamingObjectsSaid : Prop := namingObjectsRow.holds Try.pinned (OpenSpec.ofChange namingObjectsSpec)

/-- ITS FALSE NEIGHBOUR: 'it returns false'. Refute it at one input. -/
def namingObjectsWrong : ChangeSpec := { name := "namingObjects", fn := fun _ => fun
  | [d] => { results := [.lit (.bool false)], args := [d] }
  | _ => none }
def NamingObjectsWrongFalsely : Prop := namingObjectsRow.holds Try.pinned (OpenSpec.ofChange namingObjectsWrong)

/-- 'cairnlaw09.NamingKeys': WHATEVER THE INPUT: true; the input reads as it did. -/
def namingKeysSpec : ChangeSpec := { name := "namingKeys", fn := fun _ => fun
  | [d] => { results := [.lit (.bool true)], args := [d] }
  | _ => none }
def namingKeysRow : OpenClaim := { program := "ytjkcoodboghmkaa", sum := "72cfb261a940e59e822a791ef7b6738d52907076b21c7fc669aaa04180a853dc", func := "cairn/cairnlaw09.NamingKeys", spec := "namingKeys", recurses := true, apart := false }
def NamingKeysSaid : Prop := namingKeysRow.holds Try.pinned (OpenSpec.ofChange namingKeysSpec)

/-- ITS FALSE NEIGHBOUR: 'it returns false'. Refute it at one input. -/
def namingKeysWrong : ChangeSpec := { name := "namingKeys", fn := fun _ => fun
  | [d] => { results := [.lit (.bool false)], args := [d] }
  | _ => none }
def NamingKeysWrongFalsely : Prop := namingKeysRow.holds Try.pinned (OpenSpec.ofChange namingKeysWrong)

/-- 'cairnlaw09.NamingKinds': WHATEVER THE INPUT: true; the input reads as it did. -/
def namingKindsSpec : ChangeSpec := { name := "namingKinds", fn := fun _ => fun
  | [d] => { results := [.lit (.bool true)], args := [d] }
  | _ => none }
def namingKindsRow : OpenClaim := { program := "ytjkcoodboghmkaa", sum := "72cfb261a940e59e822a791ef7b6738d52907076b21c7fc669aaa04180a853dc", func := "cairn/cairnlaw09.NamingKinds", spec := "namingKinds", recurses := true, apart := false }
def NamingKindsSaid : Prop := namingKindsRow.holds Try.pinned (OpenSpec.ofChange namingKindsSpec)

/-- ITS FALSE NEIGHBOUR: 'it returns false'. Refute it at one input. -/
def namingKindsWrong : ChangeSpec := { name := "namingKinds", fn := fun _ => fun
  | [d] => { results := [.lit (.bool false)], args := [d] }
  | _ => none }
def NamingKindsWrongFalsely : Prop := namingKindsRow.holds Try.pinned (OpenSpec.ofChange namingKindsWrong)

/-- 'cairnlaw09.NamingUnders': WHATEVER THE INPUT: true; the input reads as it did. -/
def namingUndersSpec : ChangeSpec := { name := "namingUnders", fn := fun _ => fun
  | [d1, d2] => { results := [.lit (.bool true)], args := [d1, d2] }
  | _ => none }
def namingUndersRow : OpenClaim := { program := "ytjkcoodboghmkaa", sum := "72cfb261a940e59e822a791ef7b6738d52907076b21c7fc669aaa04180a853dc", func := "cairn/cairnlaw09.NamingUnders", spec := "namingUnders", recurses := true, apart := false }
def NamingUndersSaid : Prop := namingUndersRow.holds Try.pinned (OpenSpec.ofChange namingUndersSpec)

/-- ITS FALSE NEIGHBOUR: 'it returns false'. Refute it at one input. -/
def namingUndersWrong : ChangeSpec := { name := "namingUnders", fn := fun _ => fun
  | [d1, d2] => { results := [.lit (.bool false)], args := [d1, d2] }
  | _ => none }
def NamingUndersWrongFalsely : Prop := namingUndersRow.holds Try.pinned (OpenSpec.ofChange namingUndersWrong)

/-- 'cairnlaw09.NamingBack': WHATEVER THE INPUT: true; the input reads as it did. -/
def namingBackSpec : ChangeSpec := { name := "namingBack", fn := fun _ => fun
  | [d] => { results := [.lit (.bool true)], args := [d] }
  | _ => none }
def namingBackRow : OpenClaim := { program := "ytjkcoodboghmkaa", sum := "72cfb261a940e59e822a791ef7b6738d52907076b21c7fc669aaa04180a853dc", func := "cairn/cairnlaw09.NamingBack", spec := "namingBack", recurses := true, apart := false }
def NamingBackSaid : Prop := namingBackRow.holds Try.pinned (OpenSpec.ofChange namingBackSpec)

/-- ITS FALSE NEIGHBOUR: 'it returns false'. Refute it at one input. -/
def namingBackWrong : ChangeSpec := { name := "namingBack", fn := fun _ => fun
  | [d] => { results := [.lit (.bool false)], args := [d] }
  | _ => none }
def NamingBackWrongFalsely : Prop := namingBackRow.holds Try.pinned (OpenSpec.ofChange namingBackWrong)

/-- 'cairnlaw09.NamingOnly': WHATEVER THE INPUT: true; the input reads as it did. -/
def namingOnlySpec : ChangeSpec := { name := "namingOnly", fn := fun _ => fun
  | [d] => { results := [.lit (.bool true)], args := [d] }
  | _ => none }
def namingOnlyRow : OpenClaim := { program := "ytjkcoodboghmkaa", sum := "72cfb261a940e59e822a791ef7b6738d52907076b21c7fc669aaa04180a853dc", func := "cairn/cairnlaw09.NamingOnly", spec := "namingOnly", recurses := true, apart := false }
def NamingOnlySaid : Prop := namingOnlyRow.holds Try.pinned (OpenSpec.ofChange namingOnlySpec)

/-- ITS FALSE NEIGHBOUR: 'it returns false'. Refute it at one input. -/
def namingOnlyWrong : ChangeSpec := { name := "namingOnly", fn := fun _ => fun
  | [d] => { results := [.lit (.bool false)], args := [d] }
  | _ => none }
def NamingOnlyWrongFalsely : Prop := namingOnlyRow.holds Try.pinned (OpenSpec.ofChange namingOnlyWrong)

/-- 'cairnlaw09.NamingOrder': WHATEVER THE INPUT: true; the input reads as it did. -/
def namingOrderSpec : ChangeSpec := { name := "namingOrder", fn := fun _ => fun
  | [d1, d2] => { results := [.lit (.bool true)], args := [d1, d2] }
  | _ => none }
def namingOrderRow : OpenClaim := { program := "ytjkcoodboghmkaa", sum := "72cfb261a940e59e822a791ef7b6738d52907076b21c7fc669aaa04180a853dc", func := "cairn/cairnlaw09.NamingOrder", spec := "namingOrder", recurses := true, apart := false }
def NamingOrderSaid : Prop := namingOrderRow.holds Try.pinned (OpenSpec.ofChange namingOrderSpec)

/-- ITS FALSE NEIGHBOUR: 'it returns false'. Refute it at one input. -/
def namingOrderWrong : ChangeSpec := { name := "namingOrder", fn := fun _ => fun
  | [d1, d2] => { results := [.lit (.bool false)], args := [d1, d2] }
  | _ => none }
def NamingOrderWrongFalsely : Prop := namingOrderRow.holds Try.pinned (OpenSpec.ofChange namingOrderWrong)

/-- 'cairnlaw09.NamingSorted': WHATEVER THE INPUT: true; the input reads as it did. -/
def namingSortedSpec : ChangeSpec := { name := "namingSorted", fn := fun _ => fun
  | [d1, d2] => { results := [.lit (.bool true)], args := [d1, d2] }
  | _ => none }
def namingSortedRow : OpenClaim := { program := "ytjkcoodboghmkaa", sum := "72cfb261a940e59e822a791ef7b6738d52907076b21c7fc669aaa04180a853dc", func := "cairn/cairnlaw09.NamingSorted", spec := "namingSorted", recurses := true, apart := false }
def NamingSortedSaid : Prop := namingSortedRow.holds Try.pinned (OpenSpec.ofChange namingSortedSpec)

/-- ITS FALSE NEIGHBOUR: 'it returns false'. Refute it at one input. -/
def namingSortedWrong : ChangeSpec := { name := "namingSorted", fn := fun _ => fun
  | [d1, d2] => { results := [.lit (.bool false)], args := [d1, d2] }
  | _ => none }
def NamingSortedWrongFalsely : Prop := namingSortedRow.holds Try.pinned (OpenSpec.ofChange namingSortedWrong)

/-- 'cairnlaw09.NamingUnites': WHATEVER THE INPUT: true; the input reads as it did. -/
def namingUnitesSpec : ChangeSpec := { name := "namingUnites", fn := fun _ => fun
  | [d1, d2, d3] => { results := [.lit (.bool true)], args := [d1, d2, d3] }
  | _ => none }
def namingUnitesRow : OpenClaim := { program := "ytjkcoodboghmkaa", sum := "72cfb261a940e59e822a791ef7b6738d52907076b21c7fc669aaa04180a853dc", func := "cairn/cairnlaw09.NamingUnites", spec := "namingUnites", recurses := true, apart := false }
def NamingUnitesSaid : Prop := namingUnitesRow.holds Try.pinned (OpenSpec.ofChange namingUnitesSpec)

/-- ITS FALSE NEIGHBOUR: 'it returns false'. Refute it at one input. -/
def namingUnitesWrong : ChangeSpec := { name := "namingUnites", fn := fun _ => fun
  | [d1, d2, d3] => { results := [.lit (.bool false)], args := [d1, d2, d3] }
  | _ => none }
def NamingUnitesWrongFalsely : Prop := namingUnitesRow.holds Try.pinned (OpenSpec.ofChange namingUnitesWrong)

/-- 'cairnlaw09.NamingOwn': WHATEVER THE INPUT: true; the input reads as it did. -/
def namingOwnSpec : ChangeSpec := { name := "namingOwn", fn := fun _ => fun
  | [d1, d2, d3] => { results := [.lit (.bool true)], args := [d1, d2, d3] }
  | _ => none }
def namingOwnRow : OpenClaim := { program := "ytjkcoodboghmkaa", sum := "72cfb261a940e59e822a791ef7b6738d52907076b21c7fc669aaa04180a853dc", func := "cairn/cairnlaw09.NamingOwn", spec := "namingOwn", recurses := true, apart := false }
def NamingOwnSaid : Prop := namingOwnRow.holds Try.pinned (OpenSpec.ofChange namingOwnSpec)

/-- ITS FALSE NEIGHBOUR: 'it returns false'. Refute it at one input. -/
def namingOwnWrong : ChangeSpec := { name := "namingOwn", fn := fun _ => fun
  | [d1, d2, d3] => { results := [.lit (.bool false)], args := [d1, d2, d3] }
  | _ => none }
def NamingOwnWrongFalsely : Prop := namingOwnRow.holds Try.pinned (OpenSpec.ofChange namingOwnWrong)

/- THE SECOND FORM. 'bulk': how many values and letters a reading holds, each counted each time it is reached (what is shared counts as often as it is met; a slice's spare places count too). A statement '..UptoSaid' is the law's where the arguments, and the package variables that the reading takes, are together of bulk at most 1048576: NARROWER than '..Said'. Prove '..Said' where nothing that the law and all that it calls make is longer than what came in: it says more and counts as full. Else prove '..UptoSaid'. A law counts once. -/
mutual
def uptoBulk {H : Type} : DataW H → Nat
  | .lit (.string bytes) => bytes.length + 1
  | .lit _ => 1
  | .nil => 1
  | .ptr d => uptoBulk d + 1
  | .slice elems spare => uptoBulkAll elems + uptoBulkAll spare + 1
  | .agg parts => uptoBulkAll parts + 1
  | .iface _ d => uptoBulk d + 1
  | .map entries => uptoBulkEntries entries + 1
  | .held _ => 1
def uptoBulkAll {H : Type} : List (DataW H) → Nat
  | [] => 0
  | d :: r => uptoBulk d + uptoBulkAll r
def uptoBulkEntries {H : Type} : List (Lit × DataW H) → Nat
  | [] => 0
  | x :: r => uptoBulkEntry x + uptoBulkEntries r
def uptoBulkEntry {H : Type} : Lit × DataW H → Nat
  | (.string bytes, d) => bytes.length + uptoBulk d + 1
  | (_, d) => uptoBulk d + 1
 end
def uptoSmall : (H : Type) → List (DataW H) → Bool := fun _ ds => decide (uptoBulkAll ds ≤ 1048576)
def OpenSpec.upto (s : _root_.Go.ChangeSpec) : _root_.Go.OpenSpec := { _root_.Go.OpenSpec.ofChange s with cond := some uptoSmall }

/-- 'cairnlaw09.NamingNumbers', WHERE WHAT IT READS IS OF BULK AT MOST 1048576: true; the input reads as it did. -/
def namingNumbersUptoRow : OpenClaim := { program := "ytjkcoodboghmkaa", sum := "72cfb261a940e59e822a791ef7b6738d52907076b21c7fc669aaa04180a853dc", func := "cairn/cairnlaw09.NamingNumbers", spec := "namingNumbers", recurses := true, apart := false, narrowed := true }
def NamingNumbersUptoSaid : Prop := namingNumbersUptoRow.holds Try.pinned (OpenSpec.upto namingNumbersSpec)

/-- 'cairnlaw09.NamingObjects', WHERE WHAT IT READS IS OF BULK AT MOST 1048576: true; the input reads as it did. -/
def namingObjectsUptoRow : OpenClaim := { program := "ytjkcoodboghmkaa", sum := "72cfb261a940e59e822a791ef7b6738d52907076b21c7fc669aaa04180a853dc", func := "cairn/cairnlaw09.NamingObjects", spec := "namingObjects", recurses := true, apart := false, narrowed := true }
def NamingObjectsUptoSaid : Prop := namingObjectsUptoRow.holds Try.pinned (OpenSpec.upto namingObjectsSpec)

/-- 'cairnlaw09.NamingKeys', WHERE WHAT IT READS IS OF BULK AT MOST 1048576: true; the input reads as it did. -/
def namingKeysUptoRow : OpenClaim := { program := "ytjkcoodboghmkaa", sum := "72cfb261a940e59e822a791ef7b6738d52907076b21c7fc669aaa04180a853dc", func := "cairn/cairnlaw09.NamingKeys", spec := "namingKeys", recurses := true, apart := false, narrowed := true }
def NamingKeysUptoSaid : Prop := namingKeysUptoRow.holds Try.pinned (OpenSpec.upto namingKeysSpec)

/-- 'cairnlaw09.NamingKinds', WHERE WHAT IT READS IS OF BULK AT MOST 1048576: true; the input reads as it did. -/
def namingKindsUptoRow : OpenClaim := { program := "ytjkcoodboghmkaa", sum := "72cfb261a940e59e822a791ef7b6738d52907076b21c7fc669aaa04180a853dc", func := "cairn/cairnlaw09.NamingKinds", spec := "namingKinds", recurses := true, apart := false, narrowed := true }
def NamingKindsUptoSaid : Prop := namingKindsUptoRow.holds Try.pinned (OpenSpec.upto namingKindsSpec)

/-- 'cairnlaw09.NamingUnders', WHERE WHAT IT READS IS OF BULK AT MOST 1048576: true; the input reads as it did. -/
def namingUndersUptoRow : OpenClaim := { program := "ytjkcoodboghmkaa", sum := "72cfb261a940e59e822a791ef7b6738d52907076b21c7fc669aaa04180a853dc", func := "cairn/cairnlaw09.NamingUnders", spec := "namingUnders", recurses := true, apart := false, narrowed := true }
def NamingUndersUptoSaid : Prop := namingUndersUptoRow.holds Try.pinned (OpenSpec.upto namingUndersSpec)

/-- 'cairnlaw09.NamingBack', WHERE WHAT IT READS IS OF BULK AT MOST 1048576: true; the input reads as it did. -/
def namingBackUptoRow : OpenClaim := { program := "ytjkcoodboghmkaa", sum := "72cfb261a940e59e822a791ef7b6738d52907076b21c7fc669aaa04180a853dc", func := "cairn/cairnlaw09.NamingBack", spec := "namingBack", recurses := true, apart := false, narrowed := true }
def NamingBackUptoSaid : Prop := namingBackUptoRow.holds Try.pinned (OpenSpec.upto namingBackSpec)

/-- 'cairnlaw09.NamingOnly', WHERE WHAT IT READS IS OF BULK AT MOST 1048576: true; the input reads as it did. -/
def namingOnlyUptoRow : OpenClaim := { program := "ytjkcoodboghmkaa", sum := "72cfb261a940e59e822a791ef7b6738d52907076b21c7fc669aaa04180a853dc", func := "cairn/cairnlaw09.NamingOnly", spec := "namingOnly", recurses := true, apart := false, narrowed := true }
def NamingOnlyUptoSaid : Prop := namingOnlyUptoRow.holds Try.pinned (OpenSpec.upto namingOnlySpec)

/-- 'cairnlaw09.NamingOrder', WHERE WHAT IT READS IS OF BULK AT MOST 1048576: true; the input reads as it did. -/
def namingOrderUptoRow : OpenClaim := { program := "ytjkcoodboghmkaa", sum := "72cfb261a940e59e822a791ef7b6738d52907076b21c7fc669aaa04180a853dc", func := "cairn/cairnlaw09.NamingOrder", spec := "namingOrder", recurses := true, apart := false, narrowed := true }
def NamingOrderUptoSaid : Prop := namingOrderUptoRow.holds Try.pinned (OpenSpec.upto namingOrderSpec)

/-- 'cairnlaw09.NamingSorted', WHERE WHAT IT READS IS OF BULK AT MOST 1048576: true; the input reads as it did. -/
def namingSortedUptoRow : OpenClaim := { program := "ytjkcoodboghmkaa", sum := "72cfb261a940e59e822a791ef7b6738d52907076b21c7fc669aaa04180a853dc", func := "cairn/cairnlaw09.NamingSorted", spec := "namingSorted", recurses := true, apart := false, narrowed := true }
def NamingSortedUptoSaid : Prop := namingSortedUptoRow.holds Try.pinned (OpenSpec.upto namingSortedSpec)

/-- 'cairnlaw09.NamingUnites', WHERE WHAT IT READS IS OF BULK AT MOST 1048576: true; the input reads as it did. -/
def namingUnitesUptoRow : OpenClaim := { program := "ytjkcoodboghmkaa", sum := "72cfb261a940e59e822a791ef7b6738d52907076b21c7fc669aaa04180a853dc", func := "cairn/cairnlaw09.NamingUnites", spec := "namingUnites", recurses := true, apart := false, narrowed := true }
def NamingUnitesUptoSaid : Prop := namingUnitesUptoRow.holds Try.pinned (OpenSpec.upto namingUnitesSpec)

/-- 'cairnlaw09.NamingOwn', WHERE WHAT IT READS IS OF BULK AT MOST 1048576: true; the input reads as it did. -/
def namingOwnUptoRow : OpenClaim := { program := "ytjkcoodboghmkaa", sum := "72cfb261a940e59e822a791ef7b6738d52907076b21c7fc669aaa04180a853dc", func := "cairn/cairnlaw09.NamingOwn", spec := "namingOwn", recurses := true, apart := false, narrowed := true }
def NamingOwnUptoSaid : Prop := namingOwnUptoRow.holds Try.pinned (OpenSpec.upto namingOwnSpec)

end Rows
end Go.Proofs.Ytjkcoodboghmkaa
