/-
  No cell of these rows narrows 'for every input' (looked for: loops, veiled, ifaces, maps, wideKeys, modest, calm, conditions, laid).
  DERIVED. THE GIVEN ROWS OF THIS SEAT. 5 by the template 'for every input the law returns true; each argument reads behind the call as it read before'; 0 by the template 'total and deterministic' (their statements: YtpppgdfgbhglbaaTotals.lean).
  GIVEN WITH THE SEED: the statements are not yours to turn. If you find one false, say at which input.
  Laid BY PROGRAM, IN A SANDBOX (cutbox-rows.mjs): the forced cells as the released guide's own fill.sh prints them over the translation 9a2e37a454c25655… (all of the seat's roots in one cut). By AI agents, Wed Nov 11 2026. No macro, syntax, notation, axiom, sorry.
-/
import Derived.Test.YtpppgdfgbhglbaaChecked
import GoSem.Claim
import GoSem.ClaimJoined
import GoSem.ClaimMapViews
import Derived.JoinedTies
import Derived.KernelRfl
namespace Go.Proofs.Ytpppgdfgbhglbaa
/- THE CELL 'sum', in the pinned program and in every row, IS THE sha256 OF THE DUMP (.gsa) THAT YtpppgdfgbhglbaaProg.lean LOADS. Nothing in Lean hashes anything: it is a label: what it is worth is what the hold of that sum in a sandbox is worth. -/
noncomputable def Try.pinned : Pinned := { name := "ytpppgdfgbhglbaa", sum := "9a2e37a454c2565578ec5024782d3098f6576a078f875db12007944846341c5f", checked := Try.checked }
namespace Rows
def none {H : Type} : Left H := { results := [], args := [] }

/-- 'cairnlaw28.CacheMemory': WHATEVER THE INPUT: true; the input reads as it did. -/
def cacheMemorySpec : ChangeSpec := { name := "cacheMemory", fn := fun _ => fun
  | [d1, d2] => { results := [.lit (.bool true)], args := [d1, d2] }
  | _ => none }
def cacheMemoryRow : OpenClaim := { program := "ytpppgdfgbhglbaa", sum := "9a2e37a454c2565578ec5024782d3098f6576a078f875db12007944846341c5f", func := "cairn/cairnlaw28.CacheMemory", spec := "cacheMemory", apart := false }
def CacheMemorySaid : Prop := cacheMemoryRow.holds Try.pinned (OpenSpec.ofChange cacheMemorySpec)

/-- ITS FALSE NEIGHBOUR: 'it returns false'. Refute it at one input. -/
def cacheMemoryWrong : ChangeSpec := { name := "cacheMemory", fn := fun _ => fun
  | [d1, d2] => { results := [.lit (.bool false)], args := [d1, d2] }
  | _ => none }
def CacheMemoryWrongFalsely : Prop := cacheMemoryRow.holds Try.pinned (OpenSpec.ofChange cacheMemoryWrong)

/-- 'cairnlaw28.CacheNumbers': WHATEVER THE INPUT: true; the input reads as it did. -/
def cacheNumbersSpec : ChangeSpec := { name := "cacheNumbers", fn := fun _ => fun
  | [d1, d2, d3] => { results := [.lit (.bool true)], args := [d1, d2, d3] }
  | _ => none }
def cacheNumbersRow : OpenClaim := { program := "ytpppgdfgbhglbaa", sum := "9a2e37a454c2565578ec5024782d3098f6576a078f875db12007944846341c5f", func := "cairn/cairnlaw28.CacheNumbers", spec := "cacheNumbers", inPlace := ["math.Float64bits"], apart := false }
def CacheNumbersSaid : Prop := cacheNumbersRow.holds Try.pinned (OpenSpec.ofChange cacheNumbersSpec)

/-- ITS FALSE NEIGHBOUR: 'it returns false'. Refute it at one input. -/
def cacheNumbersWrong : ChangeSpec := { name := "cacheNumbers", fn := fun _ => fun
  | [d1, d2, d3] => { results := [.lit (.bool false)], args := [d1, d2, d3] }
  | _ => none }
def CacheNumbersWrongFalsely : Prop := cacheNumbersRow.holds Try.pinned (OpenSpec.ofChange cacheNumbersWrong)

/-- 'cairnlaw28.CacheUses': WHATEVER THE INPUT: true; the input reads as it did. -/
def cacheUsesSpec : ChangeSpec := { name := "cacheUses", fn := fun _ => fun
  | [d1, d2, d3] => { results := [.lit (.bool true)], args := [d1, d2, d3] }
  | _ => none }
def cacheUsesRow : OpenClaim := { program := "ytpppgdfgbhglbaa", sum := "9a2e37a454c2565578ec5024782d3098f6576a078f875db12007944846341c5f", func := "cairn/cairnlaw28.CacheUses", spec := "cacheUses", apart := false }
def CacheUsesSaid : Prop := cacheUsesRow.holds Try.pinned (OpenSpec.ofChange cacheUsesSpec)

/-- ITS FALSE NEIGHBOUR: 'it returns false'. Refute it at one input. -/
def cacheUsesWrong : ChangeSpec := { name := "cacheUses", fn := fun _ => fun
  | [d1, d2, d3] => { results := [.lit (.bool false)], args := [d1, d2, d3] }
  | _ => none }
def CacheUsesWrongFalsely : Prop := cacheUsesRow.holds Try.pinned (OpenSpec.ofChange cacheUsesWrong)

/-- 'cairnlaw28.CacheStack': WHATEVER THE INPUT: true; the input reads as it did. -/
def cacheStackSpec : ChangeSpec := { name := "cacheStack", fn := fun _ => fun
  | [d1, d2, d3] => { results := [.lit (.bool true)], args := [d1, d2, d3] }
  | _ => none }
def cacheStackRow : OpenClaim := { program := "ytpppgdfgbhglbaa", sum := "9a2e37a454c2565578ec5024782d3098f6576a078f875db12007944846341c5f", func := "cairn/cairnlaw28.CacheStack", spec := "cacheStack", apart := false }
def CacheStackSaid : Prop := cacheStackRow.holds Try.pinned (OpenSpec.ofChange cacheStackSpec)

/-- ITS FALSE NEIGHBOUR: 'it returns false'. Refute it at one input. -/
def cacheStackWrong : ChangeSpec := { name := "cacheStack", fn := fun _ => fun
  | [d1, d2, d3] => { results := [.lit (.bool false)], args := [d1, d2, d3] }
  | _ => none }
def CacheStackWrongFalsely : Prop := cacheStackRow.holds Try.pinned (OpenSpec.ofChange cacheStackWrong)

/-- 'cairnlaw28.CacheHolds': WHATEVER THE INPUT: true; the input reads as it did. -/
def cacheHoldsSpec : ChangeSpec := { name := "cacheHolds", fn := fun _ => fun
  | [d1, d2] => { results := [.lit (.bool true)], args := [d1, d2] }
  | _ => none }
def cacheHoldsRow : OpenClaim := { program := "ytpppgdfgbhglbaa", sum := "9a2e37a454c2565578ec5024782d3098f6576a078f875db12007944846341c5f", func := "cairn/cairnlaw28.CacheHolds", spec := "cacheHolds", apart := false }
def CacheHoldsSaid : Prop := cacheHoldsRow.holds Try.pinned (OpenSpec.ofChange cacheHoldsSpec)

/-- ITS FALSE NEIGHBOUR: 'it returns false'. Refute it at one input. -/
def cacheHoldsWrong : ChangeSpec := { name := "cacheHolds", fn := fun _ => fun
  | [d1, d2] => { results := [.lit (.bool false)], args := [d1, d2] }
  | _ => none }
def CacheHoldsWrongFalsely : Prop := cacheHoldsRow.holds Try.pinned (OpenSpec.ofChange cacheHoldsWrong)

/- THE SECOND FORM. 'bulk': how many values and letters a reading holds, each counted each time it is reached (what is shared counts as often as it is met; a slice's spare places count too). A statement '..UptoSaid' is the law's where the arguments, and the package variables that the reading takes, are together of bulk at most 1048576: NARROWER than '..Said'. Prove '..Said' where nothing that the law and all that it calls make is longer than what came in: it says more and counts as full. Else prove '..UptoSaid'. A law counts once. -/
mutual
def uptoBulk {H : Type} : DataW H → Nat
  | .lit (.string bytes) => bytes.length + 1
  | .lit _ => 1
  | .nil => 1
  | .ptr d => uptoBulk d + 1
  | .slice elems spare => uptoBulkAll elems + uptoBulkAll spare + 1
  | .agg parts => uptoBulkAll parts + 1
  | .iface _ d => uptoBulk d + 1
  | .map entries => uptoBulkEntries entries + 1
  | .held _ => 1
def uptoBulkAll {H : Type} : List (DataW H) → Nat
  | [] => 0
  | d :: r => uptoBulk d + uptoBulkAll r
def uptoBulkEntries {H : Type} : List (Lit × DataW H) → Nat
  | [] => 0
  | x :: r => uptoBulkEntry x + uptoBulkEntries r
def uptoBulkEntry {H : Type} : Lit × DataW H → Nat
  | (.string bytes, d) => bytes.length + uptoBulk d + 1
  | (_, d) => uptoBulk d + 1
 end
def uptoSmall : (H : Type) → List (DataW H) → Bool := fun _ ds => decide (uptoBulkAll ds ≤ 1048576)
def OpenSpec.upto (s : _root_.Go.ChangeSpec) : _root_.Go.OpenSpec := { _root_.Go.OpenSpec.ofChange s with cond := some uptoSmall }

/-- 'cairnlaw28.CacheMemory', WHERE WHAT IT READS IS OF BULK AT MOST 1048576: true; the input reads as it did. -/
def cacheMemoryUptoRow : OpenClaim := { program := "ytpppgdfgbhglbaa", sum := "9a2e37a454c2565578ec5024782d3098f6576a078f875db12007944846341c5f", func := "cairn/cairnlaw28.CacheMemory", spec := "cacheMemory", apart := false, narrowed := true }
def CacheMemoryUptoSaid : Prop := cacheMemoryUptoRow.holds Try.pinned (OpenSpec.upto cacheMemorySpec)

/-- 'cairnlaw28.CacheNumbers', WHERE WHAT IT READS IS OF BULK AT MOST 1048576: true; the input reads as it did. -/
def cacheNumbersUptoRow : OpenClaim := { program := "ytpppgdfgbhglbaa", sum := "9a2e37a454c2565578ec5024782d3098f6576a078f875db12007944846341c5f", func := "cairn/cairnlaw28.CacheNumbers", spec := "cacheNumbers", inPlace := ["math.Float64bits"], apart := false, narrowed := true }
def CacheNumbersUptoSaid : Prop := cacheNumbersUptoRow.holds Try.pinned (OpenSpec.upto cacheNumbersSpec)

/-- 'cairnlaw28.CacheUses', WHERE WHAT IT READS IS OF BULK AT MOST 1048576: true; the input reads as it did. -/
def cacheUsesUptoRow : OpenClaim := { program := "ytpppgdfgbhglbaa", sum := "9a2e37a454c2565578ec5024782d3098f6576a078f875db12007944846341c5f", func := "cairn/cairnlaw28.CacheUses", spec := "cacheUses", apart := false, narrowed := true }
def CacheUsesUptoSaid : Prop := cacheUsesUptoRow.holds Try.pinned (OpenSpec.upto cacheUsesSpec)

/-- 'cairnlaw28.CacheStack', WHERE WHAT IT READS IS OF BULK AT MOST 1048576: true; the input reads as it did. -/
def cacheStackUptoRow : OpenClaim := { program := "ytpppgdfgbhglbaa", sum := "9a2e37a454c2565578ec5024782d3098f6576a078f875db12007944846341c5f", func := "cairn/cairnlaw28.CacheStack", spec := "cacheStack", apart := false, narrowed := true }
def CacheStackUptoSaid : Prop := cacheStackUptoRow.holds Try.pinned (OpenSpec.upto cacheStackSpec)

/-- 'cairnlaw28.CacheHolds', WHERE WHAT IT READS IS OF BULK AT MOST 1048576: true; the input reads as it did. -/
def cacheHoldsUptoRow : OpenClaim := { program := "ytpppgdfgbhglbaa", sum := "9a2e37a454c2565578ec5024782d3098f6576a078f875db12007944846341c5f", func := "cairn/cairnlaw28.CacheHolds", spec := "cacheHolds", apart := false, narrowed := true }
def CacheHoldsUptoSaid : Prop := cacheHoldsUptoRow.holds Try.pinned (OpenSpec.upto cacheHoldsSpec)

end Rows
end Go.Proofs.Ytpppgdfgbhglbaa
