/-
  No cell of these rows narrows 'for every input' (looked for: loops, veiled, ifaces, maps, wideKeys, modest, calm, conditions, laid).
  DERIVED. THE GIVEN ROWS OF THIS SEAT. 8 by the template 'for every input the law returns true; each argument reads behind the call as it read before'; 0 by the template 'total and deterministic' (their statements: YtelgcmcnebncmaaTotals.lean).
  GIVEN WITH THE SEED: the statements are not yours to turn. If you find one false, say at which input.
  Laid BY PROGRAM, IN A SANDBOX (cutbox-rows.mjs): the forced cells as the released guide's own fill.sh prints them over the translation 243e3259e86d8400… (all of the seat's roots in one cut). By AI agents, Wed Nov 11 2026. No macro, syntax, notation, axiom, sorry.
-/
import Derived.Test.YtelgcmcnebncmaaChecked
import GoSem.Claim
import GoSem.ClaimJoined
import GoSem.ClaimMapViews
import Derived.JoinedTies
import Derived.KernelRfl
namespace Go.Proofs.Ytelgcmcnebncmaa
/- THE CELL 'sum', in the pinned program and in every row, IS THE sha256 OF THE DUMP (.gsa) THAT YtelgcmcnebncmaaProg.lean LOADS. Nothing in Lean hashes anything: it is a label: what it is worth is what the hold of that sum in a sandbox is worth. -/
noncomputable def Try.pinned : Pinned := { name := "ytelgcmcnebncmaa", sum := "243e3259e86d84000d677222fccbca1901a25a6e3dccb22b0f10c8be0bb3bfe1", checked := Try.checked }
namespace Rows
def none {H : Type} : Left H := { results := [], args := [] }

/-- 'cairnlaw11.DriveCrashes': WHATEVER THE INPUT: true; the input reads as it did. -/
def driveCrashesSpec : ChangeSpec := { name := "driveCrashes", fn := fun _ => fun
  | [d1, d2, d3] => { results := [.lit (.bool true)], args := [d1, d2, d3] }
  | _ => none }
def driveCrashesRow : OpenClaim := { program := "ytelgcmcnebncmaa", sum := "243e3259e86d84000d677222fccbca1901a25a6e3dccb22b0f10c8be0bb3bfe1", func := "cairn/cairnlaw11.DriveCrashes", spec := "driveCrashes", inPlace := ["maps.clone"], unfollowed := true, recurses := true, apart := false }
def DriveCrashesSaid : Prop := driveCrashesRow.holds Try.pinned (OpenSpec.ofChange driveCrashesSpec)

/-- ITS FALSE NEIGHBOUR: 'it returns false'. Refute it at one input. -/
def driveCrashesWrong : ChangeSpec := { name := "driveCrashes", fn := fun _ => fun
  | [d1, d2, d3] => { results := [.lit (.bool false)], args := [d1, d2, d3] }
  | _ => none }
def DriveCrashesWrongFalsely : Prop := driveCrashesRow.holds Try.pinned (OpenSpec.ofChange driveCrashesWrong)

/-- 'cairnlaw11.DriveKeeps': WHATEVER THE INPUT: true; the input reads as it did. -/
def driveKeepsSpec : ChangeSpec := { name := "driveKeeps", fn := fun _ => fun
  | [d] => { results := [.lit (.bool true)], args := [d] }
  | _ => none }
def driveKeepsRow : OpenClaim := { program := "ytelgcmcnebncmaa", sum := "243e3259e86d84000d677222fccbca1901a25a6e3dccb22b0f10c8be0bb3bfe1", func := "cairn/cairnlaw11.DriveKeeps", spec := "driveKeeps", inPlace := ["maps.clone"], unfollowed := true, recurses := true, apart := false }
def DriveKeepsSaid : Prop := driveKeepsRow.holds Try.pinned (OpenSpec.ofChange driveKeepsSpec)

/-- ITS FALSE NEIGHBOUR: 'it returns false'. Refute it at one input. -/
def driveKeepsWrong : ChangeSpec := { name := "driveKeeps", fn := fun _ => fun
  | [d] => { results := [.lit (.bool false)], args := [d] }
  | _ => none }
def DriveKeepsWrongFalsely : Prop := driveKeepsRow.holds Try.pinned (OpenSpec.ofChange driveKeepsWrong)

/-- 'cairnlaw11.DriveNothing': WHATEVER THE INPUT: true; the input reads as it did. -/
def driveNothingSpec : ChangeSpec := { name := "driveNothing", fn := fun _ => fun
  | [d1, d2] => { results := [.lit (.bool true)], args := [d1, d2] }
  | _ => none }
def driveNothingRow : OpenClaim := { program := "ytelgcmcnebncmaa", sum := "243e3259e86d84000d677222fccbca1901a25a6e3dccb22b0f10c8be0bb3bfe1", func := "cairn/cairnlaw11.DriveNothing", spec := "driveNothing", inPlace := ["maps.clone"], unfollowed := true, recurses := true, apart := false }
def DriveNothingSaid : Prop := driveNothingRow.holds Try.pinned (OpenSpec.ofChange driveNothingSpec)

/-- ITS FALSE NEIGHBOUR: 'it returns false'. Refute it at one input. -/
def driveNothingWrong : ChangeSpec := { name := "driveNothing", fn := fun _ => fun
  | [d1, d2] => { results := [.lit (.bool false)], args := [d1, d2] }
  | _ => none }
def DriveNothingWrongFalsely : Prop := driveNothingRow.holds Try.pinned (OpenSpec.ofChange driveNothingWrong)

/-- 'cairnlaw11.DriveCalm': WHATEVER THE INPUT: true; the input reads as it did. -/
def driveCalmSpec : ChangeSpec := { name := "driveCalm", fn := fun _ => fun
  | [d1, d2] => { results := [.lit (.bool true)], args := [d1, d2] }
  | _ => none }
def driveCalmRow : OpenClaim := { program := "ytelgcmcnebncmaa", sum := "243e3259e86d84000d677222fccbca1901a25a6e3dccb22b0f10c8be0bb3bfe1", func := "cairn/cairnlaw11.DriveCalm", spec := "driveCalm", inPlace := ["maps.clone"], unfollowed := true, recurses := true, apart := false }
def DriveCalmSaid : Prop := driveCalmRow.holds Try.pinned (OpenSpec.ofChange driveCalmSpec)

/-- ITS FALSE NEIGHBOUR: 'it returns false'. Refute it at one input. -/
def driveCalmWrong : ChangeSpec := { name := "driveCalm", fn := fun _ => fun
  | [d1, d2] => { results := [.lit (.bool false)], args := [d1, d2] }
  | _ => none }
def DriveCalmWrongFalsely : Prop := driveCalmRow.holds Try.pinned (OpenSpec.ofChange driveCalmWrong)

/-- 'cairnlaw11.DriveBetween': WHATEVER THE INPUT: true; the input reads as it did. -/
def driveBetweenSpec : ChangeSpec := { name := "driveBetween", fn := fun _ => fun
  | [d] => { results := [.lit (.bool true)], args := [d] }
  | _ => none }
def driveBetweenRow : OpenClaim := { program := "ytelgcmcnebncmaa", sum := "243e3259e86d84000d677222fccbca1901a25a6e3dccb22b0f10c8be0bb3bfe1", func := "cairn/cairnlaw11.DriveBetween", spec := "driveBetween", inPlace := ["maps.clone"], unfollowed := true, recurses := true, apart := false }
def DriveBetweenSaid : Prop := driveBetweenRow.holds Try.pinned (OpenSpec.ofChange driveBetweenSpec)

/-- ITS FALSE NEIGHBOUR: 'it returns false'. Refute it at one input. -/
def driveBetweenWrong : ChangeSpec := { name := "driveBetween", fn := fun _ => fun
  | [d] => { results := [.lit (.bool false)], args := [d] }
  | _ => none }
def DriveBetweenWrongFalsely : Prop := driveBetweenRow.holds Try.pinned (OpenSpec.ofChange driveBetweenWrong)

/-- 'cairnlaw11.DriveOwn': WHATEVER THE INPUT: true; the input reads as it did. -/
def driveOwnSpec : ChangeSpec := { name := "driveOwn", fn := fun _ => fun
  | [d] => { results := [.lit (.bool true)], args := [d] }
  | _ => none }
def driveOwnRow : OpenClaim := { program := "ytelgcmcnebncmaa", sum := "243e3259e86d84000d677222fccbca1901a25a6e3dccb22b0f10c8be0bb3bfe1", func := "cairn/cairnlaw11.DriveOwn", spec := "driveOwn", inPlace := ["maps.clone"], unfollowed := true, recurses := true, apart := false }
def DriveOwnSaid : Prop := driveOwnRow.holds Try.pinned (OpenSpec.ofChange driveOwnSpec)

/-- ITS FALSE NEIGHBOUR: 'it returns false'. Refute it at one input. -/
def driveOwnWrong : ChangeSpec := { name := "driveOwn", fn := fun _ => fun
  | [d] => { results := [.lit (.bool false)], args := [d] }
  | _ => none }
def DriveOwnWrongFalsely : Prop := driveOwnRow.holds Try.pinned (OpenSpec.ofChange driveOwnWrong)

/-- 'cairnlaw11.DriveSame': WHATEVER THE INPUT: true; the input reads as it did. -/
def driveSameSpec : ChangeSpec := { name := "driveSame", fn := fun _ => fun
  | [d] => { results := [.lit (.bool true)], args := [d] }
  | _ => none }
def driveSameRow : OpenClaim := { program := "ytelgcmcnebncmaa", sum := "243e3259e86d84000d677222fccbca1901a25a6e3dccb22b0f10c8be0bb3bfe1", func := "cairn/cairnlaw11.DriveSame", spec := "driveSame", inPlace := ["maps.clone"], unfollowed := true, recurses := true, apart := false }
def DriveSameSaid : Prop := driveSameRow.holds Try.pinned (OpenSpec.ofChange driveSameSpec)

/-- ITS FALSE NEIGHBOUR: 'it returns false'. Refute it at one input. -/
def driveSameWrong : ChangeSpec := { name := "driveSame", fn := fun _ => fun
  | [d] => { results := [.lit (.bool false)], args := [d] }
  | _ => none }
def DriveSameWrongFalsely : Prop := driveSameRow.holds Try.pinned (OpenSpec.ofChange driveSameWrong)

/-- 'cairnlaw11.DrivePlays': WHATEVER THE INPUT: true; the input reads as it did. -/
def drivePlaysSpec : ChangeSpec := { name := "drivePlays", fn := fun _ => fun
  | [d1, d2] => { results := [.lit (.bool true)], args := [d1, d2] }
  | _ => none }
def drivePlaysRow : OpenClaim := { program := "ytelgcmcnebncmaa", sum := "243e3259e86d84000d677222fccbca1901a25a6e3dccb22b0f10c8be0bb3bfe1", func := "cairn/cairnlaw11.DrivePlays", spec := "drivePlays", inPlace := ["maps.clone"], unfollowed := true, recurses := true, apart := false }
def DrivePlaysSaid : Prop := drivePlaysRow.holds Try.pinned (OpenSpec.ofChange drivePlaysSpec)

/-- ITS FALSE NEIGHBOUR: 'it returns false'. Refute it at one input. -/
def drivePlaysWrong : ChangeSpec := { name := "drivePlays", fn := fun _ => fun
  | [d1, d2] => { results := [.lit (.bool false)], args := [d1, d2] }
  | _ => none }
def DrivePlaysWrongFalsely : Prop := drivePlaysRow.holds Try.pinned (OpenSpec.ofChange drivePlaysWrong)

/- THE SECOND FORM. 'bulk': how many values and letters a reading holds, each counted each time it is reached (what is shared counts as often as it is met; a slice's spare places count too). A statement '..UptoSaid' is the law's where the arguments, and the package variables that the reading takes, are together of bulk at most 1048576: NARROWER than '..Said'. Prove '..Said' where nothing that the law and all that it calls make is longer than what came in: it says more and counts as full. Else prove '..UptoSaid'. A law counts once. -/
mutual
def uptoBulk {H : Type} : DataW H → Nat
  | .lit (.string bytes) => bytes.length + 1
  | .lit _ => 1
  | .nil => 1
  | .ptr d => uptoBulk d + 1
  | .slice elems spare => uptoBulkAll elems + uptoBulkAll spare + 1
  | .agg parts => uptoBulkAll parts + 1
  | .iface _ d => uptoBulk d + 1
  | .map entries => uptoBulkEntries entries + 1
  | .held _ => 1
def uptoBulkAll {H : Type} : List (DataW H) → Nat
  | [] => 0
  | d :: r => uptoBulk d + uptoBulkAll r
def uptoBulkEntries {H : Type} : List (Lit × DataW H) → Nat
  | [] => 0
  | x :: r => uptoBulkEntry x + uptoBulkEntries r
def uptoBulkEntry {H : Type} : Lit × DataW H → Nat
  | (.string bytes, d) => bytes.length + uptoBulk d + 1
  | (_, d) => uptoBulk d + 1
 end
def uptoSmall : (H : Type) → List (DataW H) → Bool := fun _ ds => decide (uptoBulkAll ds ≤ 1048576)
def OpenSpec.upto (s : _root_.Go.ChangeSpec) : _root_.Go.OpenSpec := { _root_.Go.OpenSpec.ofChange s with cond := some uptoSmall }

/-- 'cairnlaw11.DriveCrashes', WHERE WHAT IT READS IS OF BULK AT MOST 1048576: true; the input reads as it did. -/
def driveCrashesUptoRow : OpenClaim := { program := "ytelgcmcnebncmaa", sum := "243e3259e86d84000d677222fccbca1901a25a6e3dccb22b0f10c8be0bb3bfe1", func := "cairn/cairnlaw11.DriveCrashes", spec := "driveCrashes", inPlace := ["maps.clone"], unfollowed := true, recurses := true, apart := false, narrowed := true }
def DriveCrashesUptoSaid : Prop := driveCrashesUptoRow.holds Try.pinned (OpenSpec.upto driveCrashesSpec)

/-- 'cairnlaw11.DriveKeeps', WHERE WHAT IT READS IS OF BULK AT MOST 1048576: true; the input reads as it did. -/
def driveKeepsUptoRow : OpenClaim := { program := "ytelgcmcnebncmaa", sum := "243e3259e86d84000d677222fccbca1901a25a6e3dccb22b0f10c8be0bb3bfe1", func := "cairn/cairnlaw11.DriveKeeps", spec := "driveKeeps", inPlace := ["maps.clone"], unfollowed := true, recurses := true, apart := false, narrowed := true }
def DriveKeepsUptoSaid : Prop := driveKeepsUptoRow.holds Try.pinned (OpenSpec.upto driveKeepsSpec)

/-- 'cairnlaw11.DriveNothing', WHERE WHAT IT READS IS OF BULK AT MOST 1048576: true; the input reads as it did. -/
def driveNothingUptoRow : OpenClaim := { program := "ytelgcmcnebncmaa", sum := "243e3259e86d84000d677222fccbca1901a25a6e3dccb22b0f10c8be0bb3bfe1", func := "cairn/cairnlaw11.DriveNothing", spec := "driveNothing", inPlace := ["maps.clone"], unfollowed := true, recurses := true, apart := false, narrowed := true }
def DriveNothingUptoSaid : Prop := driveNothingUptoRow.holds Try.pinned (OpenSpec.upto driveNothingSpec)

/-- 'cairnlaw11.DriveCalm', WHERE WHAT IT READS IS OF BULK AT MOST 1048576: true; the input reads as it did. -/
def driveCalmUptoRow : OpenClaim := { program := "ytelgcmcnebncmaa", sum := "243e3259e86d84000d677222fccbca1901a25a6e3dccb22b0f10c8be0bb3bfe1", func := "cairn/cairnlaw11.DriveCalm", spec := "driveCalm", inPlace := ["maps.clone"], unfollowed := true, recurses := true, apart := false, narrowed := true }
def DriveCalmUptoSaid : Prop := driveCalmUptoRow.holds Try.pinned (OpenSpec.upto driveCalmSpec)

/-- 'cairnlaw11.DriveBetween', WHERE WHAT IT READS IS OF BULK AT MOST 1048576: true; the input reads as it did. -/
def driveBetweenUptoRow : OpenClaim := { program := "ytelgcmcnebncmaa", sum := "243e3259e86d84000d677222fccbca1901a25a6e3dccb22b0f10c8be0bb3bfe1", func := "cairn/cairnlaw11.DriveBetween", spec := "driveBetween", inPlace := ["maps.clone"], unfollowed := true, recurses := true, apart := false, narrowed := true }
def DriveBetweenUptoSaid : Prop := driveBetweenUptoRow.holds Try.pinned (OpenSpec.upto driveBetweenSpec)

/-- 'cairnlaw11.DriveOwn', WHERE WHAT IT READS IS OF BULK AT MOST 1048576: true; the input reads as it did. -/
def driveOwnUptoRow : OpenClaim := { program := "ytelgcmcnebncmaa", sum := "243e3259e86d84000d677222fccbca1901a25a6e3dccb22b0f10c8be0bb3bfe1", func := "cairn/cairnlaw11.DriveOwn", spec := "driveOwn", inPlace := ["maps.clone"], unfollowed := true, recurses := true, apart := false, narrowed := true }
def DriveOwnUptoSaid : Prop := driveOwnUptoRow.holds Try.pinned (OpenSpec.upto driveOwnSpec)

/-- 'cairnlaw11.DriveSame', WHERE WHAT IT READS IS OF BULK AT MOST 1048576: true; the input reads as it did. -/
def driveSameUptoRow : OpenClaim := { program := "ytelgcmcnebncmaa", sum := "243e3259e86d84000d677222fccbca1901a25a6e3dccb22b0f10c8be0bb3bfe1", func := "cairn/cairnlaw11.DriveSame", spec := "driveSame", inPlace := ["maps.clone"], unfollowed := true, recurses := true, apart := false, narrowed := true }
def DriveSameUptoSaid : Prop := driveSameUptoRow.holds Try.pinned (OpenSpec.upto driveSameSpec)

/-- 'cairnlaw11.DrivePlays', WHERE WHAT IT READS IS OF BULK AT MOST 1048576: true; the input reads as it did. -/
def drivePlaysUptoRow : OpenClaim := { program := "ytelgcmcnebncmaa", sum := "243e3259e86d84000d677222fccbca1901a25a6e3dccb22b0f10c8be0bb3bfe1", func := "cairn/cairnlaw11.DrivePlays", spec := "drivePlays", inPlace := ["maps.clone"], unfollowed := true, recurses := true, apart := false, narrowed := true }
def DrivePlaysUptoSaid : Prop := drivePlaysUptoRow.holds Try.pinned (OpenSpec.upto drivePlaysSpec)

end Rows
end Go.Proofs.Ytelgcmcnebncmaa
