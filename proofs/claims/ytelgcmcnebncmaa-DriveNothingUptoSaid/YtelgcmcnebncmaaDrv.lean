/- Drives, and what each call does and answers: the plain side of layer 11. No program. -/
import Derived.Test.YtelgcmcnebncmaaDir
namespace Go.Proofs.Ytelgcmcnebncmaa.Dr
open Go

/-- Bytes, the first safe of them safe. -/
structure Bd where
  data : Bs
  safe : Nat
/-- A drive: bodies by number, what stands, what is safe, the pending changes. -/
structure D where
  room : Nat
  bd : List Bd
  now : Dir
  kept : Dir
  pend : List (List (Bs × Option Nat))

def named (n : Bs) : Bool := decide (1 ≤ n.length ∧ n.length ≤ 1024)
def D.at (d : D) (i : Nat) : Bd := d.bd.getD i ⟨[], 0⟩
/-- What stands, in bytes. -/
def sumL (bd : List Bd) (l : Dir) : Nat := (l.map fun p => (bd.getD p.2 ⟨[], 0⟩).data.length).sum
def D.used (d : D) : Nat := sumL d.bd d.now
def D.change (d : D) (c : List (Bs × Option Nat)) : D := { d with now := apply d.now c, pend := d.pend ++ [c] }
def D.setBody (d : D) (i : Nat) (b : Bd) : D := { d with bd := d.bd.set i b }

/-- The body of a name, or why there is none. -/
def D.look (d : D) (n : Bs) : Except Int Nat :=
  if named n then (match find d.now n with | some i => .ok i | none => .error 110) else .error 91
def D.create (d : D) (n : Bs) : D × Int :=
  if named n then
    if (find d.now n).isNone && decide (65536 ≤ d.now.length) then (d, 112)
    else (({ d with bd := d.bd ++ [⟨[], 0⟩] } : D).change [(n, some d.bd.length)], 0)
  else (d, 91)
/-- Whether so many more bytes fit: as the machine counts. -/
def D.fits (d : D) (m : Nat) : Bool := decide (((d.used : Int) + m + 9223372036854775808) % 18446744073709551616 - 9223372036854775808 ≤ (d.room : Int))
def D.append (d : D) (n : Bs) (x : Bs) : D × Int :=
  match d.look n with
  | .error e => (d, e)
  | .ok i => if x = [] then (d, 0) else if d.fits x.length then (d.setBody i ⟨(d.at i).data ++ x, (d.at i).safe⟩, 0) else (d, 111)
def D.sync (d : D) (n : Bs) : D × Int :=
  match d.look n with
  | .error e => (d, e)
  | .ok i => (d.setBody i ⟨(d.at i).data, (d.at i).data.length⟩, 0)
def D.rename (d : D) (a b : Bs) : D × Int :=
  if named a && !named b then (d, 91)
  else match d.look a with
    | .error e => (d, e)
    | .ok i => if a = b then (d, 0) else (d.change [(a, none), (b, some i)], 0)
def D.remove (d : D) (n : Bs) : D × Int :=
  match d.look n with
  | .error e => (d, e)
  | .ok _ => (d.change [(n, none)], 0)
def D.syncDir (d : D) : D := { d with kept := d.now, pend := [] }
def D.files (d : D) (l : Dir) (f : Bd → Bs) : List (Bs × Bs) := l.map fun p => (p.1, f (d.at p.2))
def D.image (d : D) : List (Bs × Bs) := d.files d.now (·.data)
def D.safe (d : D) : List (Bs × Bs) := d.files d.kept fun b => b.data.take b.safe
/-- The changes that are kept. -/
def keepSome (l : Dir) : List (List (Bs × Option Nat)) → List Bool → Dir
  | c :: r, b :: s => keepSome (if b then apply l c else l) r s
  | _, _ => l
/-- A body behind a loss of power that keeps so many of its loose bytes. -/
def Bd.left (b : Bd) (c : Int) : Bd := let n := min (max c 0).toNat (b.data.length - b.safe) + b.safe; ⟨b.data.take n, n⟩
def D.crash (d : D) (dirs : List Bool) (cuts : List Int) : D :=
  let k := keepSome d.kept d.pend dirs
  let l : Dir := k.zipIdx.map fun p => (p.1.1, p.2)
  ⟨d.room, k.zipIdx.map fun p => (d.at p.1.2).left (cuts.getD p.2 0), l, l, []⟩
def flipAt : Bs → Nat → Bs → Bs
  | b :: r, 0, p :: q => (b ^^^ p) :: flipAt r 0 q
  | b :: r, k + 1, p => b :: flipAt r k p
  | l, _, _ => l
def D.flip (d : D) (n : Bs) (k : Int) (p : Bs) : D × Int :=
  if named n && decide (k < 0) then (d, 2)
  else match d.look n with
    | .error e => (d, e)
    | .ok i => (d.setBody i ⟨flipAt (d.at i).data k.toNat p, (d.at i).safe⟩, 0)
def D.cut (d : D) (n : Bs) (k : Int) : D × Int :=
  if named n && decide (k < 0) then (d, 2)
  else match d.look n with
    | .error e => (d, e)
    | .ok i => (d.setBody i ⟨(d.at i).data.take k.toNat, min (d.at i).safe k.toNat⟩, 0)
def D.wipe (d : D) : D := ⟨d.room, [], [], [], []⟩
def D.fresh (room : Nat) : D := ⟨room, [], [], [], []⟩
/-- A drive that holds these files; none where a name comes twice or is none. -/
def loadAt : D → List (Bs × Bs) → Option D
  | d, [] => some d
  | d, (n, x) :: r =>
    if (find d.now n).isSome || !named n then none
    else loadAt ⟨d.room, d.bd ++ [⟨x, x.length⟩], put d.now n (some d.bd.length), put d.kept n (some d.bd.length), []⟩ r
def okRoom (room : Int) : Bool := decide (0 ≤ room ∧ room ≤ 1073741824)
def D.new (room : Int) : Option D := if okRoom room then some (D.fresh room.toNat) else none
def D.load (room : Int) (fs : List (Bs × Bs)) : Option D := if okRoom room then loadAt (D.fresh room.toNat) fs else none

/-- A call. -/
structure Ac where
  kind : Int
  name : Bs
  dst : Bs
  n : Int
  data : Bs
  dirs : List Bool
  cuts : List Int
/-- What is answered. -/
structure An where
  code : Int := 0
  n : Int := 0
  data : Bs := []
  names : List Bs := []
  files : List (Bs × Bs) := []
def D.step (d : D) (a : Ac) : D × An :=
  if a.kind = 0 then ((d.create a.name).1, { code := (d.create a.name).2 })
  else if a.kind = 1 then ((d.append a.name a.data).1, { code := (d.append a.name a.data).2 })
  else if a.kind = 2 then ((d.sync a.name).1, { code := (d.sync a.name).2 })
  else if a.kind = 3 then ((d.rename a.name a.dst).1, { code := (d.rename a.name a.dst).2 })
  else if a.kind = 4 then ((d.remove a.name).1, { code := (d.remove a.name).2 })
  else if a.kind = 5 then (d.syncDir, {})
  else if a.kind = 6 then (d, match d.look a.name with | .error e => { code := e } | .ok i => { data := (d.at i).data })
  else if a.kind = 7 then (d, { names := d.now.map (·.1) })
  else if a.kind = 8 then (d, { n := ((d.used : Int) + 9223372036854775808) % 18446744073709551616 - 9223372036854775808 })
  else if a.kind = 9 then (d, { n := d.pend.length })
  else if a.kind = 10 then (d, match d.look a.name with | .error e => { code := e } | .ok i => { n := (d.at i).data.length - (d.at i).safe })
  else if a.kind = 11 then (d, { files := d.image })
  else if a.kind = 12 then (d, { files := d.safe })
  else if a.kind = 13 then (d.crash a.dirs a.cuts, {})
  else if a.kind = 14 then ((d.flip a.name a.n a.data).1, { code := (d.flip a.name a.n a.data).2 })
  else if a.kind = 15 then ((d.cut a.name a.n).1, { code := (d.cut a.name a.n).2 })
  else if a.kind = 16 then (d.wipe, {})
  else (d, {})

/-- What holds of every drive; m: no body is longer; N: no list of names is. -/
structure D.Ok (d : D) (m N : Nat) : Prop where
  room : d.room ≤ 1073741824
  now : Rise d.now
  kept : Rise d.kept
  inN : ∀ p ∈ d.now, p.2 < d.bd.length
  inK : ∀ p ∈ d.kept, p.2 < d.bd.length
  inP : ∀ c ∈ d.pend, ∀ s ∈ c, named s.1 = true ∧ ∀ i, s.2 = some i → i < d.bd.length
  one : (d.now.map (·.2)).Nodup
  oneP : ∀ c ∈ d.pend, c.countP (fun s => s.2.isSome) ≤ 1
  safe : ∀ b ∈ d.bd, b.safe ≤ b.data.length ∧ b.data.length ≤ m
  lenN : d.now.length ≤ N
  lenK : d.kept.length + d.pend.length ≤ N
  namN : ∀ p ∈ d.now, named p.1 = true
  namK : ∀ p ∈ d.kept, named p.1 = true
end Go.Proofs.Ytelgcmcnebncmaa.Dr
