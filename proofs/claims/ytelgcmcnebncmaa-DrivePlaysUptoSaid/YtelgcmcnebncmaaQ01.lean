/- XDir, XDrv: merged by tools/merge.py. -/
import GoSem.ClaimWide
namespace Go.Proofs.Ytelgcmcnebncmaa.Dr
open Go

abbrev Bs := List UInt8
/-- Names that lead to numbers, rising. -/
abbrev Dir := List (Bs × Nat)

section
variable {α : Type}
def ins (x : Bs × α) : List (Bs × α) → List (Bs × α)
  | [] => [x]
  | y :: r => if bytesBefore x.1 y.1 then x :: y :: r else y :: ins x r
def del (l : List (Bs × α)) (k : Bs) : List (Bs × α) := l.filter fun p => decide (p.1 ≠ k)
def put (l : List (Bs × α)) (k : Bs) (to : Option α) : List (Bs × α) :=
  match to with
  | none => del l k
  | some b => ins (k, b) (del l k)
def find (l : List (Bs × α)) (k : Bs) : Option α := (l.find? fun p => decide (p.1 = k)).map (·.2)
def apply (l : List (Bs × α)) (c : List (Bs × Option α)) : List (Bs × α) := c.foldl (fun l s => put l s.1 s.2) l
/-- The list rises, no name twice. -/
def Rise (l : List (Bs × α)) : Prop := l.Pairwise fun p q => bytesBefore p.1 q.1 = true

theorem before_irrefl (a : Bs) : bytesBefore a a = false := by
  induction a with
  | nil => rfl
  | cons x r ih => simp [bytesBefore, ih]
theorem before_trans : ∀ {a b c : Bs}, bytesBefore a b = true → bytesBefore b c = true → bytesBefore a c = true
  | [], [], _, h, _ => by simp [bytesBefore] at h
  | [], _ :: _, [], _, h => by simp [bytesBefore] at h
  | [], _ :: _, _ :: _, _, _ => rfl
  | _ :: _, [], _, h, _ => by simp [bytesBefore] at h
  | _ :: _, _ :: _, [], _, h => by simp [bytesBefore] at h
  | x :: a, y :: b, z :: c, h1, h2 => by
    simp only [bytesBefore, Bool.or_eq_true, Bool.and_eq_true, beq_iff_eq, decide_eq_true_eq] at h1 h2 ⊢
    rcases h1 with h1 | ⟨rfl, h1⟩
    · rcases h2 with h2 | ⟨rfl, _⟩
      · exact .inl (UInt8.lt_trans h1 h2)
      · exact .inl h1
    · rcases h2 with h2 | ⟨rfl, h2⟩
      · exact .inl h2
      · exact .inr ⟨rfl, before_trans h1 h2⟩
theorem before_total : ∀ {a b : Bs}, bytesBefore a b = false → a ≠ b → bytesBefore b a = true
  | [], [], _, h => absurd rfl h
  | [], _ :: _, h, _ => by simp [bytesBefore] at h
  | _ :: _, [], _, _ => rfl
  | x :: a, y :: b, h, hne => by
    simp only [bytesBefore, Bool.or_eq_false_iff, Bool.and_eq_false_iff, beq_eq_false_iff_ne, decide_eq_false_iff_not] at h
    simp only [bytesBefore, Bool.or_eq_true, Bool.and_eq_true, beq_iff_eq, decide_eq_true_eq]
    by_cases hxy : x = y
    · subst hxy
      refine .inr ⟨rfl, before_total ?_ (fun e => hne (by rw [e]))⟩
      rcases h.2 with h2 | h2
      · exact absurd rfl h2
      · exact h2
    · refine .inl ?_
      have h1 : ¬ x.toNat < y.toNat := h.1
      have h2 : x.toNat ≠ y.toNat := fun e => hxy (UInt8.toNat_inj.1 e)
      show y.toNat < x.toNat
      omega
theorem before_ne {a b : Bs} (h : bytesBefore a b = true) : a ≠ b := fun e => by rw [e, before_irrefl] at h; cases h
theorem before_asymm {a b : Bs} (h : bytesBefore a b = true) : bytesBefore b a = false := by
  cases h2 : bytesBefore b a
  · rfl
  · have := before_trans h h2; rw [before_irrefl] at this; cases this

theorem mem_ins {x y : Bs × α} {l : List (Bs × α)} : y ∈ ins x l ↔ y = x ∨ y ∈ l := by
  induction l with
  | nil => simp [ins]
  | cons z r ih =>
    unfold ins
    split
    · simp
    · simp [ih]; grind
theorem mem_del {y : Bs × α} {l : List (Bs × α)} {k : Bs} : y ∈ del l k ↔ y ∈ l ∧ y.1 ≠ k := by simp [del]
theorem mem_put {y : Bs × α} {l : List (Bs × α)} {k : Bs} {to : Option α} : y ∈ put l k to ↔ (y ∈ l ∧ y.1 ≠ k) ∨ (y.1 = k ∧ to = some y.2) := by
  cases to with
  | none => simp [put, mem_del]
  | some b =>
    simp only [put, mem_ins, mem_del, Option.some.injEq]
    constructor
    · rintro (rfl | h)
      · exact .inr ⟨rfl, rfl⟩
      · exact .inl h
    · rintro (h | ⟨h1, h2⟩)
      · exact .inr h
      · exact .inl (Prod.ext h1 h2.symm)
theorem rise_ins {x : Bs × α} {l : List (Bs × α)} (h : Rise l) (hx : ∀ y ∈ l, y.1 ≠ x.1) : Rise (ins x l) := by
  induction l with
  | nil => simp [ins, Rise]
  | cons z r ih =>
    obtain ⟨h1, h2⟩ := List.pairwise_cons.1 h
    unfold ins
    split
    · rename_i hb
      refine List.pairwise_cons.2 ⟨fun y hy => ?_, h⟩
      rcases List.mem_cons.1 hy with rfl | hy
      · exact hb
      · exact before_trans hb (h1 y hy)
    · rename_i hb
      refine List.pairwise_cons.2 ⟨fun y hy => ?_, ih h2 fun y hy => hx y (by simp [hy])⟩
      rcases mem_ins.1 hy with rfl | hy
      · exact before_total (by simpa using hb) (fun e => hx z (by simp) e.symm)
      · exact h1 y hy
theorem rise_del {l : List (Bs × α)} (h : Rise l) (k : Bs) : Rise (del l k) := h.filter _
theorem rise_put {l : List (Bs × α)} (h : Rise l) (k : Bs) (to : Option α) : Rise (put l k to) := by
  cases to with
  | none => exact rise_del h k
  | some b => exact rise_ins (rise_del h k) fun y hy => (mem_del.1 hy).2
theorem rise_apply {l : List (Bs × α)} (h : Rise l) (c : List (Bs × Option α)) : Rise (apply l c) := by
  induction c generalizing l with
  | nil => exact h
  | cons s r ih => exact ih (rise_put h s.1 s.2)
theorem find_some {l : List (Bs × α)} (h : Rise l) {k : Bs} {b : α} : find l k = some b ↔ (k, b) ∈ l := by
  induction l with
  | nil => simp [find]
  | cons z r ih =>
    obtain ⟨h1, h2⟩ := List.pairwise_cons.1 h
    have ih := ih h2
    unfold find at ih ⊢
    rw [List.find?_cons]
    by_cases hz : z.1 = k
    · rw [decide_eq_true hz]
      simp only [Option.map_some, Option.some.injEq, List.mem_cons]
      constructor
      · rintro rfl; exact .inl (Prod.ext hz.symm rfl)
      · rintro (h3 | h3)
        · rw [← h3]
        · have := before_ne (h1 _ h3); exact absurd hz this
    · rw [decide_eq_false hz]
      simp only [List.mem_cons]
      rw [ih]
      constructor
      · exact .inr
      · rintro (h3 | h3)
        · rw [← h3] at hz; exact absurd rfl hz
        · exact h3
theorem find_none {l : List (Bs × α)} {k : Bs} : find l k = none ↔ ∀ y ∈ l, y.1 ≠ k := by
  unfold find
  rw [Option.map_eq_none_iff, List.find?_eq_none]
  simp
theorem find_put {l : List (Bs × α)} (h : Rise l) (k : Bs) (to : Option α) (x : Bs) : find (put l k to) x = if x = k then to else find l x := by
  by_cases hx : x = k
  · subst hx
    rw [if_pos rfl]
    cases to with
    | none => exact find_none.2 fun y hy => (mem_del.1 hy).2
    | some b => exact (find_some (rise_put h x (some b))).2 (mem_put.2 (.inr ⟨rfl, rfl⟩))
  · rw [if_neg hx]
    cases hf : find l x with
    | none =>
      refine find_none.2 fun y hy => ?_
      rcases mem_put.1 hy with ⟨h1, _⟩ | ⟨h1, _⟩
      · exact find_none.1 hf y h1
      · rw [h1]; exact fun e => hx e.symm
    | some b => exact (find_some (rise_put h k to)).2 (mem_put.2 (.inl ⟨(find_some h).1 hf, hx⟩))
theorem len_ins (x : Bs × α) (l : List (Bs × α)) : (ins x l).length = l.length + 1 := by
  induction l with
  | nil => rfl
  | cons z r ih => unfold ins; split <;> simp [ih]
theorem len_del_le (l : List (Bs × α)) (k : Bs) : (del l k).length ≤ l.length := List.length_filter_le _ _
theorem len_put_le (l : List (Bs × α)) (k : Bs) (to : Option α) : (put l k to).length ≤ l.length + 1 := by
  have := len_del_le l k
  cases to with
  | none => simp only [put]; omega
  | some b => simp only [put, len_ins]; omega
theorem ext_rise : ∀ {a b : List (Bs × α)}, Rise a → Rise b → (∀ x, x ∈ a ↔ x ∈ b) → a = b
  | [], [], _, _, _ => rfl
  | [], y :: r, _, _, h => by have := (h y).2 (by simp); cases this
  | x :: a, [], _, _, h => by have := (h x).1 (by simp); cases this
  | x :: a, y :: b, ha, hb, h => by
    obtain ⟨a1, a2⟩ := List.pairwise_cons.1 ha
    obtain ⟨b1, b2⟩ := List.pairwise_cons.1 hb
    have hxy : x = y := by
      rcases List.mem_cons.1 ((h x).1 (by simp)) with e | h1
      · exact e
      · rcases List.mem_cons.1 ((h y).2 (by simp)) with e | h2
        · exact e.symm
        · have := before_asymm (b1 x h1); rw [a1 y h2] at this; cases this
    subst hxy
    congr 1
    refine ext_rise a2 b2 fun z => ⟨fun hz => ?_, fun hz => ?_⟩
    · rcases List.mem_cons.1 ((h z).1 (by simp [hz])) with e | h1
      · subst e; exact absurd rfl (before_ne (a1 z hz))
      · exact h1
    · rcases List.mem_cons.1 ((h z).2 (by simp [hz])) with e | h1
      · subst e; exact absurd rfl (before_ne (b1 z hz))
      · exact h1
end
end Go.Proofs.Ytelgcmcnebncmaa.Dr
namespace Go.Proofs.Ytelgcmcnebncmaa.Dr
open Go

/-- Bytes, the first safe of them safe. -/
structure Bd where
  data : Bs
  safe : Nat
/-- A drive: bodies by number, what stands, what is safe, the pending changes. -/
structure D where
  room : Nat
  bd : List Bd
  now : Dir
  kept : Dir
  pend : List (List (Bs × Option Nat))

def named (n : Bs) : Bool := decide (1 ≤ n.length ∧ n.length ≤ 1024)
def D.at (d : D) (i : Nat) : Bd := d.bd.getD i ⟨[], 0⟩
/-- What stands, in bytes. -/
def sumL (bd : List Bd) (l : Dir) : Nat := (l.map fun p => (bd.getD p.2 ⟨[], 0⟩).data.length).sum
def D.used (d : D) : Nat := sumL d.bd d.now
def D.change (d : D) (c : List (Bs × Option Nat)) : D := { d with now := apply d.now c, pend := d.pend ++ [c] }
def D.setBody (d : D) (i : Nat) (b : Bd) : D := { d with bd := d.bd.set i b }

/-- The body of a name, or why there is none. -/
def D.look (d : D) (n : Bs) : Except Int Nat :=
  if named n then (match find d.now n with | some i => .ok i | none => .error 110) else .error 91
def D.create (d : D) (n : Bs) : D × Int :=
  if named n then
    if (find d.now n).isNone && decide (65536 ≤ d.now.length) then (d, 112)
    else (({ d with bd := d.bd ++ [⟨[], 0⟩] } : D).change [(n, some d.bd.length)], 0)
  else (d, 91)
/-- Whether so many more bytes fit: as the machine counts. -/
def D.fits (d : D) (m : Nat) : Bool := decide (((d.used : Int) + m + 9223372036854775808) % 18446744073709551616 - 9223372036854775808 ≤ (d.room : Int))
def D.append (d : D) (n : Bs) (x : Bs) : D × Int :=
  match d.look n with
  | .error e => (d, e)
  | .ok i => if x = [] then (d, 0) else if d.fits x.length then (d.setBody i ⟨(d.at i).data ++ x, (d.at i).safe⟩, 0) else (d, 111)
def D.sync (d : D) (n : Bs) : D × Int :=
  match d.look n with
  | .error e => (d, e)
  | .ok i => (d.setBody i ⟨(d.at i).data, (d.at i).data.length⟩, 0)
def D.rename (d : D) (a b : Bs) : D × Int :=
  if named a && !named b then (d, 91)
  else match d.look a with
    | .error e => (d, e)
    | .ok i => if a = b then (d, 0) else (d.change [(a, none), (b, some i)], 0)
def D.remove (d : D) (n : Bs) : D × Int :=
  match d.look n with
  | .error e => (d, e)
  | .ok _ => (d.change [(n, none)], 0)
def D.syncDir (d : D) : D := { d with kept := d.now, pend := [] }
def D.files (d : D) (l : Dir) (f : Bd → Bs) : List (Bs × Bs) := l.map fun p => (p.1, f (d.at p.2))
def D.image (d : D) : List (Bs × Bs) := d.files d.now (·.data)
def D.safe (d : D) : List (Bs × Bs) := d.files d.kept fun b => b.data.take b.safe
/-- The changes that are kept. -/
def keepSome (l : Dir) : List (List (Bs × Option Nat)) → List Bool → Dir
  | c :: r, b :: s => keepSome (if b then apply l c else l) r s
  | _, _ => l
/-- A body behind a loss of power that keeps so many of its loose bytes. -/
def Bd.left (b : Bd) (c : Int) : Bd := let n := min (max c 0).toNat (b.data.length - b.safe) + b.safe; ⟨b.data.take n, n⟩
def D.crash (d : D) (dirs : List Bool) (cuts : List Int) : D :=
  let k := keepSome d.kept d.pend dirs
  let l : Dir := k.zipIdx.map fun p => (p.1.1, p.2)
  ⟨d.room, k.zipIdx.map fun p => (d.at p.1.2).left (cuts.getD p.2 0), l, l, []⟩
def flipAt : Bs → Nat → Bs → Bs
  | b :: r, 0, p :: q => (b ^^^ p) :: flipAt r 0 q
  | b :: r, k + 1, p => b :: flipAt r k p
  | l, _, _ => l
def D.flip (d : D) (n : Bs) (k : Int) (p : Bs) : D × Int :=
  if named n && decide (k < 0) then (d, 2)
  else match d.look n with
    | .error e => (d, e)
    | .ok i => (d.setBody i ⟨flipAt (d.at i).data k.toNat p, (d.at i).safe⟩, 0)
def D.cut (d : D) (n : Bs) (k : Int) : D × Int :=
  if named n && decide (k < 0) then (d, 2)
  else match d.look n with
    | .error e => (d, e)
    | .ok i => (d.setBody i ⟨(d.at i).data.take k.toNat, min (d.at i).safe k.toNat⟩, 0)
def D.wipe (d : D) : D := ⟨d.room, [], [], [], []⟩
def D.fresh (room : Nat) : D := ⟨room, [], [], [], []⟩
/-- A drive that holds these files; none where a name comes twice or is none. -/
def loadAt : D → List (Bs × Bs) → Option D
  | d, [] => some d
  | d, (n, x) :: r =>
    if (find d.now n).isSome || !named n then none
    else loadAt ⟨d.room, d.bd ++ [⟨x, x.length⟩], put d.now n (some d.bd.length), put d.kept n (some d.bd.length), []⟩ r
def okRoom (room : Int) : Bool := decide (0 ≤ room ∧ room ≤ 1073741824)
def D.new (room : Int) : Option D := if okRoom room then some (D.fresh room.toNat) else none
def D.load (room : Int) (fs : List (Bs × Bs)) : Option D := if okRoom room then loadAt (D.fresh room.toNat) fs else none

/-- A call. -/
structure Ac where
  kind : Int
  name : Bs
  dst : Bs
  n : Int
  data : Bs
  dirs : List Bool
  cuts : List Int
/-- What is answered. -/
structure An where
  code : Int := 0
  n : Int := 0
  data : Bs := []
  names : List Bs := []
  files : List (Bs × Bs) := []
def D.step (d : D) (a : Ac) : D × An :=
  if a.kind = 0 then ((d.create a.name).1, { code := (d.create a.name).2 })
  else if a.kind = 1 then ((d.append a.name a.data).1, { code := (d.append a.name a.data).2 })
  else if a.kind = 2 then ((d.sync a.name).1, { code := (d.sync a.name).2 })
  else if a.kind = 3 then ((d.rename a.name a.dst).1, { code := (d.rename a.name a.dst).2 })
  else if a.kind = 4 then ((d.remove a.name).1, { code := (d.remove a.name).2 })
  else if a.kind = 5 then (d.syncDir, {})
  else if a.kind = 6 then (d, match d.look a.name with | .error e => { code := e } | .ok i => { data := (d.at i).data })
  else if a.kind = 7 then (d, { names := d.now.map (·.1) })
  else if a.kind = 8 then (d, { n := ((d.used : Int) + 9223372036854775808) % 18446744073709551616 - 9223372036854775808 })
  else if a.kind = 9 then (d, { n := d.pend.length })
  else if a.kind = 10 then (d, match d.look a.name with | .error e => { code := e } | .ok i => { n := (d.at i).data.length - (d.at i).safe })
  else if a.kind = 11 then (d, { files := d.image })
  else if a.kind = 12 then (d, { files := d.safe })
  else if a.kind = 13 then (d.crash a.dirs a.cuts, {})
  else if a.kind = 14 then ((d.flip a.name a.n a.data).1, { code := (d.flip a.name a.n a.data).2 })
  else if a.kind = 15 then ((d.cut a.name a.n).1, { code := (d.cut a.name a.n).2 })
  else if a.kind = 16 then (d.wipe, {})
  else (d, {})

/-- What holds of every drive; m: no body is longer; N: no list of names is. -/
structure D.Ok (d : D) (m N : Nat) : Prop where
  room : d.room ≤ 1073741824
  now : Rise d.now
  kept : Rise d.kept
  inN : ∀ p ∈ d.now, p.2 < d.bd.length
  inK : ∀ p ∈ d.kept, p.2 < d.bd.length
  inP : ∀ c ∈ d.pend, ∀ s ∈ c, named s.1 = true ∧ ∀ i, s.2 = some i → i < d.bd.length
  one : (d.now.map (·.2)).Nodup
  oneP : ∀ c ∈ d.pend, c.countP (fun s => s.2.isSome) ≤ 1
  safe : ∀ b ∈ d.bd, b.safe ≤ b.data.length ∧ b.data.length ≤ m
  lenN : d.now.length ≤ N
  lenK : d.kept.length + d.pend.length ≤ N
  namN : ∀ p ∈ d.now, named p.1 = true
  namK : ∀ p ∈ d.kept, named p.1 = true
end Go.Proofs.Ytelgcmcnebncmaa.Dr
