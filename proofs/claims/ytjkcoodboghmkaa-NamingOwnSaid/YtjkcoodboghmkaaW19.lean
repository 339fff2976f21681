/- Lists that were answered, apart from one another: words for rows that lie in blocks of their own, written into and grown. -/
import Derived.Test.YtjkcoodboghmkaaW18
namespace Go.Proofs.Ytjkcoodboghmkaa.Nm
open Go.RowKit Go.Proofs

/-- A slice: where it begins, its length, its room. -/
abbrev Row := Option Addr × Nat × Nat
def rv (r : Row) : Value := .slice r.1 r.2.1 r.2.2
def Sb (ls : List Row) (k : Nat) : Prop := ∃ (i : Nat) (r : Row), ls[i]? = some r ∧ (rv r).ownBlock = some k

/-- Of what was there nothing has turned but the blocks of S. -/
structure Kept (w w' : World) (S : Nat → Prop) : Prop where
  os : w'.os = w.os
  tape : w'.tape = w.tape
  output : w'.output = w.output
  size : w.heap.size ≤ w'.heap.size
  block : ∀ k, k < w.heap.size → ¬ S k → w'.heap[k]? = w.heap[k]?

theorem Kept.refl (w : World) (S : Nat → Prop) : Kept w w S := ⟨rfl, rfl, rfl, Nat.le_refl _, fun _ _ _ => rfl⟩
theorem Kept.below {w w1 w2 : World} {S : Nat → Prop} (h : Kept w w1 S) (hb : Below w1.heap.size w1 w2) : Kept w w2 S :=
  ⟨hb.os.trans h.os, hb.tape.trans h.tape, hb.output.trans h.output, Nat.le_trans h.size hb.size, fun k hk hs => (hb.block k (Nat.lt_of_lt_of_le hk h.size)).trans (h.block k hk hs)⟩
theorem Kept.grown {w w1 w2 : World} {S : Nat → Prop} (h : Kept w w1 S) {row : Option Nat} (hg : w1.grownBy w2 row) (hr : ∀ b, row = some b → S b ∨ w.heap.size ≤ b) : Kept w w2 S :=
  ⟨hg.os.trans h.os, hg.tape.trans h.tape, hg.output.trans h.output, Nat.le_trans h.size hg.size, fun k hk hs => (hg.block k (Nat.lt_of_lt_of_le hk h.size) (fun e => by
    rcases hr k e.symm with h1 | h1
    · exact hs h1
    · omega)).trans (h.block k hk hs)⟩
theorem Kept.cell {w w' : World} {S : Nat → Prop} (h : Kept w w' S) {p : Addr} (hp : p.block < w.heap.size) (hs : ¬ S p.block) : w'.cell? p = w.cell? p := World.cell?_of_block (h.block _ hp hs)
theorem Kept.rd {w w' : World} {S : Nat → Prop} (h : Kept w w' S) {B size n : Nat} {A : Option Addr} {xs : List Value} (hr : Rd w B size A n xs) (hB : B ≤ w.heap.size) (hs : ∀ ad, A = some ad → ¬ S ad.block) : Rd w' B size A n xs :=
  ⟨hr.1, fun hn => by
    obtain ⟨ad, e, hb, hc⟩ := hr.2 hn
    exact ⟨ad, e, hb, fun j u hu => (h.cell (by rw [add_block]; omega) (by rw [add_block]; exact hs ad e)).trans (hc j u hu)⟩⟩

/-- Row r of list i has the texts xs; o tells of a block whose it is. -/
def Held (w : World) (base : Nat) (o : Nat → Nat) (i : Nat) (r : Row) (xs : List Bs) : Prop := w.ownsRow base 9 1 (rv r) r.2.1 (cStr xs) ∧ ∀ g, (rv r).ownBlock = some g → o g = i

theorem Held.below {w w' : World} {base : Nat} {o : Nat → Nat} {i : Nat} {r : Row} {xs : List Bs} (h : Held w base o i r xs) (hb : Below w.heap.size w w') : Held w' base o i r xs := ⟨own_below h.1 hb, h.2⟩
theorem Held.rd {w : World} {base : Nat} {o : Nat → Nat} {i : Nat} {r : Row} {xs : List Bs} (h : Held w base o i r xs) : Rd w w.heap.size 1 r.1 r.2.1 (cStr xs) := Rd.of_own (c := r.2.2) h.1
theorem Held.len {w : World} {base : Nat} {o : Nat → Nat} {i : Nat} {r : Row} {xs : List Bs} (h : Held w base o i r xs) : xs.length = r.2.1 := by simpa using h.1.1
theorem Held.other {w w' : World} {base b2 : Nat} {o : Nat → Nat} {i : Nat} {r : Row} {xs : List Bs} (h : Held w base o i r xs) {e : TypeId} {size n : Nat} {v : Value} {cs : List Value} (hv : w.ownsRow b2 e size v n cs) (he : e ≠ 9) (hg : w.grownBy w' v.ownBlock) : Held w' base o i r xs := by
  refine ⟨h.1.kept hg ?_, h.2⟩
  cases hb : (rv r).ownBlock with
  | none => exact .inl rfl
  | some g => exact .inr (fun e2 => own_types h.1 hv (Ne.symm he) hb e2.symm)
theorem Held.form {w : World} {base : Nat} {o : Nat → Nat} {i : Nat} {r : Row} {xs : List Bs} (h : Held w base o i r xs) (hn : 0 < r.2.1) : ∃ g, r.1 = some ⟨g, 0, none⟩ ∧ o g = i ∧ g < w.heap.size := by
  obtain ⟨g, cap, hv, _, hlt⟩ := h.1.form hn
  unfold rv at hv
  injection hv with h1 _ _
  exact ⟨g, h1, h.2 g (by unfold rv; rw [h1]; rfl), hlt⟩

/-- All lists at once. -/
def All (w : World) (base : Nat) (o : Nat → Nat) (ls : List Row) (f : Nat → List Bs) : Prop := ∀ i r, ls[i]? = some r → Held w base o i r (f i)
theorem All.below {w w' : World} {base : Nat} {o : Nat → Nat} {ls : List Row} {f : Nat → List Bs} (h : All w base o ls f) (hb : Below w.heap.size w w') : All w' base o ls f := fun i r hr => (h i r hr).below hb

theorem cStr_set (xs : List Bs) (j : Nat) (x : Bs) : (cStr xs).set j (encStr x) = cStr (xs.set j x) := by
  simp only [cStr, List.map_set]

/-- A place of a list is written. -/
theorem All.store {w0 w : World} {base : Nat} {o : Nat → Nat} {ls : List Row} {f : Nat → List Bs} (hk : Kept w0 w (Sb ls)) (h : All w base o ls f) {i : Nat} {r : Row} (hr : ls[i]? = some r) {g : Nat} (hg : r.1 = some ⟨g, 0, none⟩) (j : Nat) (x : Bs) :
    All (w.setCell ⟨g, j, none⟩ (encStr x)) base o ls (fun i' => if i' = i then (f i).set j x else f i') ∧ Kept w0 (w.setCell ⟨g, j, none⟩ (encStr x)) (Sb ls) := by
  have hh := h i r hr
  have hv : rv r = .slice (some ⟨g, 0, none⟩) r.2.1 r.2.2 := by unfold rv; rw [hg]
  have hown := hh.1
  rw [hv] at hown
  obtain ⟨h1, h2⟩ := hown.stored j (encStr x)
  have hgi : o g = i := hh.2 g (by rw [hv]; rfl)
  constructor
  · intro i' r' hr'
    by_cases hii : i' = i
    · subst hii
      rw [hr] at hr'
      injection hr' with hr'
      subst hr'
      refine ⟨?_, hh.2⟩
      simp only [↓reduceIte]
      rw [← cStr_set, hv]
      exact h1
    · have hh' := h i' r' hr'
      simp only [hii, ↓reduceIte]
      refine ⟨hh'.1.kept h2 ?_, hh'.2⟩
      cases hb : (rv r').ownBlock with
      | none => exact .inl rfl
      | some b => exact .inr (fun e => by injection e with e; subst e; exact hii ((hh'.2 _ hb).symm.trans hgi))
  · exact hk.grown h2 (fun b e => by injection e with e; subst e; exact .inl ⟨i, r, hr, by rw [hv]; rfl⟩)

/-- A list written full, then grown by m. -/
def full (i n m : Nat) : List Bs := List.replicate n (mrk i true) ++ List.replicate m (mrk i false)
theorem full_len (i n m : Nat) : (full i n m).length = n + m := by simp [full]
theorem full_at {i n m k : Nat} (hk : k < n + m) : (full i n m)[k]? = some (mrk i (decide (k < n))) := by
  unfold full
  by_cases h : k < n
  · rw [List.getElem?_append_left (by simpa using h), List.getElem?_replicate]; simp [h]
  · rw [List.getElem?_append_right (by simp; omega), List.getElem?_replicate]; simp [h]; omega
theorem full_snoc (i n m : Nat) : full i n (m + 1) = full i n m ++ [mrk i false] := by
  simp [full, List.replicate_succ']
theorem full_of {l : List Bs} {i n : Nat} (hl : l.length = n) (h : ∀ k, k < n → l[k]? = some (mrk i true)) : l = full i n 0 := by
  refine List.ext_getElem? fun k => ?_
  by_cases hk : k < n
  · rw [h k hk, full_at (by omega)]; simp [hk]
  · rw [List.getElem?_eq_none (by omega), List.getElem?_eq_none (by rw [full_len]; omega)]

/-- A spelling that was kept: of list i, behind m growings. -/
structure Snap where
  i : Nat
  m : Nat
  row : Row

structure Grew (w0 w : World) (base : Nat) (ls : List Row) (o : Nat → Nat) (sn : List Snap) (vm vw : Value) : Prop where
  kept : Kept w0 w (Sb ls)
  lists : ∀ i r, ls[i]? = some r → Held w base o i r (full i r.2.1 0)
  snaps : ∀ s ∈ sn, ∃ r, ls[s.i]? = some r ∧ s.row.2.1 = r.2.1 + s.m ∧ Held w base o s.i s.row (full s.i r.2.1 s.m)
  more : w.ownsRow w0.heap.size 30 1 vm sn.length (sn.map fun s => rv s.row)
  whose : w.ownsRow w0.heap.size 3 1 vw sn.length (sn.map fun s => .int .i64 (s.i : Int))

section
variable {w0 w w' : World} {base : Nat} {ls : List Row} {o : Nat → Nat} {sn : List Snap} {vm vw : Value}
theorem Grew.below (h : Grew w0 w base ls o sn vm vw) (hb : Below w.heap.size w w') : Grew w0 w' base ls o sn vm vw :=
  ⟨h.kept.below hb, fun i r hr => (h.lists i r hr).below hb, fun s hs => by
    obtain ⟨r, h1, h2, h3⟩ := h.snaps s hs
    exact ⟨r, h1, h2, h3.below hb⟩, own_below h.more hb, own_below h.whose hb⟩

/-- The list's present spelling: it may lie in the list's own block or in one that was made since. -/
structure Now (w0 w : World) (base : Nat) (ls : List Row) (o : Nat → Nat) (sn : List Snap) (i j : Nat) (r g : Row) : Prop where
  at_ : ls[i]? = some r
  len : g.2.1 = r.2.1 + j
  held : Held w base o i g (full i r.2.1 j)
  lies : ∀ b, (rv g).ownBlock = some b → Sb ls b ∨ w0.heap.size ≤ b
  le : ∀ s ∈ sn, s.i = i → s.m ≤ j
theorem Now.below {i j : Nat} {r g : Row} (h : Now w0 w base ls o sn i j r g) (hb : Below w.heap.size w w') : Now w0 w' base ls o sn i j r g := ⟨h.at_, h.len, h.held.below hb, h.lies, h.le⟩

/-- It is grown by one. -/
theorem Now.grow {i j : Nat} {r g : Row} (hn : Now w0 w base ls o sn i j r g) (h : Grew w0 w base ls o sn vm vw) {b c : Nat}
    (hown : w'.ownsRow base 9 1 (.slice (some ⟨b, 0, none⟩) (g.2.1 + 1) c) (g.2.1 + 1) (cStr (full i r.2.1 j) ++ [encStr (mrk i false)])) (hg : w.grownBy w' (rv g).ownBlock)
    (hat : (rv g).ownBlock = some b ∨ b = w.heap.size)
    (hkeep : ∀ b2 v2 n2 xs2, w.ownsRow b2 9 1 v2 n2 xs2 → (v2.ownBlock = (rv g).ownBlock → n2 ≤ g.2.1) → w'.ownsRow b2 9 1 v2 n2 xs2) :
    ∃ o', Grew w0 w' base ls o' sn vm vw ∧ Now w0 w' base ls o' sn i (j + 1) r (some ⟨b, 0, none⟩, g.2.1 + 1, c) := by
  refine ⟨fun k => if k = b then i else o k, ?_⟩
  -- whatever was held is held
  have hold : ∀ i' (r' : Row) xs, Held w base o i' r' xs → (i' = i → r'.2.1 ≤ g.2.1) → Held w' base (fun k => if k = b then i else o k) i' r' xs := by
    intro i' r' xs hh hle
    refine ⟨hkeep _ _ _ _ hh.1 ?_, ?_⟩
    · intro he
      cases hb : (rv r').ownBlock with
      | none =>
        rcases hh.1.2 with ⟨_, h0⟩ | ⟨g2, c2, cur2, hv, _⟩
        · omega
        · rw [hv] at hb; cases hb
      | some k =>
        refine hle ?_
        rw [hb] at he
        exact (hh.2 k hb).symm.trans (hn.held.2 k he.symm)
    · intro k hk
      show (if k = b then i else o k) = i'
      by_cases hkb : k = b
      · subst hkb
        rw [if_pos rfl]
        rcases hat with he | he
        · exact (hn.held.2 k he).symm.trans (hh.2 k hk)
        · have := (hh.1.lt k hk).2; omega
      · rw [if_neg hkb]; exact hh.2 k hk
  have hother : ∀ {b2 : Nat} {e : TypeId} {n : Nat} {v : Value} {cs : List Value}, w.ownsRow b2 e 1 v n cs → e ≠ 9 → w'.ownsRow b2 e 1 v n cs := by
    intro b2 e n v cs hv he
    refine hv.kept hg ?_
    cases hb : v.ownBlock with
    | none => exact .inl rfl
    | some k => exact .inr (fun e2 => own_types hv hn.held.1 he hb e2.symm)
  refine ⟨⟨h.kept.grown hg hn.lies, ?_, ?_, hother h.more (by decide), hother h.whose (by decide)⟩, ⟨hn.at_, ?_, ⟨?_, ?_⟩, ?_, ?_⟩⟩
  · intro i' r' hr'
    refine hold _ _ _ (h.lists i' r' hr') fun e => ?_
    subst e
    rw [hn.at_] at hr'
    injection hr' with hr'
    subst hr'
    rw [hn.len]; omega
  · intro s hs
    obtain ⟨r', h1, h2, h3⟩ := h.snaps s hs
    refine ⟨r', h1, h2, hold _ _ _ h3 fun e => ?_⟩
    have hle := hn.le s hs e
    rw [e, hn.at_] at h1
    injection h1 with h1
    subst h1
    rw [h2, hn.len]; omega
  · show g.2.1 + 1 = r.2.1 + (j + 1)
    rw [hn.len]; omega
  · have e : cStr (full i r.2.1 j ++ [mrk i false]) = cStr (full i r.2.1 j) ++ [encStr (mrk i false)] := by simp
    rw [full_snoc, e]
    exact hown
  · intro k hk
    have : k = b := by simp [rv, Value.ownBlock] at hk; exact hk.symm
    subst this
    exact if_pos rfl
  · intro k hk
    have : k = b := by simp [rv, Value.ownBlock] at hk; exact hk.symm
    subst this
    rcases hat with he | he
    · exact hn.lies k he
    · right; rw [he]; exact h.kept.size
  · intro s hs e
    have := hn.le s hs e
    omega

theorem row_other {b1 b2 : Nat} {e1 e2 : TypeId} {n1 n2 : Nat} {v1 v2 : Value} {c1 c2 : List Value} (h1 : w.ownsRow b1 e1 1 v1 n1 c1) (h2 : w.ownsRow b2 e2 1 v2 n2 c2) (he : e1 ≠ e2) (hg : w.grownBy w' v2.ownBlock) : w'.ownsRow b1 e1 1 v1 n1 c1 := by
  refine h1.kept hg ?_
  cases hb : v1.ownBlock with
  | none => exact .inl rfl
  | some k => exact .inr (fun e2 => own_types h1 h2 he hb e2.symm)

/-- Its present spelling is kept. -/
theorem Now.snap {i j : Nat} {r g : Row} (hn : Now w0 w base ls o sn i j r g) (h : Grew w0 w base ls o sn vm vw) {w1 w1' w2 : World} {vm' vw' : Value}
    (h1 : w1.ownsRow w0.heap.size 30 1 vm' (sn.length + 1) ((sn.map fun s => rv s.row) ++ [rv g])) (hg1 : w.grownBy w1 vm.ownBlock) (hb : Below w1.heap.size w1 w1')
    (h2 : w2.ownsRow w0.heap.size 3 1 vw' (sn.length + 1) ((sn.map fun s => .int .i64 (s.i : Int)) ++ [.int .i64 (i : Int)])) (hg2 : w1'.grownBy w2 vw.ownBlock) :
    Grew w0 w2 base ls o (sn ++ [⟨i, j, g⟩]) vm' vw' ∧ Now w0 w2 base ls o (sn ++ [⟨i, j, g⟩]) i j r g := by
  have hvw := own_below (row_other h.whose h.more (by decide) hg1) hb
  have hh : ∀ {i' : Nat} {r' : Row} {xs : List Bs}, Held w base o i' r' xs → Held w2 base o i' r' xs := fun hh => ((hh.other h.more (by decide) hg1).below hb).other hvw (by decide) hg2
  refine ⟨⟨((h.kept.grown hg1 fun b e => .inr (h.more.lt b e).1).below hb).grown hg2 fun b e => .inr (h.whose.lt b e).1, fun i' r' hr' => hh (h.lists i' r' hr'), ?_, ?_, ?_⟩, ⟨hn.at_, hn.len, hh hn.held, hn.lies, ?_⟩⟩
  · intro s hs
    rcases List.mem_append.1 hs with h1 | h1
    · obtain ⟨r', a1, a2, a3⟩ := h.snaps s h1
      exact ⟨r', a1, a2, hh a3⟩
    · obtain rfl := List.mem_singleton.1 h1
      exact ⟨r, hn.at_, hn.len, hh hn.held⟩
  · have := row_other (own_below h1 hb) hvw (by decide) hg2
    simpa using this
  · simpa using h2
  · intro s hs e
    rcases List.mem_append.1 hs with h1 | h1
    · exact hn.le s h1 e
    · obtain rfl := List.mem_singleton.1 h1
      exact Nat.le_refl _
end
end Go.Proofs.Ytjkcoodboghmkaa.Nm
