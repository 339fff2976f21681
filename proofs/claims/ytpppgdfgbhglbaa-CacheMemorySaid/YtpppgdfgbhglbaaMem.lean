/- Lists that were answered, apart from one another: rows that lie in blocks of their own, written into and grown. -/
import Derived.Test.YtpppgdfgbhglbaaTx
import Derived.Test.YtpppgdfgbhglbaaRing
import Derived.Test.YtpppgdfgbhglbaaKeep
import Derived.Deep.Heap
namespace Go.Proofs.Ytpppgdfgbhglbaa.Mem
open Go.RowKit Go.Proofs Go.Proofs.Ytpppgdfgbhglbaa.Ca

/-- The mark of list i, within and behind it. -/
def mrk (i : Nat) (b : Bool) : Bs := if b then [UInt8.ofNat (97 + i), 33] else [UInt8.ofNat (65 + i)]
/-- A slice: where it begins, its length, its room. -/
abbrev Row := Option Addr × Nat × Nat
def rw_ (r : Row) : Value := .slice r.1 r.2.1 r.2.2
def Sb (ls : List Row) (k : Nat) : Prop := ∃ (i : Nat) (r : Row), ls[i]? = some r ∧ (rw_ r).ownBlock = some k
theorem kept_rd {w w' : World} {S : Nat → Prop} (h : Kept w w' S) {B size n : Nat} {A : Option Addr} {xs : List Value} (hr : Rd w B size A n xs) (hB : B ≤ w.heap.size) (hs : ∀ ad, 0 < n → A = some ad → ¬ S ad.block) : Rd w' B size A n xs :=
  ⟨hr.1, fun hn => by
    obtain ⟨ad, e, hb, hc⟩ := hr.2 hn
    exact ⟨ad, e, hb, fun j u hu => (World.cell?_of_block (by rw [add_block]; exact h.block _ (by omega) (hs ad hn e))).trans (hc j u hu)⟩⟩

/-- Row r of list i has the texts xs; o tells of a block whose it is. -/
def Held (w : World) (base : Nat) (o : Nat → Nat) (i : Nat) (r : Row) (xs : List Bs) : Prop := w.ownsRow base 9 1 (rw_ r) r.2.1 (cStr xs) ∧ ∀ g, (rw_ r).ownBlock = some g → o g = i

theorem Held.below {w w' : World} {base : Nat} {o : Nat → Nat} {i : Nat} {r : Row} {xs : List Bs} (h : Held w base o i r xs) (hb : Below w.heap.size w w') : Held w' base o i r xs := ⟨own_below h.1 hb, h.2⟩
theorem Held.rd {w : World} {base : Nat} {o : Nat → Nat} {i : Nat} {r : Row} {xs : List Bs} (h : Held w base o i r xs) : Rd w w.heap.size 1 r.1 r.2.1 (cStr xs) := Rd.of_own (c := r.2.2) h.1
theorem Held.len {w : World} {base : Nat} {o : Nat → Nat} {i : Nat} {r : Row} {xs : List Bs} (h : Held w base o i r xs) : xs.length = r.2.1 := by simpa using h.1.1
theorem Held.other {w w' : World} {base b2 : Nat} {o : Nat → Nat} {i : Nat} {r : Row} {xs : List Bs} (h : Held w base o i r xs) {e : TypeId} {size n : Nat} {v : Value} {cs : List Value} (hv : w.ownsRow b2 e size v n cs) (he : e ≠ 9) (hg : w.grownBy w' v.ownBlock) : Held w' base o i r xs := by
  refine ⟨h.1.kept hg ?_, h.2⟩
  cases hb : (rw_ r).ownBlock with
  | none => exact .inl rfl
  | some g => exact .inr (fun e2 => own_types h.1 hv (Ne.symm he) hb e2.symm)
theorem Held.form {w : World} {base : Nat} {o : Nat → Nat} {i : Nat} {r : Row} {xs : List Bs} (h : Held w base o i r xs) (hn : 0 < r.2.1) : ∃ g, r.1 = some ⟨g, 0, none⟩ ∧ o g = i ∧ g < w.heap.size := by
  obtain ⟨g, cap, hv, _, hlt⟩ := h.1.form hn
  unfold rw_ at hv
  injection hv with h1 _ _
  exact ⟨g, h1, h.2 g (by unfold rw_; rw [h1]; rfl), hlt⟩

/-- All lists at once. -/
def All (w : World) (base : Nat) (o : Nat → Nat) (ls : List Row) (f : Nat → List Bs) : Prop := ∀ i r, ls[i]? = some r → Held w base o i r (f i)
theorem All.below {w w' : World} {base : Nat} {o : Nat → Nat} {ls : List Row} {f : Nat → List Bs} (h : All w base o ls f) (hb : Below w.heap.size w w') : All w' base o ls f := fun i r hr => (h i r hr).below hb

theorem cStr_set (xs : List Bs) (j : Nat) (x : Bs) : (cStr xs).set j (encStr x) = cStr (xs.set j x) := by
  simp only [cStr, List.map_set]

/-- A place of a list is written. -/
theorem All.store {w0 w : World} {base : Nat} {o : Nat → Nat} {ls : List Row} {f : Nat → List Bs} (hk : Kept w0 w (Sb ls)) (h : All w base o ls f) {i : Nat} {r : Row} (hr : ls[i]? = some r) {g : Nat} (hg : r.1 = some ⟨g, 0, none⟩) (j : Nat) (x : Bs) :
    All (w.setCell ⟨g, j, none⟩ (encStr x)) base o ls (fun i' => if i' = i then (f i).set j x else f i') ∧ Kept w0 (w.setCell ⟨g, j, none⟩ (encStr x)) (Sb ls) := by
  have hh := h i r hr
  have hv : rw_ r = .slice (some ⟨g, 0, none⟩) r.2.1 r.2.2 := by unfold rw_; rw [hg]
  have hown := hh.1
  rw [hv] at hown
  obtain ⟨h1, h2⟩ := hown.stored j (encStr x)
  have hgi : o g = i := hh.2 g (by rw [hv]; rfl)
  constructor
  · intro i' r' hr'
    by_cases hii : i' = i
    · subst hii
      rw [hr] at hr'
      injection hr' with hr'
      subst hr'
      refine ⟨?_, hh.2⟩
      simp only [↓reduceIte]
      rw [← cStr_set, hv]
      exact h1
    · have hh' := h i' r' hr'
      simp only [hii, ↓reduceIte]
      refine ⟨hh'.1.kept h2 ?_, hh'.2⟩
      cases hb : (rw_ r').ownBlock with
      | none => exact .inl rfl
      | some b => exact .inr (fun e => by injection e with e; subst e; exact hii ((hh'.2 _ hb).symm.trans hgi))
  · exact hk.grown h2 (fun b e => by injection e with e; subst e; exact .inl ⟨i, r, hr, by rw [hv]; rfl⟩)

/-- A list written full, then grown by m. -/
def full (i n m : Nat) : List Bs := List.replicate n (mrk i true) ++ List.replicate m (mrk i false)
theorem full_len (i n m : Nat) : (full i n m).length = n + m := by simp [full]
theorem full_at {i n m k : Nat} (hk : k < n + m) : (full i n m)[k]? = some (mrk i (decide (k < n))) := by
  unfold full
  by_cases h : k < n
  · rw [List.getElem?_append_left (by simpa using h), List.getElem?_replicate]; simp [h]
  · rw [List.getElem?_append_right (by simp; omega), List.getElem?_replicate]; simp [h]; omega
theorem full_snoc (i n m : Nat) : full i n (m + 1) = full i n m ++ [mrk i false] := by
  simp [full, List.replicate_succ']
theorem full_of {l : List Bs} {i n : Nat} (hl : l.length = n) (h : ∀ k, k < n → l[k]? = some (mrk i true)) : l = full i n 0 := by
  refine List.ext_getElem? fun k => ?_
  by_cases hk : k < n
  · rw [h k hk, full_at (by omega)]; simp [hk]
  · rw [List.getElem?_eq_none (by omega), List.getElem?_eq_none (by rw [full_len]; omega)]

/-- The grown ones so far. -/
structure Grew (w0 w : World) (base : Nat) (ls : List Row) (o : Nat → Nat) (lg : List Row) (vm : Value) : Prop where
  kept : Kept w0 w (Sb ls)
  lists : ∀ i r, ls[i]? = some r → Held w base o i r (full i r.2.1 0)
  longs : ∀ i g, lg[i]? = some g → ∃ r, ls[i]? = some r ∧ g.2.1 = r.2.1 + 64 ∧ Held w base o i g (full i r.2.1 64)
  more : w.ownsRow w0.heap.size 32 1 vm lg.length (lg.map rw_)

section
variable {w0 w w' : World} {base : Nat} {ls lg : List Row} {o : Nat → Nat} {vm : Value}
theorem Grew.below (h : Grew w0 w base ls o lg vm) (hb : Below w.heap.size w w') : Grew w0 w' base ls o lg vm :=
  ⟨h.kept.below hb, fun i r hr => (h.lists i r hr).below hb, fun i g hg => by
    obtain ⟨r, h1, h2, h3⟩ := h.longs i g hg
    exact ⟨r, h1, h2, h3.below hb⟩, own_below h.more hb⟩

/-- The list's present spelling: it may lie in the list's own block or in one that was made since. -/
structure Now (w0 w : World) (base : Nat) (ls : List Row) (o : Nat → Nat) (i j : Nat) (r g : Row) : Prop where
  at_ : ls[i]? = some r
  len : g.2.1 = r.2.1 + j
  held : Held w base o i g (full i r.2.1 j)
  lies : ∀ b, (rw_ g).ownBlock = some b → Sb ls b ∨ w0.heap.size ≤ b
theorem Now.below {i j : Nat} {r g : Row} (h : Now w0 w base ls o i j r g) (hb : Below w.heap.size w w') : Now w0 w' base ls o i j r g := ⟨h.at_, h.len, h.held.below hb, h.lies⟩

/-- It is grown by one. -/
theorem Now.grow {i j : Nat} {r g : Row} (hn : Now w0 w base ls o i j r g) (h : Grew w0 w base ls o lg vm) (hlg : lg.length ≤ i) {b c : Nat}
    (hown : w'.ownsRow base 9 1 (.slice (some ⟨b, 0, none⟩) (g.2.1 + 1) c) (g.2.1 + 1) (cStr (full i r.2.1 j) ++ [encStr (mrk i false)])) (hg : w.grownBy w' (rw_ g).ownBlock)
    (hat : (rw_ g).ownBlock = some b ∨ b = w.heap.size)
    (hkeep : ∀ b2 v2 n2 xs2, w.ownsRow b2 9 1 v2 n2 xs2 → (v2.ownBlock = (rw_ g).ownBlock → n2 ≤ g.2.1) → w'.ownsRow b2 9 1 v2 n2 xs2) :
    ∃ o', Grew w0 w' base ls o' lg vm ∧ Now w0 w' base ls o' i (j + 1) r (some ⟨b, 0, none⟩, g.2.1 + 1, c) := by
  refine ⟨fun k => if k = b then i else o k, ?_⟩
  have hold : ∀ i' (r' : Row) xs, Held w base o i' r' xs → (i' = i → r'.2.1 ≤ g.2.1) → Held w' base (fun k => if k = b then i else o k) i' r' xs := by
    intro i' r' xs hh hle
    refine ⟨hkeep _ _ _ _ hh.1 ?_, ?_⟩
    · intro he
      cases hb : (rw_ r').ownBlock with
      | none =>
        rcases hh.1.2 with ⟨_, h0⟩ | ⟨g2, c2, cur2, hv, _⟩
        · omega
        · rw [hv] at hb; cases hb
      | some k =>
        refine hle ?_
        rw [hb] at he
        exact (hh.2 k hb).symm.trans (hn.held.2 k he.symm)
    · intro k hk
      show (if k = b then i else o k) = i'
      by_cases hkb : k = b
      · subst hkb
        rw [if_pos rfl]
        rcases hat with he | he
        · exact (hn.held.2 k he).symm.trans (hh.2 k hk)
        · have := (hh.1.lt k hk).2; omega
      · rw [if_neg hkb]; exact hh.2 k hk
  have hother : ∀ {b2 : Nat} {e : TypeId} {n : Nat} {v : Value} {cs : List Value}, w.ownsRow b2 e 1 v n cs → e ≠ 9 → w'.ownsRow b2 e 1 v n cs := by
    intro b2 e n v cs hv he
    refine hv.kept hg ?_
    cases hb : v.ownBlock with
    | none => exact .inl rfl
    | some k => exact .inr (fun e2 => own_types hv hn.held.1 he hb e2.symm)
  refine ⟨⟨h.kept.grown hg hn.lies, ?_, ?_, hother h.more (by decide)⟩, ⟨hn.at_, ?_, ⟨?_, ?_⟩, ?_⟩⟩
  · intro i' r' hr'
    refine hold _ _ _ (h.lists i' r' hr') fun e => ?_
    subst e
    rw [hn.at_] at hr'
    injection hr' with hr'
    subst hr'
    rw [hn.len]; omega
  · intro i' g' hg'
    obtain ⟨r', h1, h2, h3⟩ := h.longs i' g' hg'
    have hlt := (List.getElem?_eq_some_iff.1 hg').1
    exact ⟨r', h1, h2, hold _ _ _ h3 fun e => by omega⟩
  · show g.2.1 + 1 = r.2.1 + (j + 1)
    rw [hn.len]; omega
  · have e : cStr (full i r.2.1 j ++ [mrk i false]) = cStr (full i r.2.1 j) ++ [encStr (mrk i false)] := by simp
    rw [full_snoc, e]
    exact hown
  · intro k hk
    have : k = b := by simp [rw_, Value.ownBlock] at hk; exact hk.symm
    subst this
    exact if_pos rfl
  · intro k hk
    have : k = b := by simp [rw_, Value.ownBlock] at hk; exact hk.symm
    subst this
    rcases hat with he | he
    · exact hn.lies k he
    · right; rw [he]; exact h.kept.size

/-- It is put behind the others. -/
theorem Now.add {i : Nat} {r g : Row} (hn : Now w0 w base ls o i 64 r g) (h : Grew w0 w base ls o lg vm) (hlg : lg.length = i) {w1 : World} {vm' : Value}
    (h1 : w1.ownsRow w0.heap.size 32 1 vm' (lg.length + 1) (lg.map rw_ ++ [rw_ g])) (hg1 : w.grownBy w1 vm.ownBlock) :
    Grew w0 w1 base ls o (lg ++ [g]) vm' := by
  have hh : ∀ {i' : Nat} {r' : Row} {xs : List Bs}, Held w base o i' r' xs → Held w1 base o i' r' xs := fun hh => hh.other h.more (by decide) hg1
  refine ⟨h.kept.grown hg1 fun b e => .inr (h.more.lt b e).1, fun i' r' hr' => hh (h.lists i' r' hr'), ?_, ?_⟩
  · intro i' g' hg'
    by_cases hi : i' < lg.length
    · rw [List.getElem?_append_left hi] at hg'
      obtain ⟨r', a1, a2, a3⟩ := h.longs i' g' hg'
      exact ⟨r', a1, a2, hh a3⟩
    · have hi2 : i' < (lg ++ [g]).length := (List.getElem?_eq_some_iff.1 hg').1
      simp at hi2
      have hi3 : i' = lg.length := by omega
      subst hi3
      rw [List.getElem?_append_right (Nat.le_refl _), Nat.sub_self] at hg'
      injection hg' with hg'
      subst hg'
      subst hlg
      exact ⟨r, hn.at_, hn.len, hh hn.held⟩
  · simpa using h1
end
theorem All.sb {w : World} {base : Nat} {o : Nat → Nat} {ls : List Row} {f : Nat → List Bs} (h : All w base o ls f) {k : Nat} (hk : Sb ls k) : base ≤ k ∧ k < w.heap.size := by
  obtain ⟨i, r, hr, hb⟩ := hk
  exact (h i r hr).1.lt k hb
theorem three_at {w : World} {t : TypeId} {r0 r1 r2 : Row} {X : Nat} (h : w.heap[X]? = some (.cells #[rw_ r0, rw_ r1, rw_ r2] t (0, 0))) {i : Nat} (hi : i < 3) : ∃ r, [r0, r1, r2][i]? = some r ∧ w.cell? ⟨X, i, none⟩ = some (rw_ r) := by
  match i, hi with
  | 0, _ => exact ⟨r0, rfl, by rw [cell_of_row w X 0 _ _ _ h]; rfl⟩
  | 1, _ => exact ⟨r1, rfl, by rw [cell_of_row w X 1 _ _ _ h]; rfl⟩
  | 2, _ => exact ⟨r2, rfl, by rw [cell_of_row w X 2 _ _ _ h]; rfl⟩
theorem three_len {L : Nat} {a0 a1 a2 : Option Addr} {c0 c1 c2 i : Nat} {r : Row} (h : ([(a0, L, c0), (a1, L, c1), (a2, L, c2)] : List Row)[i]? = some r) : ∃ a c, r = (a, L, c) := by
  match i, h with
  | 0, h => exact ⟨a0, c0, by simpa using h.symm⟩
  | 1, h => exact ⟨a1, c1, by simpa using h.symm⟩
  | 2, h => exact ⟨a2, c2, by simpa using h.symm⟩
  | i + 3, h => simp at h
/-- A block that is none of theirs. -/
theorem sb_not {b0 b1 b2 e0 e1 e2 L : Nat} {a0 a1 a2 : Option Addr} {c0 c1 c2 k : Nat} (h0 : ∀ g, (Value.slice a0 L c0).ownBlock = some g → b0 ≤ g ∧ g < e0) (h1 : ∀ g, (Value.slice a1 L c1).ownBlock = some g → b1 ≤ g ∧ g < e1) (h2 : ∀ g, (Value.slice a2 L c2).ownBlock = some g → b2 ≤ g ∧ g < e2)
    (g0 : k < b0 ∨ e0 ≤ k) (g1 : k < b1 ∨ e1 ≤ k) (g2 : k < b2 ∨ e2 ≤ k) : ¬ Sb [(a0, L, c0), (a1, L, c1), (a2, L, c2)] k := by
  rintro ⟨i, r, hr, hb⟩
  match i, hr with
  | 0, hr =>
    obtain rfl : (a0, L, c0) = r := by simpa using hr
    have := h0 k hb; omega
  | 1, hr =>
    obtain rfl : (a1, L, c1) = r := by simpa using hr
    have := h1 k hb; omega
  | 2, hr =>
    obtain rfl : (a2, L, c2) = r := by simpa using hr
    have := h2 k hb; omega
  | i + 3, hr => simp at hr
/-- The byte of a mark. -/
theorem byte_is (a i : Nat) (h : a + i < 256) : ((UInt8.ofNat (a + i)).toNat : Int) = (a : Int) + (i : Int) := by
  have : (UInt8.ofNat (a + i)).toNat = a + i := by simp; omega
  rw [this]; omega
theorem byte_text (w : World) (a i : Nat) (h : a + i < 256) : (convert 36 9 (.slice (some ⟨w.heap.size, 0, none⟩) 1 1)).run Try.prog (w.alloc (.cells #[.int .u8 ((a : Int) + (i : Int))] 5)) = .ok (.string ⟨[UInt8.ofNat (a + i)].toArray⟩) (w.alloc (.cells #[.int .u8 ((a : Int) + (i : Int))] 5)) := by
  have hrd : Rd (w.alloc (.cells #[.int .u8 ((a : Int) + (i : Int))] 5)) (w.heap.size + 1) 1 (some ⟨w.heap.size, 0, none⟩) 1 (cU8 [UInt8.ofNat (a + i)]) := by
    refine ⟨rfl, fun _ => ⟨_, rfl, Nat.lt_succ_self _, ?_⟩⟩
    have := new_cells w (cU8 [UInt8.ofNat (a + i)]) 5
    simp only [cU8, List.map_cons, List.map_nil, byte_is a i h] at this ⊢
    exact this
  exact run_text (P := Try.prog) _ 36 9 5 Try.underlying36 Try.underlying5 Try.underlying9 1 hrd
theorem byte_text97 (w : World) (i : Nat) (h : 97 + i < 256) : (convert 36 9 (.slice (some ⟨w.heap.size, 0, none⟩) 1 1)).run Try.prog (w.alloc (.cells #[.int .u8 (97 + (i : Int))] 5)) = .ok (.string ⟨[UInt8.ofNat (97 + i)].toArray⟩) (w.alloc (.cells #[.int .u8 (97 + (i : Int))] 5)) := byte_text w 97 i h
theorem byte_text65 (w : World) (i : Nat) (h : 65 + i < 256) : (convert 36 9 (.slice (some ⟨w.heap.size, 0, none⟩) 1 1)).run Try.prog (w.alloc (.cells #[.int .u8 (65 + (i : Int))] 5)) = .ok (.string ⟨[UInt8.ofNat (65 + i)].toArray⟩) (w.alloc (.cells #[.int .u8 (65 + (i : Int))] 5)) := byte_text w 65 i h
theorem byte_drew97 (w : World) (i : Nat) (h : 97 + i < 256) : (convert 36 9 (.slice (some ⟨w.heap.size, 0, none⟩) 1 1)).run Try.prog (w.alloc (.cells #[.int .u8 (97 + (i : Int))] 5)).drew = .ok (.string ⟨[UInt8.ofNat (97 + i)].toArray⟩) (w.alloc (.cells #[.int .u8 (97 + (i : Int))] 5)).drew := byte_text97 w.drew i h
theorem byte_drew65 (w : World) (i : Nat) (h : 65 + i < 256) : (convert 36 9 (.slice (some ⟨w.heap.size, 0, none⟩) 1 1)).run Try.prog (w.alloc (.cells #[.int .u8 (65 + (i : Int))] 5)).drew = .ok (.string ⟨[UInt8.ofNat (65 + i)].toArray⟩) (w.alloc (.cells #[.int .u8 (65 + (i : Int))] 5)).drew := byte_text65 w.drew i h
theorem wrap97 (i : Nat) (h : i < 3) : IntKind.u8.wrap (IntKind.i64.wrap (97 + (i : Int))) = 97 + (i : Int) := by
  have : i = 0 ∨ i = 1 ∨ i = 2 := by omega
  rcases this with rfl | rfl | rfl <;> rfl
theorem wrap65 (i : Nat) (h : i < 3) : IntKind.u8.wrap (IntKind.i64.wrap (65 + (i : Int))) = 65 + (i : Int) := by
  have : i = 0 ∨ i = 1 ∨ i = 2 := by omega
  rcases this with rfl | rfl | rfl <;> rfl
theorem own_text (i : Nat) (h : i < 3) : (⟨#[97 + UInt8.ofNat i]⟩ ++ ⟨#[33]⟩ : ByteArray) = ⟨(mrk i true).toArray⟩ := by
  have : i = 0 ∨ i = 1 ∨ i = 2 := by omega
  rcases this with rfl | rfl | rfl <;> rfl
theorem tail_text (i : Nat) (h : i < 3) : (⟨#[65 + UInt8.ofNat i]⟩ : ByteArray) = ⟨(mrk i false).toArray⟩ := by
  have : i = 0 ∨ i = 1 ∨ i = 2 := by omega
  rcases this with rfl | rfl | rfl <;> rfl
theorem tail_conv (w : World) (i : Nat) (h : 65 + i < 256) : (convert 36 9 (.slice (some ⟨w.heap.size, 0, none⟩) 1 1)).run Try.prog (w.alloc (.cells #[.int .u8 (65 + (i : Int))] 5)) = .ok (.string ⟨(mrk i false).toArray⟩) (w.alloc (.cells #[.int .u8 (65 + (i : Int))] 5)) := byte_text w 65 i h
theorem tail_conv_drew (w : World) (i : Nat) (h : 65 + i < 256) : (convert 36 9 (.slice (some ⟨w.heap.size, 0, none⟩) 1 1)).run Try.prog (w.alloc (.cells #[.int .u8 (65 + (i : Int))] 5)).drew = .ok (.string ⟨(mrk i false).toArray⟩) (w.alloc (.cells #[.int .u8 (65 + (i : Int))] 5)).drew := byte_text65 w.drew i h
theorem tail_cell (w : World) (i : Nat) : ∀ j u, ([encStr (mrk i false)] : List Value)[j]? = some u → ((w.alloc (.cells #[.int .u8 (65 + (i : Int))] 5)).alloc (.cells #[.string ⟨(mrk i false).toArray⟩] 9)).cell? ((⟨w.heap.size + 1, 0, none⟩ : Addr).add j) = some u := by
  have := new_cells (w.alloc (.cells #[.int .u8 (65 + (i : Int))] 5)) [encStr (mrk i false)] 9
  rw [World.size_alloc] at this
  exact this
/-- The text of a list's own mark, in two steps. -/
theorem own_conv (i : Nat) (hi : i < 3) : ∃ Y : ByteArray, (∀ w : World, (convert 36 9 (.slice (some ⟨w.heap.size, 0, none⟩) 1 1)).run Try.prog (w.alloc (.cells #[.int .u8 (97 + (i : Int))] 5)) = .ok (.string Y) (w.alloc (.cells #[.int .u8 (97 + (i : Int))] 5))) ∧ Y ++ ⟨#[33]⟩ = ⟨(mrk i true).toArray⟩ ∧ Y.size = 1 := by
  refine ⟨⟨[UInt8.ofNat (97 + i)].toArray⟩, fun w => byte_text w 97 i (by omega), ?_, rfl⟩
  have : i = 0 ∨ i = 1 ∨ i = 2 := by omega
  rcases this with rfl | rfl | rfl <;> rfl
end Go.Proofs.Ytpppgdfgbhglbaa.Mem
