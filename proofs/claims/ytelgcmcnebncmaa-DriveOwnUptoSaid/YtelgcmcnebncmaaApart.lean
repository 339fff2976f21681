/- Lists that were answered, apart from one another: words for rows that lie in blocks of their own, written into and grown; over elements of any type. -/
import Derived.Test.YtelgcmcnebncmaaMix
import Derived.Test.YtelgcmcnebncmaaKeep
namespace Go.Proofs.Ytelgcmcnebncmaa.Ap
set_option linter.unusedVariables false
open Go.RowKit Go.Proofs Go.Proofs.Ytelgcmcnebncmaa.Dr

/-- A slice: where it begins, its length, its room. -/
abbrev Row := Option Addr × Nat × Nat
def rv (r : Row) : Value := .slice r.1 r.2.1 r.2.2
def Sb (ls : List Row) (k : Nat) : Prop := ∃ (i : Nat) (r : Row), ls[i]? = some r ∧ (rv r).ownBlock = some k
theorem kept_cell {w w' : World} {S : Nat → Prop} (h : Kept w w' S) {p : Addr} (hp : p.block < w.heap.size) (hs : ¬ S p.block) : w'.cell? p = w.cell? p := World.cell?_of_block (h.block _ hp hs)
theorem kept_rd {w w' : World} {S : Nat → Prop} (h : Kept w w' S) {B size n : Nat} {A : Option Addr} {xs : List Value} (hr : Rd w B size A n xs) (hB : B ≤ w.heap.size) (hs : ∀ ad, A = some ad → ¬ S ad.block) : Rd w' B size A n xs :=
  ⟨hr.1, fun hn => by
    obtain ⟨ad, e, hb, hc⟩ := hr.2 hn
    exact ⟨ad, e, hb, fun j u hu => (kept_cell h (by rw [add_block]; omega) (by rw [add_block]; exact hs ad e)).trans (hc j u hu)⟩⟩
theorem row_other {w w' : World} {b1 b2 : Nat} {e1 e2 : TypeId} {s1 s2 n1 n2 : Nat} {v1 v2 : Value} {c1 c2 : List Value} (h1 : w.ownsRow b1 e1 s1 v1 n1 c1) (h2 : w.ownsRow b2 e2 s2 v2 n2 c2) (he : e1 ≠ e2) (hg : w.grownBy w' v2.ownBlock) : w'.ownsRow b1 e1 s1 v1 n1 c1 := by
  refine h1.kept hg ?_
  cases hb : v1.ownBlock with
  | none => exact .inl rfl
  | some k => exact .inr (fun e2 => own_types h1 h2 he hb e2.symm)
theorem row_at {w : World} {B k i : Nat} {A : Option Addr} {ls : List Row} (hr : Rd w B 1 A k (ls.map rv)) (hi : i < k) : ∃ ad a n c, A = some ad ∧ w.cell? (ad.add i) = some (.slice a n c) ∧ ls[i]? = some (a, n, c) := by
  obtain ⟨ad, u, rfl, _, hu, hc⟩ := hr.at_ hi
  rw [List.getElem?_map] at hu
  cases hx : ls[i]? with
  | none => rw [hx] at hu; cases hu
  | some r =>
    rw [hx] at hu
    injection hu with hu
    subst hu
    exact ⟨ad, r.1, r.2.1, r.2.2, rfl, hc, rfl⟩
theorem row_cell {w : World} {B k i : Nat} {ad : Addr} {ls : List Row} {a : Option Addr} {n c : Nat} (hr : Rd w B 1 (some ad) k (ls.map rv)) (hl : ls.length = k) (hx : ls[i]? = some (a, n, c)) : w.cell? (ad.add i) = some (.slice a n c) := by
  refine hr.cell rfl ?_ (by rw [List.getElem?_map, hx]; rfl)
  have := (List.getElem?_eq_some_iff.1 hx).1
  omega

/-- No block is two rows'. -/
def Apart (ls : List Row) : Prop := ∀ (i j : Nat) (r r' : Row) (g : Nat), ls[i]? = some r → ls[j]? = some r' → (rv r).ownBlock = some g → (rv r').ownBlock = some g → i = j
open Classical in
theorem owner_of {ls : List Row} (h : Apart ls) : ∃ o : Nat → Nat, ∀ (i : Nat) (r : Row) (g : Nat), ls[i]? = some r → (rv r).ownBlock = some g → o g = i := by
  refine ⟨fun g => if hg : ∃ (i : Nat) (r : Row), ls[i]? = some r ∧ (rv r).ownBlock = some g then hg.choose else 0, fun i r g hr hg => ?_⟩
  have hx : ∃ (i : Nat) (r : Row), ls[i]? = some r ∧ (rv r).ownBlock = some g := ⟨i, r, hr, hg⟩
  show (if hg : ∃ (i : Nat) (r : Row), ls[i]? = some r ∧ (rv r).ownBlock = some g then hg.choose else 0) = i
  rw [dif_pos hx]
  obtain ⟨r', h1, h2⟩ := hx.choose_spec
  exact h _ _ _ _ g h1 hr h2 hg

/-- Row r of list i has the cells xs; o tells of a block whose it is. -/
def Held (e : TypeId) (s : Nat) (w : World) (base : Nat) (o : Nat → Nat) (i : Nat) (r : Row) (xs : List Value) : Prop := w.ownsRow base e s (rv r) r.2.1 xs ∧ ∀ g, (rv r).ownBlock = some g → o g = i
/-- Every place of it, the first n and the m behind them, has its mark. -/
def Good (s : Nat) (mk : Nat → Bool → Value) (i n m : Nat) (xs : List Value) : Prop := xs.length = (n + m) * s ∧ ∀ k, k < n + m → xs[k * s]? = some (mk i (decide (k < n)))
/-- A spelling that was kept: of list i, behind m growings. -/
structure Snap where
  i : Nat
  m : Nat
  row : Row
section
variable {e tr : TypeId} {s : Nat} {mk : Nat → Bool → Value} {w0 w w' : World} {base : Nat} {ls : List Row} {o : Nat → Nat} {sn : List Snap} {vm : Value} {i : Nat} {r : Row} {xs : List Value}
theorem Held.below (h : Held e s w base o i r xs) (hb : Below w.heap.size w w') : Held e s w' base o i r xs := ⟨own_below h.1 hb, h.2⟩
theorem Held.other (h : Held e s w base o i r xs) {b2 : Nat} {e2 : TypeId} {size n : Nat} {v : Value} {cs : List Value} (hv : w.ownsRow b2 e2 size v n cs) (he : e2 ≠ e) (hg : w.grownBy w' v.ownBlock) : Held e s w' base o i r xs :=
  ⟨row_other h.1 hv (Ne.symm he) hg, h.2⟩
theorem Held.form (h : Held e s w base o i r xs) (hn : 0 < r.2.1) : ∃ g, r.1 = some ⟨g, 0, none⟩ ∧ o g = i ∧ g < w.heap.size := by
  obtain ⟨g, cap, hv, _, hlt⟩ := h.1.form hn
  unfold rv at hv
  injection hv with h1 _ _
  exact ⟨g, h1, h.2 g (by unfold rv; rw [h1]; rfl), hlt⟩
theorem Held.cell (h : Held e s w base o i r xs) {g : Nat} (hg : r.1 = some ⟨g, 0, none⟩) {j : Nat} (hj : j < r.2.1 * s) : w.cell? ⟨g, j, none⟩ = xs[j]? ∧ w.frozen? ⟨g, j, none⟩ = false := by
  have h1 := h.1
  unfold rv at h1
  rw [hg] at h1
  exact ⟨World.ownsRow.cellAt h1 j hj, World.ownsRow.frozenAt h1 j⟩
theorem Held.mark (h : Held e s w base o i r xs) (hs : 0 < s) {n m k : Nat} (hgd : Good s mk i n m xs) (hr : r.2.1 = n + m) (hk : k < n + m) : ∃ g, r.1 = some ⟨g, 0, none⟩ ∧ w.cell? ⟨g, k * s, none⟩ = some (mk i (decide (k < n))) := by
  obtain ⟨g, hg, _, _⟩ := h.form (by omega)
  refine ⟨g, hg, ?_⟩
  rw [(h.cell hg (j := k * s) (by rw [hr]; exact (Nat.mul_lt_mul_right hs).2 hk)).1]
  exact hgd.2 k hk
theorem Good.snoc {n m : Nat} (h : Good s mk i n m xs) (hs : 0 < s) {cs : List Value} (hl : cs.length = s) (h0 : cs[0]? = some (mk i false)) : Good s mk i n (m + 1) (xs ++ cs) := by
  refine ⟨by rw [List.length_append, h.1, hl, ← Nat.add_assoc, Nat.add_mul (n + m) 1 s, Nat.one_mul], fun k hk => ?_⟩
  by_cases hlt : k < n + m
  · rw [List.getElem?_append_left (by rw [h.1]; exact (Nat.mul_lt_mul_right hs).2 hlt)]
    exact h.2 k hlt
  · obtain rfl : k = n + m := by omega
    rw [List.getElem?_append_right (by rw [h.1]; exact Nat.le_refl _), h.1, Nat.sub_self, h0, show decide (n + m < n) = false by simp]

/-- The lists below i are written full, of list i the first j places; of what stood in w0 only the lists' blocks have turned. -/
structure Part (e : TypeId) (s : Nat) (mk : Nat → Bool → Value) (w0 w : World) (base : Nat) (o : Nat → Nat) (ls : List Row) (i j : Nat) : Prop where
  kept : Kept w0 w (Sb ls)
  at_ : ∀ (i' : Nat) (r : Row), ls[i']? = some r → ∃ xs, Held e s w base o i' r xs ∧ (i' < i → Good s mk i' r.2.1 0 xs) ∧ (i' = i → ∀ k, k < j → xs[k * s]? = some (mk i' true))
theorem Part.start (h : ∀ (i' : Nat) (r : Row), ls[i']? = some r → ∃ xs, w.ownsRow base e s (rv r) r.2.1 xs) (ho : ∀ (i : Nat) (r : Row) (g : Nat), ls[i]? = some r → (rv r).ownBlock = some g → o g = i) : Part e s mk w w base o ls 0 0 :=
  ⟨Kept.refl _ _, fun i' r hr => by
    obtain ⟨xs, h1⟩ := h i' r hr
    exact ⟨xs, ⟨h1, fun g hg => ho i' r g hr hg⟩, fun h => absurd h (by omega), fun _ k hk => absurd hk (by omega)⟩⟩
theorem Part.below {j : Nat} (h : Part e s mk w0 w base o ls i j) (hb : Below w.heap.size w w') : Part e s mk w0 w' base o ls i j :=
  ⟨h.kept.below hb, fun i' r hr => by
    obtain ⟨xs, h1, h2⟩ := h.at_ i' r hr
    exact ⟨xs, h1.below hb, h2⟩⟩
theorem Part.next {j : Nat} (h : Part e s mk w0 w base o ls i j) (hr : ls[i]? = some r) (hj : j = r.2.1) : Part e s mk w0 w base o ls (i + 1) 0 := by
  refine ⟨h.kept, fun i' r' hr' => ?_⟩
  obtain ⟨xs, h1, h2, h3⟩ := h.at_ i' r' hr'
  refine ⟨xs, h1, fun hi => ?_, fun _ k hk => absurd hk (by omega)⟩
  by_cases he : i' = i
  · subst he
    rw [hr] at hr'
    injection hr' with hr'
    subst hr'
    refine ⟨h1.1.1, fun k hk => ?_⟩
    rw [h3 rfl k (by omega), show decide (k < r.2.1) = true by simpa using hk]
  · exact h2 (by omega)
theorem Part.place {j : Nat} (h : Part e s mk w0 w base o ls i j) (hs : 0 < s) (hr : ls[i]? = some r) (hj : j < r.2.1) : ∃ g u, r.1 = some ⟨g, 0, none⟩ ∧ w.cell? ⟨g, j * s, none⟩ = some u ∧ w.frozen? ⟨g, j * s, none⟩ = false ∧ Part e s mk w0 (w.setCell ⟨g, j * s, none⟩ (mk i true)) base o ls i (j + 1) := by
  obtain ⟨xs, h1, h2, h3⟩ := h.at_ i r hr
  obtain ⟨g, hg, hog, hgl⟩ := h1.form (by omega)
  have hjs : j * s < r.2.1 * s := (Nat.mul_lt_mul_right hs).2 hj
  obtain ⟨c1, c2⟩ := h1.cell hg hjs
  have hxl : j * s < xs.length := by rw [h1.1.1]; exact hjs
  have hv : rv r = .slice (some ⟨g, 0, none⟩) r.2.1 r.2.2 := by unfold rv; rw [hg]
  have hown := h1.1
  rw [hv] at hown
  obtain ⟨t1, t2⟩ := hown.stored (j * s) (mk i true)
  refine ⟨g, xs[j * s], hg, c1.trans (List.getElem?_eq_getElem hxl), c2, ⟨h.kept.grown t2 (fun b e => by injection e with e; subst e; exact .inl ⟨i, r, hr, by rw [hv]; rfl⟩), fun i' r' hr' => ?_⟩⟩
  by_cases hii : i' = i
  · subst hii
    rw [hr] at hr'
    injection hr' with hr'
    subst hr'
    refine ⟨xs.set (j * s) (mk i' true), ⟨by rw [hv]; exact t1, h1.2⟩, fun h => absurd h (by omega), fun _ k hk => ?_⟩
    by_cases hkj : k = j
    · subst hkj
      rw [List.getElem?_set_self hxl]
    · rw [List.getElem?_set_ne (fun e => hkj (Nat.eq_of_mul_eq_mul_right hs e).symm)]
      exact h3 rfl k (by omega)
  · obtain ⟨xs', a1, a2, a3⟩ := h.at_ i' r' hr'
    refine ⟨xs', ⟨a1.1.kept t2 ?_, a1.2⟩, a2, fun e => absurd e hii⟩
    cases hb : (rv r').ownBlock with
    | none => exact .inl rfl
    | some b => exact .inr (fun e => by injection e with e; subst e; exact hii ((a1.2 _ hb).symm.trans hog))

structure Grew (e : TypeId) (s : Nat) (mk : Nat → Bool → Value) (tr : TypeId) (w0 w : World) (base : Nat) (ls : List Row) (o : Nat → Nat) (sn : List Snap) (vm : Value) : Prop where
  kept : Kept w0 w (Sb ls)
  lists : ∀ i r, ls[i]? = some r → ∃ xs, Held e s w base o i r xs ∧ Good s mk i r.2.1 0 xs
  snaps : ∀ p ∈ sn, ∃ r, ls[p.i]? = some r ∧ p.row.2.1 = r.2.1 + p.m ∧ ∃ xs, Held e s w base o p.i p.row xs ∧ Good s mk p.i r.2.1 p.m xs
  more : w.ownsRow w0.heap.size tr 1 vm sn.length (sn.map fun p => rv p.row)
theorem Part.done (h : Part e s mk w0 w base o ls i 0) (hi : ls.length ≤ i) : Grew e s mk tr w0 w base ls o [] (.slice none 0 0) := by
  refine ⟨h.kept, fun i' r hr => ?_, by simp, World.ownsRow_nil _ _ _ _⟩
  obtain ⟨xs, h1, h2, _⟩ := h.at_ i' r hr
  exact ⟨xs, h1, h2 (by have := (List.getElem?_eq_some_iff.1 hr).1; omega)⟩
theorem Grew.below (h : Grew e s mk tr w0 w base ls o sn vm) (hb : Below w.heap.size w w') : Grew e s mk tr w0 w' base ls o sn vm :=
  ⟨h.kept.below hb, fun i r hr => by
    obtain ⟨xs, h1, h2⟩ := h.lists i r hr
    exact ⟨xs, h1.below hb, h2⟩, fun p hp => by
    obtain ⟨r, h1, h2, xs, h3, h4⟩ := h.snaps p hp
    exact ⟨r, h1, h2, xs, h3.below hb, h4⟩, own_below h.more hb⟩
/-- A row of another type is grown. -/
theorem Grew.other (h : Grew e s mk tr w0 w base ls o sn vm) {t : TypeId} {size n : Nat} {v : Value} {cs : List Value} (hv : w.ownsRow w0.heap.size t size v n cs) (he : t ≠ e) (hr : t ≠ tr) (hg : w.grownBy w' v.ownBlock) : Grew e s mk tr w0 w' base ls o sn vm :=
  ⟨h.kept.grown hg fun b e => .inr (hv.lt b e).1, fun i r hr => by
    obtain ⟨xs, h1, h2⟩ := h.lists i r hr
    exact ⟨xs, h1.other hv he hg, h2⟩, fun p hp => by
    obtain ⟨r, h1, h2, xs, h3, h4⟩ := h.snaps p hp
    exact ⟨r, h1, h2, xs, h3.other hv he hg, h4⟩, row_other h.more hv (Ne.symm hr) hg⟩

/-- The list's present spelling: it may lie in the list's own block or in one that was made since. -/
structure Now (e : TypeId) (s : Nat) (mk : Nat → Bool → Value) (w0 w : World) (base : Nat) (ls : List Row) (o : Nat → Nat) (sn : List Snap) (i j : Nat) (r g : Row) (xs : List Value) : Prop where
  at_ : ls[i]? = some r
  len : g.2.1 = r.2.1 + j
  held : Held e s w base o i g xs
  good : Good s mk i r.2.1 j xs
  lies : ∀ b, (rv g).ownBlock = some b → Sb ls b ∨ w0.heap.size ≤ b
  le : ∀ p ∈ sn, p.i = i → p.m ≤ j
theorem Grew.now (h : Grew e s mk tr w0 w base ls o sn vm) (hr : ls[i]? = some r) (hi : ∀ p ∈ sn, p.i < i) : ∃ xs, Now e s mk w0 w base ls o sn i 0 r r xs := by
  obtain ⟨xs, h1, h2⟩ := h.lists i r hr
  exact ⟨xs, hr, rfl, h1, h2, fun b hb => .inl ⟨i, r, hr, hb⟩, fun p hp e => absurd (hi p hp) (by omega)⟩
theorem Now.below {j : Nat} {g : Row} (h : Now e s mk w0 w base ls o sn i j r g xs) (hb : Below w.heap.size w w') : Now e s mk w0 w' base ls o sn i j r g xs := ⟨h.at_, h.len, h.held.below hb, h.good, h.lies, h.le⟩
theorem Now.other {j : Nat} {g : Row} (h : Now e s mk w0 w base ls o sn i j r g xs) {b2 : Nat} {t : TypeId} {size n : Nat} {v : Value} {cs : List Value} (hv : w.ownsRow b2 t size v n cs) (he : t ≠ e) (hg : w.grownBy w' v.ownBlock) : Now e s mk w0 w' base ls o sn i j r g xs :=
  ⟨h.at_, h.len, h.held.other hv he hg, h.good, h.lies, h.le⟩

/-- It is grown by one. -/
theorem Now.grow {j : Nat} {g : Row} (hn : Now e s mk w0 w base ls o sn i j r g xs) (h : Grew e s mk tr w0 w base ls o sn vm) (hs : 0 < s) (htr : tr ≠ e) {b c : Nat} {cs : List Value} (hl : cs.length = s) (h0 : cs[0]? = some (mk i false))
    (hown : w'.ownsRow base e s (.slice (some ⟨b, 0, none⟩) (g.2.1 + 1) c) (g.2.1 + 1) (xs ++ cs)) (hg : w.grownBy w' (rv g).ownBlock)
    (hat : (rv g).ownBlock = some b ∨ b = w.heap.size)
    (hkeep : ∀ b2 v2 n2 xs2, w.ownsRow b2 e s v2 n2 xs2 → (v2.ownBlock = (rv g).ownBlock → n2 ≤ g.2.1) → w'.ownsRow b2 e s v2 n2 xs2) :
    ∃ o', Grew e s mk tr w0 w' base ls o' sn vm ∧ Now e s mk w0 w' base ls o' sn i (j + 1) r (some ⟨b, 0, none⟩, g.2.1 + 1, c) (xs ++ cs) := by
  refine ⟨fun k => if k = b then i else o k, ?_⟩
  have hold : ∀ i' (r' : Row) xs', Held e s w base o i' r' xs' → (i' = i → r'.2.1 ≤ g.2.1) → Held e s w' base (fun k => if k = b then i else o k) i' r' xs' := by
    intro i' r' xs' hh hle
    refine ⟨hkeep _ _ _ _ hh.1 ?_, ?_⟩
    · intro he
      cases hb : (rv r').ownBlock with
      | none =>
        rcases hh.1.2 with ⟨hv0, h0⟩ | ⟨g2, c2, cur2, hv, _⟩
        · unfold rv at hv0
          injection hv0 with _ hv0 _
          omega
        · rw [hv] at hb; cases hb
      | some k =>
        refine hle ?_
        rw [hb] at he
        exact (hh.2 k hb).symm.trans (hn.held.2 k he.symm)
    · intro k hk
      show (if k = b then i else o k) = i'
      by_cases hkb : k = b
      · subst hkb
        rw [if_pos rfl]
        rcases hat with he | he
        · exact (hn.held.2 k he).symm.trans (hh.2 k hk)
        · have := (hh.1.lt k hk).2; omega
      · rw [if_neg hkb]; exact hh.2 k hk
  have hother : w'.ownsRow w0.heap.size tr 1 vm sn.length (sn.map fun p => rv p.row) := row_other h.more hn.held.1 htr hg
  refine ⟨⟨h.kept.grown hg hn.lies, ?_, ?_, hother⟩, ⟨hn.at_, ?_, ⟨hown, ?_⟩, hn.good.snoc hs hl h0, ?_, ?_⟩⟩
  · intro i' r' hr'
    obtain ⟨xs', a1, a2⟩ := h.lists i' r' hr'
    refine ⟨xs', hold _ _ _ a1 fun e => ?_, a2⟩
    subst e
    rw [hn.at_] at hr'
    injection hr' with hr'
    subst hr'
    rw [hn.len]; omega
  · intro p hp
    obtain ⟨r', h1, h2, xs', h3, h4⟩ := h.snaps p hp
    refine ⟨r', h1, h2, xs', hold _ _ _ h3 fun e => ?_, h4⟩
    have hle := hn.le p hp e
    rw [e, hn.at_] at h1
    injection h1 with h1
    subst h1
    rw [h2, hn.len]; omega
  · show g.2.1 + 1 = r.2.1 + (j + 1)
    rw [hn.len]; omega
  · intro k hk
    have : k = b := by simp [rv, Value.ownBlock] at hk; exact hk.symm
    subst this
    exact if_pos rfl
  · intro k hk
    have : k = b := by simp [rv, Value.ownBlock] at hk; exact hk.symm
    subst this
    rcases hat with he | he
    · exact hn.lies k he
    · right; rw [he]; exact h.kept.size
  · intro p hp e
    have := hn.le p hp e
    omega
/-- Its present spelling is kept. -/
theorem Now.snap {j : Nat} {g : Row} (hn : Now e s mk w0 w base ls o sn i j r g xs) (h : Grew e s mk tr w0 w base ls o sn vm) (htr : tr ≠ e) {w1 : World} {vm' : Value}
    (h1 : w1.ownsRow w0.heap.size tr 1 vm' (sn.length + 1) ((sn.map fun p => rv p.row) ++ [rv g])) (hg1 : w.grownBy w1 vm.ownBlock) :
    Grew e s mk tr w0 w1 base ls o (sn ++ [⟨i, j, g⟩]) vm' ∧ Now e s mk w0 w1 base ls o (sn ++ [⟨i, j, g⟩]) i j r g xs := by
  have hh : ∀ {i' : Nat} {r' : Row} {xs' : List Value}, Held e s w base o i' r' xs' → Held e s w1 base o i' r' xs' := fun hh => hh.other h.more htr hg1
  refine ⟨⟨h.kept.grown hg1 fun b e => .inr (h.more.lt b e).1, fun i' r' hr' => ?_, ?_, ?_⟩, ⟨hn.at_, hn.len, hh hn.held, hn.good, hn.lies, ?_⟩⟩
  · obtain ⟨xs', a1, a2⟩ := h.lists i' r' hr'
    exact ⟨xs', hh a1, a2⟩
  · intro p hp
    rcases List.mem_append.1 hp with h1 | h1
    · obtain ⟨r', a1, a2, xs', a3, a4⟩ := h.snaps p h1
      exact ⟨r', a1, a2, xs', hh a3, a4⟩
    · obtain rfl := List.mem_singleton.1 h1
      exact ⟨r, hn.at_, hn.len, xs, hh hn.held, hn.good⟩
  · simpa using h1
  · intro p hp e
    rcases List.mem_append.1 hp with h1 | h1
    · exact hn.le p h1 e
    · obtain rfl := List.mem_singleton.1 h1
      exact Nat.le_refl _
end
end Go.Proofs.Ytelgcmcnebncmaa.Ap
namespace Go.Proofs.Ytelgcmcnebncmaa.Ap
open Go.RowKit Go.Proofs Go.Proofs.Ytelgcmcnebncmaa.Dr

theorem infoStr : (Try.prog.info? 9).map (fun i => (i.zero, i.size, i.bytes)) = some (some (.string ⟨#[]⟩), 1, 16) := by kernel_rfl
def mkS (i : Nat) (b : Bool) : Value := .string ⟨#[if b then 119 else 103, UInt8.ofNat (48 + i)]⟩
def tabM : Array Value := #[.string ⟨#[119, 48]⟩, .string ⟨#[119, 49]⟩, .string ⟨#[119, 50]⟩, .string ⟨#[119, 51]⟩, .string ⟨#[119, 52]⟩, .string ⟨#[119, 53]⟩]
def tabG : Array Value := #[.string ⟨#[103, 48]⟩, .string ⟨#[103, 49]⟩, .string ⟨#[103, 50]⟩, .string ⟨#[103, 51]⟩, .string ⟨#[103, 52]⟩, .string ⟨#[103, 53]⟩]
theorem tabM_at : ∀ {i : Nat}, i < 6 → tabM[i]? = some (mkS i true)
  | 0, _ => rfl
  | 1, _ => rfl
  | 2, _ => rfl
  | 3, _ => rfl
  | 4, _ => rfl
  | 5, _ => rfl
  | _ + 6, h => absurd h (by omega)
theorem tabG_at : ∀ {i : Nat}, i < 6 → tabG[i]? = some (mkS i false)
  | 0, _ => rfl
  | 1, _ => rfl
  | 2, _ => rfl
  | 3, _ => rfl
  | 4, _ => rfl
  | 5, _ => rfl
  | _ + 6, h => absurd h (by omega)
/-- Of each list 66 spellings are kept, one list behind the other. -/
def Rise (sn : List Snap) : Prop := ∀ (y : Nat) (s : Snap), sn[y]? = some s → s.i = y / 66
theorem Rise.snoc {sn : List Snap} (h : Rise sn) {s : Snap} (hs : s.i = sn.length / 66) : Rise (sn ++ [s]) := by
  intro y s' hy
  rcases Nat.lt_or_ge y sn.length with hlt | hge
  · rw [List.getElem?_append_left hlt] at hy
    exact h y s' hy
  · have : y = sn.length := by
      have := (List.getElem?_eq_some_iff.1 hy).1
      simp at this
      omega
    subst this
    rw [List.getElem?_append_right (Nat.le_refl _)] at hy
    simp at hy
    subst hy
    exact hs
end Go.Proofs.Ytelgcmcnebncmaa.Ap
