/- XApart, XTold: merged by tools/merge.py. -/
import Derived.Test.YtelgcmcnebncmaaQ36
import Derived.Test.YtelgcmcnebncmaaQ09
import Derived.Test.YtelgcmcnebncmaaQ20
import Derived.Test.YtelgcmcnebncmaaQ26
namespace Go.Proofs.Ytelgcmcnebncmaa.Ap
set_option linter.unusedVariables false
open Go.RowKit Go.Proofs Go.Proofs.Ytelgcmcnebncmaa.Dr

/-- A slice: where it begins, its length, its room. -/
abbrev Row := Option Addr × Nat × Nat
def rv (r : Row) : Value := .slice r.1 r.2.1 r.2.2
def Sb (ls : List Row) (k : Nat) : Prop := ∃ (i : Nat) (r : Row), ls[i]? = some r ∧ (rv r).ownBlock = some k
theorem kept_cell {w w' : World} {S : Nat → Prop} (h : Kept w w' S) {p : Addr} (hp : p.block < w.heap.size) (hs : ¬ S p.block) : w'.cell? p = w.cell? p := World.cell?_of_block (h.block _ hp hs)
theorem kept_rd {w w' : World} {S : Nat → Prop} (h : Kept w w' S) {B size n : Nat} {A : Option Addr} {xs : List Value} (hr : Rd w B size A n xs) (hB : B ≤ w.heap.size) (hs : ∀ ad, A = some ad → ¬ S ad.block) : Rd w' B size A n xs :=
  ⟨hr.1, fun hn => by
    obtain ⟨ad, e, hb, hc⟩ := hr.2 hn
    exact ⟨ad, e, hb, fun j u hu => (kept_cell h (by rw [add_block]; omega) (by rw [add_block]; exact hs ad e)).trans (hc j u hu)⟩⟩
theorem row_other {w w' : World} {b1 b2 : Nat} {e1 e2 : TypeId} {s1 s2 n1 n2 : Nat} {v1 v2 : Value} {c1 c2 : List Value} (h1 : w.ownsRow b1 e1 s1 v1 n1 c1) (h2 : w.ownsRow b2 e2 s2 v2 n2 c2) (he : e1 ≠ e2) (hg : w.grownBy w' v2.ownBlock) : w'.ownsRow b1 e1 s1 v1 n1 c1 := by
  refine h1.kept hg ?_
  cases hb : v1.ownBlock with
  | none => exact .inl rfl
  | some k => exact .inr (fun e2 => own_types h1 h2 he hb e2.symm)
theorem row_at {w : World} {B k i : Nat} {A : Option Addr} {ls : List Row} (hr : Rd w B 1 A k (ls.map rv)) (hi : i < k) : ∃ ad a n c, A = some ad ∧ w.cell? (ad.add i) = some (.slice a n c) ∧ ls[i]? = some (a, n, c) := by
  obtain ⟨ad, u, rfl, _, hu, hc⟩ := hr.at_ hi
  rw [List.getElem?_map] at hu
  cases hx : ls[i]? with
  | none => rw [hx] at hu; cases hu
  | some r =>
    rw [hx] at hu
    injection hu with hu
    subst hu
    exact ⟨ad, r.1, r.2.1, r.2.2, rfl, hc, rfl⟩
theorem row_cell {w : World} {B k i : Nat} {ad : Addr} {ls : List Row} {a : Option Addr} {n c : Nat} (hr : Rd w B 1 (some ad) k (ls.map rv)) (hl : ls.length = k) (hx : ls[i]? = some (a, n, c)) : w.cell? (ad.add i) = some (.slice a n c) := by
  refine hr.cell rfl ?_ (by rw [List.getElem?_map, hx]; rfl)
  have := (List.getElem?_eq_some_iff.1 hx).1
  omega

/-- No block is two rows'. -/
def Apart (ls : List Row) : Prop := ∀ (i j : Nat) (r r' : Row) (g : Nat), ls[i]? = some r → ls[j]? = some r' → (rv r).ownBlock = some g → (rv r').ownBlock = some g → i = j
open Classical in
theorem owner_of {ls : List Row} (h : Apart ls) : ∃ o : Nat → Nat, ∀ (i : Nat) (r : Row) (g : Nat), ls[i]? = some r → (rv r).ownBlock = some g → o g = i := by
  refine ⟨fun g => if hg : ∃ (i : Nat) (r : Row), ls[i]? = some r ∧ (rv r).ownBlock = some g then hg.choose else 0, fun i r g hr hg => ?_⟩
  have hx : ∃ (i : Nat) (r : Row), ls[i]? = some r ∧ (rv r).ownBlock = some g := ⟨i, r, hr, hg⟩
  show (if hg : ∃ (i : Nat) (r : Row), ls[i]? = some r ∧ (rv r).ownBlock = some g then hg.choose else 0) = i
  rw [dif_pos hx]
  obtain ⟨r', h1, h2⟩ := hx.choose_spec
  exact h _ _ _ _ g h1 hr h2 hg

/-- Row r of list i has the cells xs; o tells of a block whose it is. -/
def Held (e : TypeId) (s : Nat) (w : World) (base : Nat) (o : Nat → Nat) (i : Nat) (r : Row) (xs : List Value) : Prop := w.ownsRow base e s (rv r) r.2.1 xs ∧ ∀ g, (rv r).ownBlock = some g → o g = i
/-- Every place of it, the first n and the m behind them, has its mark. -/
def Good (s : Nat) (mk : Nat → Bool → Value) (i n m : Nat) (xs : List Value) : Prop := xs.length = (n + m) * s ∧ ∀ k, k < n + m → xs[k * s]? = some (mk i (decide (k < n)))
/-- A spelling that was kept: of list i, behind m growings. -/
structure Snap where
  i : Nat
  m : Nat
  row : Row
section
variable {e tr : TypeId} {s : Nat} {mk : Nat → Bool → Value} {w0 w w' : World} {base : Nat} {ls : List Row} {o : Nat → Nat} {sn : List Snap} {vm : Value} {i : Nat} {r : Row} {xs : List Value}
theorem Held.below (h : Held e s w base o i r xs) (hb : Below w.heap.size w w') : Held e s w' base o i r xs := ⟨own_below h.1 hb, h.2⟩
theorem Held.other (h : Held e s w base o i r xs) {b2 : Nat} {e2 : TypeId} {size n : Nat} {v : Value} {cs : List Value} (hv : w.ownsRow b2 e2 size v n cs) (he : e2 ≠ e) (hg : w.grownBy w' v.ownBlock) : Held e s w' base o i r xs :=
  ⟨row_other h.1 hv (Ne.symm he) hg, h.2⟩
theorem Held.form (h : Held e s w base o i r xs) (hn : 0 < r.2.1) : ∃ g, r.1 = some ⟨g, 0, none⟩ ∧ o g = i ∧ g < w.heap.size := by
  obtain ⟨g, cap, hv, _, hlt⟩ := h.1.form hn
  unfold rv at hv
  injection hv with h1 _ _
  exact ⟨g, h1, h.2 g (by unfold rv; rw [h1]; rfl), hlt⟩
theorem Held.cell (h : Held e s w base o i r xs) {g : Nat} (hg : r.1 = some ⟨g, 0, none⟩) {j : Nat} (hj : j < r.2.1 * s) : w.cell? ⟨g, j, none⟩ = xs[j]? ∧ w.frozen? ⟨g, j, none⟩ = false := by
  have h1 := h.1
  unfold rv at h1
  rw [hg] at h1
  exact ⟨World.ownsRow.cellAt h1 j hj, World.ownsRow.frozenAt h1 j⟩
theorem Held.mark (h : Held e s w base o i r xs) (hs : 0 < s) {n m k : Nat} (hgd : Good s mk i n m xs) (hr : r.2.1 = n + m) (hk : k < n + m) : ∃ g, r.1 = some ⟨g, 0, none⟩ ∧ w.cell? ⟨g, k * s, none⟩ = some (mk i (decide (k < n))) := by
  obtain ⟨g, hg, _, _⟩ := h.form (by omega)
  refine ⟨g, hg, ?_⟩
  rw [(h.cell hg (j := k * s) (by rw [hr]; exact (Nat.mul_lt_mul_right hs).2 hk)).1]
  exact hgd.2 k hk
theorem Good.snoc {n m : Nat} (h : Good s mk i n m xs) (hs : 0 < s) {cs : List Value} (hl : cs.length = s) (h0 : cs[0]? = some (mk i false)) : Good s mk i n (m + 1) (xs ++ cs) := by
  refine ⟨by rw [List.length_append, h.1, hl, ← Nat.add_assoc, Nat.add_mul (n + m) 1 s, Nat.one_mul], fun k hk => ?_⟩
  by_cases hlt : k < n + m
  · rw [List.getElem?_append_left (by rw [h.1]; exact (Nat.mul_lt_mul_right hs).2 hlt)]
    exact h.2 k hlt
  · obtain rfl : k = n + m := by omega
    rw [List.getElem?_append_right (by rw [h.1]; exact Nat.le_refl _), h.1, Nat.sub_self, h0, show decide (n + m < n) = false by simp]

/-- The lists below i are written full, of list i the first j places; of what stood in w0 only the lists' blocks have turned. -/
structure Part (e : TypeId) (s : Nat) (mk : Nat → Bool → Value) (w0 w : World) (base : Nat) (o : Nat → Nat) (ls : List Row) (i j : Nat) : Prop where
  kept : Kept w0 w (Sb ls)
  at_ : ∀ (i' : Nat) (r : Row), ls[i']? = some r → ∃ xs, Held e s w base o i' r xs ∧ (i' < i → Good s mk i' r.2.1 0 xs) ∧ (i' = i → ∀ k, k < j → xs[k * s]? = some (mk i' true))
theorem Part.start (h : ∀ (i' : Nat) (r : Row), ls[i']? = some r → ∃ xs, w.ownsRow base e s (rv r) r.2.1 xs) (ho : ∀ (i : Nat) (r : Row) (g : Nat), ls[i]? = some r → (rv r).ownBlock = some g → o g = i) : Part e s mk w w base o ls 0 0 :=
  ⟨Kept.refl _ _, fun i' r hr => by
    obtain ⟨xs, h1⟩ := h i' r hr
    exact ⟨xs, ⟨h1, fun g hg => ho i' r g hr hg⟩, fun h => absurd h (by omega), fun _ k hk => absurd hk (by omega)⟩⟩
theorem Part.below {j : Nat} (h : Part e s mk w0 w base o ls i j) (hb : Below w.heap.size w w') : Part e s mk w0 w' base o ls i j :=
  ⟨h.kept.below hb, fun i' r hr => by
    obtain ⟨xs, h1, h2⟩ := h.at_ i' r hr
    exact ⟨xs, h1.below hb, h2⟩⟩
theorem Part.next {j : Nat} (h : Part e s mk w0 w base o ls i j) (hr : ls[i]? = some r) (hj : j = r.2.1) : Part e s mk w0 w base o ls (i + 1) 0 := by
  refine ⟨h.kept, fun i' r' hr' => ?_⟩
  obtain ⟨xs, h1, h2, h3⟩ := h.at_ i' r' hr'
  refine ⟨xs, h1, fun hi => ?_, fun _ k hk => absurd hk (by omega)⟩
  by_cases he : i' = i
  · subst he
    rw [hr] at hr'
    injection hr' with hr'
    subst hr'
    refine ⟨h1.1.1, fun k hk => ?_⟩
    rw [h3 rfl k (by omega), show decide (k < r.2.1) = true by simpa using hk]
  · exact h2 (by omega)
theorem Part.place {j : Nat} (h : Part e s mk w0 w base o ls i j) (hs : 0 < s) (hr : ls[i]? = some r) (hj : j < r.2.1) : ∃ g u, r.1 = some ⟨g, 0, none⟩ ∧ w.cell? ⟨g, j * s, none⟩ = some u ∧ w.frozen? ⟨g, j * s, none⟩ = false ∧ Part e s mk w0 (w.setCell ⟨g, j * s, none⟩ (mk i true)) base o ls i (j + 1) := by
  obtain ⟨xs, h1, h2, h3⟩ := h.at_ i r hr
  obtain ⟨g, hg, hog, hgl⟩ := h1.form (by omega)
  have hjs : j * s < r.2.1 * s := (Nat.mul_lt_mul_right hs).2 hj
  obtain ⟨c1, c2⟩ := h1.cell hg hjs
  have hxl : j * s < xs.length := by rw [h1.1.1]; exact hjs
  have hv : rv r = .slice (some ⟨g, 0, none⟩) r.2.1 r.2.2 := by unfold rv; rw [hg]
  have hown := h1.1
  rw [hv] at hown
  obtain ⟨t1, t2⟩ := hown.stored (j * s) (mk i true)
  refine ⟨g, xs[j * s], hg, c1.trans (List.getElem?_eq_getElem hxl), c2, ⟨h.kept.grown t2 (fun b e => by injection e with e; subst e; exact .inl ⟨i, r, hr, by rw [hv]; rfl⟩), fun i' r' hr' => ?_⟩⟩
  by_cases hii : i' = i
  · subst hii
    rw [hr] at hr'
    injection hr' with hr'
    subst hr'
    refine ⟨xs.set (j * s) (mk i' true), ⟨by rw [hv]; exact t1, h1.2⟩, fun h => absurd h (by omega), fun _ k hk => ?_⟩
    by_cases hkj : k = j
    · subst hkj
      rw [List.getElem?_set_self hxl]
    · rw [List.getElem?_set_ne (fun e => hkj (Nat.eq_of_mul_eq_mul_right hs e).symm)]
      exact h3 rfl k (by omega)
  · obtain ⟨xs', a1, a2, a3⟩ := h.at_ i' r' hr'
    refine ⟨xs', ⟨a1.1.kept t2 ?_, a1.2⟩, a2, fun e => absurd e hii⟩
    cases hb : (rv r').ownBlock with
    | none => exact .inl rfl
    | some b => exact .inr (fun e => by injection e with e; subst e; exact hii ((a1.2 _ hb).symm.trans hog))

structure Grew (e : TypeId) (s : Nat) (mk : Nat → Bool → Value) (tr : TypeId) (w0 w : World) (base : Nat) (ls : List Row) (o : Nat → Nat) (sn : List Snap) (vm : Value) : Prop where
  kept : Kept w0 w (Sb ls)
  lists : ∀ i r, ls[i]? = some r → ∃ xs, Held e s w base o i r xs ∧ Good s mk i r.2.1 0 xs
  snaps : ∀ p ∈ sn, ∃ r, ls[p.i]? = some r ∧ p.row.2.1 = r.2.1 + p.m ∧ ∃ xs, Held e s w base o p.i p.row xs ∧ Good s mk p.i r.2.1 p.m xs
  more : w.ownsRow w0.heap.size tr 1 vm sn.length (sn.map fun p => rv p.row)
theorem Part.done (h : Part e s mk w0 w base o ls i 0) (hi : ls.length ≤ i) : Grew e s mk tr w0 w base ls o [] (.slice none 0 0) := by
  refine ⟨h.kept, fun i' r hr => ?_, by simp, World.ownsRow_nil _ _ _ _⟩
  obtain ⟨xs, h1, h2, _⟩ := h.at_ i' r hr
  exact ⟨xs, h1, h2 (by have := (List.getElem?_eq_some_iff.1 hr).1; omega)⟩
theorem Grew.below (h : Grew e s mk tr w0 w base ls o sn vm) (hb : Below w.heap.size w w') : Grew e s mk tr w0 w' base ls o sn vm :=
  ⟨h.kept.below hb, fun i r hr => by
    obtain ⟨xs, h1, h2⟩ := h.lists i r hr
    exact ⟨xs, h1.below hb, h2⟩, fun p hp => by
    obtain ⟨r, h1, h2, xs, h3, h4⟩ := h.snaps p hp
    exact ⟨r, h1, h2, xs, h3.below hb, h4⟩, own_below h.more hb⟩
/-- A row of another type is grown. -/
theorem Grew.other (h : Grew e s mk tr w0 w base ls o sn vm) {t : TypeId} {size n : Nat} {v : Value} {cs : List Value} (hv : w.ownsRow w0.heap.size t size v n cs) (he : t ≠ e) (hr : t ≠ tr) (hg : w.grownBy w' v.ownBlock) : Grew e s mk tr w0 w' base ls o sn vm :=
  ⟨h.kept.grown hg fun b e => .inr (hv.lt b e).1, fun i r hr => by
    obtain ⟨xs, h1, h2⟩ := h.lists i r hr
    exact ⟨xs, h1.other hv he hg, h2⟩, fun p hp => by
    obtain ⟨r, h1, h2, xs, h3, h4⟩ := h.snaps p hp
    exact ⟨r, h1, h2, xs, h3.other hv he hg, h4⟩, row_other h.more hv (Ne.symm hr) hg⟩

/-- The list's present spelling: it may lie in the list's own block or in one that was made since. -/
structure Now (e : TypeId) (s : Nat) (mk : Nat → Bool → Value) (w0 w : World) (base : Nat) (ls : List Row) (o : Nat → Nat) (sn : List Snap) (i j : Nat) (r g : Row) (xs : List Value) : Prop where
  at_ : ls[i]? = some r
  len : g.2.1 = r.2.1 + j
  held : Held e s w base o i g xs
  good : Good s mk i r.2.1 j xs
  lies : ∀ b, (rv g).ownBlock = some b → Sb ls b ∨ w0.heap.size ≤ b
  le : ∀ p ∈ sn, p.i = i → p.m ≤ j
theorem Grew.now (h : Grew e s mk tr w0 w base ls o sn vm) (hr : ls[i]? = some r) (hi : ∀ p ∈ sn, p.i < i) : ∃ xs, Now e s mk w0 w base ls o sn i 0 r r xs := by
  obtain ⟨xs, h1, h2⟩ := h.lists i r hr
  exact ⟨xs, hr, rfl, h1, h2, fun b hb => .inl ⟨i, r, hr, hb⟩, fun p hp e => absurd (hi p hp) (by omega)⟩
theorem Now.below {j : Nat} {g : Row} (h : Now e s mk w0 w base ls o sn i j r g xs) (hb : Below w.heap.size w w') : Now e s mk w0 w' base ls o sn i j r g xs := ⟨h.at_, h.len, h.held.below hb, h.good, h.lies, h.le⟩
theorem Now.other {j : Nat} {g : Row} (h : Now e s mk w0 w base ls o sn i j r g xs) {b2 : Nat} {t : TypeId} {size n : Nat} {v : Value} {cs : List Value} (hv : w.ownsRow b2 t size v n cs) (he : t ≠ e) (hg : w.grownBy w' v.ownBlock) : Now e s mk w0 w' base ls o sn i j r g xs :=
  ⟨h.at_, h.len, h.held.other hv he hg, h.good, h.lies, h.le⟩

/-- It is grown by one. -/
theorem Now.grow {j : Nat} {g : Row} (hn : Now e s mk w0 w base ls o sn i j r g xs) (h : Grew e s mk tr w0 w base ls o sn vm) (hs : 0 < s) (htr : tr ≠ e) {b c : Nat} {cs : List Value} (hl : cs.length = s) (h0 : cs[0]? = some (mk i false))
    (hown : w'.ownsRow base e s (.slice (some ⟨b, 0, none⟩) (g.2.1 + 1) c) (g.2.1 + 1) (xs ++ cs)) (hg : w.grownBy w' (rv g).ownBlock)
    (hat : (rv g).ownBlock = some b ∨ b = w.heap.size)
    (hkeep : ∀ b2 v2 n2 xs2, w.ownsRow b2 e s v2 n2 xs2 → (v2.ownBlock = (rv g).ownBlock → n2 ≤ g.2.1) → w'.ownsRow b2 e s v2 n2 xs2) :
    ∃ o', Grew e s mk tr w0 w' base ls o' sn vm ∧ Now e s mk w0 w' base ls o' sn i (j + 1) r (some ⟨b, 0, none⟩, g.2.1 + 1, c) (xs ++ cs) := by
  refine ⟨fun k => if k = b then i else o k, ?_⟩
  have hold : ∀ i' (r' : Row) xs', Held e s w base o i' r' xs' → (i' = i → r'.2.1 ≤ g.2.1) → Held e s w' base (fun k => if k = b then i else o k) i' r' xs' := by
    intro i' r' xs' hh hle
    refine ⟨hkeep _ _ _ _ hh.1 ?_, ?_⟩
    · intro he
      cases hb : (rv r').ownBlock with
      | none =>
        rcases hh.1.2 with ⟨hv0, h0⟩ | ⟨g2, c2, cur2, hv, _⟩
        · unfold rv at hv0
          injection hv0 with _ hv0 _
          omega
        · rw [hv] at hb; cases hb
      | some k =>
        refine hle ?_
        rw [hb] at he
        exact (hh.2 k hb).symm.trans (hn.held.2 k he.symm)
    · intro k hk
      show (if k = b then i else o k) = i'
      by_cases hkb : k = b
      · subst hkb
        rw [if_pos rfl]
        rcases hat with he | he
        · exact (hn.held.2 k he).symm.trans (hh.2 k hk)
        · have := (hh.1.lt k hk).2; omega
      · rw [if_neg hkb]; exact hh.2 k hk
  have hother : w'.ownsRow w0.heap.size tr 1 vm sn.length (sn.map fun p => rv p.row) := row_other h.more hn.held.1 htr hg
  refine ⟨⟨h.kept.grown hg hn.lies, ?_, ?_, hother⟩, ⟨hn.at_, ?_, ⟨hown, ?_⟩, hn.good.snoc hs hl h0, ?_, ?_⟩⟩
  · intro i' r' hr'
    obtain ⟨xs', a1, a2⟩ := h.lists i' r' hr'
    refine ⟨xs', hold _ _ _ a1 fun e => ?_, a2⟩
    subst e
    rw [hn.at_] at hr'
    injection hr' with hr'
    subst hr'
    rw [hn.len]; omega
  · intro p hp
    obtain ⟨r', h1, h2, xs', h3, h4⟩ := h.snaps p hp
    refine ⟨r', h1, h2, xs', hold _ _ _ h3 fun e => ?_, h4⟩
    have hle := hn.le p hp e
    rw [e, hn.at_] at h1
    injection h1 with h1
    subst h1
    rw [h2, hn.len]; omega
  · show g.2.1 + 1 = r.2.1 + (j + 1)
    rw [hn.len]; omega
  · intro k hk
    have : k = b := by simp [rv, Value.ownBlock] at hk; exact hk.symm
    subst this
    exact if_pos rfl
  · intro k hk
    have : k = b := by simp [rv, Value.ownBlock] at hk; exact hk.symm
    subst this
    rcases hat with he | he
    · exact hn.lies k he
    · right; rw [he]; exact h.kept.size
  · intro p hp e
    have := hn.le p hp e
    omega
/-- Its present spelling is kept. -/
theorem Now.snap {j : Nat} {g : Row} (hn : Now e s mk w0 w base ls o sn i j r g xs) (h : Grew e s mk tr w0 w base ls o sn vm) (htr : tr ≠ e) {w1 : World} {vm' : Value}
    (h1 : w1.ownsRow w0.heap.size tr 1 vm' (sn.length + 1) ((sn.map fun p => rv p.row) ++ [rv g])) (hg1 : w.grownBy w1 vm.ownBlock) :
    Grew e s mk tr w0 w1 base ls o (sn ++ [⟨i, j, g⟩]) vm' ∧ Now e s mk w0 w1 base ls o (sn ++ [⟨i, j, g⟩]) i j r g xs := by
  have hh : ∀ {i' : Nat} {r' : Row} {xs' : List Value}, Held e s w base o i' r' xs' → Held e s w1 base o i' r' xs' := fun hh => hh.other h.more htr hg1
  refine ⟨⟨h.kept.grown hg1 fun b e => .inr (h.more.lt b e).1, fun i' r' hr' => ?_, ?_, ?_⟩, ⟨hn.at_, hn.len, hh hn.held, hn.good, hn.lies, ?_⟩⟩
  · obtain ⟨xs', a1, a2⟩ := h.lists i' r' hr'
    exact ⟨xs', hh a1, a2⟩
  · intro p hp
    rcases List.mem_append.1 hp with h1 | h1
    · obtain ⟨r', a1, a2, xs', a3, a4⟩ := h.snaps p h1
      exact ⟨r', a1, a2, xs', hh a3, a4⟩
    · obtain rfl := List.mem_singleton.1 h1
      exact ⟨r, hn.at_, hn.len, xs, hh hn.held, hn.good⟩
  · simpa using h1
  · intro p hp e
    rcases List.mem_append.1 hp with h1 | h1
    · exact hn.le p h1 e
    · obtain rfl := List.mem_singleton.1 h1
      exact Nat.le_refl _
end
end Go.Proofs.Ytelgcmcnebncmaa.Ap
namespace Go.Proofs.Ytelgcmcnebncmaa.Ap
open Go.RowKit Go.Proofs Go.Proofs.Ytelgcmcnebncmaa.Dr

theorem infoStr : (Try.prog.info? 9).map (fun i => (i.zero, i.size, i.bytes)) = some (some (.string ⟨#[]⟩), 1, 16) := by kernel_rfl
def mkS (i : Nat) (b : Bool) : Value := .string ⟨#[if b then 119 else 103, UInt8.ofNat (48 + i)]⟩
def tabM : Array Value := #[.string ⟨#[119, 48]⟩, .string ⟨#[119, 49]⟩, .string ⟨#[119, 50]⟩, .string ⟨#[119, 51]⟩, .string ⟨#[119, 52]⟩, .string ⟨#[119, 53]⟩]
def tabG : Array Value := #[.string ⟨#[103, 48]⟩, .string ⟨#[103, 49]⟩, .string ⟨#[103, 50]⟩, .string ⟨#[103, 51]⟩, .string ⟨#[103, 52]⟩, .string ⟨#[103, 53]⟩]
theorem tabM_at : ∀ {i : Nat}, i < 6 → tabM[i]? = some (mkS i true)
  | 0, _ => rfl
  | 1, _ => rfl
  | 2, _ => rfl
  | 3, _ => rfl
  | 4, _ => rfl
  | 5, _ => rfl
  | _ + 6, h => absurd h (by omega)
theorem tabG_at : ∀ {i : Nat}, i < 6 → tabG[i]? = some (mkS i false)
  | 0, _ => rfl
  | 1, _ => rfl
  | 2, _ => rfl
  | 3, _ => rfl
  | 4, _ => rfl
  | 5, _ => rfl
  | _ + 6, h => absurd h (by omega)
/-- Of each list 66 spellings are kept, one list behind the other. -/
def Rise (sn : List Snap) : Prop := ∀ (y : Nat) (s : Snap), sn[y]? = some s → s.i = y / 66
theorem Rise.snoc {sn : List Snap} (h : Rise sn) {s : Snap} (hs : s.i = sn.length / 66) : Rise (sn ++ [s]) := by
  intro y s' hy
  rcases Nat.lt_or_ge y sn.length with hlt | hge
  · rw [List.getElem?_append_left hlt] at hy
    exact h y s' hy
  · have : y = sn.length := by
      have := (List.getElem?_eq_some_iff.1 hy).1
      simp at this
      omega
    subst this
    rw [List.getElem?_append_right (Nat.le_refl _)] at hy
    simp at hy
    subst hy
    exact hs
end Go.Proofs.Ytelgcmcnebncmaa.Ap
namespace Go.Proofs.Ytelgcmcnebncmaa.Ap
set_option linter.unusedVariables false
open Go.RowKit Go.Proofs Go.Deep Go.Proofs.Ytelgcmcnebncmaa.Dr Go.Proofs.Ytelgcmcnebncmaa.Ring

abbrev tAns := 81
/-- The four answers: bytes, names, what stands, what is safe; the values of the files' bytes. -/
structure Av4 where
  d : Row
  l : Row
  f : Row
  g : Row
  fv : List Value
  gv : List Value
def Av4.val (x : Av4) : Value := .agg #[rv x.d, rv x.l, rv x.f, rv x.g]
def Av4.cells (x : Av4) : List Value := [rv x.d, rv x.l, rv x.f, rv x.g]
def rowOf : Value → Row
  | .slice A n c => (A, n, c)
  | _ => (none, 0, 0)
def Av4.rows (x : Av4) : List Row := x.d :: (x.fv.map rowOf ++ x.gv.map rowOf)
/-- Two rows have no block in common. -/
def Off (r r' : Row) : Prop := ∀ g, (rv r).ownBlock = some g → (rv r').ownBlock ≠ some g
theorem apart_of {ls : List Row} (h : ls.Pairwise Off) : Apart ls := by
  intro i j r r' g hi hj hg hg'
  obtain ⟨h1, rfl⟩ := List.getElem?_eq_some_iff.1 hi
  obtain ⟨h2, rfl⟩ := List.getElem?_eq_some_iff.1 hj
  have hp := List.pairwise_iff_getElem.1 h
  rcases Nat.lt_trichotomy i j with hlt | heq | hgt
  · exact absurd hg' (hp i j h1 h2 hlt g hg)
  · exact heq
  · exact absurd hg (hp j i h2 h1 hgt g hg')
/-- The rows' blocks lie from lo on, below hi. -/
def Span (lo hi : Nat) (ls : List Row) : Prop := ∀ r ∈ ls, ∀ g, (rv r).ownBlock = some g → lo ≤ g ∧ g < hi
theorem Span.mono {lo hi lo' hi' : Nat} {ls : List Row} (h : Span lo hi ls) (h1 : lo' ≤ lo) (h2 : hi ≤ hi') : Span lo' hi' ls := fun r hr g hg => ⟨Nat.le_trans h1 (h r hr g hg).1, Nat.lt_of_lt_of_le (h r hr g hg).2 h2⟩
theorem Span.append {lo hi : Nat} {l1 l2 : List Row} (h1 : Span lo hi l1) (h2 : Span lo hi l2) : Span lo hi (l1 ++ l2) := fun r hr => (List.mem_append.1 hr).elim (h1 r) (h2 r)
theorem off_append {lo mid mid2 hi : Nat} {l1 l2 : List Row} (p1 : l1.Pairwise Off) (p2 : l2.Pairwise Off) (h1 : Span lo mid l1) (h2 : Span mid2 hi l2) (hm : mid ≤ mid2) : (l1 ++ l2).Pairwise Off :=
  List.pairwise_append.2 ⟨p1, p2, fun a ha b hb g hg hg' => by have := (h1 a ha g hg).2; have := (h2 b hb g hg').1; omega⟩
theorem own_row {w : World} {b : Nat} {e : TypeId} {s n : Nat} {v : Value} {xs : List Value} (h : w.ownsRow b e s v n xs) : rv (rowOf v) = v ∧ (rowOf v).2.1 = n := by
  obtain ⟨A, c, rfl, _, _⟩ := own_form h
  exact ⟨rfl, rfl⟩
theorem span_own {w : World} {b : Nat} {e : TypeId} {s n : Nat} {r : Row} {xs : List Value} (h : w.ownsRow b e s (rv r) n xs) : Span b w.heap.size [r] := by
  intro r' hr g hg
  obtain rfl := List.mem_singleton.1 hr
  exact h.lt g hg
theorem files_row {w : World} {b : Nat} {v : Value} {dv : List Value} {fs : List (Bs × Bs)} (h : FilesAt w b v dv fs) {x : Value} (hx : x ∈ dv) : ∃ (i : Nat) (f : Bs × Bs), fs[i]? = some f ∧ dv[i]? = some x ∧ rv (rowOf x) = x ∧ (rowOf x).2.1 = f.2.length := by
  obtain ⟨i, hi⟩ := List.mem_iff_getElem?.1 hx
  have hl := (List.getElem?_eq_some_iff.1 hi).1
  obtain ⟨f, hf⟩ : ∃ f, fs[i]? = some f := ⟨_, List.getElem?_eq_getElem (by have := h.len; omega)⟩
  obtain ⟨h1, h2⟩ := own_row (h.data i f x hf hi)
  exact ⟨i, f, hf, hi, h1, h2⟩
theorem span_files {w : World} {b : Nat} {v : Value} {dv : List Value} {fs : List (Bs × Bs)} (h : FilesAt w b v dv fs) : Span b w.heap.size (dv.map rowOf) := by
  intro r hr g hg
  obtain ⟨x, hx, rfl⟩ := List.mem_map.1 hr
  obtain ⟨i, f, hf, hi, h1, _⟩ := files_row h hx
  rw [h1] at hg
  exact h.lt hi hg
theorem off_files {w : World} {b : Nat} {v : Value} {dv : List Value} {fs : List (Bs × Bs)} (h : FilesAt w b v dv fs) : (dv.map rowOf).Pairwise Off := by
  rw [List.pairwise_iff_getElem]
  intro i j hi hj hij g hg hg'
  rw [List.length_map] at hi hj
  rw [List.getElem_map] at hg hg'
  obtain ⟨_, _, _, _, e1, _⟩ := files_row h (List.getElem_mem hi)
  obtain ⟨_, _, _, _, e2, _⟩ := files_row h (List.getElem_mem hj)
  rw [e1] at hg
  rw [e2] at hg'
  have := h.own i j dv[i] dv[j] g (List.getElem?_eq_getElem hi) (List.getElem?_eq_getElem hj) hg hg'
  omega

/-- The answers lie in memory of their own, from B on. -/
structure Says (w : World) (B : Nat) (x : Av4) (db : Bs) (ns : List Bs) (fs gs : List (Bs × Bs)) : Prop where
  data : w.ownsRow B tU8 1 (rv x.d) x.d.2.1 (cU8 db)
  names : w.ownsRow B 9 1 (rv x.l) x.l.2.1 (cStr ns)
  now : FilesAt w B (rv x.f) x.fv fs
  safe : FilesAt w B (rv x.g) x.gv gs
  lenF : x.f.2.1 = fs.length
  lenG : x.g.2.1 = gs.length
  off : x.rows.Pairwise Off
  offFG : Off x.f x.g
section
variable {w w' : World} {B : Nat} {x : Av4} {db : Bs} {ns : List Bs} {fs gs : List (Bs × Bs)}
theorem Says.same (h : Says w B x db ns fs gs) (hw : ∀ k, B ≤ k → k < w.heap.size → w'.heap[k]? = w.heap[k]?) : Says w' B x db ns fs gs := by
  have key : ∀ {e : TypeId} {s n : Nat} {v : Value} {xs : List Value}, w.ownsRow B e s v n xs → w'.ownsRow B e s v n xs := fun hv => own_same hv fun g hg => hw g (hv.lt g hg).1 (hv.lt g hg).2
  exact ⟨key h.data, key h.names, ⟨key h.now.row, h.now.len, fun j f y hf hy => key (h.now.data j f y hf hy), h.now.own⟩, ⟨key h.safe.row, h.safe.len, fun j f y hf hy => key (h.safe.data j f y hf hy), h.safe.own⟩, h.lenF, h.lenG, h.off, h.offFG⟩
theorem Says.below (h : Says w B x db ns fs gs) (hb : Below w.heap.size w w') : Says w' B x db ns fs gs := h.same fun k _ hk => hb.block k hk
theorem Says.lower {B' : Nat} (h : Says w B x db ns fs gs) (hb : B' ≤ B) : Says w B' x db ns fs gs :=
  ⟨own_base h.data hb, own_base h.names hb, h.now.lower hb, h.safe.lower hb, h.lenF, h.lenG, h.off, h.offFG⟩
theorem Says.span (h : Says w B x db ns fs gs) : Span B w.heap.size x.rows := by
  intro r hr
  rcases List.mem_cons.1 hr with rfl | hr
  · exact span_own h.data _ (List.mem_singleton.2 rfl)
  · exact (span_files h.now).append (span_files h.safe) r hr
end
/-- The answers read so. -/
structure Shows (w : World) (x : Av4) (db : Bs) (ns : List Bs) (fs gs : List (Bs × Bs)) : Prop where
  data : Rd w w.heap.size 1 x.d.1 x.d.2.1 (cU8 db)
  names : Rd w w.heap.size 1 x.l.1 x.l.2.1 (cStr ns)
  now : FilesRd w x.f.1 x.f.2.1 fs
  safe : FilesRd w x.g.1 x.g.2.1 gs
theorem Says.shows {w : World} {B : Nat} {x : Av4} {db : Bs} {ns : List Bs} {fs gs : List (Bs × Bs)} (h : Says w B x db ns fs gs) : Shows w x db ns fs gs :=
  ⟨Rd.of_own (c := x.d.2.2) h.data, Rd.of_own (c := x.l.2.2) h.names, FilesAt.rd (c := x.f.2.2) h.now h.lenF.symm, FilesAt.rd (c := x.g.2.2) h.safe h.lenG.symm⟩
theorem Shows.below {w w' : World} {x : Av4} {db : Bs} {ns : List Bs} {fs gs : List (Bs × Bs)} (h : Shows w x db ns fs gs) (hb : Below w.heap.size w w') : Shows w' x db ns fs gs :=
  ⟨h.data.next hb, h.names.next hb, h.now.below hb, h.safe.below hb⟩

def dataOf (D : Dr.D) (n : Bs) : Bs := match D.look n with
  | .ok i => (D.at i).data
  | .error _ => []
theorem read_form {w : World} {S : Nat → Prop} {d m N : Nat} {D : Dr.D} (h : Dv w S d D m N) (hm : m ≤ 140737488355328) (n : Bs) {b : Bs} (hb : dataOf D n = b) {k : Nat} (hk : b.length = k) : Calls Try.prog 77 #[.pointer (some ⟨d, 0, none⟩), encStr n] w fun x w' =>
    ∃ A c e, x = .returned (.tuple #[.slice A k c, .int .i64 e]) ∧ w'.ownsRow w.heap.size tU8 1 (.slice A k c) k (cU8 b) ∧ Below w.heap.size w w' := by
  subst hk hb
  refine (read_any h hm n).mono ?_
  rintro x w' ⟨hb, (⟨e, hl, rfl⟩ | ⟨i, v, hl, rfl, hr⟩)⟩
  · have hd : dataOf D n = [] := by unfold dataOf; rw [hl]
    rw [hd]
    exact ⟨none, 0, e, rfl, World.ownsRow_nil _ _ _ _, hb⟩
  · have hd : dataOf D n = (D.at i).data := by unfold dataOf; rw [hl]
    rw [hd]
    obtain ⟨A, c, rfl, _, _⟩ := own_form hr
    exact ⟨A, c, 0, rfl, hr, hb⟩
theorem list_form {w : World} {S : Nat → Prop} {d m N : Nat} {D : Dr.D} (h : Dv w S d D m N) (hN : N * 16 ≤ 140737488355328) {l : List Bs} (hl : D.now.map (·.1) = l) {k : Nat} (hk : l.length = k) : Calls Try.prog 78 #[.pointer (some ⟨d, 0, none⟩)] w fun x w' =>
    ∃ A c, x = .returned (.tuple #[.slice A k c, .int .i64 0]) ∧ w'.ownsRow w.heap.size 9 1 (.slice A k c) k (cStr l) ∧ Below w.heap.size w w' := by
  subst hk hl
  rw [List.length_map]
  refine (list_any h hN).mono ?_
  rintro x w' ⟨v, rfl, hr, hb⟩
  obtain ⟨A, c, rfl, _, _⟩ := own_form hr
  exact ⟨A, c, rfl, hr, hb⟩
set_option maxRecDepth 100000 in
set_option maxHeartbeats 4000000 in
theorem sameNames_any {w : World} {A A' : Option Addr} {n c c' : Nat} {l : List Bs} (h : Rd w w.heap.size 1 A n (cStr l)) (h' : Rd w w.heap.size 1 A' n (cStr l)) (hn : n ≤ 17592186044416) :
    Calls Try.prog 96 #[.slice A n c, .slice A' n c'] w fun x w' => x = .returned (.bool true) ∧ Below w.heap.size w w' := by
  have H := Lib.hid h
  have H' := Lib.hid h'
  clear h h'
  go_enter Try.func96, Try.ntmps96
  go_upto_region 4 with (fail)
  go_loopw [5] (fun iv wr => ∃ i : Nat, iv = .int .i64 (i : Int) ∧ i ≤ n ∧ Below w.heap.size w wr) (fun iv _ => n - (intOf iv).toNat)
  case atStart => exact ⟨0, rfl, by omega, Below.refl _ _⟩
  case round =>
    obtain ⟨i, rfl, hi, hb⟩ := hrel
    by_cases hlt : i < n
    · obtain ⟨ad, u, rfl, _, hu, hc⟩ := (H.out.below hb).at_ hlt
      obtain ⟨ad', u', rfl, _, hu', hc'⟩ := (H'.out.below hb).at_ hlt
      rw [hu] at hu'
      injection hu' with hu'
      subst hu'
      obtain ⟨s, hs, rfl⟩ : ∃ s, l[i]? = some s ∧ encStr s = u := by
        unfold cStr at hu
        rw [List.getElem?_map] at hu
        cases hs : l[i]? with
        | none => rw [hs] at hu; cases hu
        | some s => rw [hs] at hu; injection hu with hu; exact ⟨s, rfl, hu⟩
      obtain ⟨X, hX⟩ : ∃ X : ByteArray, encStr s = .string X := ⟨_, rfl⟩
      rw [hX] at hc hc'
      have d1 : wr.drew.cell? (ad.add i) = _ := hc
      have d2 : wr.drew.cell? (ad'.add i) = _ := hc'
      have hlt2 : (i : Int) < (n : Int) := by omega
      have HB := Lib.hid hb
      clear hu hs hb hX
      go_upto_region 6 with (fail)
      go_region
      all_goals (
        go_wp2
        go_roundw
        case rel => exact ⟨i + 1, by go_num, by omega, by first | exact HB.out | exact HB.out.drew⟩
        case measure => simp [intOf]; omega)
    · obtain rfl : n = i := by omega
      go_wp2
      go_ret
      exact ⟨rfl, hb⟩
end Go.Proofs.Ytelgcmcnebncmaa.Ap
namespace Go.Proofs.Ytelgcmcnebncmaa.Ap
set_option linter.unusedVariables false
open Go.RowKit Go.Proofs Go.Deep Go.Proofs.Ytelgcmcnebncmaa.Dr Go.Proofs.Ytelgcmcnebncmaa.Ring

theorem Says.poke {w : World} {B : Nat} {x : Av4} {db : Bs} {ns : List Bs} {fs gs : List (Bs × Bs)} (h : Says w B x db ns fs gs) {p : Addr} (hp : p.block < B) (v : Value) : Says (w.setCell p v) B x db ns fs gs :=
  h.same fun k hk _ => Below.heap_setCell w p v k (by omega)
set_option maxRecDepth 100000 in
set_option maxHeartbeats 4000000 in
theorem told_any {w : World} {S : Nat → Prop} {d m N : Nat} {D : Dr.D} (h : Dv w S d D m N) (hm : m ≤ 140737488355328) (hN : N * 40 ≤ 140737488355328) (n : Bs) : Calls Try.prog 41 #[.pointer (some ⟨d, 0, none⟩), encStr n] w fun x w' =>
    ∃ y : Av4, x = .returned y.val ∧ Says w' w.heap.size y (dataOf D n) (D.now.map (·.1)) D.image D.safe ∧ Below w.heap.size w w' := by
  obtain ⟨V, hV⟩ : ∃ V, w.heap.size = V := ⟨_, rfl⟩
  obtain ⟨db, hdb⟩ : ∃ b, dataOf D n = b := ⟨_, rfl⟩
  obtain ⟨kd, hkd⟩ : ∃ k, db.length = k := ⟨_, rfl⟩
  obtain ⟨ns, hns⟩ : ∃ b, D.now.map (·.1) = b := ⟨_, rfl⟩
  obtain ⟨kn, hkn⟩ : ∃ k, ns.length = k := ⟨_, rfl⟩
  obtain ⟨fs, hfs⟩ : ∃ b, D.image = b := ⟨_, rfl⟩
  obtain ⟨kf, hkf⟩ : ∃ k, fs.length = k := ⟨_, rfl⟩
  obtain ⟨gs, hgs⟩ : ∃ b, D.safe = b := ⟨_, rfl⟩
  obtain ⟨kg, hkg⟩ : ∃ k, gs.length = k := ⟨_, rfl⟩
  rw [hV, hdb, hns, hfs, hgs]
  have HDB := Lib.hid hdb
  have HKD := Lib.hid hkd
  have HNS := Lib.hid hns
  have HKN := Lib.hid hkn
  have HFS := Lib.hid hfs
  have HKF := Lib.hid hkf
  have HGS := Lib.hid hgs
  have HKG := Lib.hid hkg
  have H := Lib.hid h
  have HV := Lib.hid hV
  clear h hdb hkd hns hkn hfs hkf hgs hkg hV
  go_enter Try.func41, Try.ntmps41
  go_upto_region 1 with (fail)
  obtain ⟨w0, hw0⟩ : ∃ w0, w.alloc (.cells #[.slice none 0 0, .slice none 0 0, .slice none 0 0, .slice none 0 0] tAns) = w0 := ⟨_, rfl⟩
  have hA0 : w0.heap[V]? = some (.cells #[.slice none 0 0, .slice none 0 0, .slice none 0 0, .slice none 0 0] tAns (0, 0)) := by
    rw [← hw0, ← HV.out]
    exact heap_alloc_new _ _
  have hb0 : Below w.heap.size w w0 := by
    rw [← hw0]
    exact (Below.refl _ _).alloc (Nat.le_refl _) _
  have hs0 : w0.heap.size = V + 1 := by rw [← hw0, ← HV.out]; simp
  rw [hw0, HV.out]
  clear hw0
  have HA0 := Lib.hid hA0
  have HB0 := Lib.hid hb0
  have HS0 := Lib.hid hs0
  have hd0 := H.out.below hb0
  have HD0 := Lib.hid hd0
  clear hA0 hb0 hs0 hd0 H
  go_upto_region 2 with (go_at_call 77; refine (read_form HD0.out hm n HDB.out HKD.out).mono ?_; rintro x w1 ⟨A1, c1, e1, rfl, hr, hb⟩; have HR1 := Lib.hid hr; have HB1 := Lib.hid hb; clear hr hb)
  go_upto_region 3 with (go_at_call 78; refine (list_form (HD0.out.below HB1.out) (by omega) HNS.out HKN.out).mono ?_; rintro x w2 ⟨A2, c2, rfl, hr, hb⟩; have HR2 := Lib.hid hr; have HB2 := Lib.hid hb; clear hr hb)
  go_wp2_with (first
    | (go_at_call 20; refine (image_form ⟨_, (HD0.out.below HB1.out).below HB2.out⟩ hm hN HFS.out HKF.out).mono ?_; rintro x w3 ⟨A3, c3, dv3, rfl, hf, hb⟩; have HF3 := Lib.hid hf; have HB3 := Lib.hid hb; clear hf hb)
    | (go_at_call 21; refine (safe_form ⟨_, ((HD0.out.below HB1.out).below HB2.out).below HB3.out⟩ hm hN HGS.out HKG.out).mono ?_; rintro x w4 ⟨A4, c4, dv4, rfl, hf, hb⟩; have HF4 := Lib.hid hf; have HB4 := Lib.hid hb; clear hf hb; have hb04 := ((HB1.out.trans (HB2.out.mono HB1.out.size)).trans ((HB3.out.trans (HB4.out.mono HB3.out.size)).mono (by have := HB1.out.size; have := HB2.out.size; omega))); have hA4 := (hb04.block V (by have := HS0.out; omega)).trans HA0.out; have HB04 := Lib.hid hb04; have HA4 := Lib.hid hA4; have p0 : w4.cell? ⟨V, 0, none⟩ = some (.slice none 0 0) := (by rw [cell_of_row w4 V _ _ _ _ hA4]; rfl); have p1 : w4.cell? ⟨V, 1, none⟩ = some (.slice none 0 0) := (by rw [cell_of_row w4 V _ _ _ _ hA4]; rfl); have p2 : w4.cell? ⟨V, 2, none⟩ = some (.slice none 0 0) := (by rw [cell_of_row w4 V _ _ _ _ hA4]; rfl); have p3 : w4.cell? ⟨V, 3, none⟩ = some (.slice none 0 0) := (by rw [cell_of_row w4 V _ _ _ _ hA4]; rfl); have y0 := unfrozen hA4 0; have y1 := unfrozen hA4 1; have y2 := unfrozen hA4 2; have y3 := unfrozen hA4 3; clear hb04 hA4))
  try simp only [Exit.inBlock, Exit.then]
  have hR9 := heap_same (heap_same (heap_same (heap_same (HA4.out) (i := 0) (.slice A1 kd c1)) (i := 1) (.slice A2 kn c2)) (i := 2) (.slice A3 kf c3)) (i := 3) (.slice A4 kg c4)
  refine bodyPost_ret (results_cell_row Try.results41 _ _ V tAns _ _ _ rfl hR9 Try.underlying81 rfl (by kernel_rfl)) rfl ?_
  have hsz := HS0.out
  have z1 := HB1.out.size
  have z2 := HB2.out.size
  have z3 := HB3.out.size
  have z4 := HB4.out.size
  have hr1 := own_below (own_below (own_below HR1.out HB2.out) HB3.out) HB4.out
  have hr2 := own_below (own_below HR2.out HB3.out) HB4.out
  have hf3 := HF3.out.below HB4.out
  have hf4 := HF4.out
  have hs4 : Says w4 (V + 1) ⟨(A1, kd, c1), (A2, kn, c2), (A3, kf, c3), (A4, kg, c4), dv3, dv4⟩ db ns fs gs := by
    refine ⟨own_base hr1 (by omega), own_base hr2 (by omega), hf3.lower (by omega), hf4.lower (by omega), HKF.out.symm, HKG.out.symm, ?_, ?_⟩
    · have s0 : Span w0.heap.size w1.heap.size [(A1, kd, c1)] := span_own HR1.out
      have s3 := span_files HF3.out
      have s4 := span_files HF4.out
      have p34 := off_append (off_files HF3.out) (off_files HF4.out) s3 s4 (Nat.le_refl _)
      exact off_append (l1 := [(A1, kd, c1)]) (by simp) p34 s0 ((s3.mono z2 z4).append (s4.mono (by omega) (Nat.le_refl _))) (Nat.le_refl _)
    · intro g hg hg'
      have := (HF3.out.row.lt g hg).2
      have := (HF4.out.row.lt g hg').1
      omega
  refine ⟨⟨(A1, kd, c1), (A2, kn, c2), (A3, kf, c3), (A4, kg, c4), dv3, dv4⟩, rfl, ((((hs4.poke (by simp) _).poke (by simp) _).poke (by simp) _).poke (by simp) _).lower (by omega), ?_⟩
  have hb5 : Below V w w4 := ((HV.out ▸ HB0.out).trans (HB04.out.mono (by omega)))
  exact (((hb5.setCell (Nat.le_refl _) _).setCell (Nat.le_refl _) _).setCell (Nat.le_refl _) _).setCell (Nat.le_refl _) _
set_option maxRecDepth 100000 in
set_option maxHeartbeats 1000000 in
theorem alike_any {w : World} {x y : Av4} {db : Bs} {ns : List Bs} {fs gs : List (Bs × Bs)} (h : Shows w x db ns fs gs) (h' : Shows w y db ns fs gs) (hn : ns.length ≤ 17592186044416) (hf : fs.length ≤ 17592186044416) (hg : gs.length ≤ 17592186044416) :
    Calls Try.prog 43 #[x.val, y.val] w fun e w' => e = .returned (.bool true) ∧ Below w.heap.size w w' := by
  obtain ⟨⟨Ad, kd, cd⟩, ⟨An, kn, cn⟩, ⟨Af, kf, cf⟩, ⟨Ag, kg, cg⟩, xf, xg⟩ := x
  obtain ⟨⟨Bd, ld, dd⟩, ⟨Bn, ln, dn⟩, ⟨Bf, lf, df⟩, ⟨Bg, lg, dg⟩, yf, yg⟩ := y
  have e1 : ld = kd := by have a := h.data.1; have b := h'.data.1; simp at a b; omega
  have e2 : ln = kn := by have a := h.names.1; have b := h'.names.1; simp at a b; omega
  have e3 : lf = kf := by have a := h.now.1; have b := h'.now.1; simp only at a b; omega
  have e4 : lg = kg := by have a := h.safe.1; have b := h'.safe.1; simp only at a b; omega
  subst e1 e2 e3 e4
  have hn2 : ln ≤ 17592186044416 := by have a := h.names.1; simp at a; omega
  have hf2 : lf ≤ 17592186044416 := by have a := h.now.1; simp only at a; omega
  have hg2 : lg ≤ 17592186044416 := by have a := h.safe.1; simp only at a; omega
  obtain ⟨V, hV⟩ : ∃ V, w.heap.size = V := ⟨_, rfl⟩
  obtain ⟨w1, hw1⟩ : ∃ w1, (w.alloc (.cells #[.slice Ad ld cd, .slice An ln cn, .slice Af lf cf, .slice Ag lg cg] tAns)).alloc (.cells #[.slice Bd ld dd, .slice Bn ln dn, .slice Bf lf df, .slice Bg lg dg] tAns) = w1 := ⟨_, rfl⟩
  have hb1 : Below w.heap.size w w1 := by rw [← hw1]; exact ((Below.refl _ _).alloc (Nat.le_refl _) _).alloc (by simp) _
  have hA : w1.heap[V]? = some (.cells #[.slice Ad ld cd, .slice An ln cn, .slice Af lf cf, .slice Ag lg cg] tAns (0, 0)) := by
    rw [← hw1, ← hV]
    exact (heap_alloc_old _ _ (by simp)).trans (heap_alloc_new _ _)
  have hB : w1.heap[V + 1]? = some (.cells #[.slice Bd ld dd, .slice Bn ln dn, .slice Bf lf df, .slice Bg lg dg] tAns (0, 0)) := by
    have := heap_alloc_new (w.alloc (.cells #[.slice Ad ld cd, .slice An ln cn, .slice Af lf cf, .slice Ag lg cg] tAns)) (.cells #[.slice Bd ld dd, .slice Bn ln dn, .slice Bf lf df, .slice Bg lg dg] tAns)
    rw [← hw1, ← hV]
    simpa using this
  have hsV : V + 2 ≤ w1.heap.size := by rw [← hw1, ← hV]; simp
  have hc : ∀ W, Below w1.heap.size w1 W → W.heap[V]? = some (.cells #[.slice Ad ld cd, .slice An ln cn, .slice Af lf cf, .slice Ag lg cg] tAns (0, 0)) ∧ W.heap[V + 1]? = some (.cells #[.slice Bd ld dd, .slice Bn ln dn, .slice Bf lf df, .slice Bg lg dg] tAns (0, 0)) := fun W hb => ⟨(hb.block V (by omega)).trans hA, (hb.block (V + 1) (by omega)).trans hB⟩
  have h1 := h.below hb1
  have h1' := h'.below hb1
  have t1 := run_text (P := Try.prog) w1 35 9 5 Try.underlying35 Try.underlying5 Try.underlying9 cd h1.data
  have t2 := run_text (P := Try.prog) w1 35 9 5 Try.underlying35 Try.underlying5 Try.underlying9 dd h1'.data
  obtain ⟨X, hX⟩ : ∃ X : ByteArray, (⟨db.toArray⟩ : ByteArray) = X := ⟨_, rfl⟩
  dsimp only at t1 t2
  rw [hX] at t1 t2
  have H1 := Lib.hid h1
  have H2 := Lib.hid h1'
  have HC := Lib.hid hc
  have HB1 := Lib.hid hb1
  have HSV := Lib.hid hsV
  have a0 : w1.cell? ⟨V, 0, none⟩ = some (.slice Ad ld cd) := by rw [cell_of_row w1 V _ _ _ _ hA]; rfl
  have a1 : w1.cell? ⟨V, 1, none⟩ = some (.slice An ln cn) := by rw [cell_of_row w1 V _ _ _ _ hA]; rfl
  have b0 : w1.cell? ⟨V + 1, 0, none⟩ = some (.slice Bd ld dd) := by rw [cell_of_row w1 (V + 1) _ _ _ _ hB]; rfl
  have b1 : w1.cell? ⟨V + 1, 1, none⟩ = some (.slice Bn ln dn) := by rw [cell_of_row w1 (V + 1) _ _ _ _ hB]; rfl
  clear h h' h1 h1' hc hb1 hsV hA hB hX
  show Calls Try.prog 43 #[.agg #[.slice Ad ld cd, .slice An ln cn, .slice Af lf cf, .slice Ag lg cg], .agg #[.slice Bd ld dd, .slice Bn ln dn, .slice Bf lf df, .slice Bg lg dg]] w _
  go_enter Try.func43, Try.ntmps43
  go_upto_region 1 with (fail)
  try simp only [hV, hw1]
  clear hw1 hV
  go_wp2_with (first
    | (go_at_call 96; refine (sameNames_any H1.out.names H2.out.names hn2).mono ?_; rintro e w2 ⟨rfl, hb⟩; have hh := HC.out w2 hb; have a2 : w2.cell? ⟨V, 2, none⟩ = some (.slice Af lf cf) := (by rw [cell_of_row w2 V _ _ _ _ hh.1]; rfl); have b2 : w2.cell? ⟨V + 1, 2, none⟩ = some (.slice Bf lf df) := (by rw [cell_of_row w2 (V + 1) _ _ _ _ hh.2]; rfl); have HB2 := Lib.hid hb; clear hb hh)
    | (go_at_call 19; refine (sameFiles_any (H1.out.below HB2.out).now (H2.out.below HB2.out).now hf2).mono ?_; rintro e w3 ⟨rfl, hb⟩; have hbb := HB2.out.trans (hb.mono HB2.out.size); have hh := HC.out w3 hbb; have a3 : w3.cell? ⟨V, 3, none⟩ = some (.slice Ag lg cg) := (by rw [cell_of_row w3 V _ _ _ _ hh.1]; rfl); have b3 : w3.cell? ⟨V + 1, 3, none⟩ = some (.slice Bg lg dg) := (by rw [cell_of_row w3 (V + 1) _ _ _ _ hh.2]; rfl); have HB3 := Lib.hid hbb; clear hb hh hbb HB2)
    | (go_at_call 19; refine (sameFiles_any (H1.out.below HB3.out).safe (H2.out.below HB3.out).safe hg2).mono ?_; rintro e w4 ⟨rfl, hb⟩; have HB4 := Lib.hid hb; clear hb))
  go_ret
  exact ⟨rfl, bch HB1.out (HB3.out.trans (HB4.out.mono HB3.out.size))⟩
end Go.Proofs.Ytelgcmcnebncmaa.Ap
