/- A map from names to pointers that reads as a rising list. Over any program. -/
import Derived.Test.YtelgcmcnebncmaaRing
import Derived.Test.YtelgcmcnebncmaaDir
import Derived.Shelf.SlMaps.Clone
import Derived.Sort.KeysCollected
import Derived.Maps.OwnSet
namespace Go.Proofs.Ytelgcmcnebncmaa.Dr
open Go.RowKit Go.Proofs Go.Proofs.Ytelgcmcnebncmaa.Ring

/-- How a list of names that lead to blocks reads. -/
def dirD (l : Dir) : DataW Unit := .map (l.map fun p => (Lit.string p.1, dtPtr (some p.2)))
theorem dirD_ins (x : Bs × Nat) (l : Dir) : DataW.insert (Lit.string x.1, dtPtr (some x.2)) (l.map fun p => (Lit.string p.1, dtPtr (some p.2))) = (ins x l).map fun p => (Lit.string p.1, dtPtr (some p.2)) := by
  induction l with
  | nil => rfl
  | cons y r ih =>
    by_cases hb : bytesBefore x.1 y.1 = true
    · rw [show ins x (y :: r) = x :: y :: r from if_pos hb]
      exact if_pos (show (Lit.string x.1).before (Lit.string y.1) = true from hb)
    · rw [show ins x (y :: r) = y :: ins x r from if_neg hb, List.map_cons, List.map_cons, ← ih]
      exact if_neg (show ¬ (Lit.string x.1).before (Lit.string y.1) = true from hb)
theorem dirD_strike (l : Dir) (k : Bs) : (l.map fun p => (Lit.string p.1, dtPtr (some p.2))).filter (fun p => !p.1.sameKey (.string k)) = (del l k).map fun p => (Lit.string p.1, dtPtr (some p.2)) := by
  unfold del
  rw [List.filter_map]
  congr 1
  refine List.filter_congr fun p _ => ?_
  simp only [Function.comp_apply, Lit.sameKey]
  by_cases h : p.1 = k
  · simp [h]
  · simp [h]
theorem dirD_put (l : Dir) (k : Bs) (b : Nat) : (dirD l).put (.string k) (dtPtr (some b)) = dirD (put l k (some b)) := by
  show DataW.map _ = DataW.map _
  rw [dirD_strike, dirD_ins (k, b)]
  rfl
theorem dirD_del (l : Dir) (k : Bs) : (dirD l).del (.string k) = dirD (del l k) := by
  show DataW.map _ = DataW.map _
  rw [dirD_strike]
theorem dirD_at (l : Dir) (k : Bs) : (dirD l).atKey (.string k) (dtPtr none) = dtPtr (find l k) := by
  unfold dirD find DataW.atKey
  simp only
  rw [List.find?_map]
  have : ((fun p : Lit × DataW Unit => p.1.sameKey (.string k)) ∘ fun p : Bs × Nat => (Lit.string p.1, dtPtr (some p.2))) = fun p => decide (p.1 = k) := by
    funext p
    simp only [Function.comp_apply, Lit.sameKey]
    by_cases h : p.1 = k <;> simp [h]
  rw [this]
  cases l.find? fun p => decide (p.1 = k) <;> rfl

section
variable {P : Program} {kt : TypeId} {w w' : World} {mv : Value} {l : Dir}
/-- The map reads as l. -/
def DirAt (P : Program) (kt : TypeId) (w : World) (mv : Value) (l : Dir) : Prop :=
  (mv = .map none ∧ l = []) ∨ ∃ b, mv = .map (some b) ∧ w.ownsMap P kt ptrs.R b l.length (dirD l)
theorem DirAt.form (h : DirAt P kt w mv l) : mv = .map (mapBlock mv) := by
  rcases h with ⟨rfl, _⟩ | ⟨b, rfl, _⟩ <;> rfl
theorem DirAt.isMap (h : DirAt P kt w mv l) {b : Nat} (hb : mapBlock mv = some b) : ∃ es clock, w.heap[b]? = some (.map es clock) := by
  rcases h with ⟨rfl, _⟩ | ⟨b', rfl, ho⟩
  · cases hb
  · obtain rfl : b' = b := by simpa [mapBlock] using hb
    obtain ⟨es, clock, h1, _⟩ := ho
    exact ⟨es, clock, h1⟩
theorem DirAt.lt (h : DirAt P kt w mv l) {b : Nat} (hb : mapBlock mv = some b) : b < w.heap.size := by
  obtain ⟨_, _, h1⟩ := h.isMap hb
  exact (Array.getElem?_eq_some_iff.1 h1).1
theorem DirAt.apart (h : DirAt P kt w mv l) {b : Nat} (hb : mapBlock mv = some b) {g : Nat} {cs : Array Value} {t : TypeId} {fr : Nat × Nat} (hg : w.heap[g]? = some (.cells cs t fr)) : b ≠ g := by
  intro e
  subst e
  obtain ⟨es, clock, h1⟩ := h.isMap hb
  rw [h1] at hg
  cases hg
theorem DirAt.same (h : DirAt P kt w mv l) (hw : ∀ b, mapBlock mv = some b → w'.heap[b]? = w.heap[b]?) : DirAt P kt w' mv l := by
  rcases h with h | ⟨b, rfl, ho⟩
  · exact .inl h
  · refine .inr ⟨b, rfl, ?_⟩
    obtain ⟨es, clock, hb, r⟩ := ho
    exact ⟨es, clock, (hw b rfl).trans hb, r⟩
theorem DirAt.made (P : Program) (w : World) (kt : TypeId) : DirAt P kt (w.alloc (.map #[] 0)) (.map (some w.heap.size)) [] :=
  .inr ⟨w.heap.size, rfl, World.ownsMap_made w P kt ptrs.R⟩
/-- The bound may be the list's own length. -/
theorem owns_exact {b n : Nat} {D : DataW Unit} (h : w.ownsMap P kt ptrs.R b n D) : w.ownsMap P kt ptrs.R b (Maps.size D) D := by
  obtain ⟨es, clock, h1, h2, h3, h4⟩ := h
  refine ⟨es, clock, h1, h2, ?_, h4⟩
  rw [h4, Maps.size_eq, length_read]
  exact Nat.le_refl _
theorem DirAt.of_owns {b n : Nat} (h : w.ownsMap P kt ptrs.R b n (dirD l)) : DirAt P kt w (.map (some b)) l := by
  refine .inr ⟨b, rfl, ?_⟩
  have := owns_exact h
  rw [show Maps.size (dirD l) = l.length by rw [dirD, Maps.size_eq, List.length_map]] at this
  exact this
theorem DirAt.look (h : DirAt P kt w mv l) (K : Maps.Keyed P kt) {t e : TypeId} (ht : P.underlying t = some (.map kt e)) (hz : (zeroValue e).run P w = .ok (.pointer none) w) {key : Value} {k : Bs} (hk : keyOf P kt key = some (.string k)) :
    (Instr.lookup t mv key false).run P w = .ok (ptr (find l k)) w := by
  rcases h with ⟨rfl, rfl⟩ | ⟨b, rfl, ho⟩
  · rw [Maps.look_nil false K ht hz hk]; rfl
  · obtain ⟨v, ps, hrun, hv⟩ := ho.lookup K ht hz (ptrs.read none) hk
    rw [show ptrs.dt none = dtPtr none from rfl, dirD_at l k] at hv
    rw [hrun, ptrs.inv _ _ _ hv]
    rfl
theorem DirAt.len (h : DirAt P kt w mv l) {t e : TypeId} (ht : P.underlying t = some (.map kt e)) (ty : TypeId) : (Builtin.len_ #[t] ty #[mv]).run P w = .ok (.int .i64 (l.length : Int)) w := by
  rcases h with ⟨rfl, rfl⟩ | ⟨b, rfl, ho⟩
  · exact Maps.len_nil ht ty
  · rw [ho.len ht ty, show Maps.size (dirD l) = l.length by rw [dirD, Maps.size_eq, List.length_map]]
theorem DirAt.drop (h : DirAt P kt w mv l) (K : Maps.Keyed P kt) {t e : TypeId} (ht : P.underlying t = some (.map kt e)) {key : Value} {k : Bs} (hk : keyOf P kt key = some (.string k)) (ty : TypeId) :
    ∃ w', (Builtin.delete_ #[t, kt] ty #[mv, key]).run P w = .ok (.tuple #[]) w' ∧ DirAt P kt w' mv (put l k none) ∧ w.grownBy w' (mapBlock mv) ∧ w'.heap.size = w.heap.size := by
  rcases h with ⟨rfl, rfl⟩ | ⟨b, rfl, ho⟩
  · exact ⟨w, Maps.drop_nil K ht hk ty, .inl ⟨rfl, rfl⟩, ⟨rfl, rfl, rfl, Nat.le_refl _, fun _ _ _ => rfl⟩, rfl⟩
  · obtain ⟨w', hrun, ho', hturn⟩ := ho.drop K ht hk ty
    refine ⟨w', hrun, ?_, hturn.grown, ?_⟩
    · rw [dirD_del] at ho'
      exact DirAt.of_owns ho'
    · obtain ⟨_, _, es', clock', _, rfl⟩ := hturn; simp [Go.ChangeMaps.setBlock]
theorem DirAt.put {b : Nat} (h : DirAt P kt w (.map (some b)) l) (K : Maps.Keyed P kt) {t e : TypeId} (ht : P.underlying t = some (.map kt e)) (hn : l.length < maxLen) {key : Value} {k : Bs} (hk : keyOf P kt key = some (.string k)) (g : Nat) :
    ∃ w', (Instr.mapUpdate t (.map (some b)) key (.pointer (some ⟨g, 0, none⟩))).run P w = .ok () w' ∧ DirAt P kt w' (.map (some b)) (put l k (some g)) ∧ w.grownBy w' (some b) ∧ w'.heap.size = w.heap.size := by
  rcases h with ⟨h0, _⟩ | ⟨b', h0, ho⟩
  · cases h0
  · obtain rfl : b = b' := by simpa using h0
    obtain ⟨w', hrun, ho', hturn⟩ := ho.store K ht hn hk (ptrs.read (some g))
    refine ⟨w', hrun, ?_, hturn.grown, ?_⟩
    · rw [show ptrs.dt (some g) = dtPtr (some g) from rfl, dirD_put] at ho'
      exact DirAt.of_owns ho'
    · obtain ⟨_, _, es', clock', _, rfl⟩ := hturn; simp [Go.ChangeMaps.setBlock]
theorem DirAt.names (l : Dir) : strKeys (dirD l) = l.map (·.1) := by
  unfold dirD strKeys
  simp [strOf, Function.comp_def]

/-! At the operation, for the walk. -/
variable {ops : Array Oper} {rest : List Oper} {o : Oper} {a : Act} {Q : Exit → Act → World → Prop}
theorem wp_len (h : DirAt P kt w mv l) (hg : o.guard = none) (m : Operand) (t : TypeId) (hop : o.op = Op.call { callee := Callee.builtin Builtin.len, args := #[m], argTypes := #[t] }) {e : TypeId} (ht : P.underlying t = some (.map kt e))
    (hm : a.eval m = mv) (hK : wpList P ops Q rest (a.put o.dst (.int .i64 (l.length : Int))) w) : wpList P ops Q (o :: rest) a w := by
  refine wpList_plain hg fun K' hK' => ?_
  have hrun := h.len ht o.type
  unfold Oper.wp
  simp [execOp, hop, resolve, invoke, builtin, hm, hrun, Result.andThen]
  exact hK' _ _ hK
theorem wp_drop (h : DirAt P kt w mv l) (K : Maps.Keyed P kt) (hg : o.guard = none) (m x : Operand) (t : TypeId) (hop : o.op = Op.call { callee := Callee.builtin Builtin.delete, args := #[m, x], argTypes := #[t, kt] }) {e : TypeId} (ht : P.underlying t = some (.map kt e))
    (hm : a.eval m = mv) {key : Value} {k : Bs} (hx : a.eval x = key) (hk : keyOf P kt key = some (.string k))
    (hK : ∀ w', DirAt P kt w' mv (Dr.put l k none) → w.grownBy w' (mapBlock mv) → w'.heap.size = w.heap.size → wpList P ops Q rest (a.put o.dst (.tuple #[])) w') : wpList P ops Q (o :: rest) a w := by
  refine wpList_plain hg fun K' hK' => ?_
  obtain ⟨w', hrun, r1, r2, r3⟩ := h.drop K ht hk o.type
  unfold Oper.wp
  simp [execOp, hop, resolve, invoke, builtin, hm, hx, hrun, Result.andThen]
  exact hK' _ _ (hK w' r1 r2 r3)
theorem wp_put {b : Nat} (h : DirAt P kt w (.map (some b)) l) (K : Maps.Keyed P kt) (hg : o.guard = none) (m x v : Operand) (t : TypeId) (hop : o.op = Op.mapUpdate t m x v) {e : TypeId} (ht : P.underlying t = some (.map kt e)) (hn : l.length < maxLen)
    (hm : a.eval m = .map (some b)) {key : Value} {k : Bs} (hx : a.eval x = key) (hk : keyOf P kt key = some (.string k)) (g : Nat) (hv : a.eval v = .pointer (some ⟨g, 0, none⟩))
    (hK : ∀ w', DirAt P kt w' (.map (some b)) (Dr.put l k (some g)) → w.grownBy w' (some b) → w'.heap.size = w.heap.size → wpList P ops Q rest (a.put o.dst undef) w') : wpList P ops Q (o :: rest) a w := by
  refine wpList_plain hg fun K' hK' => ?_
  obtain ⟨w', hrun, r1, r2, r3⟩ := h.put K ht hn hk g
  unfold Oper.wp
  simp [execOp, hop, hm, hx, hv, hrun, Result.andThen]
  exact hK' _ _ (hK w' r1 r2 r3)
end
end Go.Proofs.Ytelgcmcnebncmaa.Dr
