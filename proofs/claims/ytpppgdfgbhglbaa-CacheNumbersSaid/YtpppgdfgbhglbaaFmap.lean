/- A map whose keys are floating-point numbers of 64 bits, with pointers to blocks as values. Over any program. -/
import Derived.Test.YtpppgdfgbhglbaaRing
import Derived.Test.YtpppgdfgbhglbaaFloat
import Derived.Deep.Heap
namespace Go.Proofs.Ytpppgdfgbhglbaa
open Go.RowKit Go.Proofs Go.Proofs.Ytpppgdfgbhglbaa.Ring
namespace Fl
section
variable {P : Program} {kt : TypeId}
theorem eq_run (ht : P.underlying kt = some (.float .f64)) (w : World) (a b : Nat) : (Op.equal kt (.float .f64 a) (.float .f64 b)).run P w = .ok (Ieee.double.order a b == some .eq) w := by
  unfold Op.equal Op.maxDepth
  unfold Op.equalIn
  simp [run_underlying ht, Sem.run_bind, Op.floatEq, FloatKind.format]

/-- The entries: keys as bits, values as blocks. -/
def Reads (es : List MapEntry) (L : List (Nat × Nat)) : Prop := es.map (fun e => (e.key, e.val)) = L.map fun x => (Value.float .f64 x.1, ptr (some x.2))
/-- Where the first entry of that key stands. -/
def findF (k : Nat) : List (Nat × Nat) → Nat → Option (Nat × Nat)
  | [], _ => none
  | x :: r, i => if (Ieee.double.order k x.1 == some .eq) = true then some (i, x.2) else findF k r (i + 1)
theorem asking_run (ht : P.underlying kt = some (.float .f64)) (w : World) (k : Nat) : ∀ (es : List MapEntry) (L : List (Nat × Nat)) (i : Nat), Reads es L → (Instr.findAsking kt (.float .f64 k) es i).run P w = .ok ((findF k L i).map fun x => (x.1, ptr (some x.2))) w
  | [], L, i, h => by
    have : L = [] := by unfold Reads at h; simpa using h.symm
    subst this
    simp [Instr.findAsking, findF]
  | e :: es, [], i, h => by unfold Reads at h; simp at h
  | e :: es, x :: L, i, h => by
    unfold Reads at h
    simp only [List.map_cons, List.cons.injEq, Prod.mk.injEq] at h
    obtain ⟨⟨h1, h2⟩, h3⟩ := h
    unfold Instr.findAsking findF
    rw [h1]
    simp only [Sem.run_bind, eq_run ht, Result.andThen_ok]
    cases hc : (Ieee.double.order k x.1 == some .eq) with
    | true => simp [h2]
    | false =>
      simp only [Bool.false_eq_true, if_false]
      exact asking_run ht w k es L (i + 1) h3
theorem find_run (ht : P.underlying kt = some (.float .f64)) (w : World) (k : Nat) {es : List MapEntry} {L : List (Nat × Nat)} (h : Reads es L) : (Instr.findKey kt (.float .f64 k) es).run P w = .ok ((findF k L 0).map fun x => (x.1, ptr (some x.2))) w := by
  unfold Instr.findKey
  simp only [Sem.run_bind, run_underlying ht, Result.andThen_ok]
  cases es with
  | nil =>
    have : L = [] := by unfold Reads at h; simpa using h.symm
    subst this
    simp [Instr.findNow, findF]
  | cons e r =>
    have hn : Instr.findNow (.float .f64) (.float .f64 k) (e :: r) 0 = none := by
      unfold Instr.findNow Instr.sameNow
      rfl
    rw [hn]
    exact asking_run ht w k _ L 0 h
theorem check_run (ht : P.underlying kt = some (.float .f64)) (w : World) (b : Bool) (n k : Nat) : (Instr.checkKey b (n + 1) kt (.float .f64 k)).run P w = .ok () w := by
  unfold Instr.checkKey
  simp [run_underlying ht, Sem.run_bind]

/-- What the entries say of a class. -/
def at_ (L : List (Nat × Nat)) (c : Nat) : Option Nat := (L.find? fun x => decide (fcls x.1 = c)).map (·.2)
def Good (L : List (Nat × Nat)) : Prop := (∀ x ∈ L, x.1 < 18446744073709551616 ∧ ¬ fnan x.1) ∧ (L.map fun x => fcls x.1).Nodup
theorem findF_nan {k : Nat} (hk : k < 18446744073709551616) (hn : fnan k) : ∀ (L : List (Nat × Nat)) (i : Nat), (∀ x ∈ L, x.1 < 18446744073709551616 ∧ ¬ fnan x.1) → findF k L i = none
  | [], _, _ => rfl
  | x :: r, i, h => by
    unfold findF
    rw [feq hk (h x (by simp)).1]
    simp only [hn, not_true_eq_false, false_and, decide_false, Bool.false_eq_true, if_false]
    exact findF_nan hk hn r (i + 1) fun y hy => h y (by simp [hy])
theorem findF_at {k : Nat} (hk : k < 18446744073709551616) (hn : ¬ fnan k) : ∀ (L : List (Nat × Nat)) (i : Nat), (∀ x ∈ L, x.1 < 18446744073709551616 ∧ ¬ fnan x.1) → (findF k L i).map (·.2) = at_ L (fcls k)
  | [], _, _ => rfl
  | x :: r, i, h => by
    unfold findF at_
    rw [feq hk (h x (by simp)).1, List.find?_cons]
    have hx := (h x (by simp)).2
    by_cases hc : fcls k = fcls x.1
    · simp [hn, hx, hc]
    · have hc2 : ¬ fcls x.1 = fcls k := fun e => hc e.symm
      simp only [hn, hx, hc, hc2, not_false_eq_true, true_and, decide_false, Bool.false_eq_true, if_false]
      exact findF_at hk hn r (i + 1) fun y hy => h y (by simp [hy])

theorem findF_spot {k : Nat} (hk : k < 18446744073709551616) (hn : ¬ fnan k) : ∀ (L : List (Nat × Nat)) (i : Nat), (∀ x ∈ L, x.1 < 18446744073709551616 ∧ ¬ fnan x.1) → ∀ j v, findF k L i = some (j, v) → ∃ m x, j = i + m ∧ L[m]? = some x ∧ fcls x.1 = fcls k
  | [], _, _, _, _, h => by simp [findF] at h
  | x :: r, i, hg, j, v, h => by
    unfold findF at h
    rw [feq hk (hg x (by simp)).1] at h
    split at h
    · rename_i hc
      simp only [decide_eq_true_eq] at hc
      injection h with h
      injection h with h1 h2
      exact ⟨0, x, by omega, rfl, hc.2.2.symm⟩
    · obtain ⟨m, y, h1, h2, h3⟩ := findF_spot hk hn r (i + 1) (fun y hy => hg y (by simp [hy])) j v h
      exact ⟨m + 1, y, by omega, by simpa using h2, h3⟩
theorem at_other {L : List (Nat × Nat)} {m : Nat} {x : Nat × Nat} (hg : (L.map fun x => fcls x.1).Nodup) (hm : L[m]? = some x) (c : Nat) : at_ (L.eraseIdx m) c = if c = fcls x.1 then none else at_ L c := by
  induction L generalizing m with
  | nil => simp at hm
  | cons a r ih =>
    rw [List.map_cons, List.nodup_cons] at hg
    cases m with
    | zero =>
      have ha : a = x := by simpa using hm
      subst ha
      rw [List.eraseIdx_cons_zero]
      unfold at_
      by_cases hc : c = fcls a.1
      · rw [if_pos hc]
        subst hc
        rw [List.find?_eq_none.2]
        · rfl
        · intro y hy he
          have he2 : fcls y.1 = fcls a.1 := by simpa using he
          exact hg.1 (he2 ▸ List.mem_map_of_mem (f := fun x : Nat × Nat => fcls x.1) hy)
      · rw [if_neg hc, List.find?_cons]
        have : decide (fcls a.1 = c) = false := decide_eq_false fun e => hc e.symm
        rw [this]
    | succ m =>
      have hr : r[m]? = some x := by simpa using hm
      rw [List.eraseIdx_cons_succ]
      have h1 := ih hg.2 hr
      unfold at_ at h1 ⊢
      rw [List.find?_cons, List.find?_cons]
      by_cases hc : fcls a.1 = c
      · rw [decide_eq_true hc]
        have hne : ¬ c = fcls x.1 := by
          intro e
          refine hg.1 ?_
          rw [hc, e]
          exact List.mem_map_of_mem (f := fun x : Nat × Nat => fcls x.1) (List.mem_of_getElem? hr)
        rw [if_neg hne]
      · rw [decide_eq_false hc]
        exact h1
theorem at_push {L : List (Nat × Nat)} {k b : Nat} (h : at_ L (fcls k) = none) (c : Nat) : at_ (L ++ [(k, b)]) c = if c = fcls k then some b else at_ L c := by
  unfold at_ at h ⊢
  rw [List.find?_append]
  by_cases hc : c = fcls k
  · subst hc
    have h0 : L.find? (fun x => decide (fcls x.1 = fcls k)) = none := by simpa using h
    rw [h0, if_pos rfl]
    simp
  · rw [if_neg hc]
    have : ¬ fcls k = c := fun e => hc e.symm
    simp [this]

/-- The map reads as f, by classes. -/
def FMap (w : World) (mv : Value) (cnt : Nat) (f : Nat → Option Nat) : Prop :=
  (mv = .map none ∧ ∀ c, f c = none) ∨ ∃ b es clock L, mv = .map (some b) ∧ w.heap[b]? = some (.map es clock) ∧ es.size ≤ cnt ∧ Reads es.toList L ∧ Good L ∧ ∀ c, at_ L c = f c
variable {w w' : World} {mv : Value} {cnt : Nat} {f : Nat → Option Nat}
theorem FMap.look (h : FMap w mv cnt f) (hf : P.underlying kt = some (.float .f64)) {t e : TypeId} (ht : P.underlying t = some (.map kt e)) (hz : (zeroValue e).run P w = .ok (.pointer none) w) {k : Nat} (hk : k < 18446744073709551616) :
    (Instr.lookup t mv (.float .f64 k) false).run P w = .ok (ptr (if fnan k then none else f (fcls k))) w := by
  rcases h with ⟨rfl, h0⟩ | ⟨b, es, clock, L, rfl, hb, hs, hr, hg, hat⟩
  · have e1 : (if fnan k then none else f (fcls k)) = none := by rw [h0]; split <;> rfl
    rw [e1]
    simp [Instr.lookup, Sem.run_bind, run_underlying ht, check_run hf, find_run hf w k (es := []) (L := []) rfl, findF, hz, ptr]
  · simp only [Instr.lookup, Sem.run_bind, run_underlying ht, Result.andThen_ok, MapKept.run_getObj_map hb, Sem.run_pure, check_run hf, find_run hf w k hr]
    by_cases hn : fnan k
    · rw [findF_nan hk hn L 0 hg.1, if_pos hn]
      simp [hz, ptr]
    · have h1 := findF_at hk hn L 0 hg.1
      rw [hat] at h1
      rw [if_neg hn, ← h1]
      cases hfd : findF k L 0 with
      | none => simp [hz, ptr]
      | some x => simp
theorem map_erase {α β : Type} (g : α → β) : ∀ (l : List α) (m : Nat), (l.eraseIdx m).map g = (l.map g).eraseIdx m
  | [], _ => rfl
  | a :: r, 0 => rfl
  | a :: r, m + 1 => by simp [map_erase g r m]
theorem reads_erase {es : Array MapEntry} {L : List (Nat × Nat)} (h : Reads es.toList L) (m : Nat) : Reads (es.eraseIdxIfInBounds m).toList (L.eraseIdx m) := by
  unfold Reads at h ⊢
  have e1 : (es.eraseIdxIfInBounds m).toList = es.toList.eraseIdx m := by
    unfold Array.eraseIdxIfInBounds
    split
    · simp
    · rw [List.eraseIdx_of_length_le (by simp; omega)]
  rw [e1, map_erase, map_erase, h]
theorem Good.erase {L : List (Nat × Nat)} (h : Good L) (m : Nat) : Good (L.eraseIdx m) :=
  ⟨fun x hx => h.1 x (List.mem_of_mem_eraseIdx hx), by rw [map_erase]; exact h.2.sublist (List.eraseIdx_sublist _ _)⟩
theorem FMap.drop (h : FMap w mv cnt f) (hf : P.underlying kt = some (.float .f64)) {t e : TypeId} (ht : P.underlying t = some (.map kt e)) {k : Nat} (hk : k < 18446744073709551616) (hn : ¬ fnan k) (ty : TypeId) :
    ∃ w', (Builtin.delete_ #[t, kt] ty #[mv, .float .f64 k]).run P w = .ok (.tuple #[]) w' ∧ FMap w' mv cnt (fun c => if c = fcls k then none else f c) ∧ w.grownBy w' (mapBlock mv) ∧ w'.heap.size = w.heap.size := by
  rcases h with ⟨rfl, h0⟩ | ⟨b, es, clock, L, rfl, hb, hs, hr, hg, hat⟩
  · refine ⟨w, ?_, .inl ⟨rfl, fun c => by simp [h0]⟩, ⟨rfl, rfl, rfl, Nat.le_refl _, fun _ _ _ => rfl⟩, rfl⟩
    simp [Builtin.delete_, Sem.run_bind, run_underlying ht, check_run hf]
  · have h1 := findF_at hk hn L 0 hg.1
    cases hfd : findF k L 0 with
    | none =>
      rw [hfd, hat] at h1
      refine ⟨Go.ChangeMaps.setBlock w b (.map es clock), ?_, .inr ⟨b, es, clock, L, rfl, Go.ChangeMaps.heap_setBlock_same hb _, hs, hr, hg, fun c => ?_⟩, ⟨rfl, rfl, rfl, by simp [Go.ChangeMaps.setBlock], fun i _ hi => Go.ChangeMaps.heap_setBlock_other hb _ (fun e => hi (by rw [e]; rfl))⟩, by simp [Go.ChangeMaps.setBlock]⟩
      · simp [Builtin.delete_, Sem.run_bind, run_underlying ht, MapKept.run_getObj_map hb, check_run hf, find_run hf w k hr, hfd, MapKept.run_setObj_map _ hb, Go.ChangeMaps.setBlock]
      · rw [hat]
        show _ = if c = fcls k then none else f c
        split
        · rename_i hc; rw [hc, ← h1]; rfl
        · rfl
    | some x =>
      obtain ⟨m, y, hj, hm, hc⟩ := findF_spot hk hn L 0 hg.1 x.1 x.2 hfd
      rw [Nat.zero_add] at hj
      refine ⟨Go.ChangeMaps.setBlock w b (.map (es.eraseIdxIfInBounds x.1) clock), ?_, .inr ⟨b, _, clock, L.eraseIdx m, rfl, Go.ChangeMaps.heap_setBlock_same hb _, ?_, hj ▸ reads_erase hr m, hg.erase m, fun c => ?_⟩, ⟨rfl, rfl, rfl, by simp [Go.ChangeMaps.setBlock], fun i _ hi => Go.ChangeMaps.heap_setBlock_other hb _ (fun e => hi (by rw [e]; rfl))⟩, by simp [Go.ChangeMaps.setBlock]⟩
      · simp [Builtin.delete_, Sem.run_bind, run_underlying ht, MapKept.run_getObj_map hb, check_run hf, find_run hf w k hr, hfd, MapKept.run_setObj_map _ hb, Go.ChangeMaps.setBlock]
      · unfold Array.eraseIdxIfInBounds
        split
        · simp; omega
        · exact hs
      · rw [at_other hg.2 hm, hat, hc]
theorem FMap.put {b : Nat} (h : FMap w (.map (some b)) cnt f) (hf : P.underlying kt = some (.float .f64)) {t e : TypeId} (ht : P.underlying t = some (.map kt e)) {k : Nat} (hk : k < 18446744073709551616) (hn : ¬ fnan k) (h0 : f (fcls k) = none) (g : Nat) :
    ∃ w', (Instr.mapUpdate t (.map (some b)) (.float .f64 k) (ptr (some g))).run P w = .ok () w' ∧ FMap w' (.map (some b)) (cnt + 1) (fun c => if c = fcls k then some g else f c) ∧ w.grownBy w' (some b) ∧ w'.heap.size = w.heap.size := by
  rcases h with ⟨h1, _⟩ | ⟨b', es, clock, L, hbb, hb, hs, hr, hg, hat⟩
  · cases h1
  · obtain rfl : b = b' := by injection hbb with h; injection h
    have h1 := findF_at hk hn L 0 hg.1
    rw [hat, h0] at h1
    have hfd : findF k L 0 = none := by simpa using h1
    have ha : at_ L (fcls k) = none := by rw [hat, h0]
    refine ⟨Go.ChangeMaps.setBlock w b (.map (es.push ⟨.float .f64 k, ptr (some g), clock⟩) (clock + 1)), ?_, .inr ⟨b, _, _, L ++ [(k, g)], rfl, Go.ChangeMaps.heap_setBlock_same hb _, by simp; omega, ?_, ⟨?_, ?_⟩, fun c => by rw [at_push ha, hat]⟩, ⟨rfl, rfl, rfl, by simp [Go.ChangeMaps.setBlock], fun i _ hi => Go.ChangeMaps.heap_setBlock_other hb _ (fun e => hi (by rw [e]))⟩, by simp [Go.ChangeMaps.setBlock]⟩
    · simp [Instr.mapUpdate, Sem.run_bind, run_underlying ht, MapKept.run_getObj_map hb, check_run hf, find_run hf w k hr, hfd, MapKept.run_setObj_map _ hb, Go.ChangeMaps.setBlock]
    · unfold Reads at hr ⊢
      rw [Array.toList_push, List.map_append, List.map_append, hr]
      rfl
    · intro x hx
      rcases List.mem_append.1 hx with h2 | h2
      · exact hg.1 x h2
      · obtain rfl := List.mem_singleton.1 h2; exact ⟨hk, hn⟩
    · rw [List.map_append, List.nodup_append]
      refine ⟨hg.2, by simp, fun c hc d hd e => ?_⟩
      have hd2 : d = fcls k := by simpa using hd
      obtain ⟨x, hx, hxc⟩ := List.mem_map.1 hc
      unfold at_ at ha
      have h3 : L.find? (fun x => decide (fcls x.1 = fcls k)) = none := by simpa using ha
      have h4 := List.find?_eq_none.1 h3 x hx
      exact h4 (by simp only [decide_eq_true_eq]; rw [hxc, e, hd2])
end
end Fl
end Go.Proofs.Ytpppgdfgbhglbaa
/- Maps keyed by floating-point numbers: what leaves them, and their laws at the operation. Over any program. -/
namespace Go.Proofs.Ytpppgdfgbhglbaa
open Go.RowKit Go.Proofs Go.Proofs.Ytpppgdfgbhglbaa.Ring
namespace Fl
section
variable {P : Program} {kt : TypeId} {w w' : World} {mv : Value} {cnt : Nat} {f : Nat → Option Nat}
theorem FMap.isMap (h : FMap w mv cnt f) {b : Nat} (hb : mapBlock mv = some b) : ∃ es clock, w.heap[b]? = some (.map es clock) := by
  rcases h with ⟨rfl, _⟩ | ⟨b', es, clock, L, rfl, h1, _⟩
  · cases hb
  · obtain rfl : b' = b := by simpa [mapBlock] using hb
    exact ⟨es, clock, h1⟩
theorem FMap.lt (h : FMap w mv cnt f) {b : Nat} (hb : mapBlock mv = some b) : b < w.heap.size := by
  obtain ⟨es, clock, h1⟩ := h.isMap hb
  exact (Array.getElem?_eq_some_iff.1 h1).1
theorem FMap.apart (h : FMap w mv cnt f) {b : Nat} (hb : mapBlock mv = some b) {g : Nat} {cs : Array Value} {t : TypeId} {fr : Nat × Nat} (hg : w.heap[g]? = some (.cells cs t fr)) : b ≠ g := by
  intro e
  subst e
  obtain ⟨es, clock, h1⟩ := h.isMap hb
  rw [h1] at hg
  cases hg
theorem FMap.form (h : FMap w mv cnt f) : mv = .map (mapBlock mv) := by
  rcases h with ⟨rfl, _⟩ | ⟨b', es, clock, L, rfl, _⟩ <;> rfl
theorem FMap.same (h : FMap w mv cnt f) (hw : ∀ b, mapBlock mv = some b → w'.heap[b]? = w.heap[b]?) : FMap w' mv cnt f := by
  rcases h with h | ⟨b, es, clock, L, rfl, h1, h2⟩
  · exact .inl h
  · exact .inr ⟨b, es, clock, L, rfl, (hw b rfl).trans h1, h2⟩
theorem FMap.set (h : FMap w mv cnt f) {g : Nat} {cs : Array Value} {t : TypeId} {fr : Nat × Nat} (hg : w.heap[g]? = some (.cells cs t fr)) (i : Nat) (v : Value) : FMap (w.setCell ⟨g, i, none⟩ v) mv cnt f :=
  h.same fun b hb => Below.heap_setCell w _ v b (h.apart hb hg)
theorem FMap.mono (h : FMap w mv cnt f) {m : Nat} (hm : cnt ≤ m) : FMap w mv m f := by
  rcases h with h | ⟨b, es, clock, L, rfl, h1, h2, h3⟩
  · exact .inl h
  · exact .inr ⟨b, es, clock, L, rfl, h1, Nat.le_trans h2 hm, h3⟩
theorem FMap.congr (h : FMap w mv cnt f) {g : Nat → Option Nat} (hg : ∀ k, g k = f k) : FMap w mv cnt g := by
  obtain rfl : g = f := funext hg
  exact h
theorem FMap.made (w : World) : FMap (w.alloc (.map #[] 0)) (.map (some w.heap.size)) 0 (fun _ => none) :=
  .inr ⟨w.heap.size, #[], 0, [], rfl, Deep.blk_alloc_new w _, Nat.le_refl _, rfl, ⟨by simp, by simp⟩, fun _ => rfl⟩
theorem FMap.void (h : FMap w (.map none) cnt f) : ∀ c, f c = none := by
  rcases h with ⟨_, h⟩ | ⟨b, _, _, _, h0, _⟩
  · exact h
  · cases h0

variable {ops : Array Oper} {rest : List Oper} {o : Oper} {a : Act} {Q : Exit → Act → World → Prop}
theorem wp_fput {b : Nat} (h : FMap w (.map (some b)) cnt f) (hf : P.underlying kt = some (.float .f64)) (hg : o.guard = none) (m x v : Operand) (t : TypeId) (hop : o.op = Op.mapUpdate t m x v) {e : TypeId} (ht : P.underlying t = some (.map kt e))
    (hm : a.eval m = .map (some b)) {k : Nat} (hx : a.eval x = .float .f64 k) (hk : k < 18446744073709551616) (hn : ¬ fnan k) (h0 : f (fcls k) = none) (g : Nat) (hv : a.eval v = .pointer (some ⟨g, 0, none⟩))
    (hK : ∀ w', FMap w' (.map (some b)) (cnt + 1) (fun c => if c = fcls k then some g else f c) → w.grownBy w' (some b) → w'.heap.size = w.heap.size → wpList P ops Q rest (a.put o.dst undef) w') : wpList P ops Q (o :: rest) a w := by
  refine wpList_plain hg fun K' hK' => ?_
  obtain ⟨w', hrun, r1, r2, r3⟩ := h.put hf ht hk hn h0 g
  unfold Oper.wp
  simp only [ptr] at hrun
  simp [execOp, hop, hm, hx, hv, hrun, Result.andThen]
  exact hK' _ _ (hK w' r1 r2 r3)
end
theorem self_ne {k : Nat} (hk : k < 18446744073709551616) : (FloatKind.f64.format.order k k != some Ordering.eq) = decide (fnan k) := by
  have h1 := feq hk hk
  show (!(Ieee.double.order k k == some .eq)) = _
  rw [h1]
  by_cases h : fnan k <;> simp [h]
theorem eq_zero {k : Nat} (hk : k < 18446744073709551616) (hn : ¬ fnan k) : (FloatKind.f64.format.order k 0 == some Ordering.eq) = decide (fcls k = 0) := by
  have h1 := feq (x := k) (y := 0) hk (by decide)
  have h2 : ¬ fnan 0 := by decide
  have h3 : fcls 0 = 0 := by decide
  show (Ieee.double.order k 0 == some .eq) = _
  rw [h1]; simp [hn, h2, h3]
theorem fcls_lt {k : Nat} (hk : k < 18446744073709551616) : fcls k < 18446744073709551616 := by
  unfold fcls
  split <;> omega
theorem fcls_of {k : Nat} (h : fcls k ≠ 0) : fcls k = k := by
  unfold fcls at h ⊢
  split
  · rename_i h1; rw [if_pos h1] at h; exact absurd rfl h
  · rfl
end Fl
end Go.Proofs.Ytpppgdfgbhglbaa
