/- XDv, XD1, XD2: merged by tools/merge.py. -/
import Derived.Test.YtelgcmcnebncmaaQ02
import Derived.Test.YtelgcmcnebncmaaQ06
import Derived.Test.YtelgcmcnebncmaaQ07
import Derived.Test.YtelgcmcnebncmaaProg
import Derived.Test.YtelgcmcnebncmaaChecked
import Derived.WalkKit
import Derived.Lib.Hide
import Derived.Carry
import Derived.Deep.MidRow
namespace Go.Proofs.Ytelgcmcnebncmaa.Dr
open Go.RowKit Go.Proofs Go.Proofs.Ytelgcmcnebncmaa.Ring

abbrev tDrive := 107
abbrev tBody := 147
abbrev tStep := 150
abbrev tSteps := 142
abbrev kStr := 9
abbrev tU8 := 5

theorem own_same {w w' : World} {base : Nat} {e : TypeId} {size n : Nat} {v : Value} {xs : List Value} (h : w.ownsRow base e size v n xs) (hw : ∀ g, v.ownBlock = some g → w'.heap[g]? = w.heap[g]?) : w'.ownsRow base e size v n xs := by
  refine ⟨h.1, ?_⟩
  rcases h.2 with h1 | ⟨g, cap, cur, rfl, hb, hg, r⟩
  · exact .inl h1
  · exact .inr ⟨g, cap, cur, rfl, hb, (hw g rfl).trans hg, r⟩
theorem own_lt {w : World} {base : Nat} {e : TypeId} {size n : Nat} {v : Value} {xs : List Value} (h : w.ownsRow base e size v n xs) {g : Nat} (hg : v.ownBlock = some g) : ∃ cur, w.heap[g]? = some (.cells cur e (0, 0)) := by
  rcases h.2 with ⟨rfl, _⟩ | ⟨g', cap, cur, rfl, _, hb, _⟩
  · cases hg
  · obtain rfl : g' = g := by simpa [Value.ownBlock] using hg
    exact ⟨cur, hb⟩
theorem own_any {w : World} {base base' : Nat} {e : TypeId} {size n : Nat} {v : Value} {xs : List Value} (h : w.ownsRow base e size v n xs) (hb : ∀ g, v.ownBlock = some g → base' ≤ g) : w.ownsRow base' e size v n xs := by
  refine ⟨h.1, ?_⟩
  rcases h.2 with h1 | ⟨g, cap, cur, rfl, _, hg, r⟩
  · exact .inl h1
  · exact .inr ⟨g, cap, cur, rfl, hb g rfl, hg, r⟩

/-- A change as cells. -/
def cStep (β : Nat → Nat) (c : List (Bs × Option Nat)) : List Value := c.flatMap fun s => [encStr s.1, ptr (s.2.map β)]
theorem cStep_congr {β β' : Nat → Nat} {n : Nat} (h : ∀ i, i < n → β' i = β i) {c : List (Bs × Option Nat)} (hc : ∀ s ∈ c, ∀ i, s.2 = some i → i < n) : cStep β' c = cStep β c := by
  unfold cStep
  induction c with
  | nil => rfl
  | cons s r ih =>
    rw [List.flatMap_cons, List.flatMap_cons, ih fun x hx => hc x (by simp [hx])]
    congr 2
    cases hs : s.2 with
    | none => rfl
    | some i => simp [h i (hc s (by simp) i hs)]
/-- A directory whose bodies lie at these blocks. -/
def at_ (β : Nat → Nat) (l : Dir) : Dir := l.map fun p => (p.1, β p.2)
theorem at_congr {β β' : Nat → Nat} {n : Nat} (h : ∀ i, i < n → β' i = β i) {l : Dir} (hl : ∀ p ∈ l, p.2 < n) : at_ β' l = at_ β l :=
  List.map_congr_left fun p hp => by rw [h _ (hl p hp)]
theorem find_at (β : Nat → Nat) (l : Dir) (k : Bs) : find (at_ β l) k = (find l k).map β := by
  unfold find at_
  rw [List.find?_map]
  simp only [Function.comp_def, Option.map_map]
theorem ins_at (β : Nat → Nat) (x : Bs × Nat) (l : Dir) : ins (x.1, β x.2) (at_ β l) = at_ β (ins x l) := by
  induction l with
  | nil => rfl
  | cons y r ih =>
    show ins _ ((y.1, β y.2) :: at_ β r) = _
    by_cases hb : bytesBefore x.1 y.1 = true
    · rw [show ins x (y :: r) = x :: y :: r from if_pos hb]
      exact if_pos hb
    · rw [show ins x (y :: r) = y :: ins x r from if_neg hb]
      show _ = (y.1, β y.2) :: at_ β (ins x r)
      rw [← ih]
      exact if_neg hb
theorem del_at (β : Nat → Nat) (l : Dir) (k : Bs) : del (at_ β l) k = at_ β (del l k) := by
  unfold del at_
  rw [List.filter_map]
  rfl
theorem put_at (β : Nat → Nat) (l : Dir) (k : Bs) (x : Option Nat) : put (at_ β l) k (x.map β) = at_ β (put l k x) := by
  cases x with
  | none => exact del_at β l k
  | some b =>
    show ins (k, β b) (del (at_ β l) k) = at_ β (ins (k, b) (del l k))
    rw [del_at]
    exact ins_at β (k, b) (del l k)

/-- The drive at block d shows D: its bodies lie at β, their bytes are the slices vs. -/
structure DvAt (w : World) (S : Nat → Prop) (d : Nat) (D : D) (u : Int) (β : Nat → Nat) (vs : Nat → Value) (nv kv pv : Value) (ss : List Value) : Prop where
  head : w.heap[d]? = some (.cells #[.int .i64 (D.room : Int), .int .i64 u, nv, kv, pv] tDrive (0, 0))
  now : DirAt Try.prog kStr w nv (at_ β D.now)
  kept : DirAt Try.prog kStr w kv (at_ β D.kept)
  apart : ∀ b, mapBlock nv = some b → mapBlock kv ≠ some b
  both : mapBlock nv = none ↔ mapBlock kv = none
  inj : ∀ i j, i < D.bd.length → j < D.bd.length → β i = β j → i = j
  body : ∀ i, i < D.bd.length → w.heap[β i]? = some (.cells #[vs i, .int .i64 ((D.at i).safe : Int)] tBody (0, 0))
  row : ∀ i, i < D.bd.length → w.ownsRow 0 tU8 1 (vs i) (D.at i).data.length (cU8 (D.at i).data)
  own : ∀ i j g, i < D.bd.length → j < D.bd.length → (vs i).ownBlock = some g → (vs j).ownBlock = some g → i = j
  pend : w.ownsRow 0 tSteps 1 pv D.pend.length ss
  steps : ∀ (j : Nat) (c : List (Bs × Option Nat)) (s : Value), D.pend[j]? = some c → ss[j]? = some s → w.ownsRow 0 tStep 2 s c.length (cStep β c)
  inD : S d
  inN : ∀ b, mapBlock nv = some b → S b
  inK : ∀ b, mapBlock kv = some b → S b
  inB : ∀ i, i < D.bd.length → S (β i)
  inV : ∀ i g, i < D.bd.length → (vs i).ownBlock = some g → S g
  inP : ∀ g, pv.ownBlock = some g → S g
  inS : ∀ s ∈ ss, ∀ g, s.ownBlock = some g → S g
  low : ∀ k, S k → k < w.heap.size
  live : mapBlock nv = none → D.pend = []
/-- A drive shows D. -/
def Dv (w : World) (S : Nat → Prop) (d : Nat) (D : D) (m N : Nat) : Prop := D.Ok m N ∧ ∃ β vs nv kv pv ss, DvAt w S d D (wrap64 (D.used : Int)) β vs nv kv pv ss
/-- What a call does. -/
def Turn (w w' : World) (S : Nat → Prop) (d : Nat) (D : D) (m N : Nat) : Prop := ∃ S', Dv w' S' d D m N ∧ Kept w w' S ∧ ∀ k, S' k → S k ∨ w.heap.size ≤ k

section
variable {w w' : World} {S : Nat → Prop} {d : Nat} {D : D} {u : Int} {β : Nat → Nat} {vs : Nat → Value} {nv kv pv : Value} {ss : List Value} {m N : Nat}
theorem DvAt.same (h : DvAt w S d D u β vs nv kv pv ss) (hw : ∀ k, S k → w'.heap[k]? = w.heap[k]?) (hs : w.heap.size ≤ w'.heap.size) : DvAt w' S d D u β vs nv kv pv ss :=
  ⟨(hw d h.inD).trans h.head, h.now.same fun b hb => hw b (h.inN b hb), h.kept.same fun b hb => hw b (h.inK b hb), h.apart, h.both, h.inj,
    fun i hi => (hw _ (h.inB i hi)).trans (h.body i hi), fun i hi => own_same (h.row i hi) fun g hg => hw g (h.inV i g hi hg), h.own,
    own_same h.pend fun g hg => hw g (h.inP g hg), fun j c s hc hj => own_same (h.steps j c s hc hj) fun g hg => hw g (h.inS s (List.mem_of_getElem? hj) g hg),
    h.inD, h.inN, h.inK, h.inB, h.inV, h.inP, h.inS, fun k hk => Nat.lt_of_lt_of_le (h.low k hk) hs, h.live⟩
theorem Dv.kept (h : Dv w S d D m N) {U : Nat → Prop} (hk : Kept w w' U) (hd : ∀ k, S k → ¬ U k) : Dv w' S d D m N := by
  obtain ⟨h0, β, vs, nv, kv, pv, ss, h1⟩ := h
  exact ⟨h0, β, vs, nv, kv, pv, ss, h1.same (fun k hs => hk.block k (h1.low k hs) (hd k hs)) hk.size⟩
theorem Dv.below (h : Dv w S d D m N) (hb : Below w.heap.size w w') : Dv w' S d D m N := h.kept (U := fun _ => False) (Kept.of_below _ hb) fun _ _ h => h
theorem Dv.low (h : Dv w S d D m N) : ∀ k, S k → k < w.heap.size := by
  obtain ⟨_, _, _, _, _, _, _, h1⟩ := h
  exact h1.low
theorem Dv.mono (h : Dv w S d D m N) {m' N' : Nat} (hm : m ≤ m') (hN : N ≤ N') : Dv w S d D m' N' := ⟨h.1.mono hm hN, h.2⟩
theorem Turn.mono (h : Turn w w' S d D m N) {m' N' : Nat} (hm : m ≤ m') (hN : N ≤ N') : Turn w w' S d D m' N' := by
  obtain ⟨S', h1, h2, h3⟩ := h
  exact ⟨S', h1.mono hm hN, h2, h3⟩
theorem Turn.refl (h : Dv w S d D m N) : Turn w w S d D m N := ⟨S, h, Kept.refl _ _, fun _ hk => .inl hk⟩
theorem Turn.of_below (h : Dv w S d D m N) (hb : Below w.heap.size w w') : Turn w w' S d D m N := ⟨S, h.below hb, Kept.of_below _ hb, fun _ hk => .inl hk⟩
theorem Turn.then {w1 w2 : World} (h : Turn w w1 S d D m N) (hb : Below w1.heap.size w1 w2) : Turn w w2 S d D m N := by
  obtain ⟨S', h1, h2, h3⟩ := h
  exact ⟨S', h1.below hb, h2.below hb, h3⟩
theorem Turn.undrew (h : Turn w.drew w' S d D m N) : Turn w w' S d D m N := by
  obtain ⟨S', h1, h2, h3⟩ := h
  exact ⟨S', h1, ⟨h2.os, h2.tape, h2.output, h2.size, h2.block⟩, h3⟩
/-- The drive's own cells. -/
theorem DvAt.cells (h : DvAt w S d D u β vs nv kv pv ss) : w.cell? ⟨d, 0, none⟩ = some (.int .i64 (D.room : Int)) ∧ w.cell? ⟨d, 1, none⟩ = some (.int .i64 u) ∧ w.cell? ⟨d, 2, none⟩ = some nv ∧ w.cell? ⟨d, 3, none⟩ = some kv ∧ w.cell? ⟨d, 4, none⟩ = some pv ∧
    w.frozen? ⟨d, 0, none⟩ = false ∧ w.frozen? ⟨d, 1, none⟩ = false ∧ w.frozen? ⟨d, 2, none⟩ = false ∧ w.frozen? ⟨d, 3, none⟩ = false ∧ w.frozen? ⟨d, 4, none⟩ = false := by
  refine ⟨?_, ?_, ?_, ?_, ?_, ?_, ?_, ?_, ?_, ?_⟩ <;> first | (rw [cell_of_row w d _ _ _ _ h.head]; rfl) | (unfold World.frozen?; rw [show w.heap[(⟨d, _, none⟩ : Addr).block]? = _ from h.head]; simp)
theorem DvAt.bcells (h : DvAt w S d D u β vs nv kv pv ss) {i : Nat} (hi : i < D.bd.length) : w.cell? ⟨β i, 0, none⟩ = some (vs i) ∧ w.cell? ⟨β i, 1, none⟩ = some (.int .i64 ((D.at i).safe : Int)) ∧ w.frozen? ⟨β i, 0, none⟩ = false ∧ w.frozen? ⟨β i, 1, none⟩ = false := by
  have hb := h.body i hi
  refine ⟨?_, ?_, ?_, ?_⟩ <;> first | (rw [cell_of_row w (β i) _ _ _ _ hb]; rfl) | (unfold World.frozen?; rw [show w.heap[(⟨β i, _, none⟩ : Addr).block]? = _ from hb]; simp)
theorem DvAt.d_not (h : DvAt w S d D u β vs nv kv pv ss) : (∀ b, mapBlock nv = some b → b ≠ d) ∧ (∀ b, mapBlock kv = some b → b ≠ d) ∧ (∀ i, i < D.bd.length → β i ≠ d) ∧ (∀ i g, i < D.bd.length → (vs i).ownBlock = some g → g ≠ d) ∧ (∀ g, pv.ownBlock = some g → g ≠ d) ∧ ∀ (j : Nat) (c : List (Bs × Option Nat)) (s : Value), D.pend[j]? = some c → ss[j]? = some s → ∀ g, s.ownBlock = some g → g ≠ d := by
  refine ⟨fun b hb => h.now.apart hb h.head, fun b hb => h.kept.apart hb h.head, fun i hi e => ?_, fun i g hi hg e => ?_, fun g hg e => ?_, fun j c s hc hs g hg e => ?_⟩
  · have h1 := h.body i hi
    rw [e, h.head] at h1
    injection h1 with h1
    injection h1 with _ h2 _
    revert h2; decide
  · obtain ⟨cur, h1⟩ := own_lt (h.row i hi) hg
    rw [e, h.head] at h1
    injection h1 with h1
    injection h1 with _ h2 _
    revert h2; decide
  · obtain ⟨cur, h1⟩ := own_lt h.pend hg
    rw [e, h.head] at h1
    injection h1 with h1
    injection h1 with _ h2 _
    revert h2; decide
  · obtain ⟨cur, h1⟩ := own_lt (h.steps j c s hc hs) hg
    rw [e, h.head] at h1
    injection h1 with h1
    injection h1 with _ h2 _
    revert h2; decide
/-- The drive's own block alone has turned. -/
theorem DvAt.headed (h : DvAt w S d D u β vs nv kv pv ss) {u' : Int} (hd : w'.heap[d]? = some (.cells #[.int .i64 (D.room : Int), .int .i64 u', nv, kv, pv] tDrive (0, 0))) (hw : ∀ k, S k → k ≠ d → w'.heap[k]? = w.heap[k]?) (hs : w.heap.size ≤ w'.heap.size) : DvAt w' S d D u' β vs nv kv pv ss := by
  obtain ⟨n1, n2, n3, n4, n5, n6⟩ := h.d_not
  exact ⟨hd, h.now.same fun b hb => hw b (h.inN b hb) (n1 b hb), h.kept.same fun b hb => hw b (h.inK b hb) (n2 b hb), h.apart, h.both, h.inj,
    fun i hi => (hw _ (h.inB i hi) (n3 i hi)).trans (h.body i hi), fun i hi => own_same (h.row i hi) fun g hg => hw g (h.inV i g hi hg) (n4 i g hi hg), h.own,
    own_same h.pend fun g hg => hw g (h.inP g hg) (n5 g hg), fun j c s hc hj => own_same (h.steps j c s hc hj) fun g hg => hw g (h.inS s (List.mem_of_getElem? hj) g hg) (n6 j c s hc hj g hg),
    h.inD, h.inN, h.inK, h.inB, h.inV, h.inP, h.inS, fun k hk => Nat.lt_of_lt_of_le (h.low k hk) hs, h.live⟩
theorem DvAt.used (h : DvAt w S d D u β vs nv kv pv ss) (u' : Int) : DvAt (w.setCell ⟨d, 1, none⟩ (.int .i64 u')) S d D u' β vs nv kv pv ss :=
  h.headed (heap_same h.head _) (fun k _ hk => Below.heap_setCell w _ _ k hk) (by simp [World.setCell])
/-- What stands is another list, in the same map. -/
theorem DvAt.stands (h : DvAt w S d D u β vs nv kv pv ss) {b : Nat} (hb : mapBlock nv = some b) {l : Dir} (hl : DirAt Try.prog kStr w' nv (at_ β l)) (hk : Kept w w' (fun k => k = b)) : DvAt w' S d { D with now := l } u β vs nv kv pv ss := by
  have hne : ∀ (g : Nat) (cur : Array Value) (e : TypeId) (fr : Nat × Nat), w.heap[g]? = some (.cells cur e fr) → w'.heap[g]? = w.heap[g]? := fun g cur e fr hg => hk.block g (Array.getElem?_eq_some_iff.1 hg).1 fun e => h.now.apart hb hg e.symm
  refine ⟨(hne d _ _ _ h.head).trans h.head, hl, h.kept.same fun x hx => hk.block x (h.kept.lt hx) fun e => h.apart b hb (e ▸ hx), h.apart, h.both, h.inj, fun i hi => (hne _ _ _ _ (h.body i hi)).trans (h.body i hi), fun i hi => own_same (h.row i hi) fun g hg => ?_, h.own,
    own_same h.pend fun g hg => ?_, fun j c s hc hj => own_same (h.steps j c s hc hj) fun g hg => ?_, h.inD, h.inN, h.inK, h.inB, h.inV, h.inP, h.inS, fun k hk' => Nat.lt_of_lt_of_le (h.low k hk') hk.size, h.live⟩
  · obtain ⟨cur, h1⟩ := own_lt (h.row i hi) hg
    exact hne g _ _ _ h1
  · obtain ⟨cur, h1⟩ := own_lt h.pend hg
    exact hne g _ _ _ h1
  · obtain ⟨cur, h1⟩ := own_lt (h.steps j c s hc hj) hg
    exact hne g _ _ _ h1
/-- A row that has just been laid. -/
theorem own_new (w : World) {base : Nat} (hb : base ≤ w.heap.size) (e : TypeId) (size n : Nat) (xs : List Value) (hx : xs.length = n * size) (hn : n ≤ maxLen) : (w.alloc (.cells xs.toArray e)).ownsRow base e size (.slice (some ⟨w.heap.size, 0, none⟩) n n) n xs :=
  ⟨hx, .inr ⟨w.heap.size, n, xs.toArray, rfl, hb, heap_alloc_new w _, Nat.le_refl _, hn, by simpa using hx, by rw [← hx]; simp⟩⟩
theorem own_alloc {w : World} {base : Nat} {e : TypeId} {size n : Nat} {v : Value} {xs : List Value} (h : w.ownsRow base e size v n xs) (o : Obj) : (w.alloc o).ownsRow base e size v n xs :=
  own_same h fun g hg => by obtain ⟨cur, h1⟩ := own_lt h hg; exact heap_alloc_old _ _ (Array.getElem?_eq_some_iff.1 h1).1
/-- Maps are made where there were none. -/
theorem DvAt.woken (h : DvAt w S d D u β vs (.map none) (.map none) pv ss) :
    DvAt ((((w.alloc (.map #[] 0)).alloc (.map #[] 0)).setCell ⟨d, 2, none⟩ (.map (some w.heap.size))).setCell ⟨d, 3, none⟩ (.map (some (w.heap.size + 1)))) (fun k => S k ∨ k = w.heap.size ∨ k = w.heap.size + 1) d D u β vs (.map (some w.heap.size)) (.map (some (w.heap.size + 1))) pv ss := by
  have e1 : at_ β D.now = [] := by
    rcases h.now with ⟨_, h1⟩ | ⟨b, h1, _⟩
    · exact h1
    · cases h1
  have e2 : at_ β D.kept = [] := by
    rcases h.kept with ⟨_, h1⟩ | ⟨b, h1, _⟩
    · exact h1
    · cases h1
  have hd : d < w.heap.size := (Array.getElem?_eq_some_iff.1 h.head).1
  obtain ⟨w2, hw2⟩ : ∃ w2, (w.alloc (.map #[] 0)).alloc (.map #[] 0) = w2 := ⟨_, rfl⟩
  have hsz : w2.heap.size = w.heap.size + 1 + 1 := by rw [← hw2]; simp
  have hold : ∀ k, k < w.heap.size → w2.heap[k]? = w.heap[k]? := fun k hk => by rw [← hw2]; exact (heap_alloc_old _ _ (by simp; omega)).trans (heap_alloc_old _ _ hk)
  have m0 : DirAt Try.prog kStr w2 (.map (some w.heap.size)) [] := by
    have := DirAt.made Try.prog w kStr
    rw [← hw2]
    exact this.same fun b hb => heap_alloc_old _ _ (this.lt hb)
  have m1 : DirAt Try.prog kStr w2 (.map (some (w.heap.size + 1))) [] := by
    have := DirAt.made Try.prog (w.alloc (.map #[] 0)) kStr
    rw [show (w.alloc (.map #[] 0)).heap.size = w.heap.size + 1 by simp, hw2] at this
    exact this
  rw [hw2]
  have hw : ∀ k, k ≠ d → ((w2.setCell ⟨d, 2, none⟩ (.map (some w.heap.size))).setCell ⟨d, 3, none⟩ (.map (some (w.heap.size + 1)))).heap[k]? = w2.heap[k]? := fun k hk => (Below.heap_setCell _ _ _ k hk).trans (Below.heap_setCell _ _ _ k hk)
  obtain ⟨_, _, n3, n4, n5, n6⟩ := h.d_not
  have hin : ∀ {k}, S k → k ≠ d → ((w2.setCell ⟨d, 2, none⟩ (.map (some w.heap.size))).setCell ⟨d, 3, none⟩ (.map (some (w.heap.size + 1)))).heap[k]? = w.heap[k]? := fun hk hne => (hw _ hne).trans (hold _ (h.low _ hk))
  refine ⟨heap_same (heap_same ((hold d hd).trans h.head) _) _, ?_, ?_, fun b hb e => ?_, ?_, h.inj, fun i hi => (hin (h.inB i hi) (n3 i hi)).trans (h.body i hi), fun i hi => own_same (h.row i hi) fun g hg => hin (h.inV i g hi hg) (n4 i g hi hg), h.own,
    own_same h.pend fun g hg => hin (h.inP g hg) (n5 g hg), fun j c s hc hj => own_same (h.steps j c s hc hj) fun g hg => hin (h.inS s (List.mem_of_getElem? hj) g hg) (n6 j c s hc hj g hg), .inl h.inD, fun b hb => ?_, fun b hb => ?_, fun i hi => .inl (h.inB i hi), fun i g hi hg => .inl (h.inV i g hi hg), fun g hg => .inl (h.inP g hg), fun s hs g hg => .inl (h.inS s hs g hg), fun k hk => ?_, fun e => (by simp [mapBlock] at e)⟩
  · rw [e1]; exact m0.same fun b hb => hw b (by simp [mapBlock] at hb; omega)
  · rw [e2]; exact m1.same fun b hb => hw b (by simp [mapBlock] at hb; omega)
  · simp [mapBlock] at hb e; omega
  · simp [mapBlock]
  · simp [mapBlock] at hb; exact .inr (.inl hb.symm)
  · simp [mapBlock] at hb; exact .inr (.inr hb.symm)
  · have : ((w2.setCell ⟨d, 2, none⟩ (.map (some w.heap.size))).setCell ⟨d, 3, none⟩ (.map (some (w.heap.size + 1)))).heap.size = w2.heap.size := by simp [World.setCell]
    rw [this, hsz]
    rcases hk with hk | rfl | rfl
    · have := h.low k hk; omega
    · omega
    · omega
/-- A change is put behind the pending ones: w1 is the world behind the append, g the row's block. -/
theorem DvAt.pended {w1 : World} (h : DvAt w S d D u β vs nv kv pv ss) {g n1 cap : Nat} {v : Value} {c : List (Bs × Option Nat)} (hg : w1.ownsRow 0 tSteps 1 (.slice (some ⟨g, 0, none⟩) n1 cap) n1 (ss ++ [v])) (hn1 : n1 = D.pend.length + 1) (hgr : w.grownBy w1 pv.ownBlock) (hat : pv.ownBlock = some g ∨ w.heap.size ≤ g) (hglt : g < w1.heap.size)
    (hv : w.ownsRow 0 tStep 2 v c.length (cStep β c)) (hnv : mapBlock nv ≠ none) :
    DvAt (w1.setCell ⟨d, 4, none⟩ (.slice (some ⟨g, 0, none⟩) n1 cap)) (fun k => S k ∨ v.ownBlock = some k ∨ (k = g ∧ w.heap.size ≤ k)) d { D with pend := D.pend ++ [c] } u β vs nv kv (.slice (some ⟨g, 0, none⟩) n1 cap) (ss ++ [v]) := by
  subst hn1
  have hnp : ∀ k cur e fr, w.heap[k]? = some (.cells cur e fr) → e ≠ tSteps → pv.ownBlock ≠ some k := by
    intro k cur e fr hk he hp
    obtain ⟨cur', h1⟩ := own_lt h.pend hp
    rw [hk] at h1
    injection h1 with h1
    injection h1 with _ h2 _
    exact he h2
  have hnm : ∀ k es clock, w.heap[k]? = some (.map es clock) → pv.ownBlock ≠ some k := by
    intro k es clock hk hp
    obtain ⟨cur', h1⟩ := own_lt h.pend hp
    rw [hk] at h1
    cases h1
  have hold : ∀ k, k < w.heap.size → pv.ownBlock ≠ some k → w1.heap[k]? = w.heap[k]? := fun k hk hne => hgr.block k hk fun e => hne e.symm
  have hgd : g ≠ d := by
    rintro rfl
    have hd := h.head
    rcases hat with h1 | h1
    · exact hnp _ _ _ _ hd (by decide) h1
    · have := (Array.getElem?_eq_some_iff.1 hd).1; omega
  have hset : ∀ k, k ≠ d → (w1.setCell ⟨d, 4, none⟩ (.slice (some ⟨g, 0, none⟩) (D.pend.length + 1) cap)).heap[k]? = w1.heap[k]? := fun k hk => Below.heap_setCell _ _ _ k hk
  have hd1 : w1.heap[d]? = w.heap[d]? := hold d (Array.getElem?_eq_some_iff.1 h.head).1 (hnp _ _ _ _ h.head (by decide))
  obtain ⟨m1, m2, n3, n4, n5, n6⟩ := h.d_not
  have hstep : ∀ {c : List (Bs × Option Nat)} {s : Value}, w.ownsRow 0 tStep 2 s c.length (cStep β c) → (∀ k, s.ownBlock = some k → k ≠ d) → (w1.setCell ⟨d, 4, none⟩ (.slice (some ⟨g, 0, none⟩) (D.pend.length + 1) cap)).ownsRow 0 tStep 2 s c.length (cStep β c) := by
    intro c s hs hne
    refine own_same hs fun k hk => ?_
    obtain ⟨cur, h1⟩ := own_lt hs hk
    exact (hset k (hne k hk)).trans (hold k (Array.getElem?_eq_some_iff.1 h1).1 (hnp _ _ _ _ h1 (by decide)))
  have hvd : ∀ k, v.ownBlock = some k → k ≠ d := by
    rintro k hk rfl
    obtain ⟨cur, h1⟩ := own_lt hv hk
    rw [h.head] at h1
    injection h1 with h1
    injection h1 with _ h2 _
    revert h2; decide
  have hss : ss.length = D.pend.length := by simpa using h.pend.1
  refine ⟨heap_same (hd1.trans h.head) _, h.now.same fun b hb => ?_, h.kept.same fun b hb => ?_, h.apart, h.both, h.inj, fun i hi => ?_, fun i hi => ?_, h.own, ?_, fun j c' s hc hj => ?_, .inl h.inD, fun b hb => .inl (h.inN b hb), fun b hb => .inl (h.inK b hb), fun i hi => .inl (h.inB i hi), fun i g hi hg => .inl (h.inV i g hi hg), fun k hk => ?_, fun s hs k hk => ?_, fun k hk => ?_, fun e => absurd e hnv⟩
  · obtain ⟨es, clock, h1⟩ := h.now.isMap hb
    exact (hset b (m1 b hb)).trans (hold b (h.now.lt hb) (hnm _ _ _ h1))
  · obtain ⟨es, clock, h1⟩ := h.kept.isMap hb
    exact (hset b (m2 b hb)).trans (hold b (h.kept.lt hb) (hnm _ _ _ h1))
  · have hb := h.body i hi
    exact ((hset _ (n3 i hi)).trans (hold _ (Array.getElem?_eq_some_iff.1 hb).1 (hnp _ _ _ _ hb (by decide)))).trans hb
  · refine own_same (h.row i hi) fun k hk => ?_
    obtain ⟨cur, h1⟩ := own_lt (h.row i hi) hk
    exact (hset k (n4 i k hi hk)).trans (hold k (Array.getElem?_eq_some_iff.1 h1).1 (hnp _ _ _ _ h1 (by decide)))
  · show World.ownsRow _ 0 tSteps 1 _ (D.pend ++ [c]).length _
    rw [List.length_append]
    exact own_same hg fun k hk => hset k (by simp [Value.ownBlock] at hk; omega)
  · rcases Nat.lt_or_ge j D.pend.length with hlt | hge
    · rw [List.getElem?_append_left hlt] at hc
      rw [List.getElem?_append_left (by omega)] at hj
      exact hstep (h.steps j c' s hc hj) (n6 j c' s hc hj)
    · have hj0 : j = D.pend.length := by
        have := (List.getElem?_eq_some_iff.1 hc).1
        simp at this; omega
      subst hj0
      rw [List.getElem?_append_right (Nat.le_refl _)] at hc
      rw [List.getElem?_append_right (by omega)] at hj
      simp at hc
      rw [hss] at hj
      simp at hj
      subst hc hj
      exact hstep hv hvd
  · obtain rfl : g = k := by simpa [Value.ownBlock] using hk
    rcases hat with h1 | h1
    · exact .inl (h.inP g h1)
    · exact .inr (.inr ⟨rfl, h1⟩)
  · rcases List.mem_append.1 hs with hs | hs
    · exact .inl (h.inS s hs k hk)
    · obtain rfl : s = v := by simpa using hs
      exact .inr (.inl hk)
  · have e1 : (w1.setCell ⟨d, 4, none⟩ (.slice (some ⟨g, 0, none⟩) (D.pend.length + 1) cap)).heap.size = w1.heap.size := by simp [World.setCell]
    rw [e1]
    rcases hk with hk | hk | ⟨rfl, _⟩
    · exact Nat.lt_of_lt_of_le (h.low k hk) hgr.size
    · obtain ⟨cur, h1⟩ := own_lt hv hk
      exact Nat.lt_of_lt_of_le (Array.getElem?_eq_some_iff.1 h1).1 hgr.size
    · exact hglt
end

theorem keyed : Maps.Keyed Try.prog kStr := Maps.string_keyed Try.underlying9
theorem undirU : Try.prog.underlying 104 = some (.map kStr 145) := Try.underlying104
end Go.Proofs.Ytelgcmcnebncmaa.Dr
namespace Go.Proofs.Ytelgcmcnebncmaa.Dr
open Go.RowKit Go.Proofs Go.Proofs.Ytelgcmcnebncmaa.Ring

theorem key_of {k : Bs} (hk : k.length ≤ maxLen) : keyOf Try.prog kStr (encStr k) = some (.string k) := by
  have := Go.WideMaps.keyOf_string_mk (P := Try.prog) (k := 9) Try.underlying9 (s := ⟨k.toArray⟩) (by simpa [ByteArray.size] using hk)
  simpa [encStr] using this
theorem zero_ptr (w : World) : (zeroValue 145).run Try.prog w = .ok (.pointer none) w := by
  first | exact Try.zeroValue145 w | (simp [Try.zeroValue145])
theorem named_len {n : Bs} (h : named n = true) : n.length ≤ maxLen := by
  unfold named at h
  have := of_decide_eq_true h
  unfold maxLen; omega
theorem DirAt.run_look {w : World} {mv : Value} {l : Dir} (h : DirAt Try.prog kStr w mv l) {k : Bs} (hk : k.length ≤ maxLen) : (Instr.lookup 104 mv (encStr k) false).run Try.prog w = .ok (ptr (find l k)) w :=
  h.look keyed undirU (zero_ptr w) (key_of hk)

set_option maxRecDepth 100000 in
theorem named_any (n : Bs) (w : World) : Calls Try.prog 88 #[encStr n] w fun x w' => x = .returned (.bool (named n)) ∧ w = w' := by
  unfold named
  by_cases h1 : 1 ≤ n.length
  · by_cases h2 : n.length ≤ 1024
    · have d1 : (1 : Int) ≤ (n.length : Int) := by omega
      have d2 : (n.length : Int) ≤ 1024 := by omega
      go_enter Try.func88, Try.ntmps88
      go_wp2
      go_ret
      exact ⟨by simp [h1, h2], rfl⟩
    · have d1 : (1 : Int) ≤ (n.length : Int) := by omega
      have d2 : ¬ (n.length : Int) ≤ 1024 := by omega
      go_enter Try.func88, Try.ntmps88
      go_wp2
      go_ret
      exact ⟨by simp, rfl⟩
  · have d1 : ¬ (1 : Int) ≤ (n.length : Int) := by omega
    go_enter Try.func88, Try.ntmps88
    go_wp2
    go_ret
    exact ⟨by simp, rfl⟩

section
variable {w : World} {S : Nat → Prop} {d : Nat} {D : D} {u : Int} {β : Nat → Nat} {vs : Nat → Value} {nv kv pv : Value} {ss : List Value} {m N : Nat}
/-- What 'find' tells. -/
def found (β : Nat → Nat) (r : Except Int Nat) : Value :=
  match r with
  | .ok i => .tuple #[.pointer (some ⟨β i, 0, none⟩), .int .i64 0]
  | .error e => .tuple #[.pointer none, .int .i64 e]
set_option maxRecDepth 100000 in
theorem find_any (h : DvAt w S d D u β vs nv kv pv ss) (n : Bs) : Calls Try.prog 90 #[.pointer (some ⟨d, 0, none⟩), encStr n] w fun x w' => x = .returned (found β (D.look n)) ∧ w = w' := by
  obtain ⟨_, _, c2, _, _, _⟩ := h.cells
  cases hn : named n with
  | false =>
    have hl : D.look n = .error 91 := by unfold Dr.D.look; rw [if_neg (by simp [hn])]
    rw [hl]
    go_enter Try.func90, Try.ntmps90
    go_wp2_with (go_at_call 88; refine (named_any n _).mono ?_; rintro x w1 ⟨rfl, rfl⟩; rw [hn])
    refine bodyPost_ret (v := .tuple #[.pointer none, .int .i64 91]) (by simp [results, Try.results90, go_sem]) rfl ?_
    exact ⟨rfl, rfl⟩
  | true =>
    have hk := h.now.run_look (named_len hn)
    rw [find_at] at hk
    cases hf : find D.now n with
    | none =>
      have hl : D.look n = .error 110 := by unfold Dr.D.look; rw [if_pos hn, hf]
      rw [hl]
      rw [hf] at hk
      simp only [Option.map_none, ptr] at hk
      go_enter Try.func90, Try.ntmps90
      go_wp2_with (go_at_call 88; refine (named_any n _).mono ?_; rintro x w1 ⟨rfl, rfl⟩; rw [hn])
      refine bodyPost_ret (v := .tuple #[.pointer none, .int .i64 110]) (by simp [results, Try.results90, go_sem]) rfl ?_
      exact ⟨rfl, rfl⟩
    | some i =>
      have hl : D.look n = .ok i := by unfold Dr.D.look; rw [if_pos hn, hf]
      rw [hl]
      rw [hf] at hk
      simp only [Option.map_some, ptr] at hk
      go_enter Try.func90, Try.ntmps90
      go_wp2_with (go_at_call 88; refine (named_any n _).mono ?_; rintro x w1 ⟨rfl, rfl⟩; rw [hn])
      refine bodyPost_ret (v := .tuple #[.pointer (some ⟨β i, 0, none⟩), .int .i64 0]) (by simp [results, Try.results90, go_sem]) rfl ?_
      exact ⟨rfl, rfl⟩
end
set_option maxRecDepth 100000 in
theorem find_nil (n : Bs) (w : World) : Calls Try.prog 90 #[.pointer none, encStr n] w fun x w' => x = .returned (.tuple #[.pointer none, .int .i64 1]) ∧ w = w' := by
  go_enter Try.func90, Try.ntmps90
  go_wp2
  refine bodyPost_ret (v := .tuple #[.pointer none, .int .i64 1]) (by simp [results, Try.results90, go_sem]) rfl ?_
  exact ⟨rfl, rfl⟩

/-- A drive that has just been made. -/
theorem fresh_dv (w : World) (r : Nat) {w' : World} {d a b : Nat} (hd : w'.heap[d]? = some (.cells #[.int .i64 (r : Int), .int .i64 0, .map (some a), .map (some b), .slice none 0 0] tDrive (0, 0)))
    (ha : DirAt Try.prog kStr w' (.map (some a)) []) (hb : DirAt Try.prog kStr w' (.map (some b)) []) (hab : a ≠ b) (h1 : w.heap.size ≤ d) (h2 : w.heap.size ≤ a) (h3 : w.heap.size ≤ b) :
    DvAt w' (fun k => w.heap.size ≤ k ∧ k < w'.heap.size) d (D.fresh r) (wrap64 ((D.fresh r).used : Int)) (fun _ => 0) (fun _ => .slice none 0 0) (.map (some a)) (.map (some b)) (.slice none 0 0) [] := by
  have no : ∀ (i : Nat) {p : Prop}, i < (D.fresh r).bd.length → p := fun i _ h => absurd h (Nat.not_lt_zero _)
  exact {
    head := by rw [show wrap64 ((D.fresh r).used : Int) = 0 by show wrap64 ((0 : Nat) : Int) = 0; unfold wrap64; omega]; exact hd
    now := ha
    kept := hb
    apart := fun x hx e => hab (by simp [mapBlock] at hx e; omega)
    both := by simp [mapBlock]
    inj := fun i j hi => no i hi
    body := fun i hi => no i hi
    row := fun i hi => no i hi
    own := fun i j g hi => no i hi
    pend := World.ownsRow_nil _ _ _ _
    steps := fun j c s hc => (by cases hc)
    inD := ⟨h1, (Array.getElem?_eq_some_iff.1 hd).1⟩
    inN := fun x hx => (by have := ha.lt hx; simp [mapBlock] at hx; subst hx; exact ⟨h2, this⟩)
    inK := fun x hx => (by have := hb.lt hx; simp [mapBlock] at hx; subst hx; exact ⟨h3, this⟩)
    inB := fun i hi => no i hi
    inV := fun i g hi => no i hi
    inP := fun g hg => (by cases hg)
    inS := fun s hs => (by cases hs)
    low := fun k hk => hk.2
    live := fun e => (by simp [mapBlock] at e) }
set_option maxRecDepth 100000 in
theorem new_dv (r : Nat) (hr : r ≤ 1073741824) (w : World) : Calls Try.prog 57 #[.int .i64 (r : Int)] w fun x w' => ∃ d a b, x = .returned (.pointer (some ⟨d, 0, none⟩)) ∧ w.heap.size ≤ d ∧ DvAt w' (fun k => w.heap.size ≤ k ∧ k < w'.heap.size) d (D.fresh r) (wrap64 ((D.fresh r).used : Int)) (fun _ => 0) (fun _ => .slice none 0 0) (.map (some a)) (.map (some b)) (.slice none 0 0) [] ∧ Below w.heap.size w w' := by
  have h1 : ¬ (r : Int) < 0 := by omega
  have h2 : ¬ (r : Int) > 1073741824 := by omega
  have hmk := fun w => run_makeMap (P := Try.prog) 104 w
  go_enter Try.func57, Try.ntmps57
  go_wp2
  go_ret
  have m0 := DirAt.made Try.prog w kStr
  have m1 := DirAt.made Try.prog (w.alloc (.map #[] 0)) kStr
  have hs : ((w.alloc (.map #[] 0)).alloc (.map #[] 0)).heap.size = w.heap.size + 1 + 1 := by simp
  have hd := heap_alloc_new ((w.alloc (.map #[] 0)).alloc (.map #[] 0)) (.cells #[.int .i64 (r : Int), .int .i64 0, .map (some w.heap.size), .map (some (w.heap.size + 1)), .slice none 0 0] tDrive)
  rw [hs] at hd
  refine ⟨_, rfl, ?_, ⟨_, _, fresh_dv w r (a := w.heap.size) (b := w.heap.size + 1) hd ?_ ?_ ?_ ?_ ?_ ?_⟩, ?_⟩
  · omega
  · refine m0.same fun b hb => (heap_alloc_old _ _ ?_).trans (heap_alloc_old _ _ (m0.lt hb))
    have := m0.lt hb; simp at this ⊢; omega
  · rw [show (w.alloc (.map #[] 0)).heap.size = w.heap.size + 1 by simp] at m1
    exact m1.same fun b hb => heap_alloc_old _ _ (m1.lt hb)
  · omega
  · omega
  · omega
  · omega
  · exact (((Below.refl _ _).alloc (Nat.le_refl _) _).alloc (by simp) _).alloc (by simp; omega) _
theorem new_any (r : Nat) (hr : r ≤ 1073741824) (m N : Nat) (w : World) : Calls Try.prog 57 #[.int .i64 (r : Int)] w fun x w' => ∃ d, x = .returned (.pointer (some ⟨d, 0, none⟩)) ∧ w.heap.size ≤ d ∧ Dv w' (fun k => w.heap.size ≤ k ∧ k < w'.heap.size) d (D.fresh r) m N ∧ Below w.heap.size w w' := by
  refine (new_dv r hr w).mono ?_
  rintro x w' ⟨d, a, b, rfl, h1, h2, h3⟩
  exact ⟨d, rfl, h1, ⟨D.Ok.fresh hr m N, _, _, _, _, _, _, h2⟩, h3⟩
set_option maxRecDepth 100000 in
theorem new_not (r : Int) (hr : okRoom r = false) (w : World) : Calls Try.prog 57 #[.int .i64 r] w fun x w' => x = .returned (.pointer none) ∧ w = w' := by
  have hr' : r < 0 ∨ 1073741824 < r := by
    have := of_decide_eq_false hr
    omega
  rcases hr' with h | h
  · go_enter Try.func57, Try.ntmps57
    go_wp2
    go_ret
    exact ⟨rfl, rfl⟩
  · have h0 : ¬ r < 0 := by omega
    go_enter Try.func57, Try.ntmps57
    go_wp2
    go_ret
    exact ⟨rfl, rfl⟩

/-- A change's cells, its bodies at these blocks. -/
def cS (c : List (Bs × Option Nat)) : List Value := c.flatMap fun s => [encStr s.1, ptr s.2]
theorem cS_len (c : List (Bs × Option Nat)) : (cS c).length = c.length * 2 := by
  induction c with
  | nil => rfl
  | cons s r ih =>
    unfold cS at ih ⊢
    rw [List.flatMap_cons, List.length_append, ih]
    simp only [List.length_cons, List.length_nil]; omega
theorem cS_at : ∀ (c : List (Bs × Option Nat)) (i : Nat) (s : Bs × Option Nat), c[i]? = some s → (cS c)[i * 2]? = some (encStr s.1) ∧ (cS c)[i * 2 + 1]? = some (ptr s.2)
  | [], _, _, h => by cases h
  | x :: r, 0, s, h => by injection h with h; subst h; exact ⟨rfl, rfl⟩
  | x :: r, i + 1, s, h => by
    have := cS_at r i s h
    rw [show (i + 1) * 2 = i * 2 + 1 + 1 by omega]
    exact this
theorem cStep_cS (β : Nat → Nat) (c : List (Bs × Option Nat)) : cStep β c = cS (c.map fun s => (s.1, s.2.map β)) := by
  unfold cStep cS
  rw [List.flatMap_map]
theorem apply_at (β : Nat → Nat) (c : List (Bs × Option Nat)) : ∀ l : Dir, apply (at_ β l) (c.map fun s => (s.1, s.2.map β)) = at_ β (apply l c) := by
  induction c with
  | nil => intro l; rfl
  | cons s r ih =>
    intro l
    show apply (put (at_ β l) s.1 (s.2.map β)) _ = at_ β (apply (put l s.1 s.2) r)
    rw [put_at, ih]
/-- A step read whole. -/
theorem wpList_loadStep {ops : Array Oper} {rest : List Oper} {o : Oper} {a : Act} {w : World} {Q : Exit → Act → World → Prop} (hg : o.guard = none) (x : Operand) (ho : o.op = .load tStep x) (b off : Nat) (hx : a.eval x = .pointer (some ⟨b, off, none⟩)) {nm : Bs} {p : Option Addr}
    (c0 : w.cell? ⟨b, off, none⟩ = some (.string ⟨nm.toArray⟩)) (c1 : w.cell? ⟨b, off + 1, none⟩ = some (.pointer p))
    (h : wpList Try.prog ops Q rest (a.put o.dst (.agg #[.string ⟨nm.toArray⟩, .pointer p])) w) : wpList Try.prog ops Q (o :: rest) a w := by
  refine wpList_load_mid hg tStep x ho b off hx [.string ⟨nm.toArray⟩, .pointer p] _ (fun j v hv => ?_) Try.underlying150 rfl (by kernel_rfl) h
  match j, hv with
  | 0, hv => cases hv; exact c0
  | 1, hv => cases hv; exact c1
  | j + 2, hv => cases hv
theorem own_cells {w : World} {base : Nat} {e : TypeId} {n : Nat} {v : Value} {c : List (Bs × Option Nat)} (h : w.ownsRow base e 2 v n (cS c)) (hn : c.length = n) {i : Nat} {s : Bs × Option Nat} (hs : c[i]? = some s) :
    ∃ g cap, v = .slice (some ⟨g, 0, none⟩) n cap ∧ w.cell? ⟨g, i * 2, none⟩ = some (encStr s.1) ∧ w.cell? ⟨g, i * 2 + 1, none⟩ = some (ptr s.2) := by
  have hi : i < c.length := (List.getElem?_eq_some_iff.1 hs).1
  rcases h.2 with ⟨_, h0⟩ | ⟨g, cap, cur, rfl, _, hg, _, _, _, ht⟩
  · omega
  · refine ⟨g, cap, rfl, ?_, ?_⟩
    · rw [cell_of_row w g _ _ _ _ hg, ← Array.getElem?_toList, ← List.getElem?_take_of_lt (show i * 2 < n * 2 by omega), ht]
      exact (cS_at c i s hs).1
    · rw [cell_of_row w g _ _ _ _ hg, ← Array.getElem?_toList, ← List.getElem?_take_of_lt (show i * 2 + 1 < n * 2 by omega), ht]
      exact (cS_at c i s hs).2
end Go.Proofs.Ytelgcmcnebncmaa.Dr
namespace Go.Proofs.Ytelgcmcnebncmaa.Dr
open Go.RowKit Go.Proofs Go.Proofs.Ytelgcmcnebncmaa.Ring

theorem apply_snoc (l : Dir) (c : List (Bs × Option Nat)) {i : Nat} {s : Bs × Option Nat} (h : c[i]? = some s) : apply l (c.take (i + 1)) = put (apply l (c.take i)) s.1 s.2 := by
  rw [List.take_add_one, h]
  unfold apply
  rw [List.foldl_append]
  rfl
theorem len_apply_le (c : List (Bs × Option Nat)) : ∀ l : Dir, (apply l c).length ≤ l.length + c.length := by
  induction c with
  | nil => intro l; exact Nat.le_add_right _ _
  | cons s r ih =>
    intro l
    have h1 := ih (put l s.1 s.2)
    have h2 := len_put_le l s.1 s.2
    show (apply (put l s.1 s.2) r).length ≤ l.length + (r.length + 1)
    omega
set_option maxRecDepth 100000 in
set_option maxHeartbeats 1000000 in
theorem apply_gen {w : World} {b n base : Nat} {l : Dir} {v : Value} {c : List (Bs × Option Nat)} (h : DirAt Try.prog kStr w (.map (some b)) l) (hv : w.ownsRow base tStep 2 v n (cS c)) (hn : c.length = n) (hk : ∀ s ∈ c, s.1.length ≤ maxLen) (hl : l.length + c.countP (fun s => s.2.isSome) < maxLen) :
    Calls Try.prog 85 #[.map (some b), v] w fun x w' => x = .returned (.tuple #[]) ∧ DirAt Try.prog kStr w' (.map (some b)) (apply l c) ∧ Kept w w' (fun k => k = b) := by
  obtain ⟨A, cap, rfl, hb1, hb2⟩ := own_form hv
  have hnb : n ≤ 9223372036854775807 := by unfold maxLen at hb2; omega
  clear hb1 hb2
  have HV := Lib.hid hv
  have HN := Lib.hid hn
  have HL := Lib.hid hl
  have HK := Lib.hid hk
  have H := Lib.hid h
  have hb : b < w.heap.size := h.lt rfl
  have hbt : ∀ g cur e fr, w.heap[g]? = some (.cells cur e fr) → b ≠ g := fun g cur e fr hg => h.apart rfl hg
  clear hv hn hl hk h
  go_enter Try.func85, Try.ntmps85
  go_wp2
  go_loopw [8] (fun iv wr => ∃ i : Nat, iv = .int .i64 (i : Int) ∧ i ≤ n ∧ DirAt Try.prog kStr wr (.map (some b)) (apply l (c.take i)) ∧ Kept w wr (fun k => k = b)) (fun iv _ => n - (intOf iv).toNat)
  case atStart => exact ⟨0, rfl, by omega, H.out, Kept.refl _ _⟩
  case round =>
    obtain ⟨i, rfl, hi, hd, hkp⟩ := hrel
    by_cases hlt : i < n
    · obtain ⟨s, hs⟩ : ∃ s, c[i]? = some s := ⟨_, List.getElem?_eq_getElem (by have := HN.out; omega)⟩
      obtain ⟨g, cap', e, c0, c1⟩ := own_cells HV.out HN.out hs
      injection e with e1 e2 e3
      subst e1 e3
      obtain ⟨nm, dst⟩ := s
      have hg : ∃ cur, w.heap[g]? = some (.cells cur tStep (0, 0)) := own_lt HV.out rfl
      have hgb : wr.heap[g]? = w.heap[g]? := by
        obtain ⟨cur, hg⟩ := hg
        exact hkp.block g (Array.getElem?_eq_some_iff.1 hg).1 (fun e => hbt _ _ _ _ hg e.symm)
      have hnk : nm.length ≤ maxLen := HK.out _ (List.mem_of_getElem? hs)
      have d0 : wr.cell? ⟨g, i * 2, none⟩ = some (.string ⟨nm.toArray⟩) := (World.cell?_of_block hgb).trans c0
      have d1 : wr.cell? ⟨g, i * 2 + 1, none⟩ = some (ptr dst) := (World.cell?_of_block hgb).trans c1
      have hlt2 : (i : Int) < (n : Int) := by omega
      have HS := Lib.hid hs
      have HD := Lib.hid hd
      have HKP := Lib.hid hkp
      have hln : (apply l (c.take i)).length < maxLen := by
        have h1 := len_apply (c.take i) l
        have h2 := HL.out
        have h3 := (List.take_sublist i c).countP_le (p := fun s : Bs × Option Nat => s.2.isSome)
        omega
      clear c0 c1 hs hd hkp hg hgb
      cases dst with
      | none =>
        go_wp2_with (first
          | (refine wpList_loadStep rfl (.tmp 10) rfl g (i * 2) rfl d0 d1 ?_)
          | (refine wp_drop (HD.out.same (w' := wr.alloc (.cells #[.string ⟨nm.toArray⟩, .pointer none] tStep)) fun x hx => heap_alloc_old _ _ (HD.out.lt hx)) keyed rfl (.tmp 15) (.tmp 17) 104 rfl undirU rfl rfl (key_of hnk) ?_; intro w2 hd2 hg2 hs2))
        have HD2 := Lib.hid hd2
        have HG2 := Lib.hid hg2
        clear hd2 hg2 hs2 d0 d1
        go_wp2
        go_roundw
        case rel => exact ⟨i + 1, by go_num, by omega, by rw [apply_snoc l c HS.out]; exact HD2.out, (HKP.out.below ((Below.refl _ _).alloc (Nat.le_refl _) (.cells #[.string ⟨nm.toArray⟩, .pointer none] tStep))).grown HG2.out fun x hx => .inl (by simpa [mapBlock] using hx.symm)⟩
        case measure => simp [intOf]; omega
      | some t =>
        go_wp2_with (first
          | (refine wpList_loadStep rfl (.tmp 10) rfl g (i * 2) rfl d0 d1 ?_)
          | (refine wp_put (HD.out.same (w' := wr.alloc (.cells #[.string ⟨nm.toArray⟩, .pointer (some ⟨t, 0, none⟩)] tStep)) fun x hx => heap_alloc_old _ _ (HD.out.lt hx)) keyed rfl (.tmp 18) (.tmp 20) (.tmp 22) 104 rfl undirU hln rfl rfl (key_of hnk) t rfl ?_; intro w2 hd2 hg2 hs2))
        have HD2 := Lib.hid hd2
        have HG2 := Lib.hid hg2
        clear hd2 hg2 hs2 d0 d1
        go_wp2
        go_roundw
        case rel => exact ⟨i + 1, by go_num, by omega, by rw [apply_snoc l c HS.out]; exact HD2.out, (HKP.out.below ((Below.refl _ _).alloc (Nat.le_refl _) (.cells #[.string ⟨nm.toArray⟩, .pointer (some ⟨t, 0, none⟩)] tStep))).grown HG2.out fun x hx => .inl (by simpa [mapBlock] using hx.symm)⟩
        case measure => simp [intOf]; omega
    · obtain rfl : n = i := by omega
      go_wp2
      refine bodyPost_end (v := .tuple #[]) (by simp [results, Try.results85, go_sem]) rfl ?_
      rw [List.take_of_length_le (by have := HN.out; omega)] at hd
      exact ⟨rfl, hd, hkp⟩
theorem apply_any {w : World} {b n base : Nat} {l : Dir} {v : Value} {c : List (Bs × Option Nat)} (h : DirAt Try.prog kStr w (.map (some b)) l) (hv : w.ownsRow base tStep 2 v n (cS c)) (hn : c.length = n) (hk : ∀ s ∈ c, s.1.length ≤ maxLen) (hl : l.length + n < maxLen) :
    Calls Try.prog 85 #[.map (some b), v] w fun x w' => x = .returned (.tuple #[]) ∧ DirAt Try.prog kStr w' (.map (some b)) (apply l c) ∧ Kept w w' (fun k => k = b) :=
  apply_gen h hv hn hk (by have := List.countP_le_length (p := fun s : Bs × Option Nat => s.2.isSome) (l := c); omega)
end Go.Proofs.Ytelgcmcnebncmaa.Dr
