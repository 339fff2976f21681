/- A drive in memory: what its blocks say. -/
import Derived.Test.YtelgcmcnebncmaaDrv2
import Derived.Test.YtelgcmcnebncmaaDmap
import Derived.Test.YtelgcmcnebncmaaBase2
import Derived.Test.YtelgcmcnebncmaaRegS
import Derived.Test.YtelgcmcnebncmaaProg
import Derived.Test.YtelgcmcnebncmaaChecked
import Derived.WalkKit
import Derived.Lib.Hide
namespace Go.Proofs.Ytelgcmcnebncmaa.Dr
open Go.RowKit Go.Proofs Go.Proofs.Ytelgcmcnebncmaa.Ring

abbrev tDrive := 107
abbrev tBody := 147
abbrev tStep := 150
abbrev tSteps := 142
abbrev kStr := 9
abbrev tU8 := 5

theorem own_same {w w' : World} {base : Nat} {e : TypeId} {size n : Nat} {v : Value} {xs : List Value} (h : w.ownsRow base e size v n xs) (hw : ∀ g, v.ownBlock = some g → w'.heap[g]? = w.heap[g]?) : w'.ownsRow base e size v n xs := by
  refine ⟨h.1, ?_⟩
  rcases h.2 with h1 | ⟨g, cap, cur, rfl, hb, hg, r⟩
  · exact .inl h1
  · exact .inr ⟨g, cap, cur, rfl, hb, (hw g rfl).trans hg, r⟩
theorem own_lt {w : World} {base : Nat} {e : TypeId} {size n : Nat} {v : Value} {xs : List Value} (h : w.ownsRow base e size v n xs) {g : Nat} (hg : v.ownBlock = some g) : ∃ cur, w.heap[g]? = some (.cells cur e (0, 0)) := by
  rcases h.2 with ⟨rfl, _⟩ | ⟨g', cap, cur, rfl, _, hb, _⟩
  · cases hg
  · obtain rfl : g' = g := by simpa [Value.ownBlock] using hg
    exact ⟨cur, hb⟩
theorem own_any {w : World} {base base' : Nat} {e : TypeId} {size n : Nat} {v : Value} {xs : List Value} (h : w.ownsRow base e size v n xs) (hb : ∀ g, v.ownBlock = some g → base' ≤ g) : w.ownsRow base' e size v n xs := by
  refine ⟨h.1, ?_⟩
  rcases h.2 with h1 | ⟨g, cap, cur, rfl, _, hg, r⟩
  · exact .inl h1
  · exact .inr ⟨g, cap, cur, rfl, hb g rfl, hg, r⟩

/-- A change as cells. -/
def cStep (β : Nat → Nat) (c : List (Bs × Option Nat)) : List Value := c.flatMap fun s => [encStr s.1, ptr (s.2.map β)]
theorem cStep_congr {β β' : Nat → Nat} {n : Nat} (h : ∀ i, i < n → β' i = β i) {c : List (Bs × Option Nat)} (hc : ∀ s ∈ c, ∀ i, s.2 = some i → i < n) : cStep β' c = cStep β c := by
  unfold cStep
  induction c with
  | nil => rfl
  | cons s r ih =>
    rw [List.flatMap_cons, List.flatMap_cons, ih fun x hx => hc x (by simp [hx])]
    congr 2
    cases hs : s.2 with
    | none => rfl
    | some i => simp [h i (hc s (by simp) i hs)]
/-- A directory whose bodies lie at these blocks. -/
def at_ (β : Nat → Nat) (l : Dir) : Dir := l.map fun p => (p.1, β p.2)
theorem at_congr {β β' : Nat → Nat} {n : Nat} (h : ∀ i, i < n → β' i = β i) {l : Dir} (hl : ∀ p ∈ l, p.2 < n) : at_ β' l = at_ β l :=
  List.map_congr_left fun p hp => by rw [h _ (hl p hp)]
theorem find_at (β : Nat → Nat) (l : Dir) (k : Bs) : find (at_ β l) k = (find l k).map β := by
  unfold find at_
  rw [List.find?_map]
  simp only [Function.comp_def, Option.map_map]
theorem ins_at (β : Nat → Nat) (x : Bs × Nat) (l : Dir) : ins (x.1, β x.2) (at_ β l) = at_ β (ins x l) := by
  induction l with
  | nil => rfl
  | cons y r ih =>
    show ins _ ((y.1, β y.2) :: at_ β r) = _
    by_cases hb : bytesBefore x.1 y.1 = true
    · rw [show ins x (y :: r) = x :: y :: r from if_pos hb]
      exact if_pos hb
    · rw [show ins x (y :: r) = y :: ins x r from if_neg hb]
      show _ = (y.1, β y.2) :: at_ β (ins x r)
      rw [← ih]
      exact if_neg hb
theorem del_at (β : Nat → Nat) (l : Dir) (k : Bs) : del (at_ β l) k = at_ β (del l k) := by
  unfold del at_
  rw [List.filter_map]
  rfl
theorem put_at (β : Nat → Nat) (l : Dir) (k : Bs) (x : Option Nat) : put (at_ β l) k (x.map β) = at_ β (put l k x) := by
  cases x with
  | none => exact del_at β l k
  | some b =>
    show ins (k, β b) (del (at_ β l) k) = at_ β (ins (k, b) (del l k))
    rw [del_at]
    exact ins_at β (k, b) (del l k)

/-- The drive at block d shows D: its bodies lie at β, their bytes are the slices vs. -/
structure DvAt (w : World) (S : Nat → Prop) (d : Nat) (D : D) (u : Int) (β : Nat → Nat) (vs : Nat → Value) (nv kv pv : Value) (ss : List Value) : Prop where
  head : w.heap[d]? = some (.cells #[.int .i64 (D.room : Int), .int .i64 u, nv, kv, pv] tDrive (0, 0))
  now : DirAt Try.prog kStr w nv (at_ β D.now)
  kept : DirAt Try.prog kStr w kv (at_ β D.kept)
  apart : ∀ b, mapBlock nv = some b → mapBlock kv ≠ some b
  both : mapBlock nv = none ↔ mapBlock kv = none
  inj : ∀ i j, i < D.bd.length → j < D.bd.length → β i = β j → i = j
  body : ∀ i, i < D.bd.length → w.heap[β i]? = some (.cells #[vs i, .int .i64 ((D.at i).safe : Int)] tBody (0, 0))
  row : ∀ i, i < D.bd.length → w.ownsRow 0 tU8 1 (vs i) (D.at i).data.length (cU8 (D.at i).data)
  own : ∀ i j g, i < D.bd.length → j < D.bd.length → (vs i).ownBlock = some g → (vs j).ownBlock = some g → i = j
  pend : w.ownsRow 0 tSteps 1 pv D.pend.length ss
  steps : ∀ (j : Nat) (c : List (Bs × Option Nat)) (s : Value), D.pend[j]? = some c → ss[j]? = some s → w.ownsRow 0 tStep 2 s c.length (cStep β c)
  inD : S d
  inN : ∀ b, mapBlock nv = some b → S b
  inK : ∀ b, mapBlock kv = some b → S b
  inB : ∀ i, i < D.bd.length → S (β i)
  inV : ∀ i g, i < D.bd.length → (vs i).ownBlock = some g → S g
  inP : ∀ g, pv.ownBlock = some g → S g
  inS : ∀ s ∈ ss, ∀ g, s.ownBlock = some g → S g
  low : ∀ k, S k → k < w.heap.size
  live : mapBlock nv = none → D.pend = []
/-- A drive shows D. -/
def Dv (w : World) (S : Nat → Prop) (d : Nat) (D : D) (m N : Nat) : Prop := D.Ok m N ∧ ∃ β vs nv kv pv ss, DvAt w S d D (wrap64 (D.used : Int)) β vs nv kv pv ss
/-- What a call does. -/
def Turn (w w' : World) (S : Nat → Prop) (d : Nat) (D : D) (m N : Nat) : Prop := ∃ S', Dv w' S' d D m N ∧ Kept w w' S ∧ ∀ k, S' k → S k ∨ w.heap.size ≤ k

section
variable {w w' : World} {S : Nat → Prop} {d : Nat} {D : D} {u : Int} {β : Nat → Nat} {vs : Nat → Value} {nv kv pv : Value} {ss : List Value} {m N : Nat}
theorem DvAt.same (h : DvAt w S d D u β vs nv kv pv ss) (hw : ∀ k, S k → w'.heap[k]? = w.heap[k]?) (hs : w.heap.size ≤ w'.heap.size) : DvAt w' S d D u β vs nv kv pv ss :=
  ⟨(hw d h.inD).trans h.head, h.now.same fun b hb => hw b (h.inN b hb), h.kept.same fun b hb => hw b (h.inK b hb), h.apart, h.both, h.inj,
    fun i hi => (hw _ (h.inB i hi)).trans (h.body i hi), fun i hi => own_same (h.row i hi) fun g hg => hw g (h.inV i g hi hg), h.own,
    own_same h.pend fun g hg => hw g (h.inP g hg), fun j c s hc hj => own_same (h.steps j c s hc hj) fun g hg => hw g (h.inS s (List.mem_of_getElem? hj) g hg),
    h.inD, h.inN, h.inK, h.inB, h.inV, h.inP, h.inS, fun k hk => Nat.lt_of_lt_of_le (h.low k hk) hs, h.live⟩
theorem Dv.kept (h : Dv w S d D m N) {U : Nat → Prop} (hk : Kept w w' U) (hd : ∀ k, S k → ¬ U k) : Dv w' S d D m N := by
  obtain ⟨h0, β, vs, nv, kv, pv, ss, h1⟩ := h
  exact ⟨h0, β, vs, nv, kv, pv, ss, h1.same (fun k hs => hk.block k (h1.low k hs) (hd k hs)) hk.size⟩
theorem Dv.below (h : Dv w S d D m N) (hb : Below w.heap.size w w') : Dv w' S d D m N := h.kept (U := fun _ => False) (Kept.of_below _ hb) fun _ _ h => h
theorem Dv.low (h : Dv w S d D m N) : ∀ k, S k → k < w.heap.size := by
  obtain ⟨_, _, _, _, _, _, _, h1⟩ := h
  exact h1.low
theorem Dv.mono (h : Dv w S d D m N) {m' N' : Nat} (hm : m ≤ m') (hN : N ≤ N') : Dv w S d D m' N' := ⟨h.1.mono hm hN, h.2⟩
theorem Turn.mono (h : Turn w w' S d D m N) {m' N' : Nat} (hm : m ≤ m') (hN : N ≤ N') : Turn w w' S d D m' N' := by
  obtain ⟨S', h1, h2, h3⟩ := h
  exact ⟨S', h1.mono hm hN, h2, h3⟩
theorem Turn.refl (h : Dv w S d D m N) : Turn w w S d D m N := ⟨S, h, Kept.refl _ _, fun _ hk => .inl hk⟩
theorem Turn.of_below (h : Dv w S d D m N) (hb : Below w.heap.size w w') : Turn w w' S d D m N := ⟨S, h.below hb, Kept.of_below _ hb, fun _ hk => .inl hk⟩
theorem Turn.then {w1 w2 : World} (h : Turn w w1 S d D m N) (hb : Below w1.heap.size w1 w2) : Turn w w2 S d D m N := by
  obtain ⟨S', h1, h2, h3⟩ := h
  exact ⟨S', h1.below hb, h2.below hb, h3⟩
theorem Turn.undrew (h : Turn w.drew w' S d D m N) : Turn w w' S d D m N := by
  obtain ⟨S', h1, h2, h3⟩ := h
  exact ⟨S', h1, ⟨h2.os, h2.tape, h2.output, h2.size, h2.block⟩, h3⟩
/-- The drive's own cells. -/
theorem DvAt.cells (h : DvAt w S d D u β vs nv kv pv ss) : w.cell? ⟨d, 0, none⟩ = some (.int .i64 (D.room : Int)) ∧ w.cell? ⟨d, 1, none⟩ = some (.int .i64 u) ∧ w.cell? ⟨d, 2, none⟩ = some nv ∧ w.cell? ⟨d, 3, none⟩ = some kv ∧ w.cell? ⟨d, 4, none⟩ = some pv ∧
    w.frozen? ⟨d, 0, none⟩ = false ∧ w.frozen? ⟨d, 1, none⟩ = false ∧ w.frozen? ⟨d, 2, none⟩ = false ∧ w.frozen? ⟨d, 3, none⟩ = false ∧ w.frozen? ⟨d, 4, none⟩ = false := by
  refine ⟨?_, ?_, ?_, ?_, ?_, ?_, ?_, ?_, ?_, ?_⟩ <;> first | (rw [cell_of_row w d _ _ _ _ h.head]; rfl) | (unfold World.frozen?; rw [show w.heap[(⟨d, _, none⟩ : Addr).block]? = _ from h.head]; simp)
theorem DvAt.bcells (h : DvAt w S d D u β vs nv kv pv ss) {i : Nat} (hi : i < D.bd.length) : w.cell? ⟨β i, 0, none⟩ = some (vs i) ∧ w.cell? ⟨β i, 1, none⟩ = some (.int .i64 ((D.at i).safe : Int)) ∧ w.frozen? ⟨β i, 0, none⟩ = false ∧ w.frozen? ⟨β i, 1, none⟩ = false := by
  have hb := h.body i hi
  refine ⟨?_, ?_, ?_, ?_⟩ <;> first | (rw [cell_of_row w (β i) _ _ _ _ hb]; rfl) | (unfold World.frozen?; rw [show w.heap[(⟨β i, _, none⟩ : Addr).block]? = _ from hb]; simp)
theorem DvAt.d_not (h : DvAt w S d D u β vs nv kv pv ss) : (∀ b, mapBlock nv = some b → b ≠ d) ∧ (∀ b, mapBlock kv = some b → b ≠ d) ∧ (∀ i, i < D.bd.length → β i ≠ d) ∧ (∀ i g, i < D.bd.length → (vs i).ownBlock = some g → g ≠ d) ∧ (∀ g, pv.ownBlock = some g → g ≠ d) ∧ ∀ (j : Nat) (c : List (Bs × Option Nat)) (s : Value), D.pend[j]? = some c → ss[j]? = some s → ∀ g, s.ownBlock = some g → g ≠ d := by
  refine ⟨fun b hb => h.now.apart hb h.head, fun b hb => h.kept.apart hb h.head, fun i hi e => ?_, fun i g hi hg e => ?_, fun g hg e => ?_, fun j c s hc hs g hg e => ?_⟩
  · have h1 := h.body i hi
    rw [e, h.head] at h1
    injection h1 with h1
    injection h1 with _ h2 _
    revert h2; decide
  · obtain ⟨cur, h1⟩ := own_lt (h.row i hi) hg
    rw [e, h.head] at h1
    injection h1 with h1
    injection h1 with _ h2 _
    revert h2; decide
  · obtain ⟨cur, h1⟩ := own_lt h.pend hg
    rw [e, h.head] at h1
    injection h1 with h1
    injection h1 with _ h2 _
    revert h2; decide
  · obtain ⟨cur, h1⟩ := own_lt (h.steps j c s hc hs) hg
    rw [e, h.head] at h1
    injection h1 with h1
    injection h1 with _ h2 _
    revert h2; decide
/-- The drive's own block alone has turned. -/
theorem DvAt.headed (h : DvAt w S d D u β vs nv kv pv ss) {u' : Int} (hd : w'.heap[d]? = some (.cells #[.int .i64 (D.room : Int), .int .i64 u', nv, kv, pv] tDrive (0, 0))) (hw : ∀ k, S k → k ≠ d → w'.heap[k]? = w.heap[k]?) (hs : w.heap.size ≤ w'.heap.size) : DvAt w' S d D u' β vs nv kv pv ss := by
  obtain ⟨n1, n2, n3, n4, n5, n6⟩ := h.d_not
  exact ⟨hd, h.now.same fun b hb => hw b (h.inN b hb) (n1 b hb), h.kept.same fun b hb => hw b (h.inK b hb) (n2 b hb), h.apart, h.both, h.inj,
    fun i hi => (hw _ (h.inB i hi) (n3 i hi)).trans (h.body i hi), fun i hi => own_same (h.row i hi) fun g hg => hw g (h.inV i g hi hg) (n4 i g hi hg), h.own,
    own_same h.pend fun g hg => hw g (h.inP g hg) (n5 g hg), fun j c s hc hj => own_same (h.steps j c s hc hj) fun g hg => hw g (h.inS s (List.mem_of_getElem? hj) g hg) (n6 j c s hc hj g hg),
    h.inD, h.inN, h.inK, h.inB, h.inV, h.inP, h.inS, fun k hk => Nat.lt_of_lt_of_le (h.low k hk) hs, h.live⟩
theorem DvAt.used (h : DvAt w S d D u β vs nv kv pv ss) (u' : Int) : DvAt (w.setCell ⟨d, 1, none⟩ (.int .i64 u')) S d D u' β vs nv kv pv ss :=
  h.headed (heap_same h.head _) (fun k _ hk => Below.heap_setCell w _ _ k hk) (by simp [World.setCell])
/-- What stands is another list, in the same map. -/
theorem DvAt.stands (h : DvAt w S d D u β vs nv kv pv ss) {b : Nat} (hb : mapBlock nv = some b) {l : Dir} (hl : DirAt Try.prog kStr w' nv (at_ β l)) (hk : Kept w w' (fun k => k = b)) : DvAt w' S d { D with now := l } u β vs nv kv pv ss := by
  have hne : ∀ (g : Nat) (cur : Array Value) (e : TypeId) (fr : Nat × Nat), w.heap[g]? = some (.cells cur e fr) → w'.heap[g]? = w.heap[g]? := fun g cur e fr hg => hk.block g (Array.getElem?_eq_some_iff.1 hg).1 fun e => h.now.apart hb hg e.symm
  refine ⟨(hne d _ _ _ h.head).trans h.head, hl, h.kept.same fun x hx => hk.block x (h.kept.lt hx) fun e => h.apart b hb (e ▸ hx), h.apart, h.both, h.inj, fun i hi => (hne _ _ _ _ (h.body i hi)).trans (h.body i hi), fun i hi => own_same (h.row i hi) fun g hg => ?_, h.own,
    own_same h.pend fun g hg => ?_, fun j c s hc hj => own_same (h.steps j c s hc hj) fun g hg => ?_, h.inD, h.inN, h.inK, h.inB, h.inV, h.inP, h.inS, fun k hk' => Nat.lt_of_lt_of_le (h.low k hk') hk.size, h.live⟩
  · obtain ⟨cur, h1⟩ := own_lt (h.row i hi) hg
    exact hne g _ _ _ h1
  · obtain ⟨cur, h1⟩ := own_lt h.pend hg
    exact hne g _ _ _ h1
  · obtain ⟨cur, h1⟩ := own_lt (h.steps j c s hc hj) hg
    exact hne g _ _ _ h1
/-- A row that has just been laid. -/
theorem own_new (w : World) {base : Nat} (hb : base ≤ w.heap.size) (e : TypeId) (size n : Nat) (xs : List Value) (hx : xs.length = n * size) (hn : n ≤ maxLen) : (w.alloc (.cells xs.toArray e)).ownsRow base e size (.slice (some ⟨w.heap.size, 0, none⟩) n n) n xs :=
  ⟨hx, .inr ⟨w.heap.size, n, xs.toArray, rfl, hb, heap_alloc_new w _, Nat.le_refl _, hn, by simpa using hx, by rw [← hx]; simp⟩⟩
theorem own_alloc {w : World} {base : Nat} {e : TypeId} {size n : Nat} {v : Value} {xs : List Value} (h : w.ownsRow base e size v n xs) (o : Obj) : (w.alloc o).ownsRow base e size v n xs :=
  own_same h fun g hg => by obtain ⟨cur, h1⟩ := own_lt h hg; exact heap_alloc_old _ _ (Array.getElem?_eq_some_iff.1 h1).1
/-- Maps are made where there were none. -/
theorem DvAt.woken (h : DvAt w S d D u β vs (.map none) (.map none) pv ss) :
    DvAt ((((w.alloc (.map #[] 0)).alloc (.map #[] 0)).setCell ⟨d, 2, none⟩ (.map (some w.heap.size))).setCell ⟨d, 3, none⟩ (.map (some (w.heap.size + 1)))) (fun k => S k ∨ k = w.heap.size ∨ k = w.heap.size + 1) d D u β vs (.map (some w.heap.size)) (.map (some (w.heap.size + 1))) pv ss := by
  have e1 : at_ β D.now = [] := by
    rcases h.now with ⟨_, h1⟩ | ⟨b, h1, _⟩
    · exact h1
    · cases h1
  have e2 : at_ β D.kept = [] := by
    rcases h.kept with ⟨_, h1⟩ | ⟨b, h1, _⟩
    · exact h1
    · cases h1
  have hd : d < w.heap.size := (Array.getElem?_eq_some_iff.1 h.head).1
  obtain ⟨w2, hw2⟩ : ∃ w2, (w.alloc (.map #[] 0)).alloc (.map #[] 0) = w2 := ⟨_, rfl⟩
  have hsz : w2.heap.size = w.heap.size + 1 + 1 := by rw [← hw2]; simp
  have hold : ∀ k, k < w.heap.size → w2.heap[k]? = w.heap[k]? := fun k hk => by rw [← hw2]; exact (heap_alloc_old _ _ (by simp; omega)).trans (heap_alloc_old _ _ hk)
  have m0 : DirAt Try.prog kStr w2 (.map (some w.heap.size)) [] := by
    have := DirAt.made Try.prog w kStr
    rw [← hw2]
    exact this.same fun b hb => heap_alloc_old _ _ (this.lt hb)
  have m1 : DirAt Try.prog kStr w2 (.map (some (w.heap.size + 1))) [] := by
    have := DirAt.made Try.prog (w.alloc (.map #[] 0)) kStr
    rw [show (w.alloc (.map #[] 0)).heap.size = w.heap.size + 1 by simp, hw2] at this
    exact this
  rw [hw2]
  have hw : ∀ k, k ≠ d → ((w2.setCell ⟨d, 2, none⟩ (.map (some w.heap.size))).setCell ⟨d, 3, none⟩ (.map (some (w.heap.size + 1)))).heap[k]? = w2.heap[k]? := fun k hk => (Below.heap_setCell _ _ _ k hk).trans (Below.heap_setCell _ _ _ k hk)
  obtain ⟨_, _, n3, n4, n5, n6⟩ := h.d_not
  have hin : ∀ {k}, S k → k ≠ d → ((w2.setCell ⟨d, 2, none⟩ (.map (some w.heap.size))).setCell ⟨d, 3, none⟩ (.map (some (w.heap.size + 1)))).heap[k]? = w.heap[k]? := fun hk hne => (hw _ hne).trans (hold _ (h.low _ hk))
  refine ⟨heap_same (heap_same ((hold d hd).trans h.head) _) _, ?_, ?_, fun b hb e => ?_, ?_, h.inj, fun i hi => (hin (h.inB i hi) (n3 i hi)).trans (h.body i hi), fun i hi => own_same (h.row i hi) fun g hg => hin (h.inV i g hi hg) (n4 i g hi hg), h.own,
    own_same h.pend fun g hg => hin (h.inP g hg) (n5 g hg), fun j c s hc hj => own_same (h.steps j c s hc hj) fun g hg => hin (h.inS s (List.mem_of_getElem? hj) g hg) (n6 j c s hc hj g hg), .inl h.inD, fun b hb => ?_, fun b hb => ?_, fun i hi => .inl (h.inB i hi), fun i g hi hg => .inl (h.inV i g hi hg), fun g hg => .inl (h.inP g hg), fun s hs g hg => .inl (h.inS s hs g hg), fun k hk => ?_, fun e => (by simp [mapBlock] at e)⟩
  · rw [e1]; exact m0.same fun b hb => hw b (by simp [mapBlock] at hb; omega)
  · rw [e2]; exact m1.same fun b hb => hw b (by simp [mapBlock] at hb; omega)
  · simp [mapBlock] at hb e; omega
  · simp [mapBlock]
  · simp [mapBlock] at hb; exact .inr (.inl hb.symm)
  · simp [mapBlock] at hb; exact .inr (.inr hb.symm)
  · have : ((w2.setCell ⟨d, 2, none⟩ (.map (some w.heap.size))).setCell ⟨d, 3, none⟩ (.map (some (w.heap.size + 1)))).heap.size = w2.heap.size := by simp [World.setCell]
    rw [this, hsz]
    rcases hk with hk | rfl | rfl
    · have := h.low k hk; omega
    · omega
    · omega
/-- A change is put behind the pending ones: w1 is the world behind the append, g the row's block. -/
theorem DvAt.pended {w1 : World} (h : DvAt w S d D u β vs nv kv pv ss) {g n1 cap : Nat} {v : Value} {c : List (Bs × Option Nat)} (hg : w1.ownsRow 0 tSteps 1 (.slice (some ⟨g, 0, none⟩) n1 cap) n1 (ss ++ [v])) (hn1 : n1 = D.pend.length + 1) (hgr : w.grownBy w1 pv.ownBlock) (hat : pv.ownBlock = some g ∨ w.heap.size ≤ g) (hglt : g < w1.heap.size)
    (hv : w.ownsRow 0 tStep 2 v c.length (cStep β c)) (hnv : mapBlock nv ≠ none) :
    DvAt (w1.setCell ⟨d, 4, none⟩ (.slice (some ⟨g, 0, none⟩) n1 cap)) (fun k => S k ∨ v.ownBlock = some k ∨ (k = g ∧ w.heap.size ≤ k)) d { D with pend := D.pend ++ [c] } u β vs nv kv (.slice (some ⟨g, 0, none⟩) n1 cap) (ss ++ [v]) := by
  subst hn1
  have hnp : ∀ k cur e fr, w.heap[k]? = some (.cells cur e fr) → e ≠ tSteps → pv.ownBlock ≠ some k := by
    intro k cur e fr hk he hp
    obtain ⟨cur', h1⟩ := own_lt h.pend hp
    rw [hk] at h1
    injection h1 with h1
    injection h1 with _ h2 _
    exact he h2
  have hnm : ∀ k es clock, w.heap[k]? = some (.map es clock) → pv.ownBlock ≠ some k := by
    intro k es clock hk hp
    obtain ⟨cur', h1⟩ := own_lt h.pend hp
    rw [hk] at h1
    cases h1
  have hold : ∀ k, k < w.heap.size → pv.ownBlock ≠ some k → w1.heap[k]? = w.heap[k]? := fun k hk hne => hgr.block k hk fun e => hne e.symm
  have hgd : g ≠ d := by
    rintro rfl
    have hd := h.head
    rcases hat with h1 | h1
    · exact hnp _ _ _ _ hd (by decide) h1
    · have := (Array.getElem?_eq_some_iff.1 hd).1; omega
  have hset : ∀ k, k ≠ d → (w1.setCell ⟨d, 4, none⟩ (.slice (some ⟨g, 0, none⟩) (D.pend.length + 1) cap)).heap[k]? = w1.heap[k]? := fun k hk => Below.heap_setCell _ _ _ k hk
  have hd1 : w1.heap[d]? = w.heap[d]? := hold d (Array.getElem?_eq_some_iff.1 h.head).1 (hnp _ _ _ _ h.head (by decide))
  obtain ⟨m1, m2, n3, n4, n5, n6⟩ := h.d_not
  have hstep : ∀ {c : List (Bs × Option Nat)} {s : Value}, w.ownsRow 0 tStep 2 s c.length (cStep β c) → (∀ k, s.ownBlock = some k → k ≠ d) → (w1.setCell ⟨d, 4, none⟩ (.slice (some ⟨g, 0, none⟩) (D.pend.length + 1) cap)).ownsRow 0 tStep 2 s c.length (cStep β c) := by
    intro c s hs hne
    refine own_same hs fun k hk => ?_
    obtain ⟨cur, h1⟩ := own_lt hs hk
    exact (hset k (hne k hk)).trans (hold k (Array.getElem?_eq_some_iff.1 h1).1 (hnp _ _ _ _ h1 (by decide)))
  have hvd : ∀ k, v.ownBlock = some k → k ≠ d := by
    rintro k hk rfl
    obtain ⟨cur, h1⟩ := own_lt hv hk
    rw [h.head] at h1
    injection h1 with h1
    injection h1 with _ h2 _
    revert h2; decide
  have hss : ss.length = D.pend.length := by simpa using h.pend.1
  refine ⟨heap_same (hd1.trans h.head) _, h.now.same fun b hb => ?_, h.kept.same fun b hb => ?_, h.apart, h.both, h.inj, fun i hi => ?_, fun i hi => ?_, h.own, ?_, fun j c' s hc hj => ?_, .inl h.inD, fun b hb => .inl (h.inN b hb), fun b hb => .inl (h.inK b hb), fun i hi => .inl (h.inB i hi), fun i g hi hg => .inl (h.inV i g hi hg), fun k hk => ?_, fun s hs k hk => ?_, fun k hk => ?_, fun e => absurd e hnv⟩
  · obtain ⟨es, clock, h1⟩ := h.now.isMap hb
    exact (hset b (m1 b hb)).trans (hold b (h.now.lt hb) (hnm _ _ _ h1))
  · obtain ⟨es, clock, h1⟩ := h.kept.isMap hb
    exact (hset b (m2 b hb)).trans (hold b (h.kept.lt hb) (hnm _ _ _ h1))
  · have hb := h.body i hi
    exact ((hset _ (n3 i hi)).trans (hold _ (Array.getElem?_eq_some_iff.1 hb).1 (hnp _ _ _ _ hb (by decide)))).trans hb
  · refine own_same (h.row i hi) fun k hk => ?_
    obtain ⟨cur, h1⟩ := own_lt (h.row i hi) hk
    exact (hset k (n4 i k hi hk)).trans (hold k (Array.getElem?_eq_some_iff.1 h1).1 (hnp _ _ _ _ h1 (by decide)))
  · show World.ownsRow _ 0 tSteps 1 _ (D.pend ++ [c]).length _
    rw [List.length_append]
    exact own_same hg fun k hk => hset k (by simp [Value.ownBlock] at hk; omega)
  · rcases Nat.lt_or_ge j D.pend.length with hlt | hge
    · rw [List.getElem?_append_left hlt] at hc
      rw [List.getElem?_append_left (by omega)] at hj
      exact hstep (h.steps j c' s hc hj) (n6 j c' s hc hj)
    · have hj0 : j = D.pend.length := by
        have := (List.getElem?_eq_some_iff.1 hc).1
        simp at this; omega
      subst hj0
      rw [List.getElem?_append_right (Nat.le_refl _)] at hc
      rw [List.getElem?_append_right (by omega)] at hj
      simp at hc
      rw [hss] at hj
      simp at hj
      subst hc hj
      exact hstep hv hvd
  · obtain rfl : g = k := by simpa [Value.ownBlock] using hk
    rcases hat with h1 | h1
    · exact .inl (h.inP g h1)
    · exact .inr (.inr ⟨rfl, h1⟩)
  · rcases List.mem_append.1 hs with hs | hs
    · exact .inl (h.inS s hs k hk)
    · obtain rfl : s = v := by simpa using hs
      exact .inr (.inl hk)
  · have e1 : (w1.setCell ⟨d, 4, none⟩ (.slice (some ⟨g, 0, none⟩) (D.pend.length + 1) cap)).heap.size = w1.heap.size := by simp [World.setCell]
    rw [e1]
    rcases hk with hk | hk | ⟨rfl, _⟩
    · exact Nat.lt_of_lt_of_le (h.low k hk) hgr.size
    · obtain ⟨cur, h1⟩ := own_lt hv hk
      exact Nat.lt_of_lt_of_le (Array.getElem?_eq_some_iff.1 h1).1 hgr.size
    · exact hglt
end

theorem keyed : Maps.Keyed Try.prog kStr := Maps.string_keyed Try.underlying9
theorem undirU : Try.prog.underlying 104 = some (.map kStr 145) := Try.underlying104
end Go.Proofs.Ytelgcmcnebncmaa.Dr
