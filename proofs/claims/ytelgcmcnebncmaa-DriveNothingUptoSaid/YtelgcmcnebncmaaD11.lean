/- A name is put in two maps at once: what the two halves of a map's assignment do. A body more. -/
import Derived.Test.YtelgcmcnebncmaaD10
import Derived.WideKeyEntry
namespace Go.Proofs.Ytelgcmcnebncmaa.Dr
open Go.RowKit Go.Proofs Go.Proofs.Ytelgcmcnebncmaa.Ring

theorem DirAt.entry {w : World} {b : Nat} {l : Dir} (h : DirAt Try.prog kStr w (.map (some b)) l) {k : Bs} (hk : k.length ≤ maxLen) (hl : l.length < maxLen) (g : Nat) :
    ∃ (v0 : Value) (st : Nat) (w1 : World), (Instr.mapEntry 104 (.map (some b)) (encStr k)).run Try.prog w = .ok (.tuple #[v0, .int .i64 (st : Int)]) w1 ∧ w.grownBy w1 (some b) ∧ w1.heap.size = w.heap.size ∧
      ∀ w2 : World, w2.heap[b]? = w1.heap[b]? → ∃ w3, (Instr.entryStore 104 (.map (some b)) (.int .i64 (st : Int)) (.pointer (some ⟨g, 0, none⟩))).run Try.prog w2 = .ok () w3 ∧ DirAt Try.prog kStr w3 (.map (some b)) (Dr.put l k (some g)) ∧ w2.grownBy w3 (some b) ∧ w3.heap.size = w2.heap.size := by
  have hp := h.put keyed undirU hl (key_of hk) g
  have h0 := h
  rcases h with ⟨h0, _⟩ | ⟨b', h0, ho⟩
  · cases h0
  · obtain rfl : b = b' := by simpa using h0
    obtain ⟨es, clock, hb, F, _⟩ := ho
    obtain ⟨v0, st, es1, cl1, hr1, _, hr2⟩ := Go.WideElems.entry_then_store (Go.WideMaps.string_law Try.underlying9) undirU zero_ptr hb F (key_of hk)
    refine ⟨v0, st, _, hr1, ⟨rfl, rfl, rfl, by simp [Go.ChangeMaps.setBlock], fun i _ hi => Go.ChangeMaps.heap_setBlock_other hb _ (fun e => hi (by rw [e]))⟩, by simp [Go.ChangeMaps.setBlock], fun w2 hw2 => ?_⟩
    have hb2 : w2.heap[b]? = some (.map es1 cl1) := hw2.trans (Go.ChangeMaps.heap_setBlock_same hb _)
    obtain ⟨es', cl', hr3, hr4⟩ := hr2 w2 (.pointer (some ⟨g, 0, none⟩)) hb2
    obtain ⟨w', hr5, hd, _, _⟩ := hp
    rw [hr4] at hr5
    injection hr5 with _ hr5
    subst hr5
    refine ⟨_, hr3, hd.same fun x hx => ?_, ⟨rfl, rfl, rfl, by simp [Go.ChangeMaps.setBlock], fun i _ hi => Go.ChangeMaps.heap_setBlock_other hb2 _ (fun e => hi (by rw [e]))⟩, by simp [Go.ChangeMaps.setBlock]⟩
    obtain rfl : b = x := by simpa [mapBlock] using hx
    rw [Go.ChangeMaps.heap_setBlock_same hb2, Go.ChangeMaps.heap_setBlock_same hb]

section
variable {w w' : World} {S : Nat → Prop} {d : Nat} {D : Dr.D} {u : Int} {β : Nat → Nat} {vs : Nat → Value} {nv kv pv : Value} {ss : List Value} {m N : Nat}
/-- What is safe is another list, in the same map. -/
theorem DvAt.keeps (h : DvAt w S d D u β vs nv kv pv ss) {b : Nat} (hb : mapBlock kv = some b) {l : Dir} (hl : DirAt Try.prog kStr w' kv (at_ β l)) (hk : Kept w w' (fun k => k = b)) : DvAt w' S d { D with kept := l } u β vs nv kv pv ss := by
  have hne : ∀ (g : Nat) (cur : Array Value) (e : TypeId) (fr : Nat × Nat), w.heap[g]? = some (.cells cur e fr) → w'.heap[g]? = w.heap[g]? := fun g cur e fr hg => hk.block g (Array.getElem?_eq_some_iff.1 hg).1 fun e => h.kept.apart hb hg e.symm
  refine ⟨(hne d _ _ _ h.head).trans h.head, h.now.same fun x hx => hk.block x (h.now.lt hx) fun e => h.apart x hx (e ▸ hb), hl, h.apart, h.both, h.inj, fun i hi => (hne _ _ _ _ (h.body i hi)).trans (h.body i hi), fun i hi => own_same (h.row i hi) fun g hg => ?_, h.own,
    own_same h.pend fun g hg => ?_, fun j c s hc hj => own_same (h.steps j c s hc hj) fun g hg => ?_, h.inD, h.inN, h.inK, h.inB, h.inV, h.inP, h.inS, fun k hk' => Nat.lt_of_lt_of_le (h.low k hk') hk.size, h.live⟩
  · obtain ⟨cur, h1⟩ := own_lt (h.row i hi) hg
    exact hne g _ _ _ h1
  · obtain ⟨cur, h1⟩ := own_lt h.pend hg
    exact hne g _ _ _ h1
  · obtain ⟨cur, h1⟩ := own_lt (h.steps j c s hc hj) hg
    exact hne g _ _ _ h1
/-- One body more: its block is x, its bytes lie at v. -/
theorem DvAt.bodyAdd (h : DvAt w S d D u β vs nv kv pv ss) (hb : Below w.heap.size w w') {x : Nat} {v : Value} {b : Bd} (hx : w'.heap[x]? = some (.cells #[v, .int .i64 (b.safe : Int)] tBody (0, 0))) (hxn : w.heap.size ≤ x) (hr : w'.ownsRow 0 tU8 1 v b.data.length (cU8 b.data)) (hv : ∀ g, v.ownBlock = some g → w.heap.size ≤ g)
    (hN : ∀ p ∈ D.now, p.2 < D.bd.length) (hK : ∀ p ∈ D.kept, p.2 < D.bd.length) (hP : ∀ c ∈ D.pend, ∀ s ∈ c, ∀ i, s.2 = some i → i < D.bd.length) :
    DvAt w' (fun k => S k ∨ k = x ∨ v.ownBlock = some k) d { D with bd := D.bd ++ [b] } u (fun i => if i = D.bd.length then x else β i) (fun i => if i = D.bd.length then v else vs i) nv kv pv ss := by
  have hold : ∀ k, S k → w'.heap[k]? = w.heap[k]? := fun k hk => hb.block k (h.low k hk)
  have hβ : ∀ i, i < D.bd.length → (fun i => if i = D.bd.length then x else β i) i = β i := fun i hi => by simp only [if_neg (Nat.ne_of_lt hi)]
  have hlen : ({ D with bd := D.bd ++ [b] } : Dr.D).bd.length = D.bd.length + 1 := by simp
  have hnot : ∀ i, i < D.bd.length → β i ≠ x := fun i hi e => by have := h.low _ (h.inB i hi); omega
  have hc : ∀ i, i < D.bd.length + 1 → i < D.bd.length ∨ i = D.bd.length := fun i hi => by omega
  refine ⟨(hold d h.inD).trans h.head, ?_, ?_, h.apart, h.both, fun i j hi hj => ?_, fun i hi => ?_, fun i hi => ?_, fun i j g hi hj => ?_, own_same h.pend fun g hg => hold g (h.inP g hg), fun j c s hc' hj => ?_, .inl h.inD, fun b hb => .inl (h.inN b hb), fun b hb => .inl (h.inK b hb), fun i hi => ?_, fun i g hi => ?_, fun g hg => .inl (h.inP g hg), fun s hs g hg => .inl (h.inS s hs g hg), fun k hk => ?_, h.live⟩
  · rw [at_congr hβ hN]; exact h.now.same fun b hb => hold b (h.inN b hb)
  · rw [at_congr hβ hK]; exact h.kept.same fun b hb => hold b (h.inK b hb)
  · rw [hlen] at hi hj
    rcases hc i hi with hi | rfl <;> rcases hc j hj with hj | rfl
    · simp only [if_neg (Nat.ne_of_lt hi), if_neg (Nat.ne_of_lt hj)]; exact h.inj i j hi hj
    · simp only [if_neg (Nat.ne_of_lt hi), if_true]; exact fun e => absurd e (hnot i hi)
    · simp only [if_neg (Nat.ne_of_lt hj), if_true]; exact fun e => absurd e.symm (hnot j hj)
    · exact fun _ => rfl
  · rw [hlen] at hi
    rcases hc i hi with hi | rfl
    · rw [at_snoc, if_neg (Nat.ne_of_lt hi)]; simp only [if_neg (Nat.ne_of_lt hi)]; exact (hold _ (h.inB i hi)).trans (h.body i hi)
    · rw [at_snoc, if_pos rfl]; simp only [if_true]; exact hx
  · rw [hlen] at hi
    rcases hc i hi with hi | rfl
    · rw [at_snoc, if_neg (Nat.ne_of_lt hi)]; simp only [if_neg (Nat.ne_of_lt hi)]; exact own_same (h.row i hi) fun g hg => hold g (h.inV i g hi hg)
    · rw [at_snoc, if_pos rfl]; simp only [if_true]; exact hr
  · rw [hlen] at hi hj
    rcases hc i hi with hi | rfl <;> rcases hc j hj with hj | rfl
    · simp only [if_neg (Nat.ne_of_lt hi), if_neg (Nat.ne_of_lt hj)]; exact h.own i j g hi hj
    · simp only [if_neg (Nat.ne_of_lt hi), if_true]; exact fun e1 e2 => by have := h.low _ (h.inV i g hi e1); have := hv g e2; omega
    · simp only [if_neg (Nat.ne_of_lt hj), if_true]; exact fun e1 e2 => by have := h.low _ (h.inV j g hj e2); have := hv g e1; omega
    · exact fun _ _ => rfl
  · rw [cStep_congr hβ fun s hs i hi => hP c (List.mem_of_getElem? hc') s hs i hi]
    exact own_same (h.steps j c s hc' hj) fun g hg => hold g (h.inS s (List.mem_of_getElem? hj) g hg)
  · rw [hlen] at hi
    rcases hc i hi with hi | rfl
    · simp only [if_neg (Nat.ne_of_lt hi)]; exact .inl (h.inB i hi)
    · simp only [if_true]; exact .inr (.inl trivial)
  · rw [hlen] at hi
    rcases hc i hi with hi | rfl
    · simp only [if_neg (Nat.ne_of_lt hi)]; exact fun hg => .inl (h.inV i g hi hg)
    · simp only [if_true]; exact fun e => .inr (.inr e)
  · rcases hk with hk | rfl | hk
    · exact Nat.lt_of_lt_of_le (h.low k hk) hb.size
    · exact (Array.getElem?_eq_some_iff.1 hx).1
    · obtain ⟨cur, h1⟩ := own_lt hr hk
      exact (Array.getElem?_eq_some_iff.1 h1).1
end
theorem ins_last {l : Dir} {x : Bs × Nat} (h : ∀ y ∈ l, bytesBefore y.1 x.1 = true) : ins x l = l ++ [x] := by
  induction l with
  | nil => rfl
  | cons y r ih =>
    rw [show ins x (y :: r) = y :: ins x r from if_neg (by rw [before_asymm (h y (by simp))]; decide), ih fun z hz => h z (by simp [hz])]
    rfl
theorem put_last {l : Dir} {k : Bs} {i : Nat} (h : ∀ y ∈ l, bytesBefore y.1 k = true) : put l k (some i) = l ++ [(k, i)] := by
  show ins (k, i) (del l k) = _
  rw [del_same (find_none.2 fun y hy e => before_ne (h y hy) e)]
  exact ins_last h
theorem keep_snoc : ∀ (p : List (List (Bs × Option Nat))) (b : List Bool) (l : Dir) (i : Nat) (c : List (Bs × Option Nat)), p[i]? = some c → keepSome l (p.take (i + 1)) b = if b[i]? = some true then apply (keepSome l (p.take i) b) c else keepSome l (p.take i) b
  | [], _, _, _, _, h => by cases h
  | a :: r, [], l, i, c, _ => by simp [keepSome]
  | a :: r, x :: s, l, 0, c, h => by
    injection h with h
    subst h
    cases x <;> simp [keepSome]
  | a :: r, x :: s, l, i + 1, c, h => by
    have := keep_snoc r s (if x then apply l a else l) i c h
    simp only [List.take_succ_cons, keepSome, List.getElem?_cons_succ]
    exact this
end Go.Proofs.Ytelgcmcnebncmaa.Dr
