/- Entries in a doubly linked order: what their cells say, and what a store does. A map from keys to entries. Over any program. -/
import Derived.Test.YtelgcmcnebncmaaBase
namespace Go.Proofs.Ytelgcmcnebncmaa
open Go.RowKit Go.Proofs

/-- Of what was there nothing has turned but the blocks of S. -/
structure Kept (w w' : World) (S : Nat → Prop) : Prop where
  os : w'.os = w.os
  tape : w'.tape = w.tape
  output : w'.output = w.output
  size : w.heap.size ≤ w'.heap.size
  block : ∀ k, k < w.heap.size → ¬ S k → w'.heap[k]? = w.heap[k]?

theorem Kept.refl (w : World) (S : Nat → Prop) : Kept w w S := ⟨rfl, rfl, rfl, Nat.le_refl _, fun _ _ _ => rfl⟩
theorem Kept.below {w w1 w2 : World} {S : Nat → Prop} (h : Kept w w1 S) (hb : Below w1.heap.size w1 w2) : Kept w w2 S :=
  ⟨hb.os.trans h.os, hb.tape.trans h.tape, hb.output.trans h.output, Nat.le_trans h.size hb.size, fun k hk hs => (hb.block k (Nat.lt_of_lt_of_le hk h.size)).trans (h.block k hk hs)⟩
theorem Kept.of_below {w w1 : World} (S : Nat → Prop) (hb : Below w.heap.size w w1) : Kept w w1 S := (Kept.refl w S).below hb
theorem Kept.mono {w w' : World} {S T : Nat → Prop} (h : Kept w w' S) (hs : ∀ k, S k → T k) : Kept w w' T := ⟨h.os, h.tape, h.output, h.size, fun k hk ht => h.block k hk fun h1 => ht (hs k h1)⟩
theorem Kept.trans {w w1 w2 : World} {S T : Nat → Prop} (h : Kept w w1 S) (h2 : Kept w1 w2 T) (ht : ∀ k, T k → S k ∨ w.heap.size ≤ k) : Kept w w2 S :=
  ⟨h2.os.trans h.os, h2.tape.trans h.tape, h2.output.trans h.output, Nat.le_trans h.size h2.size, fun k hk hs => (h2.block k (Nat.lt_of_lt_of_le hk h.size) (fun h1 => by
    rcases ht k h1 with h3 | h3
    · exact hs h3
    · omega)).trans (h.block k hk hs)⟩
theorem Kept.set {w w' : World} {S : Nat → Prop} (h : Kept w w' S) {p : Addr} (hp : S p.block) (v : Value) : Kept w (w'.setCell p v) S :=
  ⟨h.os, h.tape, h.output, by simpa [World.setCell] using h.size, fun k hk hs => (Below.heap_setCell w' p v k (fun e => hs (e ▸ hp))).trans (h.block k hk hs)⟩
theorem Kept.grown {w w1 w2 : World} {S : Nat → Prop} (h : Kept w w1 S) {row : Option Nat} (hg : w1.grownBy w2 row) (hr : ∀ b, row = some b → S b ∨ w.heap.size ≤ b) : Kept w w2 S :=
  ⟨hg.os.trans h.os, hg.tape.trans h.tape, hg.output.trans h.output, Nat.le_trans h.size hg.size, fun k hk hs => (hg.block k (Nat.lt_of_lt_of_le hk h.size) (fun e => by
    rcases hr k e.symm with h1 | h1
    · exact hs h1
    · omega)).trans (h.block k hk hs)⟩
theorem Kept.to_below {w w' : World} {S : Nat → Prop} {B : Nat} (h : Kept w w' S) (hB : B ≤ w.heap.size) (hs : ∀ k, S k → B ≤ k) : Below B w w' :=
  ⟨h.os, h.tape, h.output, h.size, fun k hk => h.block k (by omega) (fun h1 => by have := hs k h1; omega)⟩

namespace Ring
theorem heap_same {w : World} {b i : Nat} {cs : Array Value} {T : TypeId} {fr : Nat × Nat} (hb : w.heap[b]? = some (.cells cs T fr)) (v : Value) :
    (w.setCell ⟨b, i, none⟩ v).heap[b]? = some (.cells (cs.setIfInBounds i v) T fr) := by
  simp [World.setCell, Array.getElem?_modify, hb]

def ptr : Option Nat → Value
  | none => .pointer none
  | some b => .pointer (some ⟨b, 0, none⟩)

/-- An entry: its block, its key, its value, its weight. -/
structure En (κ ν : Type) where
  b : Nat
  key : κ
  val : ν
  wt : Nat

section
variable {κ ν : Type} (ek : κ → ν → Value) (ev : ν → Value) (t : TypeId)

/-- The entry's cells, with the newer and the older one. -/
def EnAt (w : World) (e : En κ ν) (n o : Option Nat) : Prop := w.heap[e.b]? = some (.cells #[ek e.key e.val, ev e.val, .int .i64 (e.wt : Int), ptr n, ptr o] t (0, 0))

def hd : List (En κ ν) → Option Nat → Option Nat
  | [], n => n
  | e :: _, _ => some e.b
def lst (p : Option Nat) : List (En κ ν) → Option Nat
  | [] => p
  | e :: r => lst (some e.b) r

/-- Entries one behind another; ahead of them p, behind them n. -/
def Seg (w : World) : Option Nat → List (En κ ν) → Option Nat → Prop
  | _, [], _ => True
  | p, e :: r, n => EnAt ek ev t w e p (hd r n) ∧ Seg w (some e.b) r n
end

section
variable {κ ν : Type} {ek : κ → ν → Value} {ev : ν → Value} {t : TypeId} {w w' : World}

theorem hd_append (l1 l2 : List (En κ ν)) (n : Option Nat) : hd (l1 ++ l2) n = hd l1 (hd l2 n) := by
  cases l1 <;> rfl
theorem lst_append (l1 l2 : List (En κ ν)) (p : Option Nat) : lst p (l1 ++ l2) = lst (lst p l1) l2 := by
  induction l1 generalizing p with
  | nil => rfl
  | cons e r ih => exact ih _
theorem lst_snoc (l : List (En κ ν)) (e : En κ ν) (p : Option Nat) : lst p (l ++ [e]) = some e.b := by rw [lst_append]; rfl

theorem EnAt.set {e : En κ ν} {n o : Option Nat} (h : EnAt ek ev t w e n o) (i : Nat) (v : Value) : (w.setCell ⟨e.b, i, none⟩ v).heap[e.b]? = some (.cells (#[ek e.key e.val, ev e.val, .int .i64 (e.wt : Int), ptr n, ptr o].setIfInBounds i v) t (0, 0)) := heap_same h v
theorem EnAt.set3 {e : En κ ν} {n o : Option Nat} (h : EnAt ek ev t w e n o) (n' : Option Nat) : EnAt ek ev t (w.setCell ⟨e.b, 3, none⟩ (ptr n')) e n' o := h.set 3 _
theorem EnAt.set4 {e : En κ ν} {n o : Option Nat} (h : EnAt ek ev t w e n o) (o' : Option Nat) : EnAt ek ev t (w.setCell ⟨e.b, 4, none⟩ (ptr o')) e n o' := h.set 4 _
theorem EnAt.same {e : En κ ν} {n o : Option Nat} (h : EnAt ek ev t w e n o) (hw : w'.heap[e.b]? = w.heap[e.b]?) : EnAt ek ev t w' e n o := hw.trans h
theorem EnAt.off {e : En κ ν} {n o : Option Nat} (h : EnAt ek ev t w e n o) {b : Nat} (hb : e.b ≠ b) (i : Nat) (v : Value) : EnAt ek ev t (w.setCell ⟨b, i, none⟩ v) e n o := h.same (Below.heap_setCell w _ v e.b hb)
theorem EnAt.lt {e : En κ ν} {n o : Option Nat} (h : EnAt ek ev t w e n o) : e.b < w.heap.size := (Array.getElem?_eq_some_iff.1 h).1
theorem EnAt.cell {e : En κ ν} {n o : Option Nat} (h : EnAt ek ev t w e n o) (i : Nat) : w.cell? ⟨e.b, i, none⟩ = #[ek e.key e.val, ev e.val, .int .i64 (e.wt : Int), ptr n, ptr o][i]? := by
  unfold World.cell?
  rw [show w.heap[(⟨e.b, i, none⟩ : Addr).block]? = _ from h]
  rfl
theorem EnAt.frozen {e : En κ ν} {n o : Option Nat} (h : EnAt ek ev t w e n o) (i : Nat) : w.frozen? ⟨e.b, i, none⟩ = false := by
  unfold World.frozen?
  rw [show w.heap[(⟨e.b, i, none⟩ : Addr).block]? = _ from h]
  simp

theorem seg_append {l1 l2 : List (En κ ν)} {p n : Option Nat} : Seg ek ev t w p (l1 ++ l2) n ↔ Seg ek ev t w p l1 (hd l2 n) ∧ Seg ek ev t w (lst p l1) l2 n := by
  induction l1 generalizing p with
  | nil => simp [Seg, lst]
  | cons e r ih =>
    simp only [List.cons_append, Seg, hd_append, ih, lst]
    exact ⟨fun ⟨h1, h2, h3⟩ => ⟨⟨h1, h2⟩, h3⟩, fun ⟨⟨h1, h2⟩, h3⟩ => ⟨h1, h2, h3⟩⟩

theorem seg_same {l : List (En κ ν)} {p n : Option Nat} (h : Seg ek ev t w p l n) (hw : ∀ e ∈ l, w'.heap[e.b]? = w.heap[e.b]?) : Seg ek ev t w' p l n := by
  induction l generalizing p with
  | nil => trivial
  | cons e r ih => exact ⟨h.1.same (hw e (by simp)), ih h.2 fun x hx => hw x (by simp [hx])⟩
theorem seg_off {l : List (En κ ν)} {p n : Option Nat} (h : Seg ek ev t w p l n) {b : Nat} (hb : ∀ e ∈ l, e.b ≠ b) (i : Nat) (v : Value) : Seg ek ev t (w.setCell ⟨b, i, none⟩ v) p l n :=
  seg_same h fun e he => Below.heap_setCell w _ v e.b (hb e he)
theorem seg_mem {l : List (En κ ν)} {p n : Option Nat} (h : Seg ek ev t w p l n) {e : En κ ν} (he : e ∈ l) : ∃ x y, EnAt ek ev t w e x y := by
  induction l generalizing p with
  | nil => cases he
  | cons a r ih =>
    rcases List.mem_cons.1 he with h1 | h1
    · subst h1; exact ⟨_, _, h.1⟩
    · exact ih h.2 h1

/-- The cache's own cells: its room, its weight, its map, its first and its last entry. -/
def HdAt (t : TypeId) (w : World) (c : Nat) (r0 r1 r2 : Value) (n o : Option Nat) : Prop := w.heap[c]? = some (.cells #[r0, r1, r2, ptr n, ptr o] t (0, 0))
variable {tc : TypeId} {c : Nat} {r0 r1 r2 : Value} {n o : Option Nat}
theorem HdAt.same (h : HdAt tc w c r0 r1 r2 n o) (hw : w'.heap[c]? = w.heap[c]?) : HdAt tc w' c r0 r1 r2 n o := hw.trans h
theorem HdAt.off (h : HdAt tc w c r0 r1 r2 n o) {b : Nat} (hb : c ≠ b) (i : Nat) (v : Value) : HdAt tc (w.setCell ⟨b, i, none⟩ v) c r0 r1 r2 n o := h.same (Below.heap_setCell w _ v c hb)
theorem HdAt.lt (h : HdAt tc w c r0 r1 r2 n o) : c < w.heap.size := (Array.getElem?_eq_some_iff.1 h).1
theorem HdAt.cell (h : HdAt tc w c r0 r1 r2 n o) (i : Nat) : w.cell? ⟨c, i, none⟩ = #[r0, r1, r2, ptr n, ptr o][i]? := by
  unfold World.cell?
  rw [show w.heap[(⟨c, i, none⟩ : Addr).block]? = _ from h]
  rfl
theorem HdAt.frozen (h : HdAt tc w c r0 r1 r2 n o) (i : Nat) : w.frozen? ⟨c, i, none⟩ = false := by
  unfold World.frozen?
  rw [show w.heap[(⟨c, i, none⟩ : Addr).block]? = _ from h]
  simp
theorem HdAt.set1 (h : HdAt tc w c r0 r1 r2 n o) (v : Value) : HdAt tc (w.setCell ⟨c, 1, none⟩ v) c r0 v r2 n o := heap_same h v
theorem HdAt.set2 (h : HdAt tc w c r0 r1 r2 n o) (v : Value) : HdAt tc (w.setCell ⟨c, 2, none⟩ v) c r0 r1 v n o := heap_same h v
theorem HdAt.set3 (h : HdAt tc w c r0 r1 r2 n o) (n' : Option Nat) : HdAt tc (w.setCell ⟨c, 3, none⟩ (ptr n')) c r0 r1 r2 n' o := heap_same h _
theorem HdAt.set4 (h : HdAt tc w c r0 r1 r2 n o) (o' : Option Nat) : HdAt tc (w.setCell ⟨c, 4, none⟩ (ptr o')) c r0 r1 r2 n o' := heap_same h _
theorem apart_of (ht : t ≠ tc) {e : En κ ν} {x y : Option Nat} (he : EnAt ek ev t w e x y) (h : HdAt tc w c r0 r1 r2 n o) : e.b ≠ c := by
  intro hb
  unfold EnAt at he
  unfold HdAt at h
  rw [hb, h] at he
  injection he with he
  injection he with _ h2 _
  exact ht h2.symm

/-- The whole order. -/
structure RingAt (ek : κ → ν → Value) (ev : ν → Value) (t tc : TypeId) (w : World) (c : Nat) (r0 r1 r2 : Value) (L : List (En κ ν)) : Prop where
  head : HdAt tc w c r0 r1 r2 (hd L none) (lst none L)
  seg : Seg ek ev t w none L none
  nodup : (L.map (·.b)).Nodup

theorem RingAt.same {L : List (En κ ν)} (h : RingAt ek ev t tc w c r0 r1 r2 L) (hc : w'.heap[c]? = w.heap[c]?) (he : ∀ e ∈ L, w'.heap[e.b]? = w.heap[e.b]?) : RingAt ek ev t tc w' c r0 r1 r2 L :=
  ⟨h.head.same hc, seg_same h.seg he, h.nodup⟩
theorem RingAt.apart {L : List (En κ ν)} (h : RingAt ek ev t tc w c r0 r1 r2 L) (ht : t ≠ tc) {e : En κ ν} (he : e ∈ L) : e.b ≠ c := by
  obtain ⟨x, y, h1⟩ := seg_mem h.seg he
  exact apart_of ht h1 h.head
end

/-- How values of a type read: what one value is, and back. -/
structure Rdr (α : Type) where
  av : α → Value
  dt : α → DataW Unit
  R : Value → Option (DataW Unit × List MemPlace)
  read : ∀ x, R (av x) = some (dt x, [])
  inv : ∀ v x ps, R v = some (dt x, ps) → v = av x

def dtPtr : Option Nat → DataW Unit
  | none => .nil
  | some b => .lit (.int .i64 (b : Int))
/-- How a pointer to an entry reads. -/
def pRead : Value → Option (DataW Unit × List MemPlace)
  | .pointer none => some (.nil, [])
  | .pointer (some ⟨b, 0, none⟩) => some (.lit (.int .i64 (b : Int)), [])
  | _ => none
def ptrs : Rdr (Option Nat) where
  av := ptr
  dt := dtPtr
  R := pRead
  read := fun o => by cases o <;> rfl
  inv := fun v o ps h => by
    unfold pRead at h
    split at h
    · cases o with
      | none => rfl
      | some b => simp [dtPtr] at h
    · cases o with
      | none => simp [dtPtr] at h
      | some b => simp [dtPtr] at h; exact congrArg (fun x => ptr (some x)) (by omega)
    · cases h

section
variable {P : Program} {κ α : Type}

/-- The map reads as f, by keys that read as literals kl; z is what stands nowhere. -/
def MapOk (P : Program) (kt : TypeId) (kl : κ → Lit) (X : Rdr α) (z : α) (w : World) (mv : Value) (cnt : Nat) (f : κ → α) : Prop :=
  (mv = .map none ∧ ∀ k, f k = z) ∨ ∃ b D, mv = .map (some b) ∧ w.ownsMap P kt X.R b cnt D ∧ ∀ k, D.atKey (kl k) (X.dt z) = X.dt (f k)

variable {kt : TypeId} {kl : κ → Lit} {X : Rdr α} {z : α} {w w' : World} {mv : Value} {cnt : Nat} {f : κ → α}

/-- The map's block. -/
def mapBlock : Value → Option Nat
  | .map b => b
  | _ => none
theorem MapOk.lt (h : MapOk P kt kl X z w mv cnt f) {b : Nat} (hb : mapBlock mv = some b) : b < w.heap.size := by
  rcases h with ⟨rfl, _⟩ | ⟨b', D, rfl, ho, _⟩
  · cases hb
  · obtain rfl : b' = b := by simpa [mapBlock] using hb
    exact ho.lt
theorem MapOk.isMap (h : MapOk P kt kl X z w mv cnt f) {b : Nat} (hb : mapBlock mv = some b) : ∃ es clock, w.heap[b]? = some (.map es clock) := by
  rcases h with ⟨rfl, _⟩ | ⟨b', D, rfl, ho, _⟩
  · cases hb
  · obtain rfl : b' = b := by simpa [mapBlock] using hb
    obtain ⟨es, clock, h1, _⟩ := ho
    exact ⟨es, clock, h1⟩
theorem MapOk.apart (h : MapOk P kt kl X z w mv cnt f) {b : Nat} (hb : mapBlock mv = some b) {g : Nat} {cs : Array Value} {t : TypeId} {fr : Nat × Nat} (hg : w.heap[g]? = some (.cells cs t fr)) : b ≠ g := by
  intro e
  subst e
  obtain ⟨es, clock, h1⟩ := h.isMap hb
  rw [h1] at hg
  cases hg
theorem MapOk.form (h : MapOk P kt kl X z w mv cnt f) : mv = .map (mapBlock mv) := by
  rcases h with ⟨rfl, _⟩ | ⟨b', D, rfl, ho, _⟩ <;> rfl
theorem MapOk.same (h : MapOk P kt kl X z w mv cnt f) (hw : ∀ b, mapBlock mv = some b → w'.heap[b]? = w.heap[b]?) : MapOk P kt kl X z w' mv cnt f := by
  rcases h with h | ⟨b, D, rfl, ho, hat⟩
  · exact .inl h
  · refine .inr ⟨b, D, rfl, ?_, hat⟩
    obtain ⟨es, clock, hb, r⟩ := ho
    exact ⟨es, clock, (hw b rfl).trans hb, r⟩
theorem MapOk.set (h : MapOk P kt kl X z w mv cnt f) {g : Nat} {cs : Array Value} {t : TypeId} {fr : Nat × Nat} (hg : w.heap[g]? = some (.cells cs t fr)) (i : Nat) (v : Value) : MapOk P kt kl X z (w.setCell ⟨g, i, none⟩ v) mv cnt f :=
  h.same fun b hb => Below.heap_setCell w _ v b (h.apart hb hg)
theorem MapOk.mono (h : MapOk P kt kl X z w mv cnt f) {m : Nat} (hm : cnt ≤ m) : MapOk P kt kl X z w mv m f := by
  rcases h with h | ⟨b, D, rfl, ho, hat⟩
  · exact .inl h
  · exact .inr ⟨b, D, rfl, ho.mono hm, hat⟩
theorem MapOk.congr (h : MapOk P kt kl X z w mv cnt f) {g : κ → α} (hg : ∀ k, g k = f k) : MapOk P kt kl X z w mv cnt g := by
  obtain rfl : g = f := funext hg
  exact h
theorem MapOk.look (h : MapOk P kt kl X z w mv cnt f) (K : Maps.Keyed P kt) {t e : TypeId} (ht : P.underlying t = some (.map kt e)) (hz : (zeroValue e).run P w = .ok (X.av z) w) {key : Value} {k : κ} (hk : keyOf P kt key = some (kl k)) :
    (Instr.lookup t mv key false).run P w = .ok (X.av (f k)) w := by
  rcases h with ⟨rfl, hf⟩ | ⟨b, D, rfl, ho, hat⟩
  · rw [Maps.look_nil false K ht hz hk, hf k]; rfl
  · obtain ⟨v, ps, hrun, hv⟩ := ho.lookup K ht hz (X.read z) hk
    rw [hat k] at hv
    rw [hrun, X.inv _ _ _ hv]
theorem MapOk.drop [DecidableEq κ] (h : MapOk P kt kl X z w mv cnt f) (K : Maps.Keyed P kt) {t e : TypeId} (ht : P.underlying t = some (.map kt e)) (hinj : ∀ a b : κ, kl a = kl b → a = b) {key : Value} {k : κ} (hk : keyOf P kt key = some (kl k)) (ty : TypeId) :
    ∃ w', (Builtin.delete_ #[t, kt] ty #[mv, key]).run P w = .ok (.tuple #[]) w' ∧ MapOk P kt kl X z w' mv cnt (fun x => if x = k then z else f x) ∧ w.grownBy w' (mapBlock mv) ∧ w'.heap.size = w.heap.size := by
  rcases h with ⟨rfl, hf⟩ | ⟨b, D, rfl, ho, hat⟩
  · exact ⟨w, Maps.drop_nil K ht hk ty, .inl ⟨rfl, fun x => by simp [hf]⟩, ⟨rfl, rfl, rfl, Nat.le_refl _, fun _ _ _ => rfl⟩, rfl⟩
  · obtain ⟨w', hrun, ho', hturn⟩ := ho.drop K ht hk ty
    refine ⟨w', hrun, .inr ⟨b, _, rfl, ho', fun x => ?_⟩, hturn.grown, ?_⟩
    · show _ = X.dt (if x = k then _ else _)
      by_cases hx : x = k
      · subst hx; rw [if_pos rfl, Maps.atKey_del_same]
      · rw [if_neg hx, Maps.atKey_del_other (fun e => hx (hinj _ _ e)), hat]
    · obtain ⟨_, _, es', clock', _, rfl⟩ := hturn; simp [Go.ChangeMaps.setBlock]
theorem MapOk.put [DecidableEq κ] {b : Nat} (h : MapOk P kt kl X z w (.map (some b)) cnt f) (K : Maps.Keyed P kt) {t e : TypeId} (ht : P.underlying t = some (.map kt e)) (hinj : ∀ a b : κ, kl a = kl b → a = b) (hkl : ∀ k, WideAt.IsKeyLit (kl k)) (hn : cnt < maxLen) {key : Value} {k : κ} (hk : keyOf P kt key = some (kl k)) (g : α) :
    ∃ w', (Instr.mapUpdate t (.map (some b)) key (X.av g)).run P w = .ok () w' ∧ MapOk P kt kl X z w' (.map (some b)) (cnt + 1) (fun x => if x = k then g else f x) ∧ w.grownBy w' (some b) ∧ w'.heap.size = w.heap.size := by
  rcases h with ⟨h0, _⟩ | ⟨b', D, h0, ho, hat⟩
  · cases h0
  · obtain rfl : b = b' := by simpa using h0
    obtain ⟨w', hrun, ho', hturn⟩ := ho.store K ht hn hk (X.read g)
    refine ⟨w', hrun, .inr ⟨b, _, rfl, ho', fun x => ?_⟩, hturn.grown, ?_⟩
    · show _ = X.dt (if x = k then _ else _)
      by_cases hx : x = k
      · subst hx; rw [if_pos rfl, Maps.atKey_put_same ho.isMap (hkl x)]
      · rw [if_neg hx, Maps.atKey_put_other (fun e => hx (hinj _ _ e)), hat]
    · obtain ⟨_, _, es', clock', _, rfl⟩ := hturn; simp [Go.ChangeMaps.setBlock]
theorem MapOk.made (P : Program) (w : World) (kt : TypeId) (kl : κ → Lit) (X : Rdr α) (z : α) : MapOk P kt kl X z (w.alloc (.map #[] 0)) (.map (some w.heap.size)) 0 (fun _ => z) :=
  .inr ⟨w.heap.size, .map [], rfl, World.ownsMap_made w P kt X.R, fun _ => rfl⟩

/-! At the operation, for the walk. -/
variable {ops : Array Oper} {rest : List Oper} {o : Oper} {a : Act} {Q : Exit → Act → World → Prop}
theorem wp_look (h : MapOk P kt kl X z w mv cnt f) (K : Maps.Keyed P kt) (hg : o.guard = none) (m x : Operand) (t : TypeId) (hop : o.op = Op.lookup t m x false) {e : TypeId} (ht : P.underlying t = some (.map kt e)) (hz : (zeroValue e).run P w = .ok (X.av z) w)
    (hm : a.eval m = mv) {key : Value} {k : κ} (hx : a.eval x = key) (hk : keyOf P kt key = some (kl k)) (hK : wpList P ops Q rest (a.put o.dst (X.av (f k))) w) : wpList P ops Q (o :: rest) a w := by
  refine wpList_plain hg fun K' hK' => ?_
  have hrun := h.look K ht hz hk
  unfold Oper.wp
  simp [execOp, hop, hm, hx, hrun, Result.andThen]
  exact hK' _ _ hK
theorem wp_drop [DecidableEq κ] (h : MapOk P kt kl X z w mv cnt f) (K : Maps.Keyed P kt) (hg : o.guard = none) (m x : Operand) (t : TypeId) (hop : o.op = Op.call { callee := Callee.builtin Builtin.delete, args := #[m, x], argTypes := #[t, kt] }) {e : TypeId} (ht : P.underlying t = some (.map kt e)) (hinj : ∀ a b : κ, kl a = kl b → a = b)
    (hm : a.eval m = mv) {key : Value} {k : κ} (hx : a.eval x = key) (hk : keyOf P kt key = some (kl k))
    (hK : ∀ w', MapOk P kt kl X z w' mv cnt (fun x => if x = k then z else f x) → w.grownBy w' (mapBlock mv) → w'.heap.size = w.heap.size → wpList P ops Q rest (a.put o.dst (.tuple #[])) w') : wpList P ops Q (o :: rest) a w := by
  refine wpList_plain hg fun K' hK' => ?_
  obtain ⟨w', hrun, r1, r2, r3⟩ := h.drop K ht hinj hk o.type
  unfold Oper.wp
  simp [execOp, hop, resolve, invoke, builtin, hm, hx, hrun, Result.andThen]
  exact hK' _ _ (hK w' r1 r2 r3)
theorem wp_put [DecidableEq κ] {b : Nat} (h : MapOk P kt kl X z w (.map (some b)) cnt f) (K : Maps.Keyed P kt) (hg : o.guard = none) (m x v : Operand) (t : TypeId) (hop : o.op = Op.mapUpdate t m x v) {e : TypeId} (ht : P.underlying t = some (.map kt e)) (hinj : ∀ a b : κ, kl a = kl b → a = b) (hkl : ∀ k, WideAt.IsKeyLit (kl k)) (hn : cnt < maxLen)
    (hm : a.eval m = .map (some b)) {key : Value} {k : κ} (hx : a.eval x = key) (hk : keyOf P kt key = some (kl k)) (g : α) (hv : a.eval v = X.av g)
    (hK : ∀ w', MapOk P kt kl X z w' (.map (some b)) (cnt + 1) (fun x => if x = k then g else f x) → w.grownBy w' (some b) → w'.heap.size = w.heap.size → wpList P ops Q rest (a.put o.dst undef) w') : wpList P ops Q (o :: rest) a w := by
  refine wpList_plain hg fun K' hK' => ?_
  obtain ⟨w', hrun, r1, r2, r3⟩ := h.put K ht hinj hkl hn hk g
  unfold Oper.wp
  simp [execOp, hop, hm, hx, hv, hrun, Result.andThen]
  exact hK' _ _ (hK w' r1 r2 r3)
end
end Ring
end Go.Proofs.Ytelgcmcnebncmaa
