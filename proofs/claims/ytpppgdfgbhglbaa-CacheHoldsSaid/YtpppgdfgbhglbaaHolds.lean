/- What was put last: a map of notes beside a cache. -/
import Derived.Test.YtpppgdfgbhglbaaWStack
namespace Go.Proofs.Ytpppgdfgbhglbaa.CaS
open Go.RowKit Go.Proofs Go.Proofs.Ytpppgdfgbhglbaa.Ring Go.Proofs.Ytpppgdfgbhglbaa.Lru Go.Proofs.Ytpppgdfgbhglbaa.Ca

structure Note where
  val : List UInt8
  wt : Int
  there : Bool
  deriving Inhabited
def noteR : Value → Option (DataW Unit × List MemPlace)
  | .agg ⟨[.string s, .int .i64 n, .bool b]⟩ => some (.agg [.lit (.string s.data.toList), .lit (.int .i64 n), .lit (.bool b)], [])
  | _ => none
/-- How a note reads. -/
def notes : Rdr Note where
  av := fun n => .agg #[.string ⟨n.val.toArray⟩, .int .i64 n.wt, .bool n.there]
  dt := fun n => .agg [.lit (.string n.val), .lit (.int .i64 n.wt), .lit (.bool n.there)]
  R := noteR
  read := fun n => rfl
  inv := fun v n ps h => by
    unfold noteR at h
    split at h
    · simp only [Option.some.injEq, Prod.mk.injEq, DataW.agg.injEq, List.cons.injEq, DataW.lit.injEq, Lit.string.injEq, Lit.int.injEq, Lit.bool.injEq, and_true, true_and] at h
      obtain ⟨⟨h1, h2, h3⟩, _⟩ := h
      rw [← h1, ← h2, ← h3]
    · cases h
def noN : Note := ⟨[], 0, false⟩
abbrev MapT := 65
theorem zeroN (w : World) : (zeroValue 67).run Try.prog w = .ok (notes.av noN) w := by kernel_rfl
/-- The map of notes in block mb reads as f. -/
def Last (w : World) (mb cnt : Nat) (f : Bs → Note) : Prop := MapOk Try.prog 9 Lit.string notes noN w (.map (some mb)) cnt f

theorem wp_look_note {ops : Array Oper} {rest : List Oper} {op : Oper} {a : Act} {Q : Exit → Act → World → Prop} {w : World} {mb cnt : Nat} {f : Bs → Note} (h : Last w mb cnt f) (hg : op.guard = none) (m x : Operand) (hop : op.op = Op.lookup 65 m x false)
    (hm : a.eval m = .map (some mb)) {k : Bs} (hx : a.eval x = .string ⟨k.toArray⟩) (hk : k.length ≤ maxLen) {v : List UInt8} {wt : Int} {b : Bool} (hf : f k = ⟨v, wt, b⟩)
    (hK : wpList Try.prog ops Q rest (a.put op.dst (.agg #[.string ⟨v.toArray⟩, .int .i64 wt, .bool b])) w) : wpList Try.prog ops Q (op :: rest) a w := by
  refine wp_look h keyed hg m x _ hop Try.underlying65 (zeroN w) hm hx (key_of hk) ?_
  rw [hf]
  exact hK
theorem wp_put_note {ops : Array Oper} {rest : List Oper} {op : Oper} {a : Act} {Q : Exit → Act → World → Prop} {w : World} {mb cnt : Nat} {f : Bs → Note} (h : Last w mb cnt f) (hcnt : cnt < maxLen) (hg : op.guard = none) (m x y : Operand) (hop : op.op = Op.mapUpdate 65 m x y)
    (hm : a.eval m = .map (some mb)) {k : Bs} (hx : a.eval x = .string ⟨k.toArray⟩) (hk : k.length ≤ maxLen) (n : Note) (hv : a.eval y = .agg #[.string ⟨n.val.toArray⟩, .int .i64 n.wt, .bool n.there])
    (hK : ∀ w', Last w' mb (cnt + 1) (fun x => if x = k then n else f x) → w.grownBy w' (some mb) → w'.heap.size = w.heap.size → wpList Try.prog ops Q rest (a.put op.dst undef) w') : wpList Try.prog ops Q (op :: rest) a w :=
  wp_put (X := notes) (z := noN) h keyed hg m x y _ hop Try.underlying65 kinj kkey hcnt hm hx (key_of hk) n hv hK

structure Hold (w : World) (B pc r : Nat) (S : Nat → Prop) (l : List (It Bs Bs)) (cnt mb : Nat) (f : Bs → Note) : Prop where
  cs : Cs w S pc r l cnt
  map : Last w mb cnt f
  low : ∀ k, S k → B ≤ k
  mS : ¬ S mb
  bm : B ≤ mb
  lm : mb < w.heap.size
  bw : B ≤ w.heap.size
/-- What is held was put last. -/
def Inv (l : List (It Bs Bs)) (f : Bs → Note) : Prop := ∀ e ∈ l, f e.key = ⟨e.val, e.wt, true⟩

section
variable {w w' : World} {B pc r cnt mb : Nat} {S : Nat → Prop} {l l' : List (It Bs Bs)} {f f' : Bs → Note}
theorem Hold.below (h : Hold w B pc r S l cnt mb f) (hb : Below w.heap.size w w') : Hold w' B pc r S l cnt mb f :=
  ⟨h.cs.below hb, h.map.same fun b e => by
    obtain rfl : mb = b := by simpa [mapBlock] using e
    exact hb.block _ h.lm, h.low, h.mS, h.bm, Nat.lt_of_lt_of_le h.lm hb.size, Nat.le_trans h.bw hb.size⟩
theorem Hold.mono (h : Hold w B pc r S l cnt mb f) {k : Nat} (hk : cnt ≤ k) : Hold w B pc r S l k mb f := ⟨h.cs.mono hk, h.map.mono hk, h.low, h.mS, h.bm, h.lm, h.bw⟩
theorem Hold.turn (h : Hold w B pc r S l cnt mb f) {cnt' : Nat} (hc : cnt ≤ cnt') (ht : Turn w w' S pc r l' cnt') : ∃ S', Hold w' B pc r S' l' cnt' mb f ∧ Below B w w' ∧ (∀ V o, w.heap[V]? = some o → ¬ S V → w'.heap[V]? = some o ∧ ¬ S' V) := by
  obtain ⟨S', g1, g2, g3⟩ := ht
  have hoff : ∀ V, V < w.heap.size → ¬ S V → ¬ S' V := fun V hV hs hs' => by
    rcases g3 V hs' with h1 | h1
    · exact hs h1
    · omega
  refine ⟨S', ⟨g1, (h.map.same fun b e => ?_).mono hc, fun k hk => ?_, hoff mb h.lm h.mS, h.bm, Nat.lt_of_lt_of_le h.lm g2.size, Nat.le_trans h.bw g2.size⟩, g2.to_below h.bw h.low, fun V o hV hs => ?_⟩
  · obtain rfl : mb = b := by simpa [mapBlock] using e
    exact g2.block _ h.lm h.mS
  · rcases g3 k hk with h1 | h1
    · exact h.low k h1
    · have := h.bw; omega
  · have hlt := (Array.getElem?_eq_some_iff.1 hV).1
    exact ⟨(g2.block V hlt hs).trans hV, hoff V hlt hs⟩
theorem Hold.put (h : Hold w B pc r S l cnt mb f) {c2 : Nat} (hm : Last w' mb c2 f') (hc : cnt ≤ c2) (hg : w.grownBy w' (some mb)) : Hold w' B pc r S l c2 mb f' ∧ Below B w w' ∧ (∀ V o, w.heap[V]? = some o → V ≠ mb → w'.heap[V]? = some o) := by
  have hk : Kept w w' (fun k => k = mb) := (Kept.refl w _).grown hg fun b hb => .inl (by injection hb with hb; exact hb.symm)
  refine ⟨⟨(h.cs.kept hk fun k hs e => h.mS (e ▸ hs)).mono hc, hm, h.low, h.mS, h.bm, Nat.lt_of_lt_of_le h.lm hk.size, Nat.le_trans h.bw hk.size⟩, hk.to_below h.bw (fun k e => e ▸ h.bm), fun V o hV hne => ?_⟩
  exact (hk.block V (Array.getElem?_eq_some_iff.1 hV).1 hne).trans hV
/-- A new map. -/
theorem Hold.clear (h : Hold w B pc r S l cnt mb f) : Hold (w.alloc (.map #[] 0)) B pc r S l cnt w.heap.size (fun _ => noN) := by
  have hb : Below w.heap.size w (w.alloc (.map #[] 0)) := (Below.refl _ _).alloc (Nat.le_refl _) _
  refine ⟨h.cs.below hb, (MapOk.made _ w _ _ notes noN).mono (Nat.zero_le _), h.low, fun hs => ?_, h.bw, by simp, Nat.le_trans h.bw hb.size⟩
  have := h.cs.low _ hs; omega

theorem Inv.out (h : Inv l f) (k : Bs) : Inv (out k l) f := fun e he => h e (List.mem_filter.1 he).1
theorem Inv.out_put (h : Inv l f) (k : Bs) (n : Note) : Inv (Lru.out k l) (fun x => if x = k then n else f x) := fun e he => by
  simp only
  rw [if_neg (out_ne e he)]
  exact h e (List.mem_filter.1 he).1
theorem Inv.put (h : Inv l f) (room : Nat) (k v : Bs) (wt : Int) {bb : Bool} (hbb : decide (0 ≤ wt ∧ wt ≤ (room : Int)) = bb) : Inv (putI room k v wt l) (fun x => if x = k then ⟨v, wt, bb⟩ else f x) := by
  unfold putI
  split
  · rename_i hw
    rw [decide_eq_true hw] at hbb
    subst hbb
    intro e he
    rcases List.mem_cons.1 he with h1 | h1
    · rw [h1]
      simp only [if_true]
      congr 1
      omega
    · exact h.out_put k _ e ((trim_sub _ _ _ _).subset h1)
  · exact h.out_put k _
theorem Inv.get (h : Inv l f) (k : Bs) : Inv (Lru.get k l) f := by
  unfold Lru.get
  cases hs : seek k l with
  | none => exact h
  | some e =>
    intro a ha
    rcases List.mem_cons.1 ha with h1 | h1
    · rw [h1]; exact h e (seek_some hs).2
    · exact h a (List.mem_filter.1 h1).1
theorem Inv.nil (f : Bs → Note) : Inv [] f := fun e he => by cases he
end
end Go.Proofs.Ytpppgdfgbhglbaa.CaS
