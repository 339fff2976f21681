/- Two caches beside one another: a call of the one leaves the other as it was. -/
import Derived.Test.YtpppgdfgbhglbaaApiS
import Derived.Test.YtpppgdfgbhglbaaStack
namespace Go.Proofs.Ytpppgdfgbhglbaa.CaS
open Go.RowKit Go.Proofs Go.Proofs.Ytpppgdfgbhglbaa.Ring Go.Proofs.Ytpppgdfgbhglbaa.Lru

theorem Co.base {w : World} {B B' c room cnt : Nat} {l : List (It Bs Bs)} (h : Co w B c room l cnt) (hB : B' ≤ B) : Co w B' c room l cnt := by
  obtain ⟨S, h1, h2, h3⟩ := h
  exact ⟨S, h1, fun k hk => Nat.le_trans hB (h2 k hk), Nat.le_trans hB h3⟩
/-- Two caches in blocks that stand at B or behind, none of which is both's. -/
def Duo (w : World) (B c room : Nat) (l : List (It Bs Bs)) (cnt d more : Nat) (m : List (It Bs Bs)) (cmt : Nat) : Prop :=
  ∃ S T, Cs w S c room l cnt ∧ Cs w T d more m cmt ∧ (∀ k, S k → B ≤ k) ∧ (∀ k, T k → B ≤ k) ∧ (∀ k, S k → ¬ T k) ∧ B ≤ w.heap.size

section
variable {w w' : World} {B c room cnt d more cmt : Nat} {l l' m : List (It Bs Bs)}
theorem Duo.swap (h : Duo w B c room l cnt d more m cmt) : Duo w B d more m cmt c room l cnt := by
  obtain ⟨S, T, h1, h2, h3, h4, h5, h6⟩ := h
  exact ⟨T, S, h2, h1, h4, h3, fun k ht hs => h5 k hs ht, h6⟩
theorem Duo.below (h : Duo w B c room l cnt d more m cmt) (hb : Below w.heap.size w w') : Duo w' B c room l cnt d more m cmt := by
  obtain ⟨S, T, h1, h2, h3, h4, h5, h6⟩ := h
  exact ⟨S, T, h1.below hb, h2.below hb, h3, h4, h5, Nat.le_trans h6 hb.size⟩
theorem Duo.one (h : Duo w B c room l cnt d more m cmt) : Co w B c room l cnt := by
  obtain ⟨S, T, h1, h2, h3, h4, h5, h6⟩ := h
  exact ⟨S, h1, h3, h6⟩
theorem Duo.mono (h : Duo w B c room l cnt d more m cmt) {n k : Nat} (hn : cnt ≤ n) (hk : cmt ≤ k) : Duo w B c room l n d more m k := by
  obtain ⟨S, T, h1, h2, h3, h4, h5, h6⟩ := h
  exact ⟨S, T, h1.mono hn, h2.mono hk, h3, h4, h5, h6⟩
theorem Duo.fits (h : Duo w B c room l cnt d more m cmt) : sumW l ≤ room := by
  obtain ⟨S, T, h1, h2, h3, h4, h5, h6⟩ := h
  exact h1.fits
theorem Duo.keys (h : Duo w B c room l cnt d more m cmt) : (l.map (·.key)).Nodup := by
  obtain ⟨S, T, h1, h2, h3, h4, h5, h6⟩ := h
  exact h1.keys
theorem Duo.base {B' : Nat} (h : Duo w B c room l cnt d more m cmt) (hB : B' ≤ B) : Duo w B' c room l cnt d more m cmt := by
  obtain ⟨S, T, h1, h2, h3, h4, h5, h6⟩ := h
  exact ⟨S, T, h1, h2, fun k hk => Nat.le_trans hB (h3 k hk), fun k hk => Nat.le_trans hB (h4 k hk), h5, Nat.le_trans hB h6⟩
theorem Duo.make (h : Co w B c room l cnt) {w1 : World} (hb : Below w.heap.size w w1) (h2 : Co w1 w.heap.size d more m cmt) (hB : B ≤ w.heap.size) : Duo w1 B c room l cnt d more m cmt := by
  obtain ⟨S, h1, h3, h4⟩ := h
  obtain ⟨T, h5, h6, h7⟩ := h2
  refine ⟨S, T, h1.below hb, h5, h3, fun k hk => Nat.le_trans hB (h6 k hk), fun k hs ht => ?_, Nat.le_trans h4 hb.size⟩
  have := h1.low k hs
  have := h6 k ht
  omega
/-- One call of the first. -/
theorem Duo.turn {S T : Nat → Prop} {n : Nat} (h2 : Cs w T d more m cmt) (h3 : ∀ k, S k → B ≤ k) (h4 : ∀ k, T k → B ≤ k) (h5 : ∀ k, S k → ¬ T k) (h6 : B ≤ w.heap.size)
    (ht : Turn w w' S c room l' n) : Duo w' B c room l' n d more m cmt ∧ Below B w w' := by
  obtain ⟨S', g1, g2, g3⟩ := ht
  refine ⟨⟨S', T, g1, h2.kept g2 fun k ht hs => h5 k hs ht, fun k hk => ?_, h4, fun k hs ht => ?_, Nat.le_trans h6 g2.size⟩, g2.to_below h6 h3⟩
  · rcases g3 k hk with h | h
    · exact h3 k h
    · omega
  · rcases g3 k hs with h | h
    · exact h5 k h ht
    · have := h2.low k ht; omega

end

/-- Beside them a variable's block V, which is no cache's. -/
def Duv (w : World) (B V c room : Nat) (l : List (It Bs Bs)) (cnt d more : Nat) (m : List (It Bs Bs)) (cmt : Nat) : Prop :=
  ∃ S T, Cs w S c room l cnt ∧ Cs w T d more m cmt ∧ (∀ k, S k → B ≤ k) ∧ (∀ k, T k → B ≤ k) ∧ (∀ k, S k → ¬ T k) ∧ B ≤ w.heap.size ∧ V < w.heap.size ∧ ¬ S V ∧ ¬ T V

section
variable {w w' : World} {B V c room cnt d more cmt : Nat} {l l' m : List (It Bs Bs)}
theorem Duv.swap (h : Duv w B V c room l cnt d more m cmt) : Duv w B V d more m cmt c room l cnt := by
  obtain ⟨S, T, h1, h2, h3, h4, h5, h6, h7, h8, h9⟩ := h
  exact ⟨T, S, h2, h1, h4, h3, fun k ht hs => h5 k hs ht, h6, h7, h9, h8⟩
theorem Duv.duo (h : Duv w B V c room l cnt d more m cmt) : Duo w B c room l cnt d more m cmt := by
  obtain ⟨S, T, h1, h2, h3, h4, h5, h6, h7, h8, h9⟩ := h
  exact ⟨S, T, h1, h2, h3, h4, h5, h6⟩
theorem Duo.new (h : Duo w B c room l cnt d more m cmt) (o : Obj) : Duv (w.alloc o) B w.heap.size c room l cnt d more m cmt := by
  have hb : Below w.heap.size w (w.alloc o) := (Below.refl _ _).alloc (Nat.le_refl _) o
  obtain ⟨S, T, h1, h2, h3, h4, h5, h6⟩ := h
  refine ⟨S, T, h1.below hb, h2.below hb, h3, h4, h5, Nat.le_trans h6 hb.size, (by show w.heap.size < (w.heap.push o).size; simp), fun hs => ?_, fun hs => ?_⟩
  · have := h1.low _ hs; omega
  · have := h2.low _ hs; omega
theorem Duv.below (h : Duv w B V c room l cnt d more m cmt) (hb : Below w.heap.size w w') : Duv w' B V c room l cnt d more m cmt := by
  obtain ⟨S, T, h1, h2, h3, h4, h5, h6, h7, h8, h9⟩ := h
  exact ⟨S, T, h1.below hb, h2.below hb, h3, h4, h5, Nat.le_trans h6 hb.size, Nat.lt_of_lt_of_le h7 hb.size, h8, h9⟩
theorem Duv.at_ (h : Duv w B V c room l cnt d more m cmt) (hb : Below w.heap.size w w') : w'.heap[V]? = w.heap[V]? := by
  obtain ⟨S, T, h1, h2, h3, h4, h5, h6, h7, h8, h9⟩ := h
  exact hb.block V h7
/-- One call of the first. -/
theorem Duv.turn {S T : Nat → Prop} {n : Nat} (h2 : Cs w T d more m cmt) (h3 : ∀ k, S k → B ≤ k) (h4 : ∀ k, T k → B ≤ k) (h5 : ∀ k, S k → ¬ T k) (h6 : B ≤ w.heap.size) (h7 : V < w.heap.size) (h8 : ¬ S V) (h9 : ¬ T V)
    (ht : Turn w w' S c room l' n) : Duv w' B V c room l' n d more m cmt ∧ Below B w w' ∧ w'.heap[V]? = w.heap[V]? := by
  obtain ⟨S', g1, g2, g3⟩ := ht
  refine ⟨⟨S', T, g1, h2.kept g2 fun k ht hs => h5 k hs ht, fun k hk => ?_, h4, fun k hs ht => ?_, Nat.le_trans h6 g2.size, Nat.lt_of_lt_of_le h7 g2.size, fun hs => ?_, h9⟩, g2.to_below h6 h3, g2.block V h7 h8⟩
  · rcases g3 k hk with h | h
    · exact h3 k h
    · omega
  · rcases g3 k hs with h | h
    · exact h5 k h ht
    · have := h2.low k ht; omega
  · rcases g3 V hs with h | h
    · exact h8 h
    · omega

theorem put_v (h : Duv w B V c room l cnt d more m cmt) (k : Bs) (hk : k.length ≤ maxLen) (v : Bs) (wt : Int) (hcnt : cnt < maxLen) :
    Calls Try.prog 11 #[.pointer (some ⟨c, 0, none⟩), encStr k, encStr v, .int .i64 wt] w fun x w' => x = .returned (.bool (decide (0 ≤ wt ∧ wt ≤ (room : Int)))) ∧ Duv w' B V c room (putI room k v wt l) (cnt + 1) d more m cmt ∧ Below B w w' ∧ w'.heap[V]? = w.heap[V]? := by
  obtain ⟨S, T, h1, h2, h3, h4, h5, h6, h7, h8, h9⟩ := h
  exact (put_cs h1 k hk v wt hcnt).mono fun _ _ ⟨g1, g2⟩ => ⟨g1, Duv.turn h2 h3 h4 h5 h6 h7 h8 h9 g2⟩
theorem get_v (h : Duv w B V c room l cnt d more m cmt) (k : Bs) (hk : k.length ≤ maxLen) :
    Calls Try.prog 29 #[.pointer (some ⟨c, 0, none⟩), encStr k] w fun x w' => x = .returned (gotV (seek k l)) ∧ Duv w' B V c room (Lru.get k l) cnt d more m cmt ∧ Below B w w' ∧ w'.heap[V]? = w.heap[V]? := by
  obtain ⟨S, T, h1, h2, h3, h4, h5, h6, h7, h8, h9⟩ := h
  exact (get_cs h1 k hk).mono fun _ _ ⟨g1, g2⟩ => ⟨g1, Duv.turn h2 h3 h4 h5 h6 h7 h8 h9 g2⟩
theorem drop_v (h : Duv w B V c room l cnt d more m cmt) (k : Bs) (hk : k.length ≤ maxLen) :
    Calls Try.prog 30 #[.pointer (some ⟨c, 0, none⟩), encStr k] w fun x w' => x = .returned (.bool (seek k l).isSome) ∧ Duv w' B V c room (out k l) cnt d more m cmt ∧ Below B w w' ∧ w'.heap[V]? = w.heap[V]? := by
  obtain ⟨S, T, h1, h2, h3, h4, h5, h6, h7, h8, h9⟩ := h
  exact (drop_cs h1 k hk).mono fun _ _ ⟨g1, g2⟩ => ⟨g1, Duv.turn h2 h3 h4 h5 h6 h7 h8 h9 g2⟩
theorem clear_v (h : Duv w B V c room l cnt d more m cmt) :
    Calls Try.prog 31 #[.pointer (some ⟨c, 0, none⟩)] w fun x w' => x = .returned (.tuple #[]) ∧ Duv w' B V c room [] cnt d more m cmt ∧ Below B w w' ∧ w'.heap[V]? = w.heap[V]? := by
  obtain ⟨S, T, h1, h2, h3, h4, h5, h6, h7, h8, h9⟩ := h
  exact (clear_cs h1).mono fun _ _ ⟨g1, g2⟩ => ⟨g1, Duv.turn h2 h3 h4 h5 h6 h7 h8 h9 g2⟩
theorem got_v (h : Duv w B V c room l cnt d more m cmt) (k : Bs) (hk : k.length ≤ maxLen) {u : Value} (hu : gotV (seek k l) = u) :
    Calls Try.prog 29 #[.pointer (some ⟨c, 0, none⟩), encStr k] w fun x w' => x = .returned u ∧ Duv w' B V c room (Lru.get k l) cnt d more m cmt ∧ Below B w w' ∧ w'.heap[V]? = w.heap[V]? := by
  rw [← hu]; exact get_v h k hk
theorem keys_v (h : Duv w B V c room l cnt d more m cmt) (hcnt : cnt ≤ 8796093021952) :
    Calls Try.prog 12 #[.pointer (some ⟨c, 0, none⟩)] w fun x w' => ∃ A k, x = .returned (.slice A l.length k) ∧ Rd w' w'.heap.size 1 A l.length (cStr (l.map (·.key))) ∧ Below w.heap.size w w' ∧ Duv w' B V c room l cnt d more m cmt ∧ w'.heap[V]? = w.heap[V]? := by
  obtain ⟨S, T, h1, h2, h3, h4, h5, h6, h7, h8, h9⟩ := h
  refine (keys_cs h1 hcnt).mono ?_
  rintro x w' ⟨v, rfl, hr, hb⟩
  obtain ⟨A, k, rfl, _, _⟩ := own_form hr
  exact ⟨A, k, rfl, Rd.of_own hr, hb, Duv.below ⟨S, T, h1, h2, h3, h4, h5, h6, h7, h8, h9⟩ hb, hb.block V h7⟩
theorem weight_v (h : Duv w B V c room l cnt d more m cmt) :
    Calls Try.prog 28 #[.pointer (some ⟨c, 0, none⟩)] w fun x w' => x = .returned (.int .i64 (sumW l : Int)) ∧ w = w' := by
  obtain ⟨S, T, h1, h2, h3, h4, h5, h6, h7, h8, h9⟩ := h
  exact weight_cs h1
theorem Duv.len (h : Duv w B V c room l cnt d more m cmt) : l.length ≤ cnt := by
  obtain ⟨S, T, h1, h2, h3, h4, h5, h6, h7, h8, h9⟩ := h
  exact h1.len
theorem Duv.mono (h : Duv w B V c room l cnt d more m cmt) {n k : Nat} (hn : cnt ≤ n) (hk : cmt ≤ k) : Duv w B V c room l n d more m k := by
  obtain ⟨S, T, h1, h2, h3, h4, h5, h6⟩ := h
  exact ⟨S, T, h1.mono hn, h2.mono hk, h3, h4, h5, h6⟩
theorem keys_n (h : Duv w B V c room l cnt d more m cmt) (hcnt : cnt ≤ 8796093021952) {n : Nat} (hn : l.length = n) :
    Calls Try.prog 12 #[.pointer (some ⟨c, 0, none⟩)] w fun x w' => ∃ A k, x = .returned (.slice A n k) ∧ Rd w' w'.heap.size 1 A n (cStr (l.map (·.key))) ∧ Below w.heap.size w w' ∧ Duv w' B V c room l cnt d more m cmt := by
  subst hn
  exact (keys_v h hcnt).mono fun _ _ ⟨A, k, h1, h2, h3, h4, _⟩ => ⟨A, k, h1, h2, h3, h4⟩
theorem weight_n (h : Duv w B V c room l cnt d more m cmt) (h1 : ∀ e ∈ l, e.wt = 1) {n : Nat} (hn : l.length = n) :
    Calls Try.prog 28 #[.pointer (some ⟨c, 0, none⟩)] w fun x w' => x = .returned (.int .i64 (n : Int)) ∧ w = w' := by
  rw [← hn, ← one_sum h1]
  exact weight_v h
theorem dropt_v (h : Duv w B V c room l cnt d more m cmt) (k : Bs) (hk : k.length ≤ maxLen) {u : Bool} (hu : (seek k l).isSome = u) :
    Calls Try.prog 30 #[.pointer (some ⟨c, 0, none⟩), encStr k] w fun x w' => x = .returned (.bool u) ∧ Duv w' B V c room (out k l) cnt d more m cmt ∧ Below B w w' ∧ w'.heap[V]? = w.heap[V]? := by
  rw [← hu]; exact drop_v h k hk
end
end Go.Proofs.Ytpppgdfgbhglbaa.CaS
