/- The walk of used: one call of a cache, and of the document's. -/
import Derived.Test.YtpppgdfgbhglbaaRef4
import Derived.Test.YtpppgdfgbhglbaaDuo
import Derived.Test.YtpppgdfgbhglbaaUses
import Derived.Deep.WholeRow
namespace Go.Proofs.Ytpppgdfgbhglbaa.CaS
open Go.RowKit Go.Proofs Go.Proofs.Ytpppgdfgbhglbaa.Ring Go.Proofs.Ytpppgdfgbhglbaa.Lru Go.Proofs.Ytpppgdfgbhglbaa.Ca

theorem rput_all (room : Nat) (hroom : room ≤ 1073741824) (A : Option Addr) (n c B : Nat) (l : List Ent) (k v : Bs) (wt : Int) (hsum : sumW l ≤ room) (hn : n ≤ 3298534883327) (w : World) (hB : B ≤ w.heap.size) (hr : Es w B A n l) {bb : Bool} (hbb : decide (0 ≤ wt ∧ wt ≤ (room : Int)) = bb) :
    Calls Try.prog 16 #[rv room A n c, .string ⟨k.toArray⟩, .string ⟨v.toArray⟩, .int .i64 wt] w fun x w' => ∃ A' c', x = .returned (.tuple #[rv room A' (putI room k v wt l).length c', .bool bb]) ∧ Es w' w'.heap.size A' (putI room k v wt l).length (putI room k v wt l) ∧ (A' = none → c' = 0) ∧ (∀ ad, A' = some ad → w.heap.size ≤ ad.block) ∧ Below w.heap.size w w' := by
  subst hbb
  by_cases hw : 0 ≤ wt ∧ wt ≤ (room : Int)
  · obtain ⟨n', rfl⟩ : ∃ n : Nat, wt = (n : Int) := ⟨wt.toNat, by omega⟩
    have := rput_any room hroom A n c B l k v n' (by omega) hsum hn w hB hr
    have e : putI room k v (n' : Int) l = Lru.put room k v n' l := by unfold putI; rw [if_pos hw]; rfl
    rw [e, decide_eq_true hw]
    exact this
  · have := rput_not room A n c B l k v wt (by omega) hn w hB hr
    have e : putI room k v wt l = out k l := by unfold putI; rw [if_neg hw]
    rw [e, decide_eq_false hw]
    exact this

theorem put_csb {w : World} {S : Nat → Prop} {c room cnt : Nat} {l : List (It Bs Bs)} (h : Cs w S c room l cnt) (k : Bs) (hk : k.length ≤ maxLen) (v : Bs) (wt : Int) (hcnt : cnt < maxLen) {bb : Bool} (hbb : decide (0 ≤ wt ∧ wt ≤ (room : Int)) = bb) :
    Calls Try.prog 11 #[.pointer (some ⟨c, 0, none⟩), encStr k, encStr v, .int .i64 wt] w fun x w' => x = .returned (.bool bb) ∧ Turn w w' S c room (putI room k v wt l) (cnt + 1) := by
  subst hbb
  exact put_cs h k hk v wt hcnt

/-- A cache, and the document's beside it, in memory that is not the cache's. -/
def Pair (w : World) (S : Nat → Prop) (c room : Nat) (l : List Ent) (cnt : Nat) (A : Option Addr) (n cp : Nat) : Prop :=
  Cs w S c room l cnt ∧ Es w w.heap.size A n l ∧ (A = none → cp = 0) ∧ (∀ ad, 0 < n → A = some ad → ¬ S ad.block)

theorem Turn.at_ {w w' : World} {S : Nat → Prop} {c room cnt : Nat} {l : List (It Bs Bs)} (h : Turn w w' S c room l cnt) {b : Nat} {o : Obj} (hb : w.heap[b]? = some o) (hs : ¬ S b) : w'.heap[b]? = some o := by
  obtain ⟨S', _, hk, _⟩ := h
  exact (hk.block b (Array.getElem?_eq_some_iff.1 hb).1 hs).trans hb
/-- Behind the calls the result's cells are written. -/
theorem pair_close {w wx w2 : World} {S : Nat → Prop} {V c room cnt cnt' n cp m1 c1 : Nat} {l l' : List Ent} {A A1 : Option Addr} (hP : Pair w S c room l cnt A n cp) (hV : w.heap.size = V) (hb : Below w.heap.size w wx) (hsz : V + 3 ≤ wx.heap.size) (ht : Turn wx w2 S c room l' cnt')
    (hE : Es wx wx.heap.size A1 m1 l') (hcap : A1 = none → c1 = 0) (hfr : ∀ ad, 0 < m1 → A1 = some ad → (V ≤ ad.block → V + 3 ≤ ad.block) ∧ ¬ S ad.block) (x y : Value) :
    ∃ S', Pair ((w2.setCell ⟨V + 1 + 1, 0, none⟩ x).setCell ⟨V + 1 + 1, 1, none⟩ y) S' c room l' cnt' A1 m1 c1 ∧ Kept w ((w2.setCell ⟨V + 1 + 1, 0, none⟩ x).setCell ⟨V + 1 + 1, 1, none⟩ y) S ∧ (∀ k, S' k → S k ∨ w.heap.size ≤ k) := by
  obtain ⟨S', g1, g2, g3⟩ := ht
  have hlow := hP.1.low
  have hks : Kept w2 ((w2.setCell ⟨V + 1 + 1, 0, none⟩ x).setCell ⟨V + 1 + 1, 1, none⟩ y) (fun k => k = V + 1 + 1) := ((Kept.refl w2 (fun k => k = V + 1 + 1)).set (p := ⟨V + 1 + 1, 0, none⟩) rfl x).set (p := ⟨V + 1 + 1, 1, none⟩) rfl y
  have hS'V : ∀ k, S' k → k ≠ V + 1 + 1 := by
    intro k hk he
    subst he
    rcases g3 _ hk with h | h
    · have := hlow _ h; omega
    · omega
  have hw2 : wx.heap.size ≤ w2.heap.size := g2.size
  have hall : ∀ ad, 0 < m1 → A1 = some ad → ad.block < wx.heap.size ∧ ad.block ≠ V + 1 + 1 ∧ ¬ S ad.block := by
    intro ad h0 had
    obtain ⟨ad', e, hlt, _⟩ := hE.2.1.2 h0
    rw [had] at e; injection e with e; subst e
    obtain ⟨h1, h2⟩ := hfr ad h0 had
    refine ⟨hlt, ?_, h2⟩
    intro he
    have := h1 (by omega)
    omega
  refine ⟨S', ⟨g1.kept hks hS'V, ?_, hcap, ?_⟩, ?_, ?_⟩
  · refine ⟨hE.1, ⟨hE.2.1.1, fun h0 => ?_⟩, hE.2.2⟩
    obtain ⟨ad, e, hlt, hc⟩ := hE.2.1.2 h0
    obtain ⟨h1, h2, h3⟩ := hall ad h0 e
    refine ⟨ad, e, Nat.lt_of_lt_of_le hlt (Nat.le_trans hw2 hks.size), fun j u hu => ?_⟩
    have hblk : ((w2.setCell ⟨V + 1 + 1, 0, none⟩ x).setCell ⟨V + 1 + 1, 1, none⟩ y).heap[ad.block]? = wx.heap[ad.block]? := (hks.block _ (by omega) h2).trans (g2.block _ h1 h3)
    rw [← hc j u hu]
    exact World.cell?_of_block (by rw [add_block]; exact hblk)
  · intro ad h0 had hs
    obtain ⟨h1, h2, h3⟩ := hall ad h0 had
    rcases g3 _ hs with h | h
    · exact h3 h
    · omega
  · exact ((Kept.of_below S hb).trans g2 (fun k hk => .inl hk)).trans hks (fun k hk => .inr (by omega))
  · intro k hk
    rcases g3 k hk with h | h
    · exact .inl h
    · exact .inr (by have := hb.size; omega)
theorem Pair.drew {w : World} {S : Nat → Prop} {c room cnt n cp : Nat} {l : List Ent} {A : Option Addr} (h : Pair w S c room l cnt A n cp) : Pair w.drew S c room l cnt A n cp :=
  ⟨h.1.below ((Below.refl _ _).drew), h.2.1, h.2.2.1, h.2.2.2⟩
theorem Kept.drew {w w' : World} {S : Nat → Prop} (h : Kept w w' S) : Kept w w'.drew S := ⟨h.os, h.tape, h.output, h.size, h.block⟩
theorem Turn.undrew {w w' : World} {S : Nat → Prop} {c room cnt : Nat} {l : List (It Bs Bs)} (h : Turn w.drew w' S c room l cnt) : Turn w w' S c room l cnt := by
  obtain ⟨S', h1, h2, h3⟩ := h
  exact ⟨S', h1, ⟨h2.os, h2.tape, h2.output, h2.size, h2.block⟩, h3⟩

theorem boxed3 (w : World) (room : Nat) (A : Option Addr) (n c : Nat) (u : U) : ∃ wb V, ((w.alloc (.cells #[.int .i64 (room : Int), .slice A n c] 45)).alloc (.cells u.cells.toArray 31)).alloc (.cells #[.int .i64 0, .slice none 0 0] 45) = wb ∧ w.heap.size = V ∧ Below w.heap.size w wb ∧ wb.heap.size = V + 3 ∧
    wb.heap[V]? = some (.cells #[.int .i64 (room : Int), .slice A n c] 45 (0, 0)) ∧ wb.heap[V + 1]? = some (.cells #[.bool u.second, .int .i64 u.doo, .string ⟨u.key.toArray⟩, .string ⟨u.value.toArray⟩, .int .i64 u.weight] 31 (0, 0)) ∧ wb.heap[V + 1 + 1]? = some (.cells #[.int .i64 0, .slice none 0 0] 45 (0, 0)) := by
  refine ⟨_, _, rfl, rfl, (((Below.refl _ _).alloc (Nat.le_refl _) _).alloc (by simp) _).alloc (by simp; omega) _, by simp, ?_, ?_, ?_⟩
  · rw [heap_alloc_old _ _ (by simp; omega), heap_alloc_old _ _ (by simp)]; exact heap_alloc_new w _
  · rw [heap_alloc_old _ _ (by simp)]
    have := heap_alloc_new (w.alloc (.cells #[.int .i64 (room : Int), .slice A n c] 45)) (.cells u.cells.toArray 31)
    simp only [World.size_alloc] at this
    exact this
  · have := heap_alloc_new ((w.alloc (.cells #[.int .i64 (room : Int), .slice A n c] 45)).alloc (.cells u.cells.toArray 31)) (.cells #[.int .i64 0, .slice none 0 0] 45)
    simp only [World.size_alloc] at this
    exact this
theorem five_cells {w : World} {V : Nat} {y0 y1 y2 y3 y4 : Value} {t : TypeId} (h : w.heap[V]? = some (.cells #[y0, y1, y2, y3, y4] t (0, 0))) : w.cell? ⟨V, 1, none⟩ = some y1 ∧ w.cell? ⟨V, 2, none⟩ = some y2 ∧ w.cell? ⟨V, 3, none⟩ = some y3 ∧ w.cell? ⟨V, 4, none⟩ = some y4 :=
  ⟨by rw [cell_of_row w V 1 _ _ _ h]; rfl, by rw [cell_of_row w V 2 _ _ _ h]; rfl, by rw [cell_of_row w V 3 _ _ _ h]; rfl, by rw [cell_of_row w V 4 _ _ _ h]; rfl⟩

theorem Turn.of_below {w w' : World} {S : Nat → Prop} {c room cnt : Nat} {l : List (It Bs Bs)} (h : Cs w S c room l cnt) (hb : Below w.heap.size w w') : Turn w w' S c room l (cnt + 1) :=
  ⟨S, (h.below hb).mono (Nat.le_succ _), Kept.of_below S hb, fun _ hk => .inl hk⟩
theorem Turn.more {w w' : World} {S : Nat → Prop} {c room cnt : Nat} {l : List (It Bs Bs)} (h : Turn w w' S c room l cnt) : Turn w w' S c room l (cnt + 1) := by
  obtain ⟨S', h1, h2, h3⟩ := h
  exact ⟨S', h1.mono (Nat.le_succ _), h2, h3⟩
theorem get_csv {w : World} {S : Nat → Prop} {c room cnt : Nat} {l : List (It Bs Bs)} (h : Cs w S c room l cnt) (k : Bs) (hk : k.length ≤ maxLen) {u : Value} (hu : gotV (seek k l) = u) :
    Calls Try.prog 29 #[.pointer (some ⟨c, 0, none⟩), encStr k] w fun x w' => x = .returned u ∧ Turn w w' S c room (Lru.get k l) cnt := by
  subst hu
  exact get_cs h k hk
theorem rget_v (room : Nat) (A : Option Addr) (n c B : Nat) (l : List Ent) (k : Bs) (hn : n ≤ 3298534883327) (w : World) (hB : B ≤ w.heap.size) (hr : Es w B A n l) (hcap : A = none → c = 0) {sv : Value} {b : Bool} (hsv : gotS (seek k l) = sv) (hb : (seek k l).isSome = b) :
    Calls Try.prog 19 #[rv room A n c, .string ⟨k.toArray⟩] w fun x w' => ∃ A' c', x = .returned (.tuple #[rv room A' (Lru.get k l).length c', sv, .bool b]) ∧ Es w' w'.heap.size A' (Lru.get k l).length (Lru.get k l) ∧ (A' = none → c' = 0) ∧ (A' = A ∨ ∀ ad, A' = some ad → w.heap.size ≤ ad.block) ∧ Below w.heap.size w w' := by
  subst hsv hb
  exact rget_any room A n c B l k hn w hB hr hcap
theorem drop_csb {w : World} {S : Nat → Prop} {c room cnt : Nat} {l : List (It Bs Bs)} (h : Cs w S c room l cnt) (k : Bs) (hk : k.length ≤ maxLen) {bb : Bool} (hbb : (seek k l).isSome = bb) :
    Calls Try.prog 30 #[.pointer (some ⟨c, 0, none⟩), encStr k] w fun x w' => x = .returned (.bool bb) ∧ Turn w w' S c room (out k l) cnt := by
  subst hbb
  exact drop_cs h k hk
theorem rdrop_b (room : Nat) (A : Option Addr) (n c B : Nat) (l : List Ent) (k : Bs) (hn : n ≤ 3298534883328) (w : World) (hB : B ≤ w.heap.size) (hr : Es w B A n l) (hk : (l.map (·.key)).Nodup) {bb : Bool} (hbb : (seek k l).isSome = bb) :
    Calls Try.prog 21 #[rv room A n c, .string ⟨k.toArray⟩] w fun x w' => ∃ A' c', x = .returned (.tuple #[rv room A' (out k l).length c', .bool bb]) ∧ Es w' w'.heap.size A' (out k l).length (out k l) ∧ (A' = none → c' = 0) ∧ (∀ ad, A' = some ad → w.heap.size ≤ ad.block) ∧ Below w.heap.size w w' := by
  subst hbb
  exact rdrop_any room A n c B l k hn w hB hr hk
theorem Turn.then {w w1 w2 : World} {S : Nat → Prop} {c room cnt : Nat} {l : List (It Bs Bs)} (h : Turn w w1 S c room l cnt) (hb : Below w1.heap.size w1 w2) : Turn w w2 S c room l cnt := by
  obtain ⟨S', h1, h2, h3⟩ := h
  exact ⟨S', h1.below hb, h2.below hb, h3⟩
theorem same_eq (A : Option Addr) (n c : Nat) (xs : List Bs) (A' : Option Addr) (n' c' : Nat) (B B' : Nat) (hn : n ≤ maxLen) (hn' : n' ≤ maxLen) (w : World) (hr : Rd w B 1 A n (cStr xs)) (hr' : Rd w B' 1 A' n' (cStr xs)) :
    Calls Try.prog 13 #[.slice A n c, .slice A' n' c'] w fun e w' => e = .returned (.bool true) ∧ Below w.heap.size w w' := by
  refine (same_any A n c xs A' n' c' xs B B' hn hn' w hr hr').mono ?_
  rintro e w' ⟨rfl, q, rfl⟩
  exact ⟨by simp, below_drewN (Below.refl _ _) q⟩
theorem keys_s {w : World} {S : Nat → Prop} {c room cnt n : Nat} {l : List (It Bs Bs)} (h : Cs w S c room l cnt) (hcnt : cnt ≤ 8796093021952) (hn : l.length = n) :
    Calls Try.prog 12 #[.pointer (some ⟨c, 0, none⟩)] w fun x w' => ∃ A k, x = .returned (.slice A n k) ∧ Rd w' w'.heap.size 1 A n (cStr (l.map (·.key))) ∧ Below w.heap.size w w' := by
  subst hn
  refine (keys_cs h hcnt).mono ?_
  rintro x w' ⟨v, rfl, hr, hb⟩
  obtain ⟨A, k, rfl, _, _⟩ := own_form hr
  exact ⟨A, k, rfl, Rd.of_own hr, hb⟩
theorem rkeys_s (room : Nat) (A : Option Addr) (n c B : Nat) (l : List Ent) (hn : n ≤ 3298534883328) (w : World) (hB : B ≤ w.heap.size) (hr : Es w B A n l) :
    Calls Try.prog 24 #[rv room A n c] w fun x w' => ∃ A' k, x = .returned (.slice A' n k) ∧ Rd w' w'.heap.size 1 A' n (cStr (l.map (·.key))) ∧ Below w.heap.size w w' := by
  refine (rkeys_any room A n c B l hn w hB hr).mono ?_
  rintro x w' ⟨v, rfl, hr, hb⟩
  obtain ⟨A, k, rfl, _, _⟩ := own_form hr
  exact ⟨A, k, rfl, Rd.of_own hr, hb⟩
end Go.Proofs.Ytpppgdfgbhglbaa.CaS
