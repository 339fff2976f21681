/- Two caches, each beside the document's: what a call of one does. -/
import Derived.Test.YtpppgdfgbhglbaaUsed
namespace Go.Proofs.Ytpppgdfgbhglbaa.CaS
open Go.RowKit Go.Proofs Go.Proofs.Ytpppgdfgbhglbaa.Ring Go.Proofs.Ytpppgdfgbhglbaa.Lru Go.Proofs.Ytpppgdfgbhglbaa.Ca

abbrev rvCells (room : Nat) (A : Option Addr) (n c : Nat) : Obj := .cells #[.int .i64 (room : Int), .slice A n c] 45 (0, 0)
structure Twin (w : World) (B X Y : Nat) (S T : Nat → Prop) (pc r : Nat) (l : List Ent) (A : Option Addr) (n1 c1 pd r2 : Nat) (m : List Ent) (A2 : Option Addr) (n2 c2 cnt : Nat) : Prop where
  one : Pair w S pc r l cnt A n1 c1
  two : Pair w T pd r2 m cnt A2 n2 c2
  apart : ∀ k, S k → ¬ T k
  offT : ∀ ad, 0 < n1 → A = some ad → ¬ T ad.block
  offS : ∀ ad, 0 < n2 → A2 = some ad → ¬ S ad.block
  lowS : ∀ k, S k → B ≤ k
  lowT : ∀ k, T k → B ≤ k
  x : w.heap[X]? = some (rvCells r A n1 c1)
  y : w.heap[Y]? = some (rvCells r2 A2 n2 c2)
  xS : ¬ S X
  xT : ¬ T X
  yS : ¬ S Y
  yT : ¬ T Y
  xy : X ≠ Y
  bX : B ≤ X
  bY : B ≤ Y
  ax : ∀ ad, 0 < n1 → A = some ad → ad.block ≠ X ∧ ad.block ≠ Y
  ay : ∀ ad, 0 < n2 → A2 = some ad → ad.block ≠ X ∧ ad.block ≠ Y
  bw : B ≤ w.heap.size

section
variable {w w' : World} {B X Y : Nat} {S T S' : Nat → Prop} {pc r n1 c1 pd r2 n2 c2 cnt n' c' : Nat} {l m l' : List Ent} {A A2 A' : Option Addr}
theorem Twin.swap (h : Twin w B X Y S T pc r l A n1 c1 pd r2 m A2 n2 c2 cnt) : Twin w B Y X T S pd r2 m A2 n2 c2 pc r l A n1 c1 cnt :=
  ⟨h.two, h.one, fun k ht hs => h.apart k hs ht, h.offS, h.offT, h.lowT, h.lowS, h.y, h.x, h.yT, h.yS, h.xT, h.xS, fun e => h.xy e.symm, h.bY, h.bX, fun ad h0 e => (h.ay ad h0 e).symm, fun ad h0 e => (h.ax ad h0 e).symm, h.bw⟩
theorem Es.kept {w w' : World} {n : Nat} {A : Option Addr} {l : List Ent} {U : Nat → Prop} (h : Es w w.heap.size A n l) (hk : Kept w w' U) (ha : ∀ ad, 0 < n → A = some ad → ¬ U ad.block) : Es w' w'.heap.size A n l := by
  refine ⟨h.1, ⟨h.2.1.1, fun h0 => ?_⟩, h.2.2⟩
  obtain ⟨ad, e, hlt, hc⟩ := h.2.1.2 h0
  refine ⟨ad, e, Nat.lt_of_lt_of_le hlt hk.size, fun j u hu => ?_⟩
  rw [← hc j u hu]
  exact World.cell?_of_block (by rw [add_block]; exact hk.block _ hlt (ha ad h0 e))
theorem Pair.kept {w w' : World} {n cp : Nat} {A : Option Addr} {l : List Ent} {U : Nat → Prop} (h : Pair w S pc r l cnt A n cp) (hk : Kept w w' U) (hs : ∀ k, S k → ¬ U k) (ha : ∀ ad, 0 < n → A = some ad → ¬ U ad.block) : Pair w' S pc r l cnt A n cp :=
  ⟨h.1.kept hk hs, Es.kept h.2.1 hk ha, h.2.2.1, h.2.2.2⟩
theorem Pair.mono {w : World} {n cp : Nat} {A : Option Addr} {l : List Ent} (h : Pair w S pc r l cnt A n cp) {k : Nat} (hk : cnt ≤ k) : Pair w S pc r l k A n cp := ⟨h.1.mono hk, h.2.1, h.2.2.1, h.2.2.2⟩
theorem Es.block_lt {w : World} {B n : Nat} {A : Option Addr} {l : List Ent} (h : Es w B A n l) {ad : Addr} (h0 : 0 < n) (had : A = some ad) : ad.block < B := by
  obtain ⟨ad', e, hlt, _⟩ := h.2.1.2 h0
  rw [had] at e; injection e with e; subst e; exact hlt

/-- The first is called, and what the document answers is kept. -/
theorem Twin.step (h : Twin w B X Y S T pc r l A n1 c1 pd r2 m A2 n2 c2 cnt) (hP : Pair w' S' pc r l' (cnt + 1) A' n' c') (hk : Kept w w' S) (hs : ∀ k, S' k → S k ∨ w.heap.size ≤ k)
    (ha : ∀ ad, 0 < n' → A' = some ad → (A' = A ∧ 0 < n1) ∨ w.heap.size ≤ ad.block) :
    Twin ((w'.setCell ⟨X, 0, none⟩ (.int .i64 (r : Int))).setCell ⟨X, 1, none⟩ (.slice A' n' c')) B X Y S' T pc r l' A' n' c' pd r2 m A2 n2 c2 (cnt + 1) ∧ Below B w ((w'.setCell ⟨X, 0, none⟩ (.int .i64 (r : Int))).setCell ⟨X, 1, none⟩ (.slice A' n' c')) := by
  have hXlt : X < w.heap.size := (Array.getElem?_eq_some_iff.1 h.x).1
  have hYlt : Y < w.heap.size := (Array.getElem?_eq_some_iff.1 h.y).1
  have hks : Kept w' ((w'.setCell ⟨X, 0, none⟩ (.int .i64 (r : Int))).setCell ⟨X, 1, none⟩ (.slice A' n' c')) (fun k => k = X) := ((Kept.refl w' (fun k => k = X)).set (p := ⟨X, 0, none⟩) rfl _).set (p := ⟨X, 1, none⟩) rfl _
  have hTlt := h.two.1.low
  have hA' : ∀ ad, 0 < n' → A' = some ad → ¬ T ad.block ∧ ad.block ≠ X ∧ ad.block ≠ Y := by
    intro ad h0 had
    rcases ha ad h0 had with ⟨e, h1⟩ | h1
    · exact ⟨h.offT ad h1 (e ▸ had), h.ax ad h1 (e ▸ had)⟩
    · exact ⟨fun ht => by have := hTlt _ ht; omega, by omega, by omega⟩
  have hS'X : ∀ k, S' k → k ≠ X := by
    intro k hk2 e
    subst e
    rcases hs _ hk2 with h1 | h1
    · exact h.xS h1
    · omega
  have h2 : Pair w' T pd r2 m cnt A2 n2 c2 := h.two.kept hk (fun k ht hs2 => h.apart k hs2 ht) h.offS
  have hxw : w'.heap[X]? = some (rvCells r A n1 c1) := (hk.block X hXlt h.xS).trans h.x
  refine ⟨⟨hP.kept hks hS'X fun ad h0 had => (hA' ad h0 had).2.1, (h2.kept hks (fun k ht e => h.xT (e ▸ ht)) fun ad h0 had => (h.ay ad h0 had).1).mono (Nat.le_succ _), ?_, fun ad h0 had => (hA' ad h0 had).1, ?_, ?_, h.lowT, ?_, ?_, fun hx => hS'X X hx rfl, h.xT, ?_, h.yT, h.xy, h.bX, h.bY, fun ad h0 had => (hA' ad h0 had).2, h.ay, ?_⟩, ?_⟩
  · intro k hk2 ht
    rcases hs _ hk2 with h1 | h1
    · exact h.apart k h1 ht
    · have := hTlt _ ht; omega
  · intro ad h0 had hk2
    rcases hs _ hk2 with h1 | h1
    · exact h.offS ad h0 had h1
    · have := Es.block_lt h.two.2.1 h0 had; omega
  · intro k hk2
    rcases hs _ hk2 with h1 | h1
    · exact h.lowS k h1
    · have := h.bw; omega
  · have e1 : (w'.setCell ⟨X, 0, none⟩ (.int .i64 (r : Int))).heap[X]? = some (.cells (#[.int .i64 (r : Int), .slice A n1 c1].setIfInBounds 0 (.int .i64 (r : Int))) 45 (0, 0)) := heap_same hxw _
    have e2 := heap_same (i := 1) e1 (.slice A' n' c')
    exact e2
  · exact (hks.block Y (Nat.lt_of_lt_of_le hYlt hk.size) (fun e => h.xy e.symm)).trans ((hk.block Y hYlt h.yS).trans h.y)
  · intro hy
    rcases hs _ hy with h1 | h1
    · exact h.yS h1
    · omega
  · have := h.bw; have := hk.size; have := hks.size; omega
  · exact (hk.to_below h.bw h.lowS).trans (hks.to_below (Nat.le_trans h.bw hk.size) fun k e => e ▸ h.bX)
end
end Go.Proofs.Ytpppgdfgbhglbaa.CaS
