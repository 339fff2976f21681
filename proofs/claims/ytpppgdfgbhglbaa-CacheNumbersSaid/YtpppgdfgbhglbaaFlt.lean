/- Lists of floating-point numbers that came in: what they read as. Over any program. -/
import Derived.Test.YtpppgdfgbhglbaaOpen
import Derived.Deep.Slices
import Derived.Deep.MidRow
namespace Go.Proofs.Ytpppgdfgbhglbaa
open Go.ChangeShapes Go.WideShapes Go.ChangeAt Go.RowKit Go.Proofs Go.Deep

theorem trod_float {H : Type} {enc : TypeId × Value → H} {P : Program} {w : World} {base : Nat} {spare : Nat → Bool} {held : Bool} {t : TypeId} {fuel : Nat} {cs : List Value} {x : DataW H × List MemPlace} (ht : P.underlying t = some (.float .f64)) (h : DataW.trod enc P w base spare held fuel t cs = some x) :
    ∃ b, cs = [.float .f64 b] ∧ b < 18446744073709551616 := by
  cases fuel with
  | zero => simp [DataW.trod] at h
  | succ n =>
    simp only [DataW.trod, ht] at h
    split at h <;> first | cases h | skip
    all_goals (simp_all; try grind [Lit.wf])

abbrev cFlt (l : List Nat) : List Value := l.map fun b => Value.float .f64 b
/-- A list of numbers that came in. -/
theorem open_flts {H : Type} {enc : TypeId × Value → H} {P : Program} {W : World} {t e : TypeId} (ht : P.underlying t = some (.slice e)) (he : P.underlying e = some (.float .f64)) (hc : P.cellsOf e = 1)
    {A : Option Addr} {n c : Nat} {d : DataW H} {p : List MemPlace} (h : DataW.Trod enc P W 0 (fun _ => true) true t (.slice A n c) d p) :
    ∃ ks : List Nat, Rd W W.heap.size 1 A n (cFlt ks) ∧ (∀ k ∈ ks, k < 18446744073709551616) ∧ (n = 0 ∨ ∃ el sp, d = .slice el sp ∧ el.length = n) := by
  obtain ⟨fuel, hf⟩ := h
  rcases open_slice ht hf with ⟨hcs, hx⟩ | ⟨a, len, cap, m, q, D, Pl, hcs, _, hl, hm, hz, hx, hi⟩
  · simp [Value.cells] at hcs
    obtain ⟨rfl, rfl, rfl⟩ := hcs
    exact ⟨[], ⟨rfl, fun h0 => absurd h0 (by omega)⟩, by simp, .inl rfl⟩
  · simp [Value.cells] at hcs
    obtain ⟨rfl, rfl, rfl⟩ := hcs
    simp only [if_true] at hz
    have each : ∀ i, i < n → ∃ k : Nat, W.cell? (a.add i) = some (.float .f64 k) ∧ k < 18446744073709551616 := by
      intro i hin
      obtain ⟨cs', hcc, htr⟩ := hi i (by omega)
      rw [hc, Nat.mul_one] at hcc
      obtain ⟨b, rfl, hb⟩ := trod_float he htr
      obtain ⟨_, _, hat⟩ := World.cells?_some hcc
      have := hat 0 (by omega)
      rw [Go.Deep.add_add, Nat.add_zero] at this
      exact ⟨b, this, hb⟩
    obtain ⟨g, hg⟩ := choose_lt (α := Nat) (n := n) (p := fun i k => W.cell? (a.add i) = some (.float .f64 k) ∧ k < 18446744073709551616) each
    refine ⟨(List.range n).map g, ⟨by simp, fun h0 => ⟨a, rfl, ?_, ?_⟩⟩, ?_, .inr ⟨_, _, congrArg Prod.fst hx, by simp⟩⟩
    · have := block_of_cell (hg 0 h0).1
      rwa [add_block] at this
    · intro j u hu
      simp only [cFlt, List.map_map, List.getElem?_map] at hu
      cases hr : (List.range n)[j]? with
      | none => rw [hr] at hu; cases hu
      | some k =>
        rw [hr] at hu
        obtain ⟨hk1, hk2⟩ := List.getElem?_eq_some_iff.1 hr
        simp at hk1 hk2
        subst hk2
        cases hu
        exact (hg _ hk1).1
    · intro u hu
      obtain ⟨i, hi', rfl⟩ := List.mem_map.1 hu
      exact (hg i (List.mem_range.1 hi')).2
end Go.Proofs.Ytpppgdfgbhglbaa
