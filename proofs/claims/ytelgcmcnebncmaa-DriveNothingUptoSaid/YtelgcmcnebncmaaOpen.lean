/- Arguments opened: a list of texts; and the last step of a row whose call leaves what stood. Over any program. -/
import Derived.Test.YtelgcmcnebncmaaBase
import Derived.ProofKit
import Derived.OpenShut
import Derived.ShutString
import Derived.ChangeOld
import Derived.SizedLaws
import Derived.SliceStrings
namespace Go.Proofs.Ytelgcmcnebncmaa
open Go.ChangeShapes Go.WideShapes Go.ChangeAt Go.RowKit Go.Proofs
open Go.ChangeMaps (open_string shut_string)

theorem block_of_cell {w : World} {a : Addr} {v : Value} (h : w.cell? a = some v) : a.block < w.heap.size := by
  unfold World.cell? at h
  rcases Nat.lt_or_ge a.block w.heap.size with hlt | hge
  · exact hlt
  · rw [Array.getElem?_eq_none hge] at h; cases h

/-- A list of texts that came in. -/
theorem open_strs {H : Type} {enc : TypeId × Value → H} {P : Program} {W : World} {t e : TypeId} (ht : P.underlying t = some (.slice e)) (he : P.underlying e = some .string) (hc : P.cellsOf e = 1)
    {A : Option Addr} {n c : Nat} {d : DataW H} {p : List MemPlace} (h : DataW.Trod enc P W 0 (fun _ => true) true t (.slice A n c) d p) :
    ∃ xs : List (List UInt8), Rd W W.heap.size 1 A n (cStr xs) ∧ (∀ x ∈ xs, x.length ≤ maxLen) ∧ (n = 0 ∨ ∃ el sp, d = .slice el sp ∧ el.length = n) := by
  obtain ⟨fuel, hf⟩ := h
  rcases open_strings ht he hc hf with ⟨hcs, hx⟩ | ⟨a, len, cap, ss, hcs, _, hl, hm, hz, hx, hcell, hws⟩
  · simp [Value.cells] at hcs
    obtain ⟨rfl, rfl, rfl⟩ := hcs
    exact ⟨[], ⟨rfl, fun h0 => absurd h0 (by omega)⟩, by simp, .inl rfl⟩
  · simp [Value.cells] at hcs
    obtain ⟨rfl, rfl, rfl⟩ := hcs
    simp only [if_true] at hz
    have hnl : n ≤ ss.length := by omega
    refine ⟨(ss.take n).map fun s => s.data.toList, ⟨by simp; omega, fun h0 => ⟨a, rfl, ?_, ?_⟩⟩, ?_, .inr ⟨strs (ss.take n), strs (ss.drop n), ?_, ?_⟩⟩
    · have := block_of_cell (hcell 0 (by omega))
      rwa [add_block] at this
    · intro j u hu
      simp only [cStr, List.map_map, List.getElem?_map] at hu
      cases hs : (ss.take n)[j]? with
      | none => rw [hs] at hu; cases hu
      | some s =>
        rw [hs] at hu
        have hj : j < n := by
          obtain ⟨h1, _⟩ := List.getElem?_eq_some_iff.1 hs
          rw [List.length_take] at h1; omega
        rw [hcell j (by omega)]
        have hs2 : ss[j]? = some s := by rw [List.getElem?_take_of_lt hj] at hs; exact hs
        simp only [Option.map_some, Option.some.injEq, Function.comp] at hu
        rw [← hu, List.getD_eq_getElem?_getD, hs2]
        rfl
    · intro x hx
      obtain ⟨s, hs, rfl⟩ := List.mem_map.1 hx
      rw [len_data]
      exact hws s (List.mem_of_mem_take hs)
    · have := (Prod.mk.inj hx).1; exact this
    · simp [strs]; omega

/-- A nil list of texts has no room. -/
theorem open_strs_nil {H : Type} {enc : TypeId × Value → H} {P : Program} {W : World} {t e : TypeId} (ht : P.underlying t = some (.slice e)) (he : P.underlying e = some .string) (hc : P.cellsOf e = 1)
    {A : Option Addr} {n c : Nat} {d : DataW H} {p : List MemPlace} (h : DataW.Trod enc P W 0 (fun _ => true) true t (.slice A n c) d p) : A = none → c = 0 := by
  obtain ⟨fuel, hf⟩ := h
  rcases open_strings ht he hc hf with ⟨hcs, hx⟩ | ⟨a, len, cap, ss, hcs, _⟩
  · simp [Value.cells] at hcs
    exact fun _ => hcs.2.2
  · simp [Value.cells] at hcs
    intro h0
    rw [hcs.1] at h0; cases h0

/-- The last step: the call answered true and left what stood. -/
theorem shut_true {H : Type} {enc : TypeId × Value → H} {P : Program} {f : Func} {s : ChangeSpec} {W W' : World} {args : Array Value} {ds : List (DataW H)} {p : List MemPlace}
    (tb : TypeId) (hb : P.underlying tb = some .bool) (hres : f.resultTypes = #[tb])
    (hW : DataW.Whole enc P f.params.toList s.vars false W args.toList ds [] (p ++ []))
    (hs : (s.fn H ds).results = [.lit (.bool true)] ∧ (s.fn H ds).args = ds ∧ (s.fn H ds).vars = []) (hv : s.vars = [])
    (hargs : DataW.TrodAll enc P W' 0 (fun b => decide (b < W.heap.size)) true f.params.toList args.toList ds p)
    (bel : Below W.heap.size W W') : s.post enc P f false true false false W args (.bool true) W' := by
  refine ⟨_, _, _, [], p, [], hW, ?_, ?_, ?_, bel.frame _, fun h => by cases h⟩
  · rw [List.append_nil, hs.1, hres]
    exact trodAll_mk1 (shut_bool hb _)
  · rw [List.append_nil, hs.2.1]; exact hargs
  · rw [List.append_nil, hs.2.2, hv]; rfl
end Go.Proofs.Ytelgcmcnebncmaa
