/- Lists of calls that came in: what they read as. -/
import Derived.Test.YtpppgdfgbhglbaaOpen
import Derived.Test.YtpppgdfgbhglbaaTx
import Derived.Deep.Slices
import Derived.Deep.Fields
import Derived.Deep.MidRow
import Derived.ChangeSame
namespace Go.Proofs.Ytpppgdfgbhglbaa
open Go.ChangeShapes Go.WideShapes Go.ChangeAt Go.RowKit Go.Proofs Go.Deep
open Go.ChangeMaps (open_string shut_string)

section
variable {H : Type} {enc : TypeId × Value → H} {P : Program} {w : World} {base : Nat} {spare : Nat → Bool} {held : Bool}
/-- A list of structs of fields of one cell (turned from the guide's own block). -/
theorem open_slice_fields {t e : TypeId} {fs : Array Field} {fuel : Nat} {cs : List Value} {x : DataW H × List MemPlace} (ht : P.underlying t = some (.slice e)) (he : P.underlying e = some (.struct fs))
    (hone : oneCellFields P fs = true) (hC : P.cellsOf e = fs.size) (h : DataW.trod enc P w base spare held fuel t cs = some x) :
    (cs = [.slice none 0 0] ∧ x = (.nil, [])) ∨
    ∃ (a : Addr) (len cap m : Nat) (D : Nat → DataW H) (Pl : Nat → List MemPlace), cs = [.slice (some a) len cap] ∧ base ≤ a.block ∧ len ≤ cap ∧ cap ≤ maxLen ∧ m = (if spare a.block then cap else len) ∧
      x = (.slice ((List.range len).map D) ((List.range (m - len)).map fun j => D (len + j)), MemPlace.row a (m * fs.size) ++ (List.range m).flatMap Pl) ∧
      ∀ i, i < m → ∃ (ys : List (DataW H × List MemPlace)) (n : Nat), D i = .agg (ys.map (·.1)) ∧ Pl i = ys.flatMap (·.2) ∧ ys.length = fs.size ∧
        ∀ (j : Nat) (f : Field), fs[j]? = some f → ∃ (v : Value) (y : DataW H × List MemPlace), w.cell? (a.add (i * fs.size + j)) = some v ∧ ys[j]? = some y ∧ DataW.trod enc P w base spare held n f.type [v] = some y := by
  rcases open_slice ht h with h0 | ⟨a, len, cap, m, n, D, Pl, hcs, hb, hl, hm, hmm, hx, hi⟩
  · exact .inl h0
  · refine .inr ⟨a, len, cap, m, D, Pl, hcs, hb, hl, hm, hmm, by rw [hC] at hx; exact hx, fun i him => ?_⟩
    obtain ⟨cs', hc, ht'⟩ := hi i him
    rw [hC] at hc
    obtain ⟨ys, n', hn', hy, hlen, hyl, hf⟩ := DataW.trod_struct he ht'
    obtain ⟨_, hcl, hat⟩ := World.cells?_some hc
    simp only [Prod.mk.injEq] at hy
    refine ⟨ys, n', hy.1, hy.2, hyl, fun j f hj => ?_⟩
    obtain ⟨ho, hk⟩ := hone_of hone j f hj
    have hjl : j < fs.size := (Array.getElem?_eq_some_iff.1 hj).1
    have hcell := hat j hjl
    have hv : cs'[j]? = some (cs'[j]'(by omega)) := List.getElem?_eq_getElem (by omega)
    have h1 := hf j f hj
    rw [ho, hk] at h1
    have hone' : (cs'.drop j).take 1 = [cs'[j]'(by omega)] := by
      rw [List.drop_eq_getElem_cons (by omega)]
      rfl
    rw [hone'] at h1
    have hys : ys[j]? = some (ys[j]'(by omega)) := List.getElem?_eq_getElem (by omega)
    refine ⟨_, _, ?_, hys, h1.trans hys⟩
    rw [← Go.Deep.add_add, hcell, hv]end

namespace Ca

/-- One call, as it came in. -/
structure U where
  second : Bool
  doo : Int
  key : Bs
  value : Bs
  weight : Int
  deriving Inhabited
def U.cells (u : U) : List Value := [.bool u.second, .int .i64 u.doo, encStr u.key, encStr u.value, .int .i64 u.weight]
def U.ok (u : U) : Prop := (-9223372036854775808 ≤ u.doo ∧ u.doo ≤ 9223372036854775807) ∧ u.key.length ≤ maxLen ∧ u.value.length ≤ maxLen ∧ (-9223372036854775808 ≤ u.weight ∧ u.weight ≤ 9223372036854775807)
/-- The list of calls that a slice leads to. -/
def Uses (w : World) (B : Nat) (A : Option Addr) (n : Nat) (us : List U) : Prop :=
  us.length = n ∧ (0 < n → ∃ b o, A = some ⟨b, o, none⟩ ∧ b < B ∧ ∀ i u, us[i]? = some u → w.rangeAt b (o + i * 5) u.cells)

theorem Uses.keep {w w' : World} {B n : Nat} {A : Option Addr} {us : List U} (h : Uses w B A n us) (hk : ∀ p : Addr, p.block < B → w'.cell? p = w.cell? p) : Uses w' B A n us :=
  ⟨h.1, fun hn => by
    obtain ⟨b, o, e, hb, hc⟩ := h.2 hn
    exact ⟨b, o, e, hb, fun i u hu j v hv => (hk _ hb).trans (hc i u hu j v hv)⟩⟩
theorem Uses.below {w w' : World} {B n : Nat} {A : Option Addr} {us : List U} (h : Uses w B A n us) (hb : Below B w w') : Uses w' B A n us := h.keep fun _ hp => hb.cell hp
/-- Call i of a list. -/
theorem Uses.at_ {w : World} {B n i : Nat} {A : Option Addr} {us : List U} (h : Uses w B A n us) (hi : i < n) : ∃ b o u, A = some ⟨b, o, none⟩ ∧ us[i]? = some u ∧
    w.cell? ⟨b, o + i * 5, none⟩ = some (.bool u.second) ∧ w.cell? ⟨b, o + i * 5 + 1, none⟩ = some (.int .i64 u.doo) ∧ w.cell? ⟨b, o + i * 5 + 2, none⟩ = some (encStr u.key) ∧ w.cell? ⟨b, o + i * 5 + 3, none⟩ = some (encStr u.value) ∧ w.cell? ⟨b, o + i * 5 + 4, none⟩ = some (.int .i64 u.weight) := by
  obtain ⟨b, o, e, _, hc⟩ := h.2 (by omega)
  have hl : i < us.length := by have := h.1; omega
  have hu : us[i]? = some us[i] := List.getElem?_eq_getElem hl
  exact ⟨b, o, us[i], e, hu, hc i _ hu 0 _ rfl, hc i _ hu 1 _ rfl, hc i _ hu 2 _ rfl, hc i _ hu 3 _ rfl, hc i _ hu 4 _ rfl⟩

/-- A list of calls that came in. -/
theorem open_uses {H : Type} {enc : TypeId × Value → H} {W : World} {A : Option Addr} {n c : Nat} {d : DataW H} {p : List MemPlace}
    (h : DataW.Trod enc Try.prog W 0 (fun _ => true) true 22 (.slice A n c) d p) :
    ∃ us : List U, Uses W W.heap.size A n us ∧ (∀ u ∈ us, u.ok) ∧ (n = 0 ∨ ∃ el sp, d = .slice el sp ∧ el.length = n) := by
  obtain ⟨fuel, hf⟩ := h
  rcases open_slice_fields Try.underlying22 Try.underlying31 (by kernel_rfl) (by kernel_rfl) hf with ⟨hcs, hx⟩ | ⟨a, len, cap, m, D, Pl, hcs, _, hl, hm, hz, hx, hi⟩
  · simp [Value.cells] at hcs
    obtain ⟨rfl, rfl, rfl⟩ := hcs
    exact ⟨[], ⟨rfl, fun h0 => absurd h0 (by omega)⟩, by simp, .inl rfl⟩
  · simp [Value.cells] at hcs
    obtain ⟨rfl, rfl, rfl⟩ := hcs
    simp only [if_true] at hz
    have spot0 : 0 < n → a.spot = none := by
      intro hn
      obtain ⟨ys, k, _, _, _, hj⟩ := hi 0 (by omega)
      obtain ⟨v0, y0, c0, _, _⟩ := hj 0 _ rfl
      rw [Nat.zero_mul, Nat.add_zero] at c0
      have h2 : (a.add 0).spot = none := World.cell?_spot c0
      simpa [Addr.add] using h2
    have each : ∀ i, i < n → ∃ u : U, (a.spot = none ∧ W.rangeAt a.block (a.off + i * 5) u.cells) ∧ u.ok := by
      intro i hin
      obtain ⟨ys, k, _, _, _, hj⟩ := hi i (by omega)
      obtain ⟨v0, y0, c0, _, t0⟩ := hj 0 _ rfl
      obtain ⟨v1, y1, c1, _, t1⟩ := hj 1 _ rfl
      obtain ⟨v2, y2, c2, _, t2⟩ := hj 2 _ rfl
      obtain ⟨v3, y3, c3, _, t3⟩ := hj 3 _ rfl
      obtain ⟨v4, y4, c4, _, t4⟩ := hj 4 _ rfl
      obtain ⟨b0, e0, _⟩ := DataW.trod_bool Try.underlying4 t0
      obtain ⟨n1, e1, _, f1⟩ := DataW.trod_int Try.underlying3 t1
      obtain ⟨s2, e2, _, f2⟩ := DataW.trod_string Try.underlying9 t2
      obtain ⟨s3, e3, _, f3⟩ := DataW.trod_string Try.underlying9 t3
      obtain ⟨n4, e4, _, f4⟩ := DataW.trod_int Try.underlying3 t4
      injection e0 with e0; injection e1 with e1; injection e2 with e2; injection e3 with e3; injection e4 with e4
      subst e0 e1 e2 e3 e4
      rw [Nat.add_zero] at c0
      have hsp := spot0 (by omega)
      obtain ⟨b, o, sp⟩ := a
      have hsp2 : sp = none := hsp
      subst hsp2
      simp only [Addr.add_mid] at c0 c1 c2 c3 c4
      refine ⟨⟨b0, n1, s2.data.toList, s3.data.toList, n4⟩, ⟨rfl, ?_⟩, ?_⟩
      · intro j v hv
        match j, hv with
        | 0, hv => rw [← hv]; exact c0
        | 1, hv => rw [← hv]; exact c1
        | 2, hv => rw [← hv]; exact c2
        | 3, hv => rw [← hv]; exact c3
        | 4, hv => rw [← hv]; exact c4
        | j + 5, hv => cases hv
      · simp [Lit.wf, IntKind.min, IntKind.max, IntKind.signed, IntKind.bits, Bool.and_eq_true] at f1 f4
        exact ⟨f1, by rw [len_data]; exact f2, by rw [len_data]; exact f3, f4⟩
    obtain ⟨g, hg⟩ := choose_lt (α := U) (n := n) (p := fun i u => (a.spot = none ∧ W.rangeAt a.block (a.off + i * 5) u.cells) ∧ u.ok) each
    refine ⟨(List.range n).map g, ⟨by simp, fun h0 => ?_⟩, ?_, .inr ⟨_, _, congrArg Prod.fst hx, by simp⟩⟩
    · have hs := (hg 0 h0).1.1
      have hc0 := (hg 0 h0).1.2 0 _ rfl
      have hlt := block_of_cell hc0
      refine ⟨a.block, a.off, ?_, hlt, fun i u hu => ?_⟩
      · obtain ⟨b, o, sp⟩ := a
        obtain rfl : sp = none := hs
        rfl
      · rw [List.getElem?_map] at hu
        cases hr : (List.range n)[i]? with
        | none => rw [hr] at hu; cases hu
        | some k =>
          rw [hr] at hu
          have hk := List.getElem?_eq_some_iff.1 hr
          obtain ⟨hk1, hk2⟩ := hk
          simp at hk1 hk2
          subst hk2
          cases hu
          exact (hg i hk1).1.2
    · intro u hu
      obtain ⟨i, hi', rfl⟩ := List.mem_map.1 hu
      exact (hg i (List.mem_range.1 hi')).2
end Ca
end Go.Proofs.Ytpppgdfgbhglbaa
