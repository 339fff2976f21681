/- A list of files that a call has built: what its blocks say. -/
import Derived.Test.YtelgcmcnebncmaaDv
namespace Go.Proofs.Ytelgcmcnebncmaa.Dr
open Go.RowKit Go.Proofs Go.Proofs.Ytelgcmcnebncmaa.Ring

abbrev tFile := 69
def cF : List (Bs × Bs) → List Value → List Value
  | f :: fs, x :: dv => encStr f.1 :: x :: cF fs dv
  | _, _ => []
theorem cF_snoc : ∀ (fs : List (Bs × Bs)) (dv : List Value), dv.length = fs.length → ∀ f x, cF (fs ++ [f]) (dv ++ [x]) = cF fs dv ++ [encStr f.1, x]
  | [], [], _, _, _ => rfl
  | [], _ :: _, h, _, _ => by simp at h
  | _ :: _, [], h, _, _ => by simp at h
  | a :: fs, y :: dv, h, f, x => by
    show encStr a.1 :: y :: cF (fs ++ [f]) (dv ++ [x]) = encStr a.1 :: y :: (cF fs dv ++ [encStr f.1, x])
    rw [cF_snoc fs dv (by simpa using h)]
theorem cF_at : ∀ (fs : List (Bs × Bs)) (dv : List Value) (i : Nat) (f : Bs × Bs) (x : Value), fs[i]? = some f → dv[i]? = some x → (cF fs dv)[i * 2]? = some (encStr f.1) ∧ (cF fs dv)[i * 2 + 1]? = some x
  | [], _, _, _, _, h, _ => by cases h
  | _ :: _, [], _, _, _, _, h => by cases h
  | a :: fs, y :: dv, 0, f, x, h1, h2 => by injection h1 with h1; injection h2 with h2; subst h1 h2; exact ⟨rfl, rfl⟩
  | a :: fs, y :: dv, i + 1, f, x, h1, h2 => by
    have := cF_at fs dv i f x h1 h2
    rw [show (i + 1) * 2 = i * 2 + 1 + 1 by omega]
    exact this
/-- The files lie at v, their bytes at dv, all in memory from base on, each in memory of its own. -/
structure FilesAt (w : World) (base : Nat) (v : Value) (dv : List Value) (fs : List (Bs × Bs)) : Prop where
  row : w.ownsRow base tFile 2 v fs.length (cF fs dv)
  len : dv.length = fs.length
  data : ∀ (j : Nat) (f : Bs × Bs) (x : Value), fs[j]? = some f → dv[j]? = some x → w.ownsRow base tU8 1 x f.2.length (cU8 f.2)
  own : ∀ (i j : Nat) (x y : Value) (g : Nat), dv[i]? = some x → dv[j]? = some y → x.ownBlock = some g → y.ownBlock = some g → i = j
section
variable {w w1 w2 : World} {base : Nat} {v v2 : Value} {dv : List Value} {fs : List (Bs × Bs)}
theorem FilesAt.nil (w : World) (base : Nat) : FilesAt w base (.slice none 0 0) [] [] :=
  ⟨World.ownsRow_nil _ _ _ _, rfl, fun j f x h => (by cases h), fun i j x y g h => (by cases h)⟩
theorem FilesAt.lower (h : FilesAt w base v dv fs) {b2 : Nat} (hb : b2 ≤ base) : FilesAt w b2 v dv fs :=
  ⟨own_base h.row hb, h.len, fun j f x hf hx => own_base (h.data j f x hf hx) hb, h.own⟩
theorem FilesAt.below (h : FilesAt w base v dv fs) (hb : Below w.heap.size w w1) : FilesAt w1 base v dv fs :=
  ⟨own_below h.row hb, h.len, fun j f x hf hx => own_below (h.data j f x hf hx) hb, h.own⟩
theorem FilesAt.snoc (h : FilesAt w1 base v dv fs) {f : Bs × Bs} {x : Value} (hx : w1.ownsRow base tU8 1 x f.2.length (cU8 f.2)) (hnew : ∀ g, x.ownBlock = some g → ∀ y ∈ dv, y.ownBlock ≠ some g)
    (hr : w2.ownsRow base tFile 2 v2 (fs.length + 1) (cF fs dv ++ [encStr f.1, x])) (hg : w1.grownBy w2 v.ownBlock) : FilesAt w2 base v2 (dv ++ [x]) (fs ++ [f]) := by
  have hk : ∀ {y : Value} {n : Nat} {xs : List Value}, w1.ownsRow base tU8 1 y n xs → w2.ownsRow base tU8 1 y n xs := by
    intro y n xs hy
    refine own_same hy fun g hgy => ?_
    obtain ⟨cur, h1⟩ := own_lt hy hgy
    refine hg.block g (Array.getElem?_eq_some_iff.1 h1).1 fun e => ?_
    obtain ⟨cur', h2⟩ := own_lt h.row e.symm
    rw [h1] at h2
    injection h2 with h2
    injection h2 with _ h2 _
    revert h2; decide
  refine ⟨by rw [cF_snoc _ _ h.len, List.length_append]; exact hr, by simp [h.len], fun j f' y hf hy => ?_, fun i j y z g hi hj h1 h2 => ?_⟩
  · rcases Nat.lt_or_ge j fs.length with hlt | hge
    · rw [List.getElem?_append_left hlt] at hf
      rw [List.getElem?_append_left (by rw [h.len]; exact hlt)] at hy
      exact hk (h.data j f' y hf hy)
    · have hj0 : j = fs.length := by have := (List.getElem?_eq_some_iff.1 hf).1; simp at this; omega
      subst hj0
      rw [List.getElem?_append_right (Nat.le_refl _)] at hf
      rw [List.getElem?_append_right (by rw [h.len]; exact Nat.le_refl _)] at hy
      simp at hf
      simp [h.len] at hy
      subst hf hy
      exact hk hx
  · have hc : ∀ (k : Nat) (z : Value), (dv ++ [x])[k]? = some z → (dv[k]? = some z) ∨ (k = dv.length ∧ z = x) := by
      intro k z hz
      rcases Nat.lt_or_ge k dv.length with hlt | hge
      · rw [List.getElem?_append_left hlt] at hz; exact .inl hz
      · have hk0 : k = dv.length := by have := (List.getElem?_eq_some_iff.1 hz).1; simp at this; omega
        subst hk0
        rw [List.getElem?_append_right (Nat.le_refl _)] at hz
        simp at hz
        exact .inr ⟨rfl, hz.symm⟩
    rcases hc i y hi with hi2 | ⟨hi2, hy2⟩ <;> rcases hc j z hj with hj2 | ⟨hj2, hz2⟩
    · exact h.own i j y z g hi2 hj2 h1 h2
    · subst hz2; exact absurd h1 (hnew g h2 y (List.mem_of_getElem? hi2))
    · subst hy2; exact absurd h2 (hnew g h1 z (List.mem_of_getElem? hj2))
    · omega
end
theorem own_ge {w : World} {base : Nat} {e : TypeId} {size n : Nat} {v : Value} {xs : List Value} (h : w.ownsRow base e size v n xs) {g : Nat} (hg : v.ownBlock = some g) : base ≤ g := by
  rcases h.2 with ⟨rfl, _⟩ | ⟨g', cap, cur, rfl, hb, _⟩
  · cases hg
  · obtain rfl : g' = g := by simpa [Value.ownBlock] using hg
    exact hb
/-- What is new lies apart from what lay there. -/
theorem FilesAt.fresh {w : World} {base : Nat} {v : Value} {dv : List Value} {fs : List (Bs × Bs)} (h : FilesAt w base v dv fs) {g : Nat} (hg : w.heap.size ≤ g) : ∀ y ∈ dv, y.ownBlock ≠ some g := by
  intro y hy e
  obtain ⟨j, hj, rfl⟩ := List.getElem_of_mem hy
  obtain ⟨f, hf⟩ : ∃ f, fs[j]? = some f := ⟨_, List.getElem?_eq_getElem (by have := h.len; omega)⟩
  obtain ⟨cur, h1⟩ := own_lt (h.data j f _ hf (List.getElem?_eq_getElem hj)) e
  have := (Array.getElem?_eq_some_iff.1 h1).1
  omega
theorem take_snoc_f {α : Type} {xs : List α} {i : Nat} {x : α} (hx : xs[i]? = some x) : xs.take (i + 1) = xs.take i ++ [x] := by
  rw [List.take_add_one, hx]
  rfl
theorem infoFile : (Try.prog.info? tFile).map (fun i => (i.zero, i.size, i.bytes)) = some (some (.agg #[.string ⟨#[]⟩, .slice none 0 0]), 2, 40) := by kernel_rfl
end Go.Proofs.Ytelgcmcnebncmaa.Dr
