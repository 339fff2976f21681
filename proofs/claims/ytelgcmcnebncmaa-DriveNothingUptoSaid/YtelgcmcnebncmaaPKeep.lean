/- What is made safe stays: the plain law of DriveKeeps. No program. -/
import Derived.Test.YtelgcmcnebncmaaDrv2
namespace Go.Proofs.Ytelgcmcnebncmaa.Dr
set_option linter.unusedVariables false
open Go

/-- Does an act do something to a name's file? -/
def touches (a : Ac) (n : Bs) : Bool :=
  if a.kind = 0 ∨ a.kind = 1 ∨ a.kind = 4 ∨ a.kind = 14 ∨ a.kind = 15 then decide (a.name = n)
  else if a.kind = 3 then decide (a.name = n) || decide (a.dst = n)
  else decide (a.kind = 16)
/-- The file of that name is there with these bytes, and all of it is safe. -/
structure D.Firm (d : D) (n x : Bs) : Prop where
  nm : named n = true
  it : ∃ i, find d.now n = some i ∧ find d.kept n = some i ∧ (d.at i).data = x ∧ (d.at i).safe = x.length
  off : ∀ c ∈ d.pend, ∀ s ∈ c, s.1 ≠ n
section
variable {d : D} {m N : Nat} {n x : Bs}
theorem find_put_ne {l : Dir} (h : Rise l) {k : Bs} (to : Option Nat) (hk : k ≠ n) : find (put l k to) n = find l n := by
  rw [find_put h, if_neg fun e => hk e.symm]
theorem find_apply_off {l : Dir} : ∀ (c : List (Bs × Option Nat)) {l : Dir}, Rise l → (∀ s ∈ c, s.1 ≠ n) → find (apply l c) n = find l n
  | [], _, _, _ => rfl
  | s :: r, l, h, hc => by
    show find (apply (put l s.1 s.2) r) n = _
    rw [find_apply_off (l := l) r (rise_put h s.1 s.2) fun s' hs' => hc s' (by simp [hs']), find_put_ne h s.2 (hc s (by simp))]
theorem find_keep_off : ∀ (p : List (List (Bs × Option Nat))) (b : List Bool) {l : Dir}, Rise l → (∀ c ∈ p, ∀ s ∈ c, s.1 ≠ n) → find (keepSome l p b) n = find l n
  | [], _, _, _, _ => by unfold keepSome; rfl
  | c :: r, [], _, _, _ => by unfold keepSome; rfl
  | c :: r, b :: s, l, h, hc => by
    show find (keepSome (if b then apply l c else l) r s) n = _
    cases b with
    | false => exact find_keep_off r s h fun c' hc' => hc c' (by simp [hc'])
    | true =>
      rw [if_pos rfl, find_keep_off r s (rise_apply h c) fun c' hc' => hc c' (by simp [hc'])]
      exact find_apply_off (l := l) c h (hc c (by simp))
theorem D.Firm.look (h : d.Firm n x) : ∃ i, d.look n = .ok i ∧ (d.at i).data = x ∧ (d.at i).safe = x.length := by
  obtain ⟨i, h1, _, h2, h3⟩ := h.it
  exact ⟨i, by unfold D.look; rw [if_pos h.nm, h1], h2, h3⟩
theorem D.Firm.change (h : d.Firm n x) (ho : d.Ok m N) {c : List (Bs × Option Nat)} (hc : ∀ s ∈ c, s.1 ≠ n) : (d.change c).Firm n x := by
  obtain ⟨i, h1, h2, h3, h4⟩ := h.it
  refine ⟨h.nm, ⟨i, ?_, h2, h3, h4⟩, fun c' hc' s hs => ?_⟩
  · show find (apply d.now c) n = _
    rw [find_apply_off (l := d.now) c ho.now hc]
    exact h1
  · rcases List.mem_append.1 hc' with h5 | h5
    · exact h.off c' h5 s hs
    · rw [List.mem_singleton.1 h5] at hs
      exact hc s hs
/-- Another name's body is turned. -/
theorem D.Firm.body (h : d.Firm n x) (ho : d.Ok m N) {k : Bs} {j : Nat} (hk : k ≠ n) (hl : d.look k = .ok j) (b : Bd) : (d.setBody j b).Firm n x := by
  obtain ⟨i, h1, h2, h3, h4⟩ := h.it
  have hkj := (look_ok ho hl).2
  have hji : j ≠ i := by
    intro e
    subst e
    have m1 := (find_some ho.now).1 h1
    have m2 := (find_some ho.now).1 hkj
    have hnd := ho.one
    obtain ⟨a, ha, ea⟩ := List.getElem_of_mem m1
    obtain ⟨c, hc, ec⟩ := List.getElem_of_mem m2
    have h6 : a = c := by
      have hp := List.pairwise_iff_getElem.1 hnd
      rcases Nat.lt_trichotomy a c with h7 | h7 | h7
      · exact (hp a c (by simpa using ha) (by simpa using hc) h7 (by simp [ea, ec])).elim
      · exact h7
      · exact (hp c a (by simpa using hc) (by simpa using ha) h7 (by simp [ea, ec])).elim
    subst h6
    rw [ea] at ec
    injection ec with ec _
    exact hk ec.symm
  have hat : (d.setBody j b).at i = d.at i := by
    unfold D.at D.setBody
    simp only [List.getD_eq_getElem?_getD, List.getElem?_set_ne hji]
  exact ⟨h.nm, ⟨i, h1, h2, by rw [hat]; exact h3, by rw [hat]; exact h4⟩, h.off⟩
theorem at_new {l : List Bd} {i : Nat} {b : Bd} (hi : i < l.length) : (l ++ [b]).getD i ⟨[], 0⟩ = l.getD i ⟨[], 0⟩ := by
  simp only [List.getD_eq_getElem?_getD, List.getElem?_append_left hi]
theorem D.Firm.crash (h : d.Firm n x) (ho : d.Ok m N) (dirs : List Bool) (cuts : List Int) : (d.crash dirs cuts).Firm n x := by
  obtain ⟨i, h1, h2, h3, h4⟩ := h.it
  have hr : Rise (keepSome d.kept d.pend dirs) := (keep_ok d.pend dirs ho.kept (fun p hp => ⟨ho.inK p hp, ho.namK p hp⟩) ho.inP).1
  have hf : find (keepSome d.kept d.pend dirs) n = some i := by rw [find_keep_off _ _ ho.kept h.off]; exact h2
  obtain ⟨j, hj, ej⟩ := List.getElem_of_mem ((find_some hr).1 hf)
  have hjg : (keepSome d.kept d.pend dirs)[j]? = some (n, i) := by rw [List.getElem?_eq_getElem hj, ej]
  have hpl : (places (keepSome d.kept d.pend dirs))[j]? = some (n, j) := by rw [places_at, hjg]; rfl
  have hrp : Rise (places (keepSome d.kept d.pend dirs)) := rise_names hr (places_names _)
  have hfp : find (places (keepSome d.kept d.pend dirs)) n = some j := (find_some hrp).2 (List.mem_of_getElem? hpl)
  rw [D.crash_eq]
  have hleft : (d.at i).left (cuts.getD j 0) = ⟨x, x.length⟩ := by
    unfold Bd.left
    rw [h3, h4]
    simp
  have hat : D.at (⟨d.room, (keepSome d.kept d.pend dirs).zipIdx.map fun p => (d.at p.1.2).left (cuts.getD p.2 0), places (keepSome d.kept d.pend dirs), places (keepSome d.kept d.pend dirs), []⟩ : D) j = ⟨x, x.length⟩ := by
    unfold D.at
    rw [List.getD_eq_getElem?_getD, List.getElem?_map, List.getElem?_zipIdx, hjg]
    simpa [D.at] using hleft
  exact ⟨h.nm, ⟨j, hfp, hfp, by rw [hat], by rw [hat]⟩, fun c hc => by cases hc⟩
/-- The plain law: an act that does nothing to the file leaves it firm. -/
theorem D.Firm.step (h : d.Firm n x) (ho : d.Ok m N) {a : Ac} (ht : touches a n = false) : (d.step a).1.Firm n x := by
  unfold touches at ht
  unfold D.step
  by_cases k0 : a.kind = 0
  · rw [if_pos k0]
    rw [if_pos (.inl k0)] at ht
    have hn : a.name ≠ n := of_decide_eq_false ht
    show (d.create a.name).1.Firm n x
    unfold D.create
    split
    · split
      · exact h
      · have hnew : ({ d with bd := d.bd ++ [⟨[], 0⟩] } : D).Firm n x := by
          obtain ⟨i, h1, h2, h3, h4⟩ := h.it
          have hi : i < d.bd.length := ho.inN _ ((find_some ho.now).1 h1)
          have hat : D.at ({ d with bd := d.bd ++ [⟨[], 0⟩] } : D) i = d.at i := at_new hi
          exact ⟨h.nm, ⟨i, h1, h2, by rw [hat]; exact h3, by rw [hat]; exact h4⟩, h.off⟩
        obtain ⟨i, h1, h2, h3, h4⟩ := hnew.it
        refine ⟨h.nm, ⟨i, ?_, h2, h3, h4⟩, fun c' hc' s hs => ?_⟩
        · show find (apply d.now _) n = _
          rw [find_apply_off (l := d.now) _ ho.now (by intro s hs; rw [List.mem_singleton.1 hs]; exact hn)]
          exact h1
        · rcases List.mem_append.1 hc' with h5 | h5
          · exact h.off c' h5 s hs
          · rw [List.mem_singleton.1 h5] at hs
            rw [List.mem_singleton.1 hs]
            exact hn
    · exact h
  rw [if_neg k0]
  by_cases k1 : a.kind = 1
  · rw [if_pos k1]
    rw [if_pos (.inr (.inl k1))] at ht
    have hn : a.name ≠ n := of_decide_eq_false ht
    show (d.append a.name a.data).1.Firm n x
    unfold D.append
    split
    · exact h
    · rename_i i hl
      split
      · exact h
      · split
        · exact h.body ho hn hl _
        · exact h
  rw [if_neg k1]
  by_cases k2 : a.kind = 2
  · rw [if_pos k2]
    show (d.sync a.name).1.Firm n x
    unfold D.sync
    split
    · exact h
    · rename_i i hl
      by_cases hn : a.name = n
      · obtain ⟨j, h1, h3, h4⟩ := h.look
        rw [hn] at hl
        rw [hl] at h1
        injection h1 with h1
        subst h1
        have e : d.setBody i ⟨(d.at i).data, (d.at i).data.length⟩ = d := by
          have hi : i < d.bd.length := (look_in ho hl).2
          unfold D.setBody
          have : (⟨(d.at i).data, (d.at i).data.length⟩ : Bd) = d.bd[i] := by
            have e2 : d.at i = d.bd[i] := by unfold D.at; rw [List.getD_eq_getElem?_getD, List.getElem?_eq_getElem hi]; rfl
            rw [← e2]
            rw [h3, ← h4, ← h3]
          rw [this, List.set_getElem_self]
        rw [e]
        exact h
      · exact h.body ho hn hl _
  rw [if_neg k2]
  by_cases k3 : a.kind = 3
  · rw [if_pos k3]
    rw [if_neg (by omega), if_pos k3] at ht
    simp only [Bool.or_eq_false_iff, decide_eq_false_iff_not] at ht
    show (d.rename a.name a.dst).1.Firm n x
    unfold D.rename
    split
    · exact h
    · split
      · exact h
      · split
        · exact h
        · refine h.change ho ?_
          intro s hs
          rcases List.mem_cons.1 hs with rfl | hs
          · exact ht.1
          · rw [List.mem_singleton.1 hs]; exact ht.2
  rw [if_neg k3]
  by_cases k4 : a.kind = 4
  · rw [if_pos k4]
    rw [if_pos (.inr (.inr (.inl k4)))] at ht
    have hn : a.name ≠ n := of_decide_eq_false ht
    show (d.remove a.name).1.Firm n x
    unfold D.remove
    split
    · exact h
    · exact h.change ho (by intro s hs; rw [List.mem_singleton.1 hs]; exact hn)
  rw [if_neg k4]
  by_cases k5 : a.kind = 5
  · rw [if_pos k5]
    obtain ⟨i, h1, h2, h3, h4⟩ := h.it
    exact ⟨h.nm, ⟨i, h1, h1, h3, h4⟩, fun c hc => by cases hc⟩
  rw [if_neg k5]
  by_cases k6 : a.kind = 6
  · rw [if_pos k6]; exact h
  rw [if_neg k6]
  by_cases k7 : a.kind = 7
  · rw [if_pos k7]; exact h
  rw [if_neg k7]
  by_cases k8 : a.kind = 8
  · rw [if_pos k8]; exact h
  rw [if_neg k8]
  by_cases k9 : a.kind = 9
  · rw [if_pos k9]; exact h
  rw [if_neg k9]
  by_cases k10 : a.kind = 10
  · rw [if_pos k10]; exact h
  rw [if_neg k10]
  by_cases k11 : a.kind = 11
  · rw [if_pos k11]; exact h
  rw [if_neg k11]
  by_cases k12 : a.kind = 12
  · rw [if_pos k12]; exact h
  rw [if_neg k12]
  by_cases k13 : a.kind = 13
  · rw [if_pos k13]; exact h.crash ho _ _
  rw [if_neg k13]
  by_cases k14 : a.kind = 14
  · rw [if_pos k14]
    rw [if_pos (.inr (.inr (.inr (.inl k14))))] at ht
    have hn : a.name ≠ n := of_decide_eq_false ht
    show (d.flip a.name a.n a.data).1.Firm n x
    unfold D.flip
    split
    · exact h
    · split
      · exact h
      · rename_i i hl
        exact h.body ho hn hl _
  rw [if_neg k14]
  by_cases k15 : a.kind = 15
  · rw [if_pos k15]
    rw [if_pos (.inr (.inr (.inr (.inr k15))))] at ht
    have hn : a.name ≠ n := of_decide_eq_false ht
    show (d.cut a.name a.n).1.Firm n x
    unfold D.cut
    split
    · exact h
    · split
      · exact h
      · rename_i i hl
        exact h.body ho hn hl _
  rw [if_neg k15]
  rw [if_neg (by omega), if_neg k3] at ht
  have k16 : ¬ a.kind = 16 := of_decide_eq_false ht
  rw [if_neg k16]
  exact h
/-- A file that was created and written is not there unless there was room; made safe it is firm. -/
theorem D.firm_of (ho : d.Ok m N) (hn : named n = true) (hc : (d.create n).2 = 0) (ha : ((d.create n).1.append n x).2 = 0) :
    ((((d.create n).1.append n x).1.sync n).2 = 0) ∧ ((((d.create n).1.append n x).1.sync n).1.syncDir).Firm n x := by
  have ho1 := ho.create n
  have ho2 := ho1.append n x
  have hfind : find (d.create n).1.now n = some d.bd.length ∧ (d.create n).1.bd = d.bd ++ [⟨[], 0⟩] := by
    unfold D.create at hc ⊢
    rw [if_pos hn] at hc ⊢
    split at hc
    · cases hc
    · rename_i hf
      rw [if_neg hf]
      exact ⟨by show find (put d.now n (some d.bd.length)) n = _; rw [find_put ho.now, if_pos rfl], rfl⟩
  generalize hD1 : (d.create n).1 = d1 at *
  have hl1 : d1.look n = .ok d.bd.length := by unfold D.look; rw [if_pos hn, hfind.1]
  have hat1 : d1.at d.bd.length = ⟨[], 0⟩ := by
    unfold D.at
    rw [hfind.2]
    simp
  have h2 : (d1.append n x).1.look n = .ok d.bd.length ∧ ((d1.append n x).1.at d.bd.length).data = x ∧ (d1.append n x).1.now = d1.now := by
    unfold D.append at ha ⊢
    rw [hl1] at ha ⊢
    dsimp only at ha ⊢
    by_cases hx : x = []
    · rw [if_pos hx]
      exact ⟨hl1, by rw [hat1, hx], rfl⟩
    · rw [if_neg hx] at ha ⊢
      split at ha
      · rename_i hf
        rw [if_pos hf]
        refine ⟨hl1, ?_, rfl⟩
        unfold D.at D.setBody
        have hlen : d.bd.length < d1.bd.length := by rw [hfind.2]; simp
        rw [List.getD_eq_getElem?_getD, List.getElem?_set_self hlen]
        show (d1.at d.bd.length).data ++ x = x
        rw [hat1]
        rfl
      · cases ha
  generalize hD2 : (d1.append n x).1 = d2 at *
  obtain ⟨hl2, hat2, hnow2⟩ := h2
  have hs : d2.sync n = (d2.setBody d.bd.length ⟨(d2.at d.bd.length).data, (d2.at d.bd.length).data.length⟩, 0) := by
    unfold D.sync
    rw [hl2]
  rw [hs]
  refine ⟨rfl, hn, ⟨d.bd.length, ?_, ?_, ?_, ?_⟩, fun c hc => by cases hc⟩
  · show find d2.now n = _
    rw [hnow2]; exact hfind.1
  · show find d2.now n = _
    rw [hnow2]; exact hfind.1
  all_goals
    have hi := (look_in ho2 hl2).2
    have hat : (d2.setBody d.bd.length ⟨(d2.at d.bd.length).data, (d2.at d.bd.length).data.length⟩).at d.bd.length = ⟨x, x.length⟩ := by
      unfold D.at D.setBody
      rw [List.getD_eq_getElem?_getD, List.getElem?_set_self hi]
      show (⟨(d2.at d.bd.length).data, (d2.at d.bd.length).data.length⟩ : Bd) = _
      rw [hat2]
  · exact congrArg Bd.data hat
  · exact congrArg Bd.safe hat
end
end Go.Proofs.Ytelgcmcnebncmaa.Dr
