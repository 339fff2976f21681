/- XPKeep, XPCalm: merged by tools/merge.py. -/
import Derived.Test.YtelgcmcnebncmaaQ02
namespace Go.Proofs.Ytelgcmcnebncmaa.Dr
set_option linter.unusedVariables false
open Go

/-- Does an act do something to a name's file? -/
def touches (a : Ac) (n : Bs) : Bool :=
  if a.kind = 0 ∨ a.kind = 1 ∨ a.kind = 4 ∨ a.kind = 14 ∨ a.kind = 15 then decide (a.name = n)
  else if a.kind = 3 then decide (a.name = n) || decide (a.dst = n)
  else decide (a.kind = 16)
/-- The file of that name is there with these bytes, and all of it is safe. -/
structure D.Firm (d : D) (n x : Bs) : Prop where
  nm : named n = true
  it : ∃ i, find d.now n = some i ∧ find d.kept n = some i ∧ (d.at i).data = x ∧ (d.at i).safe = x.length
  off : ∀ c ∈ d.pend, ∀ s ∈ c, s.1 ≠ n
section
variable {d : D} {m N : Nat} {n x : Bs}
theorem find_put_ne {l : Dir} (h : Rise l) {k : Bs} (to : Option Nat) (hk : k ≠ n) : find (put l k to) n = find l n := by
  rw [find_put h, if_neg fun e => hk e.symm]
theorem find_apply_off {l : Dir} : ∀ (c : List (Bs × Option Nat)) {l : Dir}, Rise l → (∀ s ∈ c, s.1 ≠ n) → find (apply l c) n = find l n
  | [], _, _, _ => rfl
  | s :: r, l, h, hc => by
    show find (apply (put l s.1 s.2) r) n = _
    rw [find_apply_off (l := l) r (rise_put h s.1 s.2) fun s' hs' => hc s' (by simp [hs']), find_put_ne h s.2 (hc s (by simp))]
theorem find_keep_off : ∀ (p : List (List (Bs × Option Nat))) (b : List Bool) {l : Dir}, Rise l → (∀ c ∈ p, ∀ s ∈ c, s.1 ≠ n) → find (keepSome l p b) n = find l n
  | [], _, _, _, _ => by unfold keepSome; rfl
  | c :: r, [], _, _, _ => by unfold keepSome; rfl
  | c :: r, b :: s, l, h, hc => by
    show find (keepSome (if b then apply l c else l) r s) n = _
    cases b with
    | false => exact find_keep_off r s h fun c' hc' => hc c' (by simp [hc'])
    | true =>
      rw [if_pos rfl, find_keep_off r s (rise_apply h c) fun c' hc' => hc c' (by simp [hc'])]
      exact find_apply_off (l := l) c h (hc c (by simp))
theorem D.Firm.look (h : d.Firm n x) : ∃ i, d.look n = .ok i ∧ (d.at i).data = x ∧ (d.at i).safe = x.length := by
  obtain ⟨i, h1, _, h2, h3⟩ := h.it
  exact ⟨i, by unfold D.look; rw [if_pos h.nm, h1], h2, h3⟩
theorem D.Firm.change (h : d.Firm n x) (ho : d.Ok m N) {c : List (Bs × Option Nat)} (hc : ∀ s ∈ c, s.1 ≠ n) : (d.change c).Firm n x := by
  obtain ⟨i, h1, h2, h3, h4⟩ := h.it
  refine ⟨h.nm, ⟨i, ?_, h2, h3, h4⟩, fun c' hc' s hs => ?_⟩
  · show find (apply d.now c) n = _
    rw [find_apply_off (l := d.now) c ho.now hc]
    exact h1
  · rcases List.mem_append.1 hc' with h5 | h5
    · exact h.off c' h5 s hs
    · rw [List.mem_singleton.1 h5] at hs
      exact hc s hs
/-- Another name's body is turned. -/
theorem D.Firm.body (h : d.Firm n x) (ho : d.Ok m N) {k : Bs} {j : Nat} (hk : k ≠ n) (hl : d.look k = .ok j) (b : Bd) : (d.setBody j b).Firm n x := by
  obtain ⟨i, h1, h2, h3, h4⟩ := h.it
  have hkj := (look_ok ho hl).2
  have hji : j ≠ i := by
    intro e
    subst e
    have m1 := (find_some ho.now).1 h1
    have m2 := (find_some ho.now).1 hkj
    have hnd := ho.one
    obtain ⟨a, ha, ea⟩ := List.getElem_of_mem m1
    obtain ⟨c, hc, ec⟩ := List.getElem_of_mem m2
    have h6 : a = c := by
      have hp := List.pairwise_iff_getElem.1 hnd
      rcases Nat.lt_trichotomy a c with h7 | h7 | h7
      · exact (hp a c (by simpa using ha) (by simpa using hc) h7 (by simp [ea, ec])).elim
      · exact h7
      · exact (hp c a (by simpa using hc) (by simpa using ha) h7 (by simp [ea, ec])).elim
    subst h6
    rw [ea] at ec
    injection ec with ec _
    exact hk ec.symm
  have hat : (d.setBody j b).at i = d.at i := by
    unfold D.at D.setBody
    simp only [List.getD_eq_getElem?_getD, List.getElem?_set_ne hji]
  exact ⟨h.nm, ⟨i, h1, h2, by rw [hat]; exact h3, by rw [hat]; exact h4⟩, h.off⟩
theorem at_new {l : List Bd} {i : Nat} {b : Bd} (hi : i < l.length) : (l ++ [b]).getD i ⟨[], 0⟩ = l.getD i ⟨[], 0⟩ := by
  simp only [List.getD_eq_getElem?_getD, List.getElem?_append_left hi]
theorem D.Firm.crash (h : d.Firm n x) (ho : d.Ok m N) (dirs : List Bool) (cuts : List Int) : (d.crash dirs cuts).Firm n x := by
  obtain ⟨i, h1, h2, h3, h4⟩ := h.it
  have hr : Rise (keepSome d.kept d.pend dirs) := (keep_ok d.pend dirs ho.kept (fun p hp => ⟨ho.inK p hp, ho.namK p hp⟩) ho.inP).1
  have hf : find (keepSome d.kept d.pend dirs) n = some i := by rw [find_keep_off _ _ ho.kept h.off]; exact h2
  obtain ⟨j, hj, ej⟩ := List.getElem_of_mem ((find_some hr).1 hf)
  have hjg : (keepSome d.kept d.pend dirs)[j]? = some (n, i) := by rw [List.getElem?_eq_getElem hj, ej]
  have hpl : (places (keepSome d.kept d.pend dirs))[j]? = some (n, j) := by rw [places_at, hjg]; rfl
  have hrp : Rise (places (keepSome d.kept d.pend dirs)) := rise_names hr (places_names _)
  have hfp : find (places (keepSome d.kept d.pend dirs)) n = some j := (find_some hrp).2 (List.mem_of_getElem? hpl)
  rw [D.crash_eq]
  have hleft : (d.at i).left (cuts.getD j 0) = ⟨x, x.length⟩ := by
    unfold Bd.left
    rw [h3, h4]
    simp
  have hat : D.at (⟨d.room, (keepSome d.kept d.pend dirs).zipIdx.map fun p => (d.at p.1.2).left (cuts.getD p.2 0), places (keepSome d.kept d.pend dirs), places (keepSome d.kept d.pend dirs), []⟩ : D) j = ⟨x, x.length⟩ := by
    unfold D.at
    rw [List.getD_eq_getElem?_getD, List.getElem?_map, List.getElem?_zipIdx, hjg]
    simpa [D.at] using hleft
  exact ⟨h.nm, ⟨j, hfp, hfp, by rw [hat], by rw [hat]⟩, fun c hc => by cases hc⟩
/-- The plain law: an act that does nothing to the file leaves it firm. -/
theorem D.Firm.step (h : d.Firm n x) (ho : d.Ok m N) {a : Ac} (ht : touches a n = false) : (d.step a).1.Firm n x := by
  unfold touches at ht
  unfold D.step
  by_cases k0 : a.kind = 0
  · rw [if_pos k0]
    rw [if_pos (.inl k0)] at ht
    have hn : a.name ≠ n := of_decide_eq_false ht
    show (d.create a.name).1.Firm n x
    unfold D.create
    split
    · split
      · exact h
      · have hnew : ({ d with bd := d.bd ++ [⟨[], 0⟩] } : D).Firm n x := by
          obtain ⟨i, h1, h2, h3, h4⟩ := h.it
          have hi : i < d.bd.length := ho.inN _ ((find_some ho.now).1 h1)
          have hat : D.at ({ d with bd := d.bd ++ [⟨[], 0⟩] } : D) i = d.at i := at_new hi
          exact ⟨h.nm, ⟨i, h1, h2, by rw [hat]; exact h3, by rw [hat]; exact h4⟩, h.off⟩
        obtain ⟨i, h1, h2, h3, h4⟩ := hnew.it
        refine ⟨h.nm, ⟨i, ?_, h2, h3, h4⟩, fun c' hc' s hs => ?_⟩
        · show find (apply d.now _) n = _
          rw [find_apply_off (l := d.now) _ ho.now (by intro s hs; rw [List.mem_singleton.1 hs]; exact hn)]
          exact h1
        · rcases List.mem_append.1 hc' with h5 | h5
          · exact h.off c' h5 s hs
          · rw [List.mem_singleton.1 h5] at hs
            rw [List.mem_singleton.1 hs]
            exact hn
    · exact h
  rw [if_neg k0]
  by_cases k1 : a.kind = 1
  · rw [if_pos k1]
    rw [if_pos (.inr (.inl k1))] at ht
    have hn : a.name ≠ n := of_decide_eq_false ht
    show (d.append a.name a.data).1.Firm n x
    unfold D.append
    split
    · exact h
    · rename_i i hl
      split
      · exact h
      · split
        · exact h.body ho hn hl _
        · exact h
  rw [if_neg k1]
  by_cases k2 : a.kind = 2
  · rw [if_pos k2]
    show (d.sync a.name).1.Firm n x
    unfold D.sync
    split
    · exact h
    · rename_i i hl
      by_cases hn : a.name = n
      · obtain ⟨j, h1, h3, h4⟩ := h.look
        rw [hn] at hl
        rw [hl] at h1
        injection h1 with h1
        subst h1
        have e : d.setBody i ⟨(d.at i).data, (d.at i).data.length⟩ = d := by
          have hi : i < d.bd.length := (look_in ho hl).2
          unfold D.setBody
          have : (⟨(d.at i).data, (d.at i).data.length⟩ : Bd) = d.bd[i] := by
            have e2 : d.at i = d.bd[i] := by unfold D.at; rw [List.getD_eq_getElem?_getD, List.getElem?_eq_getElem hi]; rfl
            rw [← e2]
            rw [h3, ← h4, ← h3]
          rw [this, List.set_getElem_self]
        rw [e]
        exact h
      · exact h.body ho hn hl _
  rw [if_neg k2]
  by_cases k3 : a.kind = 3
  · rw [if_pos k3]
    rw [if_neg (by omega), if_pos k3] at ht
    simp only [Bool.or_eq_false_iff, decide_eq_false_iff_not] at ht
    show (d.rename a.name a.dst).1.Firm n x
    unfold D.rename
    split
    · exact h
    · split
      · exact h
      · split
        · exact h
        · refine h.change ho ?_
          intro s hs
          rcases List.mem_cons.1 hs with rfl | hs
          · exact ht.1
          · rw [List.mem_singleton.1 hs]; exact ht.2
  rw [if_neg k3]
  by_cases k4 : a.kind = 4
  · rw [if_pos k4]
    rw [if_pos (.inr (.inr (.inl k4)))] at ht
    have hn : a.name ≠ n := of_decide_eq_false ht
    show (d.remove a.name).1.Firm n x
    unfold D.remove
    split
    · exact h
    · exact h.change ho (by intro s hs; rw [List.mem_singleton.1 hs]; exact hn)
  rw [if_neg k4]
  by_cases k5 : a.kind = 5
  · rw [if_pos k5]
    obtain ⟨i, h1, h2, h3, h4⟩ := h.it
    exact ⟨h.nm, ⟨i, h1, h1, h3, h4⟩, fun c hc => by cases hc⟩
  rw [if_neg k5]
  by_cases k6 : a.kind = 6
  · rw [if_pos k6]; exact h
  rw [if_neg k6]
  by_cases k7 : a.kind = 7
  · rw [if_pos k7]; exact h
  rw [if_neg k7]
  by_cases k8 : a.kind = 8
  · rw [if_pos k8]; exact h
  rw [if_neg k8]
  by_cases k9 : a.kind = 9
  · rw [if_pos k9]; exact h
  rw [if_neg k9]
  by_cases k10 : a.kind = 10
  · rw [if_pos k10]; exact h
  rw [if_neg k10]
  by_cases k11 : a.kind = 11
  · rw [if_pos k11]; exact h
  rw [if_neg k11]
  by_cases k12 : a.kind = 12
  · rw [if_pos k12]; exact h
  rw [if_neg k12]
  by_cases k13 : a.kind = 13
  · rw [if_pos k13]; exact h.crash ho _ _
  rw [if_neg k13]
  by_cases k14 : a.kind = 14
  · rw [if_pos k14]
    rw [if_pos (.inr (.inr (.inr (.inl k14))))] at ht
    have hn : a.name ≠ n := of_decide_eq_false ht
    show (d.flip a.name a.n a.data).1.Firm n x
    unfold D.flip
    split
    · exact h
    · split
      · exact h
      · rename_i i hl
        exact h.body ho hn hl _
  rw [if_neg k14]
  by_cases k15 : a.kind = 15
  · rw [if_pos k15]
    rw [if_pos (.inr (.inr (.inr (.inr k15))))] at ht
    have hn : a.name ≠ n := of_decide_eq_false ht
    show (d.cut a.name a.n).1.Firm n x
    unfold D.cut
    split
    · exact h
    · split
      · exact h
      · rename_i i hl
        exact h.body ho hn hl _
  rw [if_neg k15]
  rw [if_neg (by omega), if_neg k3] at ht
  have k16 : ¬ a.kind = 16 := of_decide_eq_false ht
  rw [if_neg k16]
  exact h
/-- A file that was created and written is not there unless there was room; made safe it is firm. -/
theorem D.firm_of (ho : d.Ok m N) (hn : named n = true) (hc : (d.create n).2 = 0) (ha : ((d.create n).1.append n x).2 = 0) :
    ((((d.create n).1.append n x).1.sync n).2 = 0) ∧ ((((d.create n).1.append n x).1.sync n).1.syncDir).Firm n x := by
  have ho1 := ho.create n
  have ho2 := ho1.append n x
  have hfind : find (d.create n).1.now n = some d.bd.length ∧ (d.create n).1.bd = d.bd ++ [⟨[], 0⟩] := by
    unfold D.create at hc ⊢
    rw [if_pos hn] at hc ⊢
    split at hc
    · cases hc
    · rename_i hf
      rw [if_neg hf]
      exact ⟨by show find (put d.now n (some d.bd.length)) n = _; rw [find_put ho.now, if_pos rfl], rfl⟩
  generalize hD1 : (d.create n).1 = d1 at *
  have hl1 : d1.look n = .ok d.bd.length := by unfold D.look; rw [if_pos hn, hfind.1]
  have hat1 : d1.at d.bd.length = ⟨[], 0⟩ := by
    unfold D.at
    rw [hfind.2]
    simp
  have h2 : (d1.append n x).1.look n = .ok d.bd.length ∧ ((d1.append n x).1.at d.bd.length).data = x ∧ (d1.append n x).1.now = d1.now := by
    unfold D.append at ha ⊢
    rw [hl1] at ha ⊢
    dsimp only at ha ⊢
    by_cases hx : x = []
    · rw [if_pos hx]
      exact ⟨hl1, by rw [hat1, hx], rfl⟩
    · rw [if_neg hx] at ha ⊢
      split at ha
      · rename_i hf
        rw [if_pos hf]
        refine ⟨hl1, ?_, rfl⟩
        unfold D.at D.setBody
        have hlen : d.bd.length < d1.bd.length := by rw [hfind.2]; simp
        rw [List.getD_eq_getElem?_getD, List.getElem?_set_self hlen]
        show (d1.at d.bd.length).data ++ x = x
        rw [hat1]
        rfl
      · cases ha
  generalize hD2 : (d1.append n x).1 = d2 at *
  obtain ⟨hl2, hat2, hnow2⟩ := h2
  have hs : d2.sync n = (d2.setBody d.bd.length ⟨(d2.at d.bd.length).data, (d2.at d.bd.length).data.length⟩, 0) := by
    unfold D.sync
    rw [hl2]
  rw [hs]
  refine ⟨rfl, hn, ⟨d.bd.length, ?_, ?_, ?_, ?_⟩, fun c hc => by cases hc⟩
  · show find d2.now n = _
    rw [hnow2]; exact hfind.1
  · show find d2.now n = _
    rw [hnow2]; exact hfind.1
  all_goals
    have hi := (look_in ho2 hl2).2
    have hat : (d2.setBody d.bd.length ⟨(d2.at d.bd.length).data, (d2.at d.bd.length).data.length⟩).at d.bd.length = ⟨x, x.length⟩ := by
      unfold D.at D.setBody
      rw [List.getD_eq_getElem?_getD, List.getElem?_set_self hi]
      show (⟨(d2.at d.bd.length).data, (d2.at d.bd.length).data.length⟩ : Bd) = _
      rw [hat2]
  · exact congrArg Bd.data hat
  · exact congrArg Bd.safe hat
end
end Go.Proofs.Ytelgcmcnebncmaa.Dr
namespace Go.Proofs.Ytelgcmcnebncmaa.Dr
set_option linter.unusedVariables false
open Go

/-- What stands is what is safe behind all the pending changes. -/
def D.Joined (d : D) : Prop := d.now = d.pend.foldl apply d.kept
section
variable {d : D} {m N : Nat}
theorem D.Joined.change (h : d.Joined) (c : List (Bs × Option Nat)) : (d.change c).Joined := by
  show apply d.now c = (d.pend ++ [c]).foldl apply d.kept
  rw [List.foldl_append, ← h]
  rfl
/-- What holds behind each call holds behind each act. -/
theorem D.step_to {P : D → Prop} (a : Ac) (h0 : P (d.create a.name).1) (h1 : P (d.append a.name a.data).1) (h2 : P (d.sync a.name).1) (h3 : P (d.rename a.name a.dst).1) (h4 : P (d.remove a.name).1) (h5 : P d.syncDir) (hd : P d)
    (h13 : P (d.crash a.dirs a.cuts)) (h14 : P (d.flip a.name a.n a.data).1) (h15 : P (d.cut a.name a.n).1) (h16 : P d.wipe) : P (d.step a).1 := by
  unfold D.step
  by_cases k0 : a.kind = 0
  · rw [if_pos k0]; exact h0
  rw [if_neg k0]
  by_cases k1 : a.kind = 1
  · rw [if_pos k1]; exact h1
  rw [if_neg k1]
  by_cases k2 : a.kind = 2
  · rw [if_pos k2]; exact h2
  rw [if_neg k2]
  by_cases k3 : a.kind = 3
  · rw [if_pos k3]; exact h3
  rw [if_neg k3]
  by_cases k4 : a.kind = 4
  · rw [if_pos k4]; exact h4
  rw [if_neg k4]
  by_cases k5 : a.kind = 5
  · rw [if_pos k5]; exact h5
  rw [if_neg k5]
  by_cases k6 : a.kind = 6
  · rw [if_pos k6]; exact hd
  rw [if_neg k6]
  by_cases k7 : a.kind = 7
  · rw [if_pos k7]; exact hd
  rw [if_neg k7]
  by_cases k8 : a.kind = 8
  · rw [if_pos k8]; exact hd
  rw [if_neg k8]
  by_cases k9 : a.kind = 9
  · rw [if_pos k9]; exact hd
  rw [if_neg k9]
  by_cases k10 : a.kind = 10
  · rw [if_pos k10]; exact hd
  rw [if_neg k10]
  by_cases k11 : a.kind = 11
  · rw [if_pos k11]; exact hd
  rw [if_neg k11]
  by_cases k12 : a.kind = 12
  · rw [if_pos k12]; exact hd
  rw [if_neg k12]
  by_cases k13 : a.kind = 13
  · rw [if_pos k13]; exact h13
  rw [if_neg k13]
  by_cases k14 : a.kind = 14
  · rw [if_pos k14]; exact h14
  rw [if_neg k14]
  by_cases k15 : a.kind = 15
  · rw [if_pos k15]; exact h15
  rw [if_neg k15]
  by_cases k16 : a.kind = 16
  · rw [if_pos k16]; exact h16
  rw [if_neg k16]
  exact hd
theorem D.Joined.step (h : d.Joined) (a : Ac) : (d.step a).1.Joined := by
  refine D.step_to a ?_ ?_ ?_ ?_ ?_ rfl h ?_ ?_ ?_ rfl
  · unfold D.create
    split
    · split
      · exact h
      · exact D.Joined.change (d := { d with bd := d.bd ++ [⟨[], 0⟩] }) h _
    · exact h
  · unfold D.append
    split
    · exact h
    · split
      · exact h
      · split <;> exact h
  · unfold D.sync
    split <;> exact h
  · unfold D.rename
    split
    · exact h
    · split
      · exact h
      · split
        · exact h
        · exact h.change _
  · unfold D.remove
    split
    · exact h
    · exact h.change _
  · rfl
  · unfold D.flip
    split
    · exact h
    · split <;> exact h
  · unfold D.cut
    split
    · exact h
    · split <;> exact h
theorem loadAt_joined : ∀ (fs : List (Bs × Bs)) {d d' : D}, d.now = d.kept → d.pend = [] → loadAt d fs = some d' → d'.now = d'.kept ∧ d'.pend = []
  | [], d, d', h, hp, he => by injection he with he; subst he; exact ⟨h, hp⟩
  | (n, x) :: r, d, d', h, hp, he => by
    unfold loadAt at he
    split at he
    · cases he
    · exact loadAt_joined r (d := ⟨d.room, d.bd ++ [⟨x, x.length⟩], put d.now n (some d.bd.length), put d.kept n (some d.bd.length), []⟩) (congrArg (fun l => put l n (some d.bd.length)) h) rfl he
theorem joined_of (h : d.now = d.kept) (hp : d.pend = []) : d.Joined := by
  unfold D.Joined
  rw [hp]
  exact h
theorem keep_all : ∀ (p : List (List (Bs × Option Nat))) (l : Dir), keepSome l p (List.replicate p.length true) = p.foldl apply l
  | [], l => by unfold keepSome; rfl
  | c :: r, l => by
    show keepSome (if true then apply l c else l) r (List.replicate r.length true) = _
    rw [if_pos rfl, keep_all r]
    rfl
theorem keep_none (l : Dir) (p : List (List (Bs × Option Nat))) : keepSome l p [] = l := by cases p <;> rfl
theorem keep_nil (l : Dir) (b : List Bool) : keepSome l [] b = l := by cases b <;> rfl
/-- The bodies behind a loss of power. -/
theorem crash_files (f : Bd → Bs) (dirs : List Bool) (cuts : List Int) : (d.crash dirs cuts).files (d.crash dirs cuts).now f = (keepSome d.kept d.pend dirs).zipIdx.map fun p => (p.1.1, f ((d.at p.1.2).left (cuts.getD p.2 0))) := by
  rw [D.crash_eq]
  generalize keepSome d.kept d.pend dirs = k
  apply List.ext_getElem?
  intro j
  unfold D.files
  rw [List.getElem?_map, List.getElem?_map, List.getElem?_zipIdx]
  show Option.map _ (places k)[j]? = _
  rw [places_at]
  cases hj : k[j]? with
  | none => rfl
  | some p =>
    show some _ = some _
    congr 2
    dsimp only
    unfold D.at
    rw [List.getD_eq_getElem?_getD, List.getElem?_map, List.getElem?_zipIdx, hj]
    simp
theorem crash_kept (dirs : List Bool) (cuts : List Int) : (d.crash dirs cuts).kept = (d.crash dirs cuts).now := by rw [D.crash_eq]
/-- Behind a loss of power all is safe. -/
theorem crash_safe (ho : d.Ok m N) (dirs : List Bool) (cuts : List Int) : (d.crash dirs cuts).safe = (d.crash dirs cuts).image := by
  unfold D.safe D.image
  rw [crash_kept, crash_files, crash_files]
  refine List.map_congr_left fun p _ => ?_
  have h := Bd.left_ok (ho.at_ok p.1.2).1 (cuts.getD p.2 0)
  rw [List.take_of_length_le (by omega)]
/-- All kept: what stands. -/
theorem crash_all (ho : d.Ok m N) (hj : d.Joined) : (d.crash (List.replicate d.pend.length true) (d.now.map fun p => ((d.at p.2).data.length : Int))).image = d.image := by
  unfold D.image
  rw [crash_files, keep_all, ← hj]
  apply List.ext_getElem?
  intro j
  unfold D.files
  rw [List.getElem?_map, List.getElem?_map, List.getElem?_zipIdx]
  cases hp : d.now[j]? with
  | none => rfl
  | some p =>
    show some _ = some _
    congr 2
    dsimp only
    rw [List.getD_eq_getElem?_getD, List.getElem?_map, Nat.zero_add, hp]
    have h1 := (ho.at_ok p.2).1
    unfold Bd.left
    simp only [Option.map_some, Option.getD_some]
    rw [List.take_of_length_le (by omega)]
/-- Nothing kept: what is safe. -/
theorem crash_none (ho : d.Ok m N) : (d.crash [] []).image = d.safe := by
  unfold D.image D.safe
  rw [crash_files, keep_none]
  apply List.ext_getElem?
  intro j
  unfold D.files
  rw [List.getElem?_map, List.getElem?_map, List.getElem?_zipIdx]
  cases hp : d.kept[j]? with
  | none => rfl
  | some p =>
    show some _ = some _
    congr 2
    unfold Bd.left
    simp
/-- All safe, nothing pending: a loss of power changes nothing. -/
theorem crash_calm (ho : d.Ok m N) (hk : d.kept = d.now) (hp : d.pend = []) (hs : d.safe = d.image) (dirs : List Bool) (cuts : List Int) : (d.crash dirs cuts).image = d.image := by
  unfold D.image
  rw [crash_files, hp, keep_nil, hk]
  apply List.ext_getElem?
  intro j
  unfold D.files
  rw [List.getElem?_map, List.getElem?_map, List.getElem?_zipIdx]
  cases hq : d.now[j]? with
  | none => rfl
  | some p =>
    have h1 := (ho.at_ok p.2).1
    have h2 : d.safe[j]? = d.image[j]? := by rw [hs]
    unfold D.safe D.image D.files at h2
    rw [hk, List.getElem?_map, List.getElem?_map, hq] at h2
    simp only [Option.map_some, Option.some.injEq, Prod.mk.injEq, true_and] at h2
    have h3 : (d.at p.2).data.length ≤ (d.at p.2).safe := by
      have := congrArg List.length h2
      rw [List.length_take] at this
      omega
    show some (p.1, ((d.at p.2).data.take (min (max (cuts.getD (0 + j) 0) 0).toNat ((d.at p.2).data.length - (d.at p.2).safe) + (d.at p.2).safe))) = some (p.1, (d.at p.2).data)
    rw [List.take_of_length_le (by omega)]
theorem mem_files {l : Dir} {f : Bd → Bs} {y : Bs × Bs} : y ∈ d.files l f ↔ ∃ p ∈ l, y = (p.1, f (d.at p.2)) := by
  unfold D.files
  rw [List.mem_map]
  exact ⟨fun ⟨p, h, e⟩ => ⟨p, h, e.symm⟩, fun ⟨p, h, e⟩ => ⟨p, h, e.symm⟩⟩
theorem rise_files (h : Rise d.now) : Rise d.image := rise_names h (by unfold D.image D.files; simp [Function.comp_def])
/-- A drive loaded with files of names of their own. -/
theorem loadAt_image : ∀ (fs : List (Bs × Bs)) {d : D}, Rise d.now → (∀ p ∈ d.now, p.2 < d.bd.length) → (∀ b ∈ d.bd, b.safe = b.data.length) → (∀ f ∈ fs, named f.1 = true ∧ find d.now f.1 = none) → (fs.map (·.1)).Nodup →
    ∃ d', loadAt d fs = some d' ∧ Rise d'.now ∧ (∀ b ∈ d'.bd, b.safe = b.data.length) ∧ (∀ p ∈ d'.now, p.2 < d'.bd.length) ∧ ∀ y, y ∈ d'.image ↔ y ∈ d.image ∨ y ∈ fs
  | [], d, h1, h2, h3, _, _ => ⟨d, rfl, h1, h3, h2, by simp⟩
  | (n, x) :: r, d, h1, h2, h3, h4, h5 => by
    obtain ⟨hn, hf⟩ := h4 (n, x) (by simp)
    obtain ⟨h6, h7⟩ := List.nodup_cons.1 h5
    have hput : ∀ p, p ∈ put d.now n (some d.bd.length) ↔ p ∈ d.now ∨ p = (n, d.bd.length) := by
      intro p
      rw [mem_put]
      constructor
      · rintro (⟨h, _⟩ | ⟨e1, e2⟩)
        · exact .inl h
        · injection e2 with e2
          exact .inr (Prod.ext e1 e2.symm)
      · rintro (h | rfl)
        · exact .inl ⟨h, find_none.1 hf p h⟩
        · exact .inr ⟨rfl, rfl⟩
    obtain ⟨d', e, g1, g2, g3, g4⟩ := loadAt_image r (d := ⟨d.room, d.bd ++ [⟨x, x.length⟩], put d.now n (some d.bd.length), put d.kept n (some d.bd.length), []⟩) (rise_put h1 n (some d.bd.length)) (fun p hp => by
        rcases (hput p).1 hp with h | rfl
        · have := h2 p h; simp; omega
        · simp) (fun b hb => by
        rcases List.mem_append.1 hb with h | h
        · exact h3 b h
        · rw [List.mem_singleton.1 h]) (fun f hf' => ⟨(h4 f (by simp [hf'])).1, by
        show find (put d.now n (some d.bd.length)) f.1 = none
        rw [find_put h1, if_neg fun e => h6 (List.mem_map.2 ⟨f, hf', e⟩)]
        exact (h4 f (by simp [hf'])).2⟩) h7
    refine ⟨d', ?_, g1, g2, g3, fun y => ?_⟩
    · unfold loadAt
      rw [if_neg (by simp [hf, hn])]
      exact e
    · rw [g4]
      unfold D.image
      rw [mem_files, mem_files, List.mem_cons]
      constructor
      · rintro (⟨p, hp, rfl⟩ | h)
        · rcases (hput p).1 hp with h | rfl
          · refine .inl ⟨p, h, ?_⟩
            have := h2 p h
            unfold D.at
            rw [at_new this]
          · refine .inr (.inl ?_)
            unfold D.at
            simp
        · exact .inr (.inr h)
      · rintro (⟨p, hp, rfl⟩ | rfl | h)
        · refine .inl ⟨p, (hput p).2 (.inl hp), ?_⟩
          have := h2 p hp
          unfold D.at
          rw [at_new this]
        · refine .inl ⟨_, (hput _).2 (.inr rfl), ?_⟩
          unfold D.at
          simp
        · exact .inr h
/-- A drive loaded with what stands on another shows just that, all of it safe. -/
theorem load_image (ho : d.Ok m N) {room : Int} (hr : okRoom room = true) : ∃ l, D.load room d.image = some l ∧ l.image = d.image ∧ l.safe = d.image ∧ l.pend = [] := by
  have hnow : d.image.map (·.1) = d.now.map (·.1) := by unfold D.image D.files; simp [Function.comp_def]
  have hnd : (d.now.map (·.1)).Nodup := by
    have h1 : (d.now.map (·.1)).Pairwise fun x y => bytesBefore x y = true := List.pairwise_map.2 ho.now
    exact h1.imp fun h => before_ne h
  obtain ⟨l, e, g1, g2, g3, g4⟩ := loadAt_image d.image (d := D.fresh room.toNat) List.Pairwise.nil (fun p hp => by cases hp) (fun b hb => by cases hb) (fun f hf => by
    unfold D.image at hf
    obtain ⟨p, hp, rfl⟩ := mem_files.1 hf
    exact ⟨ho.namN p hp, rfl⟩) (by rw [hnow]; exact hnd)
  obtain ⟨h1, h2⟩ := loadAt_joined d.image (d := D.fresh room.toNat) rfl rfl e
  have him : l.image = d.image := ext_rise (rise_files g1) (rise_files ho.now) fun y => by
    rw [g4]
    simp [D.image, D.files, D.fresh]
  refine ⟨l, by unfold D.load; rw [if_pos hr]; exact e, him, ?_, h2⟩
  rw [← him]
  unfold D.safe D.image D.files
  rw [← h1]
  refine List.map_congr_left fun p hp => ?_
  have h3 := g3 p hp
  have h4 : l.at p.2 = l.bd[p.2] := by unfold D.at; rw [List.getD_eq_getElem?_getD, List.getElem?_eq_getElem h3]; rfl
  have h5 := g2 (l.at p.2) (by rw [h4]; exact List.getElem_mem h3)
  dsimp only
  rw [h5, List.take_length]
end
end Go.Proofs.Ytelgcmcnebncmaa.Dr
