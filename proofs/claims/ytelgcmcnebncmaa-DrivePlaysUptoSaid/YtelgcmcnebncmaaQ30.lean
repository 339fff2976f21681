/- XPBetween: merged by tools/merge.py. -/
import Derived.Test.YtelgcmcnebncmaaQ03
import Derived.Test.YtelgcmcnebncmaaQ19
namespace Go.Proofs.Ytelgcmcnebncmaa.Dr
open Go

section
variable {d F : D} {m N : Nat}
theorem find_head {α : Type} (x : Bs × α) (l : List (Bs × α)) (M : Bs) : find (x :: l) M = if x.1 = M then some x.2 else find l M := by
  unfold find
  rw [List.find?_cons]
  by_cases h : x.1 = M
  · simp [h]
  · simp [h]
theorem find_zip (g : Nat → Nat → Bs) (M : Bs) : ∀ (k : Dir) (s : Nat), (find k M = none → find ((k.zipIdx s).map fun p => (p.1.1, g p.1.2 p.2)) M = none) ∧
    ∀ i, find k M = some i → ∃ j, j < s + k.length ∧ find ((k.zipIdx s).map fun p => (p.1.1, g p.1.2 p.2)) M = some (g i j)
  | [], s => ⟨fun _ => rfl, fun i h => by cases h⟩
  | x :: k, s => by
    obtain ⟨h1, h2⟩ := find_zip g M k (s + 1)
    rw [List.zipIdx_cons, List.map_cons, find_head, find_head]
    by_cases hx : x.1 = M
    · rw [if_pos hx, if_pos hx]
      exact ⟨fun h => (by cases h), fun i h => ⟨s, (by simp), (by injection h with h; rw [h])⟩⟩
    · rw [if_neg hx, if_neg hx]
      refine ⟨h1, fun i h => ?_⟩
      obtain ⟨j, h3, h4⟩ := h2 i h
      exact ⟨j, (by simp only [List.length_cons]; omega), h4⟩
theorem keep_append : ∀ (P Q : List (List (Bs × Option Nat))) (b : List Bool) (l : Dir), keepSome l (P ++ Q) b = keepSome (keepSome l P b) Q (b.drop P.length)
  | [], Q, b, l => by rw [keep_nil]; rfl
  | c :: P, Q, [], l => by
    rw [keep_none, List.drop_nil, keep_none, keep_none]
  | c :: P, Q, b :: s, l => by
    show keepSome (if b then apply l c else l) (P ++ Q) s = _
    rw [keep_append P Q s]
    rfl
theorem keep_take : ∀ (P : List (List (Bs × Option Nat))) (b : List Bool) (l : Dir), keepSome l P (b.take P.length) = keepSome l P b
  | [], b, l => by rw [keep_nil, keep_nil]
  | c :: P, [], l => rfl
  | c :: P, b :: s, l => by
    show keepSome (if b then apply l c else l) P (s.take P.length) = _
    rw [keep_take P s]
    rfl
/-- The bytes of a name behind a loss of power. -/
theorem crash_find (dirs : List Bool) (cuts : List Int) (M : Bs) : (find (keepSome d.kept d.pend dirs) M = none → find (d.crash dirs cuts).image M = none) ∧
    ∀ i, find (keepSome d.kept d.pend dirs) M = some i → ∃ j, j < (keepSome d.kept d.pend dirs).length ∧ find (d.crash dirs cuts).image M = some ((d.at i).left (cuts.getD j 0)).data := by
  have h := crash_files (d := d) (fun b => b.data) dirs cuts
  have e : (d.crash dirs cuts).image = (keepSome d.kept d.pend dirs).zipIdx.map fun p => (p.1.1, ((d.at p.1.2).left (cuts.getD p.2 0)).data) := h
  rw [e]
  have hz := find_zip (fun i j => ((d.at i).left (cuts.getD j 0)).data) M (keepSome d.kept d.pend dirs) 0
  simpa using hz
/-- Of d nothing has turned but that further changes are pending, of bodies of their own. -/
structure Mid (d F : D) (Q : List (List (Bs × Option Nat))) : Prop where
  kept : F.kept = d.kept
  pend : F.pend = d.pend ++ Q
  body : ∀ i, i < d.bd.length → F.at i = d.at i
theorem mid_refl : Mid d d [] := ⟨rfl, by simp, fun _ _ => rfl⟩
theorem left_loose (b : Bd) (c : Int) : ∃ k : Nat, k ≤ b.data.length - b.safe ∧ b.left c = b.left (k : Int) := by
  refine ⟨min (max c 0).toNat (b.data.length - b.safe), by omega, ?_⟩
  unfold Bd.left
  have : min (max c 0).toNat (b.data.length - b.safe) = min (max ((min (max c 0).toNat (b.data.length - b.safe) : Nat) : Int) 0).toNat (b.data.length - b.safe) := by omega
  rw [← this]
theorem replicate_getD {L j : Nat} (h : j < L) (k : Int) : (List.replicate L k).getD j 0 = k := by
  rw [List.getD_eq_getElem?_getD, List.getElem?_replicate, if_pos h]; rfl
theorem keep_in (ho : d.Ok m N) (dirs : List Bool) : Rise (keepSome d.kept d.pend dirs) ∧ (∀ x ∈ keepSome d.kept d.pend dirs, x.2 < d.bd.length) ∧ (keepSome d.kept d.pend dirs).length ≤ d.kept.length + d.pend.length := by
  obtain ⟨h1, h2⟩ := keep_ok d.pend dirs ho.kept (fun p hp => ⟨ho.inK p hp, ho.namK p hp⟩) ho.inP
  exact ⟨h1, fun x hx => (h2 x hx).1, len_keep d.pend dirs d.kept ho.oneP⟩
/-- Where the further changes do nothing to a name, it is as a loss of power ahead of them could have left it. -/
theorem Mid.old {Q : List (List (Bs × Option Nat))} (h : Mid d F Q) (ho : d.Ok m N) {M : Bs} {most L : Nat} (hl : ∀ i, (d.at i).data.length - (d.at i).safe ≤ most) (hL : d.kept.length + d.pend.length < L) (dirs : List Bool) (cuts : List Int)
    (hf : find (keepSome F.kept F.pend dirs) M = find (keepSome d.kept d.pend dirs) M) :
    ∃ k, k ≤ most ∧ find (F.crash dirs cuts).image M = find (d.crash (dirs.take d.pend.length) (List.replicate L (k : Int))).image M := by
  obtain ⟨g1, g2⟩ := crash_find (d := F) dirs cuts M
  cases hx : find (keepSome d.kept d.pend dirs) M with
  | none =>
    obtain ⟨p1, _⟩ := crash_find (d := d) (dirs.take d.pend.length) (List.replicate L ((0 : Nat) : Int)) M
    rw [keep_take] at p1
    exact ⟨0, Nat.zero_le _, (g1 (hf.trans hx)).trans (p1 hx).symm⟩
  | some i =>
    obtain ⟨r1, r2, r3⟩ := keep_in ho dirs
    have hi := r2 _ ((find_some r1).1 hx)
    obtain ⟨j, _, hj⟩ := g2 i (hf.trans hx)
    rw [h.body i hi] at hj
    obtain ⟨k, hk, hkl⟩ := left_loose (d.at i) (cuts.getD j 0)
    obtain ⟨_, p2⟩ := crash_find (d := d) (dirs.take d.pend.length) (List.replicate L (k : Int)) M
    rw [keep_take] at p2
    obtain ⟨j2, hj2, hj3⟩ := p2 i hx
    rw [replicate_getD (by omega)] at hj3
    exact ⟨k, Nat.le_trans hk (hl i), by rw [hj, hj3, hkl]⟩
theorem Mid.off {Q : List (List (Bs × Option Nat))} (h : Mid d F Q) (ho : d.Ok m N) {M : Bs} (hQ : ∀ c ∈ Q, ∀ s ∈ c, s.1 ≠ M) (dirs : List Bool) : find (keepSome F.kept F.pend dirs) M = find (keepSome d.kept d.pend dirs) M := by
  rw [h.kept, h.pend, keep_append]
  exact find_keep_off Q _ (keep_in ho dirs).1 hQ

def sAc (k : Int) (n t x : Bs) : Ac := ⟨k, n, t, 0, x, [], []⟩
def stepsOf (T M x : Bs) : List Ac := [sAc 0 T [] [], sAc 1 T [] x, sAc 2 T [] [], sAc 3 T M [], sAc 5 [] [] []]
/-- The first calls, as far as each goes well. -/
def upTo : D → List Ac → D
  | d, [] => d
  | d, a :: r => if (d.step a).2.code = 0 then upTo (d.step a).1 r else (d.step a).1
theorem step_create (d : D) (T t x : Bs) : d.step (sAc 0 T t x) = ((d.create T).1, { code := (d.create T).2 }) := rfl
theorem step_append (d : D) (T t x : Bs) : d.step (sAc 1 T t x) = ((d.append T x).1, { code := (d.append T x).2 }) := rfl
theorem step_sync (d : D) (T t x : Bs) : d.step (sAc 2 T t x) = ((d.sync T).1, { code := (d.sync T).2 }) := rfl
theorem step_rename (d : D) (T t x : Bs) : d.step (sAc 3 T t x) = ((d.rename T t).1, { code := (d.rename T t).2 }) := rfl
theorem step_syncDir (d : D) (T t x : Bs) : d.step (sAc 5 T t x) = (d.syncDir, {}) := rfl
/-- A new body of a name. -/
structure Has (d F : D) (T : Bs) (b : Bd) : Prop where
  mid : Mid d F [[(T, some d.bd.length)]]
  look : F.look T = .ok d.bd.length
  len : F.bd.length = d.bd.length + 1
  at_ : F.at d.bd.length = b
  now : Rise F.now
theorem create_has (ho : d.Ok m N) {T : Bs} (hT : named T = true) : (∃ e, e ≠ 0 ∧ d.create T = (d, e)) ∨ ∃ F, d.create T = (F, 0) ∧ Has d F T ⟨[], 0⟩ := by
  unfold D.create
  rw [if_pos hT]
  split
  · exact .inl ⟨112, by decide, rfl⟩
  · refine .inr ⟨_, rfl, ⟨rfl, rfl, fun i hi => at_new hi⟩, ?_, by simp [D.change], ?_, by show Rise (put d.now T (some d.bd.length)); exact rise_put ho.now _ _⟩
    · unfold D.look
      rw [if_pos hT]
      show (match find (put d.now T (some d.bd.length)) T with | some i => Except.ok i | none => _) = _
      rw [find_put ho.now, if_pos rfl]
    · show (d.bd ++ [(⟨[], 0⟩ : Bd)]).getD d.bd.length ⟨[], 0⟩ = _
      simp
theorem Has.set {T : Bs} {b : Bd} (h : Has d F T b) (b2 : Bd) : Has d (F.setBody d.bd.length b2) T b2 := by
  refine ⟨⟨h.mid.kept, h.mid.pend, fun i hi => ?_⟩, h.look, by simp [D.setBody, h.len], ?_, h.now⟩
  · rw [← h.mid.body i hi]
    unfold D.at D.setBody
    rw [List.getD_eq_getElem?_getD, List.getD_eq_getElem?_getD, List.getElem?_set_ne (by omega)]
  · unfold D.at D.setBody
    rw [List.getD_eq_getElem?_getD, List.getElem?_set_self (by rw [h.len]; omega)]
    rfl
theorem Has.append {T : Bs} (h : Has d F T ⟨[], 0⟩) (x : Bs) : (∃ e, e ≠ 0 ∧ F.append T x = (F, e)) ∨ ∃ G, F.append T x = (G, 0) ∧ Has d G T ⟨x, 0⟩ := by
  unfold D.append
  rw [h.look]
  dsimp only
  by_cases hx : x = []
  · subst hx
    rw [if_pos rfl]
    exact .inr ⟨F, rfl, h⟩
  · rw [if_neg hx]
    split
    · refine .inr ⟨_, rfl, ?_⟩
      rw [h.at_]
      exact h.set _
    · exact .inl ⟨111, by decide, rfl⟩
theorem Has.sync {T x : Bs} {s : Nat} (h : Has d F T ⟨x, s⟩) : ∃ G, F.sync T = (G, 0) ∧ Has d G T ⟨x, x.length⟩ := by
  unfold D.sync
  rw [h.look]
  dsimp only
  rw [h.at_]
  exact ⟨_, rfl, h.set _⟩
theorem Has.rename {T M x : Bs} (h : Has d F T ⟨x, x.length⟩) (hT : named T = true) (hM : named M = true) (hne : T ≠ M) :
    ∃ G, F.rename T M = (G, 0) ∧ Mid d G [[(T, some d.bd.length)], [(T, none), (M, some d.bd.length)]] ∧ G.at d.bd.length = ⟨x, x.length⟩ ∧ find G.now M = some d.bd.length := by
  unfold D.rename
  rw [hT, hM]
  simp only [Bool.not_true, Bool.and_false, Bool.false_eq_true, if_false]
  rw [h.look]
  dsimp only
  rw [if_neg hne]
  refine ⟨_, rfl, ⟨h.mid.kept, by show F.pend ++ _ = _; rw [h.mid.pend]; simp, h.mid.body⟩, h.at_, ?_⟩
  show find (put (put F.now T none) M (some d.bd.length)) M = _
  rw [find_put (rise_put h.now T none), if_pos rfl]
theorem left_all (x : Bs) (c : Int) : ((⟨x, x.length⟩ : Bd).left c).data = x := by
  unfold Bd.left
  simp only [Nat.sub_self, Nat.min_zero, Nat.zero_add]
  exact List.take_length
theorem between (ho : d.Ok m N) {T M x : Bs} (hT : named T = true) (hM : named M = true) (hne : T ≠ M) {most L : Nat} (hl : ∀ i, (d.at i).data.length - (d.at i).safe ≤ most) (hL : d.kept.length + d.pend.length < L) (done : Nat) (dirs : List Bool) (cuts : List Int) :
    (find ((upTo d ((stepsOf T M x).take done)).crash dirs cuts).image M = some x ∧ 4 ≤ done) ∨
      ((5 ≤ done → ¬ ((d.step (sAc 0 T [] [])).2.code = 0 ∧ ((d.step (sAc 0 T [] [])).1.step (sAc 1 T [] x)).2.code = 0)) ∧
        ∃ k, k ≤ most ∧ find ((upTo d ((stepsOf T M x).take done)).crash dirs cuts).image M = find (d.crash (dirs.take d.pend.length) (List.replicate L (k : Int))).image M) := by
  have hQ1 : ∀ c ∈ [[(T, some d.bd.length)]], ∀ s ∈ c, s.1 ≠ M := by
    intro c hc s hs
    simp only [List.mem_cons, List.not_mem_nil, or_false] at hc
    subst hc
    simp only [List.mem_cons, List.not_mem_nil, or_false] at hs
    subst hs
    exact hne
  have h0 : ∃ k, k ≤ most ∧ find (d.crash dirs cuts).image M = find (d.crash (dirs.take d.pend.length) (List.replicate L (k : Int))).image M := (mid_refl (d := d)).old ho hl hL dirs cuts rfl
  match done with
  | 0 => exact .inr ⟨fun h => absurd h (by decide), h0⟩
  | j + 1 =>
    show (find ((upTo d (sAc 0 T [] [] :: ([sAc 1 T [] x, sAc 2 T [] [], sAc 3 T M [], sAc 5 [] [] []]).take j)).crash dirs cuts).image M = some x ∧ 4 ≤ j + 1) ∨ _ ∧ ∃ k, k ≤ most ∧ find ((upTo d (sAc 0 T [] [] :: ([sAc 1 T [] x, sAc 2 T [] [], sAc 3 T M [], sAc 5 [] [] []]).take j)).crash dirs cuts).image M = _
    rw [upTo, step_create]
    rcases create_has ho hT with ⟨e, he, hc⟩ | ⟨F0, hc, h1⟩
    · rw [hc]
      simp only [if_neg he]
      exact .inr ⟨fun _ h => he h.1, h0⟩
    · rw [hc]
      simp only [if_true]
      match j with
      | 0 => exact .inr ⟨fun h => absurd h (by decide), h1.mid.old ho hl hL dirs cuts (h1.mid.off ho hQ1 dirs)⟩
      | j + 1 =>
        show (find ((upTo F0 (sAc 1 T [] x :: ([sAc 2 T [] [], sAc 3 T M [], sAc 5 [] [] []]).take j)).crash dirs cuts).image M = some x ∧ 4 ≤ j + 1 + 1) ∨ _ ∧ ∃ k, k ≤ most ∧ find ((upTo F0 (sAc 1 T [] x :: ([sAc 2 T [] [], sAc 3 T M [], sAc 5 [] [] []]).take j)).crash dirs cuts).image M = _
        rw [upTo, step_append]
        rcases h1.append x with ⟨e, he, hc⟩ | ⟨F1, hc, h2⟩
        · rw [hc]
          simp only [if_neg he]
          exact .inr ⟨fun _ h => he h.2, h1.mid.old ho hl hL dirs cuts (h1.mid.off ho hQ1 dirs)⟩
        · rw [hc]
          simp only [if_true]
          match j with
          | 0 => exact .inr ⟨fun h => absurd h (by decide), h2.mid.old ho hl hL dirs cuts (h2.mid.off ho hQ1 dirs)⟩
          | j + 1 =>
            show (find ((upTo F1 (sAc 2 T [] [] :: ([sAc 3 T M [], sAc 5 [] [] []]).take j)).crash dirs cuts).image M = some x ∧ 4 ≤ j + 1 + 1 + 1) ∨ _ ∧ ∃ k, k ≤ most ∧ find ((upTo F1 (sAc 2 T [] [] :: ([sAc 3 T M [], sAc 5 [] [] []]).take j)).crash dirs cuts).image M = _
            obtain ⟨F2, hc, h3⟩ := h2.sync
            rw [upTo, step_sync, hc]
            simp only [if_true]
            match j with
            | 0 => exact .inr ⟨fun h => absurd h (by decide), h3.mid.old ho hl hL dirs cuts (h3.mid.off ho hQ1 dirs)⟩
            | j + 1 =>
              show (find ((upTo F2 (sAc 3 T M [] :: ([sAc 5 [] [] []]).take j)).crash dirs cuts).image M = some x ∧ 4 ≤ j + 1 + 1 + 1 + 1) ∨ _ ∧ ∃ k, k ≤ most ∧ find ((upTo F2 (sAc 3 T M [] :: ([sAc 5 [] [] []]).take j)).crash dirs cuts).image M = _
              obtain ⟨F3, hc, h4, h5, h6⟩ := h3.rename hT hM hne
              rw [upTo, step_rename, hc]
              simp only [if_true]
              match j with
              | 0 =>
                show (find (F3.crash dirs cuts).image M = some x ∧ _) ∨ (_ ∧ ∃ k, k ≤ most ∧ find (F3.crash dirs cuts).image M = _)
                have hk : find (keepSome F3.kept F3.pend dirs) M = some d.bd.length ∨ find (keepSome F3.kept F3.pend dirs) M = find (keepSome d.kept d.pend dirs) M := by
                  rw [h4.kept, h4.pend, keep_append]
                  obtain ⟨r1, _, _⟩ := keep_in ho dirs
                  generalize keepSome d.kept d.pend dirs = K at r1 ⊢
                  match dirs.drop d.pend.length with
                  | [] => exact .inr (by rw [keep_none])
                  | [b1] =>
                    right
                    show find (keepSome (if b1 then apply K _ else K) _ []) M = _
                    rw [keep_none]
                    cases b1
                    · rfl
                    · exact find_apply_off (l := K) _ r1 (hQ1 _ (by simp))
                  | b1 :: b2 :: r =>
                    show find (keepSome (if b2 then apply (if b1 then apply K _ else K) _ else (if b1 then apply K _ else K)) [] r) M = _ ∨ find (keepSome (if b2 then apply (if b1 then apply K _ else K) _ else (if b1 then apply K _ else K)) [] r) M = _
                    rw [keep_nil]
                    have r2 : Rise (if b1 then apply K [(T, some d.bd.length)] else K) := by
                      cases b1
                      · exact r1
                      · exact rise_apply r1 _
                    cases b2
                    · right
                      cases b1
                      · rfl
                      · exact find_apply_off (l := K) _ r1 (hQ1 _ (by simp))
                    · left
                      show find (put (put (if b1 then apply K [(T, some d.bd.length)] else K) T none) M (some d.bd.length)) M = _
                      rw [find_put (rise_put r2 T none), if_pos rfl]
                rcases hk with hk | hk
                · left
                  obtain ⟨j, _, hj⟩ := (crash_find (d := F3) dirs cuts M).2 _ hk
                  rw [h5, left_all] at hj
                  exact ⟨hj, by omega⟩
                · exact .inr ⟨fun h => absurd h (by decide), h4.old ho hl hL dirs cuts hk⟩
              | j + 1 =>
                left
                refine ⟨?_, by omega⟩
                show find ((upTo F3 (sAc 5 [] [] [] :: ([] : List Ac).take j)).crash dirs cuts).image M = some x
                rw [List.take_nil, upTo, step_syncDir]
                simp only [if_true]
                show find (F3.syncDir.crash dirs cuts).image M = some x
                have hk : find (keepSome F3.syncDir.kept F3.syncDir.pend dirs) M = some d.bd.length := by
                  show find (keepSome F3.now [] dirs) M = _
                  rw [keep_nil]
                  exact h6
                obtain ⟨j, _, hj⟩ := (crash_find (d := F3.syncDir) dirs cuts M).2 _ hk
                rw [show F3.syncDir.at d.bd.length = ⟨x, x.length⟩ from h5, left_all] at hj
                exact hj
/-- No body has more loose bytes than this. -/
def D.Loose (d : D) (b : Nat) : Prop := ∀ y ∈ d.bd, y.data.length - y.safe ≤ b
theorem D.Loose.at_ {b : Nat} (h : d.Loose b) (i : Nat) : (d.at i).data.length - (d.at i).safe ≤ b := by
  unfold D.at
  rw [List.getD_eq_getElem?_getD]
  cases hi : d.bd[i]? with
  | none => simp
  | some y => exact h y (List.mem_of_getElem? hi)
theorem D.Loose.mono {a b : Nat} (h : d.Loose a) (hab : a ≤ b) : d.Loose b := fun y hy => Nat.le_trans (h y hy) hab
theorem D.Loose.body {a b : Nat} (h : d.Loose a) (hab : a ≤ b) (i : Nat) {y : Bd} (hy : y.data.length - y.safe ≤ b) : (d.setBody i y).Loose b := by
  intro z hz
  rcases List.mem_or_eq_of_mem_set hz with hz | rfl
  · exact Nat.le_trans (h z hz) hab
  · exact hy
theorem D.Loose.step {b : Nat} (h : d.Loose b) (a : Ac) : (d.step a).1.Loose (b + a.data.length) := by
  have hm := h.mono (Nat.le_add_right b a.data.length)
  refine D.step_to (P := fun e => e.Loose (b + a.data.length)) a ?_ ?_ ?_ ?_ ?_ hm hm ?_ ?_ ?_ (fun y hy => by cases hy)
  · unfold D.create
    split
    · split
      · exact hm
      · intro y hy
        rcases List.mem_append.1 hy with hy | hy
        · exact hm y hy
        · obtain rfl := List.mem_singleton.1 hy; simp
    · exact hm
  · unfold D.append
    split
    · exact hm
    · rename_i i _
      split
      · exact hm
      · split
        · refine h.body (Nat.le_add_right _ _) _ ?_
          have := h.at_ i
          simp only [List.length_append]
          omega
        · exact hm
  · unfold D.sync
    split
    · exact hm
    · exact h.body (Nat.le_add_right _ _) _ (by simp)
  · unfold D.rename
    split
    · exact hm
    · split
      · exact hm
      · split
        · exact hm
        · exact hm
  · unfold D.remove
    split
    · exact hm
    · exact hm
  · intro y hy
    rw [D.crash_eq] at hy
    obtain ⟨p, _, rfl⟩ := List.mem_map.1 hy
    unfold Bd.left
    simp only [List.length_take]
    omega
  · unfold D.flip
    split
    · exact hm
    · split
      · exact hm
      · rename_i i _
        refine h.body (Nat.le_add_right _ _) _ ?_
        have := h.at_ i
        simp only [flipAt_len]
        omega
  · unfold D.cut
    split
    · exact hm
    · split
      · exact hm
      · rename_i i _
        refine h.body (Nat.le_add_right _ _) _ ?_
        have := h.at_ i
        simp only [List.length_take]
        omega
def bulkA (l : List Ac) : Nat := (l.map fun a => a.data.length).sum
theorem plays_loose : ∀ (l : List Ac) {d : D} {b : Nat}, d.Loose b → (plays d l).Loose (b + bulkA l)
  | [], _, _, h => h
  | a :: r, d, b, h => by
    have := plays_loose r (h.step a)
    unfold bulkA at this ⊢
    rw [List.map_cons, List.sum_cons, ← Nat.add_assoc]
    exact this
theorem plays_ok : ∀ (l : List Ac) {d : D} {m N : Nat}, d.Ok m N → ∃ m', (plays d l).Ok m' (N + l.length)
  | [], _, _, _, h => ⟨_, h⟩
  | a :: r, d, m, N, h => by
    obtain ⟨m', h'⟩ := plays_ok r (h.step a)
    exact ⟨m', by rw [List.length_cons, show N + (r.length + 1) = N + 1 + r.length by omega]; exact h'⟩
end
end Go.Proofs.Ytelgcmcnebncmaa.Dr
