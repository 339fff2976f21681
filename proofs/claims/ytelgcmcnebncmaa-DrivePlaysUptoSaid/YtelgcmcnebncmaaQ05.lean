/- XPNoth2: merged by tools/merge.py. -/
import Derived.Test.YtelgcmcnebncmaaQ04
namespace Go.Proofs.Ytelgcmcnebncmaa.Dr
open Go

section
variable {t : Tr} {s : Nat → Nat} {d : D} {m N : Nat} {n : Bs} {q : Nat}
theorem set_at {i j : Nat} {b : Bd} (hi : i < d.bd.length) : (d.setBody i b).at j = if j = i then b else d.at j := by
  unfold D.at D.setBody
  simp only [List.getD_eq_getElem?_getD, List.getElem?_set]
  by_cases h : i = j
  · subst h; simp [hi]
  · rw [if_neg h, if_neg fun e => h e.symm]
theorem lead_of (h : Told t s d) (ho : d.Ok m N) (hq : t.names[q]? = some n) {j : Nat} (hl : d.look n = .ok j) : ∃ i, t.leads[q]? = some (some i) ∧ t.leads.getD q none = some i ∧ s i = j ∧ i < t.data.length := by
  have h1 := h.leads q n hq
  rw [(look_ok ho hl).2] at h1
  cases hx : t.leads.getD q none with
  | none => rw [hx] at h1; cases h1
  | some i =>
    rw [hx] at h1
    injection h1 with h1
    have hql : q < t.leads.length := by have := (List.getElem?_eq_some_iff.1 hq).1; have := h.len.1; omega
    have h2 : t.leads[q]? = some (some i) := by
      rw [List.getD_eq_getElem?_getD, List.getElem?_eq_getElem hql] at hx
      rw [List.getElem?_eq_getElem hql]
      simpa using hx
    exact ⟨i, h2, rfl, h1.symm, h.inL q i h2⟩
theorem lead_data (hl : t.leads.length = t.names.length) (n : Bs) (x : Option Nat) : (t.lead n x).data = t.data := (place_at hl n).2.1
theorem Full.turned (h : Full t s d) (ho : d.Ok m N) (hq : t.names[q]? = some n) {j : Nat} (hl : d.look n = .ok j) (b : Bd) (hb : b.safe = (d.at j).safe) : Near t s (d.setBody j b) := by
  obtain ⟨i, h1, _, h3, h4⟩ := lead_of h.1 ho hq hl
  have hj := (look_in ho hl).2
  refine ⟨Tells.to h.1 (fun _ => rfl) (fun _ _ h => h) (by simp [D.setBody]) fun k hk => ?_, fun k hk => ?_⟩
  · rw [set_at hj]
    split
    · rename_i e; rw [e]; exact hb
    · rfl
  · by_cases hki : k = i
    · subst hki; exact .inr ⟨q, h1⟩
    · left
      rw [set_at hj, if_neg (fun e => hki (h.1.inj k i hk h4 (e.trans h3.symm)))]
      exact h.2 k hk
theorem Full.made (h : Full t s d) (hc : (d.create n).2 = 0) (ho : d.Ok m N) : ∃ s', Near ((t.body [] 0).lead n (some t.data.length)) s' (d.create n).1 := by
  unfold D.create at hc ⊢
  split
  · rename_i hn
    rw [if_pos hn] at hc
    split
    · rename_i hf; rw [if_pos hf] at hc; cases hc
    · have hb := Tells.body h.1 [] 0
      have h1 := hb.lead n (x := some t.data.length) (fun i hi => by injection hi with hi; subst hi; simp [Tr.body])
      have hdat : ((t.body [] 0).lead n (some t.data.length)).data = t.data ++ [[]] := lead_data (t := t.body [] 0) h.1.len.1 n _
      have hat : ∀ j, D.at (({ d with bd := d.bd ++ [⟨[], 0⟩] } : D).change [(n, some d.bd.length)]) j = if j = d.bd.length then ⟨[], 0⟩ else d.at j := by
        intro j
        unfold D.at D.change
        simp only [List.getD_eq_getElem?_getD]
        by_cases hj : j = d.bd.length
        · subst hj; simp
        · rw [if_neg hj]
          rcases Nat.lt_or_ge j d.bd.length with h2 | h2
          · rw [List.getElem?_append_left h2]
          · rw [List.getElem?_eq_none (by simp; omega), List.getElem?_eq_none h2]
      refine ⟨_, h1.to (fun x => ?_) (fun x b hx => ?_) (by simp [D.change]) fun i _ => ?_, fun i hi => ?_⟩
      · show find (put d.now n (some d.bd.length)) x = _
        rw [find_put ho.now]
        simp
      · rcases hx with hx | ⟨c, hcm, hx⟩
        · exact .inl (.inl hx)
        · rcases List.mem_append.1 hcm with h2 | h2
          · exact .inl (.inr ⟨c, h2, hx⟩)
          · rw [List.mem_singleton.1 h2] at hx
            have := List.mem_singleton.1 hx
            injection this with e1 e2
            injection e2 with e2
            exact .inr ⟨e1, by simp [e2]⟩
      · dsimp only
        rw [hat]
        by_cases h2 : i = t.data.length
        · rw [if_pos h2]; simp
        · rw [if_neg h2]
          split <;> rfl
      · left
        rw [hdat] at hi ⊢
        rw [hat]
        by_cases h2 : i = t.data.length
        · subst h2; simp
        · have h3 : i < t.data.length := by simp at hi; omega
          have h4 := h.1.dest i h3
          simp only [if_neg h2]
          rw [if_neg (by omega), ← h.2 i h3]
          simp only [List.getD_eq_getElem?_getD, List.getElem?_append_left h3]
  · rename_i hn
    rw [if_neg hn] at hc; cases hc
theorem Full.synced (h : Full t s d) (hc : (d.sync n).2 = 0) (ho : d.Ok m N) (hq : t.names[q]? = some n) : Near (match t.leads.getD q none with | some i => t.setSafe i (t.data.getD i []).length | none => t) s (d.sync n).1 := by
  unfold D.sync at hc ⊢
  cases hl : d.look n with
  | error e =>
    rw [hl] at hc
    dsimp only at hc
    subst hc
    exfalso
    unfold D.look at hl
    split at hl
    · split at hl <;> cases hl
    · cases hl
  | ok j =>
    obtain ⟨i, h1, h2, h3, h4⟩ := lead_of h.1 ho hq hl
    have hj := (look_in ho hl).2
    dsimp only
    rw [h2]
    refine ⟨(Tells.setSafe h.1 h4 _).to (fun _ => rfl) (fun _ _ h => h) (by simp [D.setBody]) fun k hk => ?_, fun k hk => ?_⟩
    · skip
      rw [set_at hj, h3, h.2 i h4, h3]
      split <;> rfl
    · left
      rw [set_at hj]
      show t.data.getD k [] = _
      rw [h.2 k hk]
      split
      · rename_i e; rw [e]
      · rfl
theorem look_err {e : Int} (hl : d.look n = .error e) : e ≠ 0 := by
  unfold D.look at hl
  split at hl
  · split at hl
    · cases hl
    · injection hl with hl; omega
  · injection hl with hl; omega
theorem Full.renamed (h : Full t s d) {b : Bs} (hc : (d.rename n b).2 = 0) (ho : d.Ok m N) (hq : t.names[q]? = some n) : Near (if n = b then t else (t.lead b (t.leads.getD q none)).lead n none) s (d.rename n b).1 := by
  unfold D.rename at hc ⊢
  by_cases hf : (named n && !named b) = true
  · rw [if_pos hf] at hc; cases hc
  · rw [if_neg hf] at hc
    rw [if_neg hf]
    cases hl : d.look n with
    | error e => rw [hl] at hc; exact absurd hc (look_err hl)
    | ok j =>
      obtain ⟨i, h1, h2, h3, h4⟩ := lead_of h.1 ho hq hl
      dsimp only
      by_cases hab : n = b
      · rw [if_pos hab, if_pos hab]; exact h.near
      · rw [if_neg hab, if_neg hab, h2]
        have g1 := Tells.lead h.1 b (x := some i) (fun k hk => by injection hk with hk; omega)
        have g2 := g1.lead n (x := none) (fun k hk => by cases hk)
        have hd1 : (t.lead b (some i)).data = t.data := lead_data h.1.len.1 b _
        have hd2 : ((t.lead b (some i)).lead n none).data = t.data := (lead_data g1.len.1 n _).trans hd1
        refine ⟨g2.to (fun x => ?_) (fun x y hx => ?_) (Nat.le_refl _) fun k _ => rfl, fun k hk => .inl ?_⟩
        · show find (put (put d.now n none) b (some j)) x = _
          rw [find_put (rise_put ho.now n none), find_put ho.now]
          skip
          by_cases hxn : x = n
          · subst hxn
            rw [if_neg hab, if_pos rfl, if_pos rfl]; rfl
          · rw [if_neg hxn, if_neg hxn]
            split
            · rw [← h3]; rfl
            · rfl
        · rcases hx with hx | ⟨c, hcm, hx⟩
          · exact .inl (.inl (.inl hx))
          · rcases List.mem_append.1 hcm with h5 | h5
            · exact .inl (.inl (.inr ⟨c, h5, hx⟩))
            · rw [List.mem_singleton.1 h5] at hx
              rcases List.mem_cons.1 hx with hx | hx
              · injection hx with _ e2; cases e2
              · have := List.mem_singleton.1 hx
                injection this with e1 e2
                exact .inl (.inr ⟨e1, by rw [Option.map_some, h3]; exact e2.symm⟩)
        · rw [hd2] at hk ⊢
          exact h.2 k hk
theorem Full.removed (h : Full t s d) (hc : (d.remove n).2 = 0) (ho : d.Ok m N) : Near (t.lead n none) s (d.remove n).1 := by
  unfold D.remove at hc ⊢
  cases hl : d.look n with
  | error e => rw [hl] at hc; exact absurd hc (look_err hl)
  | ok j =>
    dsimp only
    have g1 := Tells.lead h.1 n (x := none) (fun k hk => by cases hk)
    have hd1 : (t.lead n none).data = t.data := lead_data h.1.len.1 n _
    refine ⟨g1.to (fun x => ?_) (fun x y hx => ?_) (Nat.le_refl _) fun k _ => rfl, fun k hk => .inl ?_⟩
    · show find (put d.now n none) x = _
      rw [find_put ho.now]
      rfl
    · rcases hx with hx | ⟨c, hcm, hx⟩
      · exact .inl (.inl hx)
      · rcases List.mem_append.1 hcm with h5 | h5
        · exact .inl (.inr ⟨c, h5, hx⟩)
        · rw [List.mem_singleton.1 h5] at hx
          have := List.mem_singleton.1 hx
          injection this with _ e2
          cases e2
    · rw [hd1] at hk ⊢
      exact h.2 k hk
theorem Full.allSafe (h : Full t s d) (ho : d.Ok m N) : Near t.fresh s d.syncDir := by
  refine ⟨(Tells.fresh h.1).to (fun _ => rfl) (fun x y hx => ?_) (Nat.le_refl _) fun _ _ => rfl, fun k hk => .inl (h.2 k hk)⟩
  rcases hx with hx | ⟨c, hcm, _⟩
  · exact (find_some ho.now).2 hx
  · cases hcm
theorem Full.cut (h : Full t s d) {k : Int} (hc : (d.cut n k).2 = 0) (ho : d.Ok m N) (hn : ∀ j, d.look n = .ok j → 0 ≤ k) (hq : t.names[q]? = some n) : Near (match t.leads.getD q none with | some i => if k < (t.safe.getD i 0 : Int) then t.setSafe i k.toNat else t | none => t) s (d.cut n k).1 := by
  unfold D.cut at hc ⊢
  by_cases hf : (named n && decide (k < 0)) = true
  · rw [if_pos hf] at hc; cases hc
  · rw [if_neg hf] at hc
    rw [if_neg hf]
    cases hl : d.look n with
    | error e => rw [hl] at hc; exact absurd hc (look_err hl)
    | ok j =>
      have h0 := hn j hl
      obtain ⟨i, h1, h2, h3, h4⟩ := lead_of h.1 ho hq hl
      have hj := (look_in ho hl).2
      have hs := h.1.safe i h4
      rw [h3] at hs
      dsimp only at hs ⊢
      rw [h2]
      dsimp only
      rw [hs]
      by_cases hlt : k < ((d.at j).safe : Int)
      · rw [if_pos hlt]
        refine ⟨(Tells.setSafe h.1 h4 _).to (fun _ => rfl) (fun _ _ h => h) (by simp [D.setBody]) fun x hx => ?_, fun x hx => ?_⟩
        · skip
          rw [set_at hj, h3]
          split
          · show min (d.at j).safe k.toNat = k.toNat
            omega
          · rfl
        · change x < t.data.length at hx
          by_cases hxi : x = i
          · subst hxi; exact .inr ⟨q, h1⟩
          · left
            rw [set_at hj, if_neg (fun e => hxi (h.1.inj x i hx h4 (e.trans h3.symm)))]
            exact h.2 x hx
      · rw [if_neg hlt]
        exact h.turned ho hq hl _ (by show min (d.at j).safe k.toNat = (d.at j).safe; omega)
set_option maxHeartbeats 1000000 in
/-- An act that was answered OK is followed. -/
theorem Full.follow (h : Full t s d) (ho : d.Ok m N) (a : Ac) (hc : (d.step a).2.code = 0) (h13 : a.kind ≠ 13) (h16 : a.kind ≠ 16) : ∃ s', Near (t.follow a) s' (d.step a).1 := by
  have hp := h.place a.name
  obtain ⟨hq, _, _, _⟩ := place_at h.1.len.1 a.name
  unfold Tr.follow
  generalize t.place a.name = p at hp hq
  obtain ⟨t', q⟩ := p
  dsimp only at hp hq ⊢
  clear h
  unfold D.step at hc ⊢
  unfold Tr.turn
  by_cases k0 : a.kind = 0
  · simp only [if_pos k0] at hc ⊢
    exact hp.made hc ho
  simp only [if_neg k0] at hc ⊢
  by_cases k1 : a.kind = 1
  · have n2 : ¬ a.kind = 2 := by omega
    have n3 : ¬ a.kind = 3 := by omega
    have n4 : ¬ a.kind = 4 := by omega
    have n5 : ¬ a.kind = 5 := by omega
    have n15 : ¬ a.kind = 15 := by omega
    simp only [if_pos k1, if_neg n2, if_neg n3, if_neg n4, if_neg n5, if_neg n15] at hc ⊢
    refine ⟨s, ?_⟩
    unfold D.append at hc ⊢
    cases hl : d.look a.name with
    | error e => rw [hl] at hc; exact absurd hc (look_err hl)
    | ok j =>
      dsimp only
      split
      · exact hp.near
      · split
        · exact hp.turned ho hq hl _ rfl
        · exact hp.near
  simp only [if_neg k1] at hc ⊢
  by_cases k2 : a.kind = 2
  · simp only [if_pos k2] at hc ⊢
    exact ⟨s, hp.synced hc ho hq⟩
  simp only [if_neg k2] at hc ⊢
  by_cases k3 : a.kind = 3
  · simp only [if_pos k3] at hc ⊢
    exact ⟨s, hp.renamed hc ho hq⟩
  simp only [if_neg k3] at hc ⊢
  by_cases k4 : a.kind = 4
  · simp only [if_pos k4] at hc ⊢
    exact ⟨s, hp.removed hc ho⟩
  simp only [if_neg k4] at hc ⊢
  by_cases k5 : a.kind = 5
  · simp only [if_pos k5] at hc ⊢
    exact ⟨s, hp.allSafe ho⟩
  simp only [if_neg k5] at hc ⊢
  by_cases k15 : a.kind = 15
  · have n6 : ¬ a.kind = 6 := by omega
    have n7 : ¬ a.kind = 7 := by omega
    have n8 : ¬ a.kind = 8 := by omega
    have n9 : ¬ a.kind = 9 := by omega
    have n10 : ¬ a.kind = 10 := by omega
    have n11 : ¬ a.kind = 11 := by omega
    have n12 : ¬ a.kind = 12 := by omega
    have n14 : ¬ a.kind = 14 := by omega
    simp only [if_pos k15, if_neg n6, if_neg n7, if_neg n8, if_neg n9, if_neg n10, if_neg n11, if_neg n12, if_neg h13, if_neg n14] at hc ⊢
    refine ⟨s, hp.cut hc ho (fun j hl => ?_) hq⟩
    have hn := (look_ok ho hl).1
    unfold D.cut at hc
    split at hc
    · cases hc
    · rename_i hf
      rw [hn] at hf
      simpa using hf
  simp only [if_neg k15, if_neg h13, if_neg h16] at hc ⊢
  refine ⟨s, ?_⟩
  by_cases k14 : a.kind = 14
  · have n6 : ¬ a.kind = 6 := by omega
    have n7 : ¬ a.kind = 7 := by omega
    have n8 : ¬ a.kind = 8 := by omega
    have n9 : ¬ a.kind = 9 := by omega
    have n10 : ¬ a.kind = 10 := by omega
    have n11 : ¬ a.kind = 11 := by omega
    have n12 : ¬ a.kind = 12 := by omega
    simp only [if_pos k14, if_neg n6, if_neg n7, if_neg n8, if_neg n9, if_neg n10, if_neg n11, if_neg n12] at hc ⊢
    unfold D.flip at hc ⊢
    split
    · exact hp.near
    · cases hl : d.look a.name with
      | error e => exact hp.near
      | ok j => exact hp.turned ho hq hl _ rfl
  simp only [if_neg k14] at hc ⊢
  have hsame : ∀ {x : D × An}, x.1 = d → Near t' s x.1 := fun e => by rw [e]; exact hp.near
  refine hsame ?_
  repeat' split
  all_goals rfl
/-- A trace made anew of what stands, all of it safe. -/
theorem full_anew (ho : d.Ok m N) (hk : d.kept = d.now) (hp : d.pend = []) (hl : d.now.length = d.bd.length) (hs : ∀ b ∈ d.bd, b.safe = b.data.length) : Full (Tr.anew d.image) (fun i => (d.now.getD i ([], 0)).2) d := by
  have hil : d.image.length = d.now.length := by simp [D.image, D.files]
  have hnow : ∀ i, i < d.now.length → d.now[i]? = some (d.now.getD i ([], 0)) := fun i hi => by
    rw [List.getD_eq_getElem?_getD, List.getElem?_eq_getElem hi]; rfl
  have him : ∀ i, i < d.now.length → d.image[i]? = some ((d.now.getD i ([], 0)).1, (d.at (d.now.getD i ([], 0)).2).data) := fun i hi => by
    unfold D.image D.files
    rw [List.getElem?_map, hnow i hi]
    rfl
  have hnm : ∀ (k : Nat) n, (d.image.map (·.1))[k]? = some n → k < d.now.length ∧ n = (d.now.getD k ([], 0)).1 := fun k n h => by
    have hk : k < d.now.length := by have := (List.getElem?_eq_some_iff.1 h).1; simpa [hil] using this
    rw [List.getElem?_map, him k hk] at h
    exact ⟨hk, by injection h with h; exact h.symm⟩
  have hin : ∀ i, i < d.now.length → (d.now.getD i ([], 0)).2 < d.bd.length := fun i hi => ho.inN _ (List.mem_of_getElem? (hnow i hi))
  have hled : ∀ n b, d.led n b → (n, b) ∈ d.now := fun n b h => by
    rcases h with h | ⟨c, h, _⟩
    · exact hk ▸ h
    · rw [hp] at h; cases h
  refine ⟨⟨⟨by simp [Tr.anew], by simp [Tr.anew], by simp [Tr.anew]⟩, ?_, fun i j hi hj e => ?_, fun i hi => ?_, fun i hi => ?_, fun k n h => ?_, fun k i h => ?_, fun k l i h hi => ?_, fun k n h b hb => ?_, fun n hnn => ?_⟩, fun i hi => ?_⟩
  · show (d.image.map (·.1)).Nodup
    refine List.pairwise_map.2 ((rise_files ho.now).imp fun h => before_ne h)
  · have hi2 : i < d.now.length := by simpa [Tr.anew, hil] using hi
    have hj2 : j < d.now.length := by simpa [Tr.anew, hil] using hj
    have hone := List.pairwise_iff_getElem.1 ho.one
    have hg : ∀ x (hx : x < d.now.length), (d.now.map (·.2))[x]'(by simpa using hx) = (d.now.getD x ([], 0)).2 := fun x hx => by
      rw [List.getElem_map, List.getD_eq_getElem?_getD, List.getElem?_eq_getElem hx]; rfl
    rcases Nat.lt_trichotomy i j with h3 | h3 | h3
    · exact absurd ((hg i hi2).trans (e.trans (hg j hj2).symm)) (hone i j _ _ h3)
    · exact h3
    · exact absurd ((hg j hj2).trans (e.symm.trans (hg i hi2).symm)) (hone j i _ _ h3)
  · exact hin i (by simpa [Tr.anew, hil] using hi)
  · have hi2 : i < d.now.length := by simpa [Tr.anew, hil] using hi
    show (d.image.map (·.2.length)).getD i 0 = _
    rw [List.getD_eq_getElem?_getD, List.getElem?_map, him i hi2]
    have hb := hin i hi2
    have := hs (d.at (d.now.getD i ([], 0)).2) (by unfold D.at; rw [List.getD_eq_getElem?_getD, List.getElem?_eq_getElem hb]; exact List.getElem_mem hb)
    exact this.symm
  · obtain ⟨hkl, rfl⟩ := hnm k n h
    have h2 : find d.now (d.now.getD k ([], 0)).1 = some (d.now.getD k ([], 0)).2 := (find_some ho.now).2 (List.mem_of_getElem? (hnow k hkl))
    rw [h2]
    have h3 : ((List.range d.image.length).map some).getD k none = some k := by
      rw [List.getD_eq_getElem?_getD, List.getElem?_map, List.getElem?_range (by omega)]
      rfl
    show _ = (((List.range d.image.length).map some).getD k none).map _
    rw [h3]
    rfl
  · change ((List.range d.image.length).map some)[k]? = _ at h
    rw [List.getElem?_map] at h
    have hkl : k < d.image.length := by
      rcases Nat.lt_or_ge k d.image.length with h1 | h1
      · exact h1
      · rw [List.getElem?_eq_none (by simpa using h1)] at h; cases h
    rw [List.getElem?_range hkl] at h
    injection h with h
    injection h with h
    subst h
    simpa [Tr.anew] using hkl
  · change ((List.range d.image.length).map fun i => [i])[k]? = _ at h
    rw [List.getElem?_map] at h
    have hkl : k < d.image.length := by
      rcases Nat.lt_or_ge k d.image.length with h1 | h1
      · exact h1
      · rw [List.getElem?_eq_none (by simpa using h1)] at h; cases h
    rw [List.getElem?_range hkl] at h
    injection h with h
    subst h
    rw [List.mem_singleton.1 hi]
    simpa [Tr.anew] using hkl
  · obtain ⟨hkl, rfl⟩ := hnm k n h
    refine ⟨k, ?_, ?_⟩
    · show k ∈ ((List.range d.image.length).map fun i => [i]).getD k []
      rw [List.getD_eq_getElem?_getD, List.getElem?_map, List.getElem?_range (by omega)]
      simp
    · have h1 := (find_some ho.now).2 (hled _ _ hb)
      have h2 : find d.now (d.now.getD k ([], 0)).1 = some (d.now.getD k ([], 0)).2 := (find_some ho.now).2 (List.mem_of_getElem? (hnow k hkl))
      rw [h1] at h2
      injection h2 with h2
      exact h2.symm
  · have hnot : ∀ b, (n, b) ∉ d.now := fun b hb => hnn (by
      show n ∈ d.image.map (·.1)
      unfold D.image D.files
      rw [List.map_map]
      exact List.mem_map_of_mem (f := fun p : Bs × Nat => p.1) hb)
    exact ⟨find_none.2 fun y hy e => hnot y.2 (by rw [← e]; exact hy), fun b hb => hnot b (hled _ _ hb)⟩
  · have hi2 : i < d.now.length := by simpa [Tr.anew, hil] using hi
    show (d.image.map (·.2)).getD i [] = _
    rw [List.getD_eq_getElem?_getD, List.getElem?_map, him i hi2]
    rfl
theorem full_crash (ho : d.Ok m N) (dirs : List Bool) (cuts : List Int) : ∃ s, Full (Tr.anew (d.crash dirs cuts).image) s (d.crash dirs cuts) := by
  refine ⟨_, full_anew (ho.crash dirs cuts) rfl rfl ?_ fun b hb => ?_⟩
  · rw [D.crash_eq]; simp [places_len]
  · rw [D.crash_eq] at hb
    obtain ⟨p, _, rfl⟩ := List.mem_map.1 hb
    exact (Bd.left_ok (ho.at_ok p.1.2).1 _).1
theorem full_wipe (ho : d.Ok m N) : ∃ s, Full (Tr.anew []) s d.wipe :=
  ⟨_, full_anew (d := d.wipe) ho.wipe rfl rfl rfl fun b hb => by cases hb⟩
theorem loadAt_whole : ∀ (fs : List (Bs × Bs)) {d d' : D}, d.now.length = d.bd.length → (∀ b ∈ d.bd, b.safe = b.data.length) → loadAt d fs = some d' → d'.now.length = d'.bd.length ∧ ∀ b ∈ d'.bd, b.safe = b.data.length
  | [], d, d', h, hs, he => by injection he with he; subst he; exact ⟨h, hs⟩
  | (n, x) :: r, d, d', h, hs, he => by
    unfold loadAt at he
    split at he
    · cases he
    · rename_i hc
      simp only [Bool.or_eq_true, Bool.not_eq_true', not_or, Bool.not_eq_true, Bool.not_eq_false, Option.isSome_eq_false_iff, Option.isNone_iff_eq_none] at hc
      refine loadAt_whole r (d := ⟨d.room, d.bd ++ [⟨x, x.length⟩], put d.now n (some d.bd.length), put d.kept n (some d.bd.length), []⟩) ?_ (fun b hb => ?_) he
      · show (ins (n, d.bd.length) (del d.now n)).length = _
        rw [len_ins, del_same hc.1]
        simp [h]
      · rcases List.mem_append.1 hb with hb | hb
        · exact hs b hb
        · rw [List.mem_singleton.1 hb]
/-- The trace is small. -/
structure Small (t : Tr) (q : Nat) : Prop where
  names : t.names.length ≤ q
  data : t.data.length ≤ q
  led : ∀ l ∈ t.led, l.length ≤ q
theorem Small.mono {q q' : Nat} (h : Small t q) (hq : q ≤ q') : Small t q' := ⟨Nat.le_trans h.names hq, Nat.le_trans h.data hq, fun l hl => Nat.le_trans (h.led l hl) hq⟩
theorem Small.place {q : Nat} (h : Small t q) (n : Bs) : Small (t.place n).1 (q + 1) := by
  have := h.names
  have := h.data
  unfold Tr.place
  cases t.at? n with
  | some i => exact h.mono (by omega)
  | none =>
    refine ⟨by simp; omega, by show t.data.length ≤ _; omega, fun l hl => ?_⟩
    rcases List.mem_append.1 hl with hl | hl
    · have := h.led l hl; omega
    · rw [List.mem_singleton.1 hl]; simp
theorem Small.leadAt {q : Nat} (h : Small t q) (i : Nat) (x : Option Nat) : Small (t.leadAt i x) (q + 1) := by
  have := h.names
  have := h.data
  refine ⟨by show t.names.length ≤ _; omega, by show t.data.length ≤ _; omega, fun l hl => ?_⟩
  unfold Tr.leadAt at hl
  cases x with
  | none => have := h.led l hl; omega
  | some y =>
    obtain ⟨k, hk⟩ := List.mem_iff_getElem?.1 hl
    change (t.led.modify i (· ++ [y]))[k]? = _ at hk
    rw [List.getElem?_modify] at hk
    cases hx : t.led[k]? with
    | none => rw [hx] at hk; cases hk
    | some l0 =>
      have h0 := h.led l0 (List.mem_of_getElem? hx)
      rw [hx] at hk
      injection hk with hk
      rw [← hk]
      split
      · simp; omega
      · exact Nat.le_succ_of_le h0
theorem Small.lead {q : Nat} (h : Small t q) (n : Bs) (x : Option Nat) : Small (t.lead n x) (q + 2) := (h.place n).leadAt _ x
theorem Small.body {q : Nat} (h : Small t q) (x : Bs) (f : Nat) : Small (t.body x f) (q + 1) := by
  have := h.names
  have := h.data
  exact ⟨by show t.names.length ≤ _; omega, by simp [Tr.body]; omega, fun l hl => by have := h.led l hl; omega⟩
theorem Small.fresh {q : Nat} (h : Small t q) : Small t.fresh (q + 1) := by
  have := h.names
  have := h.data
  refine ⟨by show t.names.length ≤ _; omega, by show t.data.length ≤ _; omega, fun l hl => ?_⟩
  obtain ⟨x, _, rfl⟩ := List.mem_map.1 hl
  cases x <;> simp
theorem Small.setSafe {q : Nat} (h : Small t q) (i f : Nat) : Small (t.setSafe i f) q := ⟨h.names, h.data, h.led⟩
theorem Small.follow {q : Nat} (h : Small t q) (a : Ac) : Small (t.follow a) (q + 5) := by
  have hp := h.place a.name
  unfold Tr.follow
  generalize t.place a.name = p at hp
  unfold Tr.turn
  split
  · exact ((hp.body [] 0).lead a.name _).mono (by omega)
  · split
    · split
      · exact (hp.setSafe _ _).mono (by omega)
      · exact hp.mono (by omega)
    · split
      · split
        · exact hp.mono (by omega)
        · exact ((hp.lead a.dst _).lead a.name _).mono (by omega)
      · split
        · exact (hp.lead a.name _).mono (by omega)
        · split
          · exact hp.fresh.mono (by omega)
          · split
            · split
              · split
                · exact (hp.setSafe _ _).mono (by omega)
                · exact hp.mono (by omega)
              · exact hp.mono (by omega)
            · exact hp.mono (by omega)
theorem Small.see {q : Nat} (h : Small t q) (d : D) : Small (t.see d) q := ⟨h.names, by show (t.seen d _).length ≤ q; rw [seen_len]; exact h.data, h.led⟩
theorem small_anew {fs : List (Bs × Bs)} {q : Nat} (h : fs.length ≤ q) : Small (Tr.anew fs) (q + 1) := by
  refine ⟨by simp [Tr.anew]; omega, by simp [Tr.anew]; omega, fun l hl => ?_⟩
  obtain ⟨x, _, rfl⟩ := List.mem_map.1 hl
  simp
end
end Go.Proofs.Ytelgcmcnebncmaa.Dr
