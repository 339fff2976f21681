/- The law's own trace: follow. Printed in part by tools/regs.py. -/
import Derived.Test.YtelgcmcnebncmaaTr2
namespace Go.Proofs.Ytelgcmcnebncmaa.Dr
open Go.RowKit Go.Proofs Go.Proofs.Ytelgcmcnebncmaa.Ring

theorem TrA.below {w w1 : World} {T : Nat → Prop} {p : Nat} {t : Tr} (h : TrA w T p t) (hb : Below w.heap.size w w1) : TrA w1 T p t := by
  obtain ⟨vn, vl, ve, vd, vs, rs, hl, a1⟩ := h
  exact ⟨vn, vl, ve, vd, vs, rs, hl, ⟨(hb.block p (a1.low p a1.inP)).trans a1.head, a1.pcs.same fun i x g hx hg => hb.block g (a1.low g (a1.pcs.in_ i x g hx hg)), a1.inP, fun k hk => Nat.lt_of_lt_of_le (a1.low k hk) hb.size, a1.types⟩⟩
theorem TrA.kept {w w1 : World} {T U : Nat → Prop} {p : Nat} {t : Tr} (h : TrA w T p t) (hk : Kept w w1 U) (hd : ∀ k, T k → ¬ U k) : TrA w1 T p t := by
  obtain ⟨vn, vl, ve, vd, vs, rs, hl, a1⟩ := h
  have hb : ∀ k, T k → w1.heap[k]? = w.heap[k]? := fun k ht => hk.block k (a1.low k ht) (hd k ht)
  exact ⟨vn, vl, ve, vd, vs, rs, hl, ⟨(hb p a1.inP).trans a1.head, a1.pcs.same fun i x g hx hg => hb g (a1.pcs.in_ i x g hx hg), a1.inP, fun k hk2 => Nat.lt_of_lt_of_le (a1.low k hk2) hk.size, a1.types⟩⟩
theorem TrA.low {w : World} {T : Nat → Prop} {p : Nat} {t : Tr} (h : TrA w T p t) : ∀ k, T k → k < w.heap.size := by
  obtain ⟨_, _, _, _, _, _, _, h1⟩ := h
  exact h1.low
section
variable {w : World} {T : Nat → Prop} {p q : Nat} {t : Tr}
set_option maxRecDepth 100000 in
set_option maxHeartbeats 16000000 in
theorem follow_any (x : Av) (h : TrA w T p t) (hf : Fit t q) (hq2 : q ≤ 1099511627000) (hcut : x.a.kind = 15 → 0 ≤ x.a.n) :
    Calls Try.prog 37 #[.pointer (some ⟨p, 0, none⟩), actV x.a x.A x.n x.c x.Ad x.nd x.cd x.Au x.nu x.cu] w fun y w' => y = .returned (.tuple #[]) ∧ TrT w w' T p (t.follow x.a) := by
  obtain ⟨V, hV⟩ : ∃ V, w.heap.size = V := ⟨_, rfl⟩
  obtain ⟨r, hr⟩ : ∃ r, t.follow x.a = r := ⟨_, rfl⟩
  rw [hr]
  have hVT : ¬ T V := fun hT => by have := h.low V hT; omega
  have HR := Lib.hid hr
  have HH := Lib.hid h
  have HF := Lib.hid hf
  have HVT := Lib.hid hVT
  have HC := Lib.hid hcut
  clear h hf hr hVT hcut
  go_enter Try.func37, Try.ntmps37
  go_upto_region 1 with (fail)
  obtain ⟨w1, hw1⟩ : ∃ w1, w.alloc (.cells #[.int .i64 x.a.kind, encStr x.a.name, encStr x.a.dst, .int .i64 x.a.n, .slice x.A x.n x.c, .slice x.Ad x.nd x.cd, .slice x.Au x.nu x.cu] tAct) = w1 := ⟨_, rfl⟩
  have hA1 : w1.heap[V]? = some (.cells #[.int .i64 x.a.kind, encStr x.a.name, encStr x.a.dst, .int .i64 x.a.n, .slice x.A x.n x.c, .slice x.Ad x.nd x.cd, .slice x.Au x.nu x.cu] tAct (0, 0)) := by
    rw [← hw1, ← hV]
    exact heap_alloc_new _ _
  have hb1 : Below w.heap.size w w1 := by
    rw [← hw1]
    exact (Below.refl _ _).alloc (Nat.le_refl _) _
  rw [hw1]
  clear hw1
  have hVw : V < w1.heap.size := (Array.getElem?_eq_some_iff.1 hA1).1
  have f1 : w1.cell? ⟨V, 1, none⟩ = some (encStr x.a.name) := by rw [cell_of_row w1 V _ _ _ _ hA1]; rfl
  have HA1 := Lib.hid hA1
  have HB1 := Lib.hid hb1
  have HVW := Lib.hid hVw
  have hh1 := HH.out.below hb1
  have HH1 := Lib.hid hh1
  have HV := Lib.hid hV
  clear hA1 hb1 hVw hh1 hV
  go_upto_region 2 with (go_at_call 93; refine (place_any HH1.out HF.out.small ⟨HF.out.len.1, HF.out.len.2.1⟩ (by omega) x.a.name).mono ?_; rintro y w2 ⟨rfl, h⟩; have H1 := Lib.hid h; clear h)
  have hfp := HF.out.place x.a.name
  have hat := HF.out.at_ x.a.name
  have hr := HR.out
  unfold Tr.follow at hr
  obtain ⟨T1, hA, hk0, hs0⟩ := H1.out
  generalize t.place x.a.name = pl at hfp hat hA hr ⊢
  obtain ⟨u, q1⟩ := pl
  dsimp only at hfp hat hA hr
  -- what lies behind place
  have hbox : w2.heap[V]? = some (.cells #[.int .i64 x.a.kind, encStr x.a.name, encStr x.a.dst, .int .i64 x.a.n, .slice x.A x.n x.c, .slice x.Ad x.nd x.cd, .slice x.Au x.nu x.cu] tAct (0, 0)) := (hk0.block V HVW.out HVT.out).trans HA1.out
  have hV1 : V < w2.heap.size := Nat.lt_of_lt_of_le HVW.out hk0.size
  have hk1 : Kept w w2 T := (Kept.of_below T HB1.out).trans hk0 fun k hk => .inl hk
  have hs1 : ∀ k, T1 k → T k ∨ w.heap.size ≤ k := fun k hk => by
    rcases hs0 k hk with h | h
    · exact .inl h
    · exact .inr (by have := HB1.out.size; omega)
  have hVT1 : ¬ T1 V := fun hT => by
    rcases hs0 V hT with h | h
    · exact HVT.out h
    · have := HVW.out; omega
  obtain ⟨b, hb⟩ : ∃ b, u.leads[q1]? = some b := ⟨_, List.getElem?_eq_getElem (by have := hfp.len.1; omega)⟩
  have hbd : u.leads.getD q1 none = b := by rw [List.getD_eq_getElem?_getD, hb]; rfl
  rw [hbd] at hr
  have hbi : ∀ i, b = some i → i < u.data.length := fun i hi => hfp.inL q1 i (hi ▸ hb)
  obtain ⟨An, cn, Al, cl, Ae, ce, Ad, cd, As, cs, rs, hrl, hst⟩ := St.open hA
  obtain ⟨_, hl, _, _, _⟩ := hst.rows hrl
  obtain ⟨_, x1, _, _, _⟩ := head5 hst.cells
  obtain ⟨gl, rfl⟩ := own_some hl (by have := hfp.len.1; omega)
  have e1 : w2.cell? ⟨gl, q1, none⟩ = some (.int .i64 (leadZ b)) := own_cell hl (k := q1) (by have := hfp.len.1; omega) (by simp [hb])
  obtain ⟨z, hz⟩ : ∃ z, leadZ b = z := ⟨_, rfl⟩
  rw [hz] at e1
  have hql : (q1 : Int) < (u.leads.length : Int) := by have := hfp.len.1; omega
  have HFP := Lib.hid hfp
  have HST := Lib.hid hst
  have HRL := Lib.hid hrl
  have HA := Lib.hid hA
  have HK1 := Lib.hid hk1
  have HS1 := Lib.hid hs1
  have HV1 := Lib.hid hV1
  have HVT1 := Lib.hid hVT1
  have HBI := Lib.hid hbi
  have HZ := Lib.hid hz
  have HBX := Lib.hid hbox
  have HR2 := Lib.hid hr
  clear hfp hst hrl hA hk1 hs1 hV1 hVT1 hbi hz hbox hl hb hbd hat hk0 hs0 H1 HR HH HF HA1 HB1 HVW HH1 f1 hr
  go_upto_region 3 with (fail)
  clear x1 e1 hql
  have f0 : w2.cell? ⟨V, 0, none⟩ = some (.int .i64 x.a.kind) := by rw [cell_of_row w2 V _ _ _ _ HBX.out]; rfl
  have f1 : w2.cell? ⟨V, 1, none⟩ = some (encStr x.a.name) := by rw [cell_of_row w2 V _ _ _ _ HBX.out]; rfl
  have f2 : w2.cell? ⟨V, 2, none⟩ = some (encStr x.a.dst) := by rw [cell_of_row w2 V _ _ _ _ HBX.out]; rfl
  have f3 : w2.cell? ⟨V, 3, none⟩ = some (.int .i64 x.a.n) := by rw [cell_of_row w2 V _ _ _ _ HBX.out]; rfl
  have fin : TrT w w2 T p u := ⟨T1, HA.out, HK1.out, HS1.out⟩
  have FIN := Lib.hid fin
  have F1 := Lib.hid f1
  have F2 := Lib.hid f2
  have F3 := Lib.hid f3
  clear fin f1 f2 f3
  have hr := HR2.out
  clear HR2
  unfold Tr.turn at hr
  by_cases k0 : x.a.kind = 0
  · rw [if_pos k0] at hr
    subst hr
    go_upto_region 5 with (fail)
    have B0 := F1
    have HAD := Lib.hid (HA.out.below (w1 := w2.drew) (Below.refl _ _).drew)
    have HKD := Lib.hid (HK1.out.below (w2 := w2.drew) (Below.refl _ _).drew)
    have B1 := Lib.hid (show (w2.drew).cell? ⟨V, 1, none⟩ = some (encStr x.a.name) from F1.out)
    refine wp_region_any (by kernel_rfl) ?_
    change wpAny _ _ _ _ _ _ _ (World.drew _)
    refine wpAny_of_P (S := fun w' => w'.cell? ⟨V, 1, none⟩ = some (encStr x.a.name)) (late := [5]) _ _ _ _ ?_
    refine takeT (i := 0) (v := ?_) rfl (by kernel_rfl) (by kernel_rfl) (by kernel_rfl) (by kernel_rfl) (fun _ _ _ h => h) (B1.out) (.inl ⟨by rfl, fun w => .inl ?hy0⟩) ?_; case hy0 => (go_simp; try with_reducible rfl)
    try go_frame
    refine takeT (i := 1) (v := ?_) rfl (by kernel_rfl) (by kernel_rfl) (by kernel_rfl) (by kernel_rfl) (fun _ _ _ h => h) (B1.out) (.inl ⟨by rfl, fun w => .inl ?hy1⟩) ?_; case hy1 => (go_simp; try with_reducible rfl)
    try go_frame
    refine takePT 8 (i := 2) (v := ?_) rfl (by kernel_rfl) (by kernel_rfl) (by kernel_rfl) (by kernel_rfl) (by kernel_rfl) (by kernel_rfl) (fun _ _ _ h => h) (B1.out) (.inl ⟨by rfl, fun w hw => .inl ?hy2⟩) ?_; case hy2 => (have y2 := hw; go_simp; try with_reducible rfl)
    try go_frame
    refine takeT (i := 3) (v := ?_) rfl (by kernel_rfl) (by kernel_rfl) (by kernel_rfl) (by kernel_rfl) (fun _ _ _ h => h) (B1.out) (.inl ⟨by rfl, fun w => .inl ?hy3⟩) ?_; case hy3 => (go_simp; try with_reducible rfl)
    try go_frame
    refine forcedP (i := 4) rfl rfl (by kernel_rfl) (fun K hK => ?_)
    go_simp
    refine (body_any HAD.out HFP.out (by omega) [] 0).mono ?_
    rintro y w3 ⟨rfl, h⟩
    obtain ⟨T4, hA3, hk4, hs4⟩ := h
    obtain ⟨T3, hA3, hk3, hs3⟩ := TrT.join HKD.out HS1.out ⟨T4, hA3, hk4, hs4⟩
    have b3 : w3.cell? ⟨V, 1, none⟩ = some (encStr x.a.name) := (World.cell?_of_block (a := ⟨V, 1, none⟩) (hk4.block V HV1.out HVT1.out)).trans B0.out
    refine hK _ _ (b3) ?_; clear hK K
    try go_frame
    refine lateP (i := 5) rfl rfl (by kernel_rfl) (by kernel_rfl) (fun K hK => ?_)
    go_simp
    refine (lead_any hA3 (HFP.out.body [] 0) (by omega) x.a.name (x := some u.data.length) (fun i hi => by injection hi with hi; subst hi; simp [Tr.body]) (z := (u.data.length : Int)) rfl).mono ?_
    rintro y w4 ⟨rfl, h⟩
    have hT4 := TrT.join hk3 hs3 h
    refine hK _ _ ?_; clear hK K
    try go_frame
    refine wpAny_done (by kernel_rfl) ?_ _
    go_wp2
    go_end0
    exact ⟨rfl, hT4⟩
  rw [if_neg k0] at hr
  by_cases k2 : x.a.kind = 2
  · rw [if_pos k2] at hr
    cases b with
    | none =>
      subst hr
      have hz1 : z < 0 := by rw [← HZ.out]; decide
      go_wp2
      go_end0
      exact ⟨rfl, FIN.out⟩
    | some i =>
      obtain rfl : (i : Int) = z := HZ.out
      have hil := HBI.out i rfl
      obtain ⟨_, _, _, hd, hs⟩ := HST.out.rows HRL.out
      obtain ⟨_, _, _, x3, x4⟩ := head5 HST.out.cells
      obtain ⟨gd, rfl⟩ := own_some hd (by omega)
      obtain ⟨gs, rfl⟩ := own_some hs (by have := HFP.out.len.2.2; omega)
      obtain ⟨X, hX⟩ : ∃ X, u.data[i]? = some X := ⟨_, List.getElem?_eq_getElem hil⟩
      obtain ⟨Y, hY⟩ : ∃ Y, u.safe[i]? = some Y := ⟨_, List.getElem?_eq_getElem (by have := HFP.out.len.2.2; omega)⟩
      have hgd : u.data.getD i [] = X := by rw [List.getD_eq_getElem?_getD, hX]; rfl
      dsimp only at hr
      rw [hgd] at hr
      subst hr
      have e1 : w2.cell? ⟨gd, i, none⟩ = some (encStr X) := own_cell hd (k := i) hil (by simp [hX])
      have e2 : w2.cell? ⟨gs, i, none⟩ = some (.int .i64 (Y : Int)) := own_cell hs (k := i) (by have := HFP.out.len.2.2; omega) (by simp [hY])
      have e3 : w2.frozen? ⟨gs, i, none⟩ = false := hs.frozenAt i
      have hl1 : (i : Int) < (u.data.length : Int) := by omega
      have hl2 : (i : Int) < (u.safe.length : Int) := by have := HFP.out.len.2.2; omega
      clear hd hs hX hY hgd
      go_upto_region 8 with (fail)
      go_region
      have hS := (HST.out.safeSet i X.length).below (w2 := (w2.setCell ⟨gs, i, none⟩ (.int .i64 (X.length : Int))).drew) (Below.refl _ _).drew
      have hT := Sturn.join HK1.out HS1.out hS
      have HT := Lib.hid hT
      clear hS hT
      go_wp2
      go_end0
      exact ⟨rfl, HT.out.tr HRL.out⟩
  rw [if_neg k2] at hr
  by_cases k3 : x.a.kind = 3
  · rw [if_pos k3] at hr
    by_cases hnd : x.a.name = x.a.dst
    · rw [if_pos hnd] at hr
      subst hr
      have f1 := F1.out
      have f2 := F2.out
      rw [hnd] at f1
      clear hnd
      go_wp2
      go_end0
      exact ⟨rfl, FIN.out⟩
    · rw [if_neg hnd] at hr
      subst hr
      have hq : (x.a.name == x.a.dst) = false := by simpa using hnd
      have f1 := F1.out
      have f2 := F2.out
      clear hnd
      go_upto_region 12 with (go_at_call 94; refine (lead_any HA.out HFP.out (by omega) x.a.dst HBI.out HZ.out).mono ?_; rintro y w3 ⟨rfl, h⟩; obtain ⟨T3, hA3, hk3, hs3⟩ := h; have HA3 := Lib.hid hA3; have HK3 := Lib.hid hk3; have HS3 := Lib.hid hs3; clear hA3 hk3 hs3)
      clear f1 f2
      have f1 : w3.cell? ⟨V, 1, none⟩ = some (encStr x.a.name) := (World.cell?_of_block (a := ⟨V, 1, none⟩) (HK3.out.block V HV1.out HVT1.out)).trans F1.out
      go_wp2_with (go_at_call 94; refine (lead_any HA3.out (HFP.out.lead x.a.dst HBI.out) (by omega) x.a.name (x := none) (z := -1) (fun i hi => (by cases hi)) rfl).mono ?_; rintro y w4 ⟨rfl, h⟩; have HT := Lib.hid (TrT.join HK1.out HS1.out (TrT.join HK3.out HS3.out h)); clear h)
      go_end0
      exact ⟨rfl, HT.out⟩
  rw [if_neg k3] at hr
  by_cases k4 : x.a.kind = 4
  · rw [if_pos k4] at hr
    subst hr
    have f1 := F1.out
    go_wp2_with (go_at_call 94; refine (lead_any HA.out HFP.out (by omega) x.a.name (x := none) (z := -1) (fun i hi => (by cases hi)) rfl).mono ?_; rintro y w4 ⟨rfl, h⟩; have HT := Lib.hid (TrT.join HK1.out HS1.out h); clear h)
    go_end0
    exact ⟨rfl, HT.out⟩
  rw [if_neg k4] at hr
  by_cases k5 : x.a.kind = 5
  · rw [if_pos k5] at hr
    subst hr
    go_wp2_with (go_at_call 95; refine (fresh_any HA.out HFP.out (by omega)).mono ?_; rintro y w4 ⟨rfl, h⟩; have HT := Lib.hid (TrT.join HK1.out HS1.out h); clear h)
    go_end0
    exact ⟨rfl, HT.out⟩
  rw [if_neg k5] at hr
  by_cases k15 : x.a.kind = 15
  · rw [if_pos k15] at hr
    have hn0 := HC.out k15
    cases b with
    | none =>
      subst hr
      have hz1 : z < 0 := by rw [← HZ.out]; decide
      have hz2 : ¬ 0 ≤ z := by omega
      have hz3 : decide (0 ≤ z) = false := decide_eq_false hz2
      go_upto_region 18 with (fail)
      go_quiet (fail)
      go_wp2
      go_end0
      exact ⟨rfl, T1, HA.out.below (below_drewN (Below.refl _ _) _), HK1.out.below (below_drewN (Below.refl _ _) _), HS1.out⟩
    | some i =>
      obtain rfl : (i : Int) = z := HZ.out
      have hil := HBI.out i rfl
      obtain ⟨_, _, _, _, hs⟩ := HST.out.rows HRL.out
      obtain ⟨_, _, _, _, x4⟩ := head5 HST.out.cells
      obtain ⟨gs, rfl⟩ := own_some hs (by have := HFP.out.len.2.2; omega)
      obtain ⟨Y, hY⟩ : ∃ Y, u.safe[i]? = some Y := ⟨_, List.getElem?_eq_getElem (by have := HFP.out.len.2.2; omega)⟩
      have hgd : u.safe.getD i 0 = Y := by rw [List.getD_eq_getElem?_getD, hY]; rfl
      dsimp only at hr
      rw [hgd] at hr
      have e2 : w2.cell? ⟨gs, i, none⟩ = some (.int .i64 (Y : Int)) := own_cell hs (k := i) (by have := HFP.out.len.2.2; omega) (by simp [hY])
      have e3 : w2.frozen? ⟨gs, i, none⟩ = false := hs.frozenAt i
      have hl2 : (i : Int) < (u.safe.length : Int) := by have := HFP.out.len.2.2; omega
      have f3 := F3.out
      clear hs hY hgd
      by_cases hlt : x.a.n < (Y : Int)
      · rw [if_pos hlt] at hr
        subst hr
        go_upto_region 18 with (fail)
        go_quiet (fail)
        go_upto_region 19 with (fail)
        go_region
        have hS := (HST.out.safeSet i x.a.n.toNat)
        rw [show ((x.a.n.toNat : Nat) : Int) = x.a.n by omega] at hS
        have HS := Lib.hid hS
        clear hS
        go_wp2
        go_end0
        exact ⟨rfl, (Sturn.join HK1.out HS1.out (HS.out.below (below_drewN (Below.refl _ _) _))).tr HRL.out⟩
      · rw [if_neg hlt] at hr
        subst hr
        go_upto_region 18 with (fail)
        go_quiet (fail)
        go_wp2
        go_end0
        exact ⟨rfl, T1, HA.out.below (below_drewN (Below.refl _ _) _), HK1.out.below (below_drewN (Below.refl _ _) _), HS1.out⟩
  · rw [if_neg k15] at hr
    subst hr
    go_wp2
    go_end0
    exact ⟨rfl, FIN.out⟩
end
end Go.Proofs.Ytelgcmcnebncmaa.Dr
