/- The walk of DriveNothing. -/
import Derived.Test.YtelgcmcnebncmaaTr6
import Derived.Test.YtelgcmcnebncmaaBare
namespace Go.Proofs.Ytelgcmcnebncmaa.Dr
set_option linter.unusedVariables false
open Go.RowKit Go.Proofs Go.Deep Go.Proofs.Ytelgcmcnebncmaa.Ring

theorem step_err (d : Dr.D) (a : Ac) (h : (d.step a).2.code ≠ 0) : (d.step a).1 = d := by
  unfold Dr.D.step at h ⊢
  by_cases k0 : a.kind = 0
  · simp only [if_pos k0] at h ⊢
    unfold Dr.D.create at h ⊢
    split at h
    · split at h
      · rename_i h1 h2; rw [if_pos h1, if_pos h2]
      · exact absurd rfl h
    · rename_i h1; rw [if_neg h1]
  simp only [if_neg k0] at h ⊢
  by_cases k1 : a.kind = 1
  · simp only [if_pos k1] at h ⊢
    unfold Dr.D.append at h ⊢
    cases hl : d.look a.name with
    | error e => rfl
    | ok i =>
      rw [hl] at h
      dsimp only at h ⊢
      split at h
      · exact absurd rfl h
      · rename_i h1
        rw [if_neg h1]
        split at h
        · exact absurd rfl h
        · rename_i h2; rw [if_neg h2]
  simp only [if_neg k1] at h ⊢
  by_cases k2 : a.kind = 2
  · simp only [if_pos k2] at h ⊢
    unfold Dr.D.sync at h ⊢
    cases hl : d.look a.name with
    | error e => rfl
    | ok i => rw [hl] at h; exact absurd rfl h
  simp only [if_neg k2] at h ⊢
  by_cases k3 : a.kind = 3
  · simp only [if_pos k3] at h ⊢
    unfold Dr.D.rename at h ⊢
    by_cases hf : (named a.name && !named a.dst) = true
    · rw [if_pos hf]
    · rw [if_neg hf] at h ⊢
      cases hl : d.look a.name with
      | error e => rfl
      | ok i =>
        rw [hl] at h
        dsimp only at h ⊢
        split at h
        · exact absurd rfl h
        · exact absurd rfl h
  simp only [if_neg k3] at h ⊢
  by_cases k4 : a.kind = 4
  · simp only [if_pos k4] at h ⊢
    unfold Dr.D.remove at h ⊢
    cases hl : d.look a.name with
    | error e => rfl
    | ok i => rw [hl] at h; exact absurd rfl h
  simp only [if_neg k4] at h ⊢
  by_cases k14 : a.kind = 14
  · have n5 : ¬ a.kind = 5 := by omega
    have n6 : ¬ a.kind = 6 := by omega
    have n7 : ¬ a.kind = 7 := by omega
    have n8 : ¬ a.kind = 8 := by omega
    have n9 : ¬ a.kind = 9 := by omega
    have n10 : ¬ a.kind = 10 := by omega
    have n11 : ¬ a.kind = 11 := by omega
    have n12 : ¬ a.kind = 12 := by omega
    have n13 : ¬ a.kind = 13 := by omega
    simp only [if_pos k14, if_neg n5, if_neg n6, if_neg n7, if_neg n8, if_neg n9, if_neg n10, if_neg n11, if_neg n12, if_neg n13] at h ⊢
    unfold Dr.D.flip at h ⊢
    by_cases hf : (named a.name && decide (a.n < 0)) = true
    · rw [if_pos hf]
    · rw [if_neg hf] at h ⊢
      cases hl : d.look a.name with
      | error e => rfl
      | ok i => rw [hl] at h; exact absurd rfl h
  by_cases k15 : a.kind = 15
  · have n5 : ¬ a.kind = 5 := by omega
    have n6 : ¬ a.kind = 6 := by omega
    have n7 : ¬ a.kind = 7 := by omega
    have n8 : ¬ a.kind = 8 := by omega
    have n9 : ¬ a.kind = 9 := by omega
    have n10 : ¬ a.kind = 10 := by omega
    have n11 : ¬ a.kind = 11 := by omega
    have n12 : ¬ a.kind = 12 := by omega
    have n13 : ¬ a.kind = 13 := by omega
    simp only [if_pos k15, if_neg n5, if_neg n6, if_neg n7, if_neg n8, if_neg n9, if_neg n10, if_neg n11, if_neg n12, if_neg n13, if_neg k14] at h ⊢
    unfold Dr.D.cut at h ⊢
    by_cases hf : (named a.name && decide (a.n < 0)) = true
    · rw [if_pos hf]
    · rw [if_neg hf] at h ⊢
      cases hl : d.look a.name with
      | error e => rfl
      | ok i => rw [hl] at h; exact absurd rfl h
  simp only [if_neg k14, if_neg k15] at h ⊢
  by_cases k5 : a.kind = 5
  · simp only [if_pos k5] at h; exact absurd rfl h
  by_cases k13 : a.kind = 13
  · have n6 : ¬ a.kind = 6 := by omega
    have n7 : ¬ a.kind = 7 := by omega
    have n8 : ¬ a.kind = 8 := by omega
    have n9 : ¬ a.kind = 9 := by omega
    have n10 : ¬ a.kind = 10 := by omega
    have n11 : ¬ a.kind = 11 := by omega
    have n12 : ¬ a.kind = 12 := by omega
    simp only [if_pos k13, if_neg k5, if_neg n6, if_neg n7, if_neg n8, if_neg n9, if_neg n10, if_neg n11, if_neg n12] at h
    exact absurd rfl h
  by_cases k16 : a.kind = 16
  · have n6 : ¬ a.kind = 6 := by omega
    have n7 : ¬ a.kind = 7 := by omega
    have n8 : ¬ a.kind = 8 := by omega
    have n9 : ¬ a.kind = 9 := by omega
    have n10 : ¬ a.kind = 10 := by omega
    have n11 : ¬ a.kind = 11 := by omega
    have n12 : ¬ a.kind = 12 := by omega
    simp only [if_pos k16, if_neg k5, if_neg k13, if_neg n6, if_neg n7, if_neg n8, if_neg n9, if_neg n10, if_neg n11, if_neg n12] at h
    exact absurd rfl h
  simp only [if_neg k5, if_neg k13, if_neg k16]
  repeat' split
  all_goals rfl
theorem step_crash (d : Dr.D) (a : Ac) (h : a.kind = 13) : d.step a = (d.crash a.dirs a.cuts, {}) := by
  unfold Dr.D.step
  rw [if_neg (by omega), if_neg (by omega), if_neg (by omega), if_neg (by omega), if_neg (by omega), if_neg (by omega), if_neg (by omega), if_neg (by omega), if_neg (by omega), if_neg (by omega), if_neg (by omega), if_neg (by omega), if_neg (by omega), if_pos h]
theorem step_wipe (d : Dr.D) (a : Ac) (h : a.kind = 16) : d.step a = (d.wipe, {}) := by
  unfold Dr.D.step
  rw [if_neg (by omega), if_neg (by omega), if_neg (by omega), if_neg (by omega), if_neg (by omega), if_neg (by omega), if_neg (by omega), if_neg (by omega), if_neg (by omega), if_neg (by omega), if_neg (by omega), if_neg (by omega), if_neg (by omega), if_neg (by omega), if_neg (by omega), if_neg (by omega), if_pos h]
theorem step_cut (d : Dr.D) (a : Ac) (h : a.kind = 15) (hc : (d.step a).2.code = 0) : 0 ≤ a.n := by
  unfold Dr.D.step at hc
  rw [if_neg (by omega), if_neg (by omega), if_neg (by omega), if_neg (by omega), if_neg (by omega), if_neg (by omega), if_neg (by omega), if_neg (by omega), if_neg (by omega), if_neg (by omega), if_neg (by omega), if_neg (by omega), if_neg (by omega), if_neg (by omega), if_neg (by omega), if_pos h] at hc
  dsimp only at hc
  unfold Dr.D.cut at hc
  split at hc
  · cases hc
  · rename_i hf
    cases hl : d.look a.name with
    | error e => rw [hl] at hc; exact absurd hc (look_err hl)
    | ok j =>
      have hn : named a.name = true := by
        unfold Dr.D.look at hl
        split at hl
        · assumption
        · cases hl
      rw [hn] at hf
      simpa using hf
theorem act_store2 (w : World) (x : Av) : (storeCells ⟨w.heap.size, 0, none⟩ [.int .i64 x.a.kind, .string ⟨x.a.name.toArray⟩, .string ⟨x.a.dst.toArray⟩, .int .i64 x.a.n, .slice x.A x.n x.c, .slice x.Ad x.nd x.cd, .slice x.Au x.nu x.cu] 0).run Try.prog (w.alloc (.cells #[.int .i64 0, .string ⟨#[]⟩, .string ⟨#[]⟩, .int .i64 0, .slice none 0 0, .slice none 0 0, .slice none 0 0] tAct)) =
    .ok () (w.alloc (.cells #[.int .i64 x.a.kind, .string ⟨x.a.name.toArray⟩, .string ⟨x.a.dst.toArray⟩, .int .i64 x.a.n, .slice x.A x.n x.c, .slice x.Ad x.nd x.cd, .slice x.Au x.nu x.cu] tAct)) :=
  run_storeCells_new (P := Try.prog) w tAct #[.int .i64 0, .string ⟨#[]⟩, .string ⟨#[]⟩, .int .i64 0, .slice none 0 0, .slice none 0 0, .slice none 0 0] #[.int .i64 x.a.kind, .string ⟨x.a.name.toArray⟩, .string ⟨x.a.dst.toArray⟩, .int .i64 x.a.n, .slice x.A x.n x.c, .slice x.Ad x.nd x.cd, .slice x.Au x.nu x.cu] (by kernel_rfl) rfl (by simp [Value.oneCell'])
set_option maxRecDepth 100000 in
set_option maxHeartbeats 16000000 in
theorem nothing_any {how room : Int} {A Aa : Option Addr} {n c na ca : Nat} {l : List Fl} {la : List Av} (w : World) (hf : Files w w.heap.size A n l) (ha : Acts w w.heap.size Aa na la) :
    Calls Try.prog 5 #[.agg #[.int .i64 how, .int .i64 room, .slice A n c], .slice Aa na ca] w fun x w' => x = .returned (.bool true) ∧ Below w.heap.size w w' := by
  obtain ⟨V, hV⟩ : ∃ V, w.heap.size = V := ⟨_, rfl⟩
  rw [hV] at hf ha ⊢
  have HFI := Lib.hid hf
  have HAC := Lib.hid ha
  have hna := ha.2.2
  clear hf ha
  go_enter Try.func5, Try.ntmps5
  go_upto_region 1 with (fail)
  obtain ⟨w0, hw0⟩ : ∃ w0, w.alloc (.cells #[.int .i64 how, .int .i64 room, .slice A n c] tStart) = w0 := ⟨_, rfl⟩
  have hA0 : w0.heap[V]? = some (.cells #[.int .i64 how, .int .i64 room, .slice A n c] tStart (0, 0)) := by
    rw [← hw0, ← hV]
    exact heap_alloc_new _ _
  have hb0 : Below V w w0 := by
    rw [← hw0, ← hV]
    exact (Below.refl _ _).alloc (Nat.le_refl _) _
  have hs0 : w0.heap.size = V + 1 := by rw [← hw0, ← hV]; simp
  rw [hw0]
  clear hw0 hV
  have HA0 := Lib.hid hA0
  have HB0 := Lib.hid hb0
  have HS0 := Lib.hid hs0
  clear hA0 hb0 hs0
  go_upto_region 2 with (go_at_call 25; refine (awake_any w0).mono ?_; rintro x w1 ⟨rfl, hb1⟩; have HB1 := Lib.hid hb1; clear hb1)
  have hbw1 : Below V w w1 := HB0.out.trans (HB1.out.mono (by have := HS0.out; omega))
  have hst : w1.rangeAt V 0 [.int .i64 how, .int .i64 room, .slice A n c] := by
    intro j v hv
    rw [Nat.zero_add, cell_of_row w1 V _ _ _ _ ((HB1.out.block V (by have := HS0.out; omega)).trans HA0.out)]
    simpa using hv
  have hV1 : V + 1 ≤ w1.heap.size := by have := HB1.out.size; have := HS0.out; omega
  have HBW1 := Lib.hid hbw1
  have HV1 := Lib.hid hV1
  have HST := Lib.hid hst
  have HFI1 := Lib.hid (HFI.out.below hbw1)
  have HAC1 := Lib.hid (HAC.out.below hbw1)
  clear hbw1 hV1 hst HFI HAC HA0 HB0 HB1 HS0
  go_upto_region 5 with (first
    | (refine wpList_load_mid rfl tStart (.tmp 2) rfl V 0 rfl [.int .i64 how, .int .i64 room, .slice A n c] _ HST.out Try.underlying24 rfl (by kernel_rfl) ?_)
    | (go_at_call 12; refine (made_any (how := how) (room := room) HFI1.out (by have := HV1.out; omega)).mono ?_; rintro x w2 hmade; obtain ⟨p, hx, hp⟩ := hmade.ptr; subst hx; have HP := Lib.hid hp; clear hp hmade))
  obtain ⟨hb2, hp⟩ := HP.out
  have HB2 := Lib.hid hb2
  clear hb2 HST HP
  rcases hp with ⟨_, rfl⟩ | ⟨D, d, hD, rfl, hown⟩
  · go_wp2
    go_ret
    exact ⟨rfl, HBW1.out.trans (HB2.out.mono (by have := HV1.out; omega))⟩
  obtain ⟨S0, hD0, hbo, hS0⟩ := hown
  obtain ⟨s0, hfull0⟩ := full_begun hD hD0.1
  have himl : D.image.length ≤ 1048576 := by rw [image_len]; exact hD0.1.lenN
  have HD0 := Lib.hid hD0
  have HFU0 := Lib.hid hfull0
  have HS0 := Lib.hid hS0
  clear hD hD0 hbo hS0 hfull0
  obtain ⟨k0, hk0⟩ : ∃ k, D.image.length = k := ⟨_, rfl⟩
  rw [hk0] at himl
  go_upto_region 8 with (first
    | (go_at_call 20; refine (image_form ⟨S0, HD0.out⟩ (by omega) (by omega) rfl hk0).mono ?_; rintro x w3 ⟨Ai, ci, dv, rfl, hfa, hb3⟩; have HFA := Lib.hid (hfa.rd hk0); have HB3 := Lib.hid hb3; clear hfa hb3)
    | (go_at_call 35; refine (anew_any HFA.out (by omega)).mono ?_; rintro x w4 ⟨p, T0, rfl, hA4, hb4, ht4⟩; have HA4 := Lib.hid hA4; have HB4 := Lib.hid hb4; have HT4 := Lib.hid ht4; clear hA4 hb4 ht4))
  have hD4 : Dv w4 S0 d D 1099511627776 1048576 := (HD0.out.below HB3.out).below HB4.out
  have hbw4 : Below w1.heap.size w1 w4 := bch HB2.out (bch HB3.out HB4.out)
  have HD4 := Lib.hid hD4
  have HBW4 := Lib.hid hbw4
  have HS34 := Lib.hid (show w1.heap.size ≤ w3.heap.size from Nat.le_trans HB2.out.size HB3.out.size)
  have HLOW := Lib.hid (show ∀ k, S0 k → k < w3.heap.size from fun k hk => Nat.lt_of_lt_of_le (HD0.out.low k hk) HB3.out.size)
  have HSMALL := Lib.hid (small_anew (fs := D.image) (q := 1048576) (by omega))
  clear hD4 hbw4 hk0 HB2 HB3 HB4 HFA HD0 HFI1
  go_upto_region 9 with (fail)
  go_loopw [8, 9] (fun pv iv wr => ∃ (i : Nat) (D : Dr.D) (S : Nat → Prop) (p : Nat) (T : Nat → Prop) (t : Tr) (s : Nat → Nat), pv = .pointer (some ⟨p, 0, none⟩) ∧ iv = .int .i64 (i : Int) ∧ i ≤ na ∧ Dv wr S d D (1099511627776 + i * 1048576) (1048576 + i) ∧ TrA wr T p t ∧ (∀ k, S k → ¬ T k) ∧ Below w1.heap.size w1 wr ∧ (∀ k, S k → w1.heap.size ≤ k) ∧ (∀ k, T k → w1.heap.size ≤ k) ∧ Full t s D ∧ Small t (1048580 + 6 * i)) (fun _ iv _ => na - (intOf iv).toNat)
  case atStart =>
    exact ⟨0, D, S0, p, T0, _, s0, rfl, rfl, by omega, by simpa using HD4.out, HA4.out, fun k hk ht => by have := HLOW.out k hk; have := HT4.out k ht; omega, HBW4.out, HS0.out, fun k hk => Nat.le_trans HS34.out (HT4.out k hk), HFU0.out, HSMALL.out.mono (by omega)⟩
  case round =>
    clear HD4 HA4 HT4 HLOW HBW4 HS0 HFU0 HSMALL HS34
    obtain ⟨i, D, S, p, T, t, s, rfl, rfl, hi, hD, hA, hST, hbw, hS, hT, hfull, hsm⟩ := hrel
    by_cases hlt : i < na
    · obtain ⟨b, o, x, rfl, hbB, hx, hcells⟩ := (HAC1.out.below (hbw.mono (by have := HV1.out; omega))).1.at_ hlt
      have hxin := (HAC1.out.below (hbw.mono (by have := HV1.out; omega))).2.1 x (List.mem_of_getElem? hx)
      have hlt2 : (i : Int) < (na : Int) := by omega
      have hi5 : i * 1048576 ≤ 1099511627776 := by omega
      have hst := act_store2 wr x
      have HC := Lib.hid hcells
      have HXIN := Lib.hid hxin
      have HD := Lib.hid hD
      have HA := Lib.hid hA
      have HST := Lib.hid hST
      have HBW := Lib.hid hbw
      have HS := Lib.hid hS
      have HT := Lib.hid hT
      have HFULL0 := Lib.hid hfull
      have HSM := Lib.hid hsm
      clear hcells hxin hD hA hST hbw hS hT hfull hsm hx
      go_upto_region 12 with (refine loadAct rfl (.tmp 41) rfl b (o + i * 7) rfl HC.out ?_)
      clear hst
      obtain ⟨P, hP⟩ : ∃ P, wr.heap.size = P := ⟨_, rfl⟩
      obtain ⟨wa, hwa⟩ : ∃ wa, wr.alloc (.cells #[.int .i64 x.a.kind, .string ⟨x.a.name.toArray⟩, .string ⟨x.a.dst.toArray⟩, .int .i64 x.a.n, .slice x.A x.n x.c, .slice x.Ad x.nd x.cd, .slice x.Au x.nu x.cu] tAct) = wa := ⟨_, rfl⟩
      have hbox : wa.heap[P]? = some (.cells x.cells.toArray tAct (0, 0)) := by
        rw [← hwa, ← hP]
        exact heap_alloc_new _ _
      have hba : Below wr.heap.size wr wa := by rw [← hwa]; exact (Below.refl _ _).alloc (Nat.le_refl _) _
      rw [hwa]
      have hrange : wa.rangeAt P 0 x.cells := by
        intro j v hv
        rw [Nat.zero_add, cell_of_row wa P _ _ _ _ hbox]
        simpa using hv
      have HBA := Lib.hid hba
      have HRG := Lib.hid hrange
      have HBOX := Lib.hid hbox
      have HP := Lib.hid hP
      have HDA := Lib.hid (HD.out.below hba)
      have HAA := Lib.hid (HA.out.below hba)
      have HXA := Lib.hid (ActIn.below HXIN.out (hba.mono (by have := HBW.out.size; have := HV1.out; omega)))
      have HSZA := Lib.hid (show V ≤ wa.heap.size by have := HBW.out.size; have := HV1.out; have := hba.size; omega)
      clear hwa hba hrange hbox
      rw [hP]
      clear hP HC HXIN
      obtain ⟨D2, hD2⟩ : ∃ D2, (D.step x.a).1 = D2 := ⟨_, rfl⟩
      obtain ⟨cd, hcd⟩ : ∃ cd, (D.step x.a).2.code = cd := ⟨_, rfl⟩
      have HDO := Lib.hid (do_any HDA.out HSZA.out (fun k hk => by have := HS.out k hk; have := HV1.out; omega) HXA.out (by omega) (by omega))
      rw [hD2, hcd] at HDO
      have HD2 := Lib.hid hD2
      have HCD := Lib.hid hcd
      clear hD2 hcd
      go_upto_region 13 with (first
        | (refine loadAct rfl (.tmp 10) rfl P 0 rfl HRG.out ?_)
        | (go_at_call 14; refine HDO.out.mono ?_; rintro y wb ⟨vd, vn, vf, dv, rfl, han, ht⟩; obtain ⟨xd, yd, rfl, _, _⟩ := own_form han.data; obtain ⟨xn, yn, rfl, _, _⟩ := own_form han.names; obtain ⟨xf, yf, rfl, _, _⟩ := own_form han.files.row; have hst := answer_store wb cd (D.step x.a).2.n xd xn xf (D.step x.a).2.data.length yd (D.step x.a).2.names.length yn (D.step x.a).2.files.length yf; have HTN := Lib.hid ht; clear ht han))
      clear hst
      obtain ⟨wc, hwc⟩ : ∃ wc, wb.alloc (.cells #[.int .i64 cd, .int .i64 (D.step x.a).2.n, .slice xd (D.step x.a).2.data.length yd, .slice xn (D.step x.a).2.names.length yn, .slice xf (D.step x.a).2.files.length yf] tAnswer) = wc := ⟨_, rfl⟩
      rw [hwc]
      obtain ⟨P2, hP2⟩ : ∃ P2, wb.heap.size = P2 := ⟨_, rfl⟩
      rw [hP2]
      have hbc : Below wb.heap.size wb wc := by rw [← hwc]; exact (Below.refl _ _).alloc (Nat.le_refl _) _
      have hbox2 : wc.cell? ⟨P2, 0, none⟩ = some (.int .i64 cd) := by
        rw [cell_of_row wc P2 _ _ _ _ (by rw [← hwc, ← hP2]; exact heap_alloc_new _ _)]
        rfl
      obtain ⟨SZ, hDz, hkz, hsz⟩ := HTN.out
      have hSlow := HD.out.low
      have hTlow := HA.out.low
      have hwra := HBA.out.size
      have hPw : P = wr.heap.size := HP.out.symm
      have hbx : wc.heap[P]? = some (.cells x.cells.toArray tAct (0, 0)) := by
        have h1 : P < wa.heap.size := (Array.getElem?_eq_some_iff.1 HBOX.out).1
        exact (hbc.block P (Nat.lt_of_lt_of_le h1 hkz.size)).trans ((hkz.block P h1 (fun hs => by have := hSlow P hs; omega)).trans HBOX.out)
      have hrange : wc.rangeAt P 0 x.cells := by
        intro j v hv
        rw [Nat.zero_add, cell_of_row wc P _ _ _ _ hbx]
        simpa using hv
      have hkd : wc.cell? ⟨P, 0, none⟩ = some (.int .i64 x.a.kind) := hrange 0 _ rfl
      have HRC := Lib.hid hrange
      have HDZ := Lib.hid ((hDz.mono (m' := 1099511627776 + (i + 1) * 1048576) (N' := 1048576 + (i + 1)) (by have := HXA.out.n_le; omega) (by omega)).below hbc)
      have HTZ := Lib.hid ((HAA.out.kept hkz (fun k hT hS => HST.out k hS hT)).below hbc)
      have HSTZ := Lib.hid (show ∀ k, SZ k → ¬ T k from fun k hk hT => by
        rcases hsz k hk with h | h
        · exact HST.out k h hT
        · have := hTlow k hT; omega)
      have HBZ := Lib.hid (show Below w1.heap.size w1 wc from by
        have h1 := HBW.out.size
        refine HBW.out.trans ((HBA.out.mono h1).trans ((hkz.to_below (B := w1.heap.size) (by omega) HS.out).trans (hbc.mono ?_)))
        have := hkz.size
        omega)
      have HSZ := Lib.hid (show ∀ k, SZ k → w1.heap.size ≤ k from fun k hk => by
        have h1 := HBW.out.size
        rcases hsz k hk with h | h
        · exact HS.out k h
        · omega)
      have HTZZ := HT
      have HTW := Lib.hid (show ∀ k, T k → k < wc.heap.size from HTZ.out.low)
      clear hDz hkz hsz hSlow hTlow hwra hPw hbx hrange hbc hwc hP2 HTN HDO HDA HAA HBA HRG HBOX HXA HSZA HA HS HT HST HP
      by_cases k13 : x.a.kind = 13
      · have e13 : D2 = D.crash x.a.dirs x.a.cuts := by rw [← HD2.out, step_crash D x.a k13]
        have hhas : ∀ f ∈ D2.image, t.has f.1 f.2 := by rw [e13]; exact HFULL0.out.has HD.out.1 x.a.dirs x.a.cuts
        have hnz : ∃ s, Full (Tr.anew D2.image) s D2 := by rw [e13]; exact full_crash HD.out.1 x.a.dirs x.a.cuts
        have HHAS := Lib.hid hhas
        have HNZ0 := Lib.hid hnz
        have HFIT := Lib.hid (Tells.fit HFULL0.out.1 HSM.out)
        have himl : D2.image.length ≤ 1048576 + (i + 1) := by rw [image_len]; exact HDZ.out.1.lenN
        obtain ⟨k1, hk1⟩ : ∃ k, D2.image.length = k := ⟨_, rfl⟩
        have HK1 := Lib.hid hk1
        rw [hk1] at himl
        clear e13 hhas hnz hk1 HFULL0 HSM
        go_upto_region 18 with (go_at_call 20; refine (image_form ⟨SZ, HDZ.out⟩ (by omega) (by omega) rfl HK1.out).mono ?_; rintro y w5 ⟨Ai5, ci5, dv5, rfl, hfa, hb5⟩; have HFA5 := Lib.hid hfa; have HB5 := Lib.hid hb5; clear hfa hb5)
        have HT5 := Lib.hid (HTZ.out.below HB5.out)
        have HD5 := Lib.hid (HDZ.out.below HB5.out)
        have HBZ5 := Lib.hid (HBZ.out.trans (HB5.out.mono HBZ.out.size))
        have HSS5 := Lib.hid (show ∀ k, T k → k < wc.heap.size from HTW.out)
        clear HDZ HTZ HBZ hkd hbox2
        go_loopw [14] (fun iv wr => ∃ j : Nat, iv = .int .i64 (j : Int) ∧ j ≤ k1 ∧ TrT w5 wr T p t) (fun iv _ => k1 - (intOf iv).toNat)
        case atStart => exact ⟨0, rfl, by omega, HT5.out.refl⟩
        case round =>
          obtain ⟨j, rfl, hj, T6, hA6, hk6, hs6⟩ := hrel
          have hfr : FilesRd wr Ai5 k1 D2.image := (FilesAt.same (base := wc.heap.size) HFA5.out (fun k h1 h2 => hk6.block k h2 (fun hT => by have := HSS5.out k hT; omega))).rd HK1.out
          by_cases hlt : j < k1
          · obtain ⟨f, hf⟩ : ∃ f, D2.image[j]? = some f := ⟨_, List.getElem?_eq_getElem (by have := HK1.out; omega)⟩
            obtain ⟨g, Af, cf, rfl, hg, c0, c1, hrd⟩ := hfr.2 j f hf
            have hlt2 : (j : Int) < (k1 : Int) := by omega
            have HC0 := Lib.hid c0
            have HC1 := Lib.hid c1
            have HRD := Lib.hid hrd
            have HF := Lib.hid (HHAS.out f (List.mem_of_getElem? hf))
            have HA6 := Lib.hid (hA6.below (w1 := wr.drew) (Below.refl _ _).drew)
            have HK6 := Lib.hid (hk6.below (w2 := wr.drew) (Below.refl _ _).drew)
            have HS6 := Lib.hid hs6
            clear hfr hf hg c0 c1 hrd hA6 hk6 hs6
            go_upto_region 20 with (fail)
            refine wp_region_any (by kernel_rfl) ?_
            change wpAny _ _ _ _ _ _ _ (World.drew _)
            refine wpAny_of_P (S := fun w' => w'.cell? ⟨g, j * 2, none⟩ = some (encStr f.1) ∧ w'.cell? ⟨g, j * 2 + 1, none⟩ = some (.slice Af f.2.length cf) ∧ Rd w' wr.heap.size 1 Af f.2.length (cU8 f.2)) (late := [12]) _ _ _ _ ?_
            refine takeT (i := 0) (v := ?_) rfl (by kernel_rfl) (by kernel_rfl) (by kernel_rfl) (by kernel_rfl) (fun _ _ _ h => h) (⟨HC0.out, HC1.out, HRD.out⟩) (.inl ⟨by rfl, fun w => .inl ?hy0⟩) ?_; case hy0 => (go_simp; try with_reducible rfl)
            try go_frame
            refine takeT (i := 1) (v := ?_) rfl (by kernel_rfl) (by kernel_rfl) (by kernel_rfl) (by kernel_rfl) (fun _ _ _ h => h) (⟨HC0.out, HC1.out, HRD.out⟩) (.inl ⟨by rfl, fun w => .inl ?hy1⟩) ?_; case hy1 => (go_simp; try with_reducible rfl)
            try go_frame
            refine takeT (i := 2) (v := ?_) rfl (by kernel_rfl) (by kernel_rfl) (by kernel_rfl) (by kernel_rfl) (fun _ _ _ h => h) (⟨HC0.out, HC1.out, HRD.out⟩) (.inl ⟨by rfl, fun w => .inl ?hy2⟩) ?_; case hy2 => (go_simp; try with_reducible rfl)
            try go_frame
            refine takeT (i := 3) (v := ?_) rfl (by kernel_rfl) (by kernel_rfl) (by kernel_rfl) (by kernel_rfl) (fun _ _ _ h => h) (⟨HC0.out, HC1.out, HRD.out⟩) (.inl ⟨by rfl, fun w => .inl ?hy3⟩) ?_; case hy3 => (go_simp; try with_reducible rfl)
            try go_frame
            refine takeT (i := 4) (v := ?_) rfl (by kernel_rfl) (by kernel_rfl) (by kernel_rfl) (by kernel_rfl) (fun _ _ _ h => h) (⟨HC0.out, HC1.out, HRD.out⟩) (.inl ⟨by rfl, fun w => .inl ?hy4⟩) ?_; case hy4 => (go_simp; try with_reducible rfl)
            try go_frame
            refine takePT 8 (i := 5) (v := ?_) rfl (by kernel_rfl) (by kernel_rfl) (by kernel_rfl) (by kernel_rfl) (by kernel_rfl) (by kernel_rfl) (fun _ _ _ h => h) (⟨HC0.out, HC1.out, HRD.out⟩) (.inl ⟨by rfl, fun w hw => .inl ?hy5⟩) ?_; case hy5 => (obtain ⟨hw0, hw1, hw2⟩ := hw; have t1 := run_text (P := Try.prog) w 35 9 5 Try.underlying35 Try.underlying5 Try.underlying9 cf hw2; go_simp; try with_reducible rfl)
            try go_frame
            refine takeT (i := 6) (v := ?_) rfl (by kernel_rfl) (by kernel_rfl) (by kernel_rfl) (by kernel_rfl) (fun _ _ _ h => h) (⟨HC0.out, HC1.out, HRD.out⟩) (.inl ⟨by rfl, fun w => .inl ?hy6⟩) ?_; case hy6 => (go_simp; try with_reducible rfl)
            try go_frame
            refine takeT (i := 7) (v := ?_) rfl (by kernel_rfl) (by kernel_rfl) (by kernel_rfl) (by kernel_rfl) (fun _ _ _ h => h) (⟨HC0.out, HC1.out, HRD.out⟩) (.inl ⟨by rfl, fun w => .inl ?hy7⟩) ?_; case hy7 => (go_simp; try with_reducible rfl)
            try go_frame
            refine takeT (i := 8) (v := ?_) rfl (by kernel_rfl) (by kernel_rfl) (by kernel_rfl) (by kernel_rfl) (fun _ _ _ h => h) (⟨HC0.out, HC1.out, HRD.out⟩) (.inl ⟨by rfl, fun w => .inl ?hy8⟩) ?_; case hy8 => (go_simp; try with_reducible rfl)
            try go_frame
            refine takeT (i := 9) (v := ?_) rfl (by kernel_rfl) (by kernel_rfl) (by kernel_rfl) (by kernel_rfl) (fun _ _ _ h => h) (⟨HC0.out, HC1.out, HRD.out⟩) (.inl ⟨by rfl, fun w => .inl ?hy9⟩) ?_; case hy9 => (go_simp; try with_reducible rfl)
            try go_frame
            refine takePT 8 (i := 10) (v := ?_) rfl (by kernel_rfl) (by kernel_rfl) (by kernel_rfl) (by kernel_rfl) (by kernel_rfl) (by kernel_rfl) (fun _ _ _ h => h) (⟨HC0.out, HC1.out, HRD.out⟩) (.inl ⟨by rfl, fun w hw => .inl ?hy10⟩) ?_; case hy10 => (obtain ⟨hw0, hw1, hw2⟩ := hw; have t1 := run_text (P := Try.prog) w 35 9 5 Try.underlying35 Try.underlying5 Try.underlying9 cf hw2; go_simp; try with_reducible rfl)
            try go_frame
            refine takePT 8 (i := 11) (v := ?_) rfl (by kernel_rfl) (by kernel_rfl) (by kernel_rfl) (by kernel_rfl) (by kernel_rfl) (by kernel_rfl) (fun _ _ _ h => h) (⟨HC0.out, HC1.out, HRD.out⟩) (.inl ⟨by rfl, fun w hw => .inl ?hy11⟩) ?_; case hy11 => (obtain ⟨hw0, hw1, hw2⟩ := hw; have t1 := run_text (P := Try.prog) w 35 9 5 Try.underlying35 Try.underlying5 Try.underlying9 cf hw2; go_simp; try with_reducible rfl)
            try go_frame
            refine lateP (i := 12) rfl rfl (by kernel_rfl) (by kernel_rfl) (fun K hK => ?_)
            go_simp
            refine (has_any HA6.out HFIT.out (by omega) HF.out).mono ?_
            rintro y w6 ⟨rfl, h⟩
            have hTT := TrT.join HK6.out HS6.out h
            clear h
            refine hK _ _ ?_; clear hK K
            try go_frame
            refine takeL (i := 13) (v := ?_) rfl (by kernel_rfl) (by kernel_rfl) (by kernel_rfl) (fun _ _ _ h => h) (.inl ⟨by rfl, fun w => .inl ?hy13⟩) ?_; case hy13 => (go_simp; try with_reducible rfl)
            try go_frame
            refine wpAny_done (by kernel_rfl) ?_ _
            have HTT := Lib.hid hTT
            clear hTT
            go_wp2
            go_roundw
            case rel => exact ⟨j + 1, by go_num, by omega, HTT.out⟩
            case measure => simp [intOf]; omega
          · obtain rfl : j = k1 := by omega
            have HFR := Lib.hid hfr
            have HA6 := Lib.hid hA6
            have HK6 := Lib.hid hk6
            have HS6 := Lib.hid hs6
            have HD6 := Lib.hid (HD5.out.kept hk6 HSTZ.out)
            have HBZ6 := Lib.hid (HBZ5.out.trans (hk6.to_below (B := w1.heap.size) HBZ5.out.size HTZZ.out))
            clear hfr hA6 hk6 hs6
            go_upto_region 27 with (go_at_call 35; refine (anew_any HFR.out (by omega)).mono ?_; rintro y w7 ⟨p7, T7, rfl, hA7, hb7, ht7⟩; have HTZ := Lib.hid hA7; have HB7 := Lib.hid hb7; have HT7 := Lib.hid ht7; clear hA7 hb7 ht7)
            have HDZ := Lib.hid (HD6.out.below HB7.out)
            have HBZ := Lib.hid (HBZ6.out.trans (HB7.out.mono HBZ6.out.size))
            have HSTZ2 := Lib.hid (show ∀ k, SZ k → ¬ T7 k from fun k hk h7 => by have := HT7.out k h7; have := HD6.out.low k hk; omega)
            clear HSTZ HTZZ
            have HSTZ := HSTZ2
            have HTZZ := Lib.hid (show ∀ k, T7 k → w1.heap.size ≤ k from fun k hk => Nat.le_trans HBZ6.out.size (HT7.out k hk))
            have HNZ := Lib.hid (show ∃ s, Near (Tr.anew D2.image) s D2 from by obtain ⟨s, h⟩ := HNZ0.out; exact ⟨s, h.near⟩)
            have HSMZ := Lib.hid ((small_anew (fs := D2.image) (q := 1048576 + (i + 1)) (by rw [HK1.out]; exact himl)).mono (q' := 1048580 + 6 * (i + 1)) (by omega))
            clear HD6 HBZ6 HB7 HT7 HA6 HK6 HS6 HFR HD5 HT5 HB5 HBZ5 HFA5 HHAS HNZ0 HFIT
            have hnear := HNZ.out
            obtain ⟨sz, hnear⟩ := hnear
            have hfit := Tells.fit hnear.1 HSMZ.out
            have hfull := hnear.see HDZ.out.1
            have hlk : ∀ (k : Nat) n, ((Tr.anew D2.image)).names[k]? = some n → (((Tr.anew D2.image)).leads[k]? = some none → ∃ e, D2.look n = .error e ∧ e ≠ 0) ∧ ∀ j, ((Tr.anew D2.image)).leads[k]? = some (some j) → ∃ y, D2.look n = .ok y ∧ j < ((Tr.anew D2.image)).data.length := fun k n hk => ⟨(Told.look hnear.1 HDZ.out.1 hk).1, fun j hj => ⟨_, (Told.look hnear.1 HDZ.out.1 hk).2 j hj⟩⟩
            have HFIT := Lib.hid hfit
            have HFULL := Lib.hid hfull
            have HLK := Lib.hid hlk
            clear hnear hfit hfull hlk
            go_wp2_with (go_at_call 38; refine (see_any HTZ.out HFIT.out (by omega) HDZ.out (by omega) HSTZ.out HLK.out).mono ?_; rintro y w9 ⟨rfl, h⟩; have HSEE := Lib.hid h; clear h)
            obtain ⟨T9, hA9, hk9, hs9⟩ := HSEE.out
            have hD9 := HDZ.out.kept hk9 HSTZ.out
            have hsz := hk9.size
            have hlow := HDZ.out.low
            have hw1 := HBZ.out.size
            have hb9 : Below w1.heap.size w1 w9 := HBZ.out.trans (hk9.to_below hw1 HTZZ.out)
            have hst9 : ∀ k, SZ k → ¬ T9 k := fun k hk h9 => by
              rcases hs9 k h9 with h | h
              · exact HSTZ.out k hk h
              · have := hlow k hk; omega
            have htg9 : ∀ k, T9 k → w1.heap.size ≤ k := fun k hk => by
              rcases hs9 k hk with h | h
              · exact HTZZ.out k h
              · omega
            have hsm9 := HSMZ.out.see D2
            have HF := Lib.hid (show ∃ S T t s, Dv w9 S d D2 (1099511627776 + (i + 1) * 1048576) (1048576 + (i + 1)) ∧ TrA w9 T p7 t ∧ (∀ k, S k → ¬ T k) ∧ Below w1.heap.size w1 w9 ∧ (∀ k, S k → w1.heap.size ≤ k) ∧ (∀ k, T k → w1.heap.size ≤ k) ∧ Full t s D2 ∧ Small t (1048580 + 6 * (i + 1)) from ⟨SZ, T9, _, sz, hD9, hA9, hst9, hb9, HSZ.out, htg9, HFULL.out, hsm9⟩)
            clear hA9 hk9 hs9 hD9 hsz hlow hw1 hb9 hst9 htg9 hsm9
            go_roundw
            case rel =>
              obtain ⟨S, T, t', s, a1, a2, a3, a4, a5, a6, a7, a8⟩ := HF.out
              exact ⟨i + 1, D2, S, p7, T, t', s, rfl, by go_num, by omega, a1, a2, a3, a4, a5, a6, a7, a8⟩
            case measure => simp [intOf]; omega
      by_cases k16 : x.a.kind = 16
      · have e16 : D2 = D.wipe := by rw [← HD2.out, step_wipe D x.a k16]
        have hnz : ∃ s, Full (Tr.anew []) s D2 := by rw [e16]; exact full_wipe HD.out.1
        have HNZ0 := Lib.hid hnz
        clear e16 hnz
        go_upto_region 27 with (go_at_call 35; go_loud (refine (anew_any (A := none) (n := 0) (c := 0) (fs := []) ⟨rfl, fun i f h => (by cases h)⟩ (by omega)).mono ?_); rintro y w7 ⟨p7, T7, rfl, hA7, hb7, ht7⟩; have HTZ2 := Lib.hid hA7; have HB7 := Lib.hid hb7; have HT7 := Lib.hid ht7; clear hA7 hb7 ht7)
        have HSTZ2 := Lib.hid (show ∀ k, SZ k → ¬ T7 k from fun k hk h7 => by have := HT7.out k h7; have := HDZ.out.low k hk; omega)
        have HTZZ2 := Lib.hid (show ∀ k, T7 k → w1.heap.size ≤ k from fun k hk => Nat.le_trans HBZ.out.size (HT7.out k hk))
        have HDZ2 := Lib.hid (HDZ.out.below HB7.out)
        have HBZ2 := Lib.hid (HBZ.out.trans (HB7.out.mono HBZ.out.size))
        clear HSTZ HTZZ HDZ HBZ HTZ
        have HSTZ := HSTZ2
        have HTZZ := HTZZ2
        have HDZ := HDZ2
        have HBZ := HBZ2
        have HTZ := HTZ2
        have HNZ := Lib.hid (show ∃ s, Near (Tr.anew []) s D2 from by obtain ⟨s, h⟩ := HNZ0.out; exact ⟨s, h.near⟩)
        have HSMZ := Lib.hid ((small_anew (fs := []) (q := 0) (by simp)).mono (q' := 1048580 + 6 * (i + 1)) (by omega))
        clear HSTZ2 HTZZ2 HDZ2 HBZ2 HTZ2 HNZ0 HB7 HT7 hkd hbox2
        have hnear := HNZ.out
        obtain ⟨sz, hnear⟩ := hnear
        have hfit := Tells.fit hnear.1 HSMZ.out
        have hfull := hnear.see HDZ.out.1
        have hlk : ∀ (k : Nat) n, ((Tr.anew [])).names[k]? = some n → (((Tr.anew [])).leads[k]? = some none → ∃ e, D2.look n = .error e ∧ e ≠ 0) ∧ ∀ j, ((Tr.anew [])).leads[k]? = some (some j) → ∃ y, D2.look n = .ok y ∧ j < ((Tr.anew [])).data.length := fun k n hk => ⟨(Told.look hnear.1 HDZ.out.1 hk).1, fun j hj => ⟨_, (Told.look hnear.1 HDZ.out.1 hk).2 j hj⟩⟩
        have HFIT := Lib.hid hfit
        have HFULL := Lib.hid hfull
        have HLK := Lib.hid hlk
        clear hnear hfit hfull hlk
        go_wp2_with (go_at_call 38; refine (see_any HTZ.out HFIT.out (by omega) HDZ.out (by omega) HSTZ.out HLK.out).mono ?_; rintro y w9 ⟨rfl, h⟩; have HSEE := Lib.hid h; clear h)
        obtain ⟨T9, hA9, hk9, hs9⟩ := HSEE.out
        have hD9 := HDZ.out.kept hk9 HSTZ.out
        have hsz := hk9.size
        have hlow := HDZ.out.low
        have hw1 := HBZ.out.size
        have hb9 : Below w1.heap.size w1 w9 := HBZ.out.trans (hk9.to_below hw1 HTZZ.out)
        have hst9 : ∀ k, SZ k → ¬ T9 k := fun k hk h9 => by
          rcases hs9 k h9 with h | h
          · exact HSTZ.out k hk h
          · have := hlow k hk; omega
        have htg9 : ∀ k, T9 k → w1.heap.size ≤ k := fun k hk => by
          rcases hs9 k hk with h | h
          · exact HTZZ.out k h
          · omega
        have hsm9 := HSMZ.out.see D2
        have HF := Lib.hid (show ∃ S T t s, Dv w9 S d D2 (1099511627776 + (i + 1) * 1048576) (1048576 + (i + 1)) ∧ TrA w9 T p7 t ∧ (∀ k, S k → ¬ T k) ∧ Below w1.heap.size w1 w9 ∧ (∀ k, S k → w1.heap.size ≤ k) ∧ (∀ k, T k → w1.heap.size ≤ k) ∧ Full t s D2 ∧ Small t (1048580 + 6 * (i + 1)) from ⟨SZ, T9, _, sz, hD9, hA9, hst9, hb9, HSZ.out, htg9, HFULL.out, hsm9⟩)
        clear hA9 hk9 hs9 hD9 hsz hlow hw1 hb9 hst9 htg9 hsm9
        go_roundw
        case rel =>
          obtain ⟨S, T, t', s, a1, a2, a3, a4, a5, a6, a7, a8⟩ := HF.out
          exact ⟨i + 1, D2, S, p7, T, t', s, rfl, by go_num, by omega, a1, a2, a3, a4, a5, a6, a7, a8⟩
        case measure => simp [intOf]; omega
      by_cases hcd : cd = 0
      · have hc0 : (D.step x.a).2.code = 0 := by rw [HCD.out]; exact hcd
        have hnz : ∃ s, Near (t.follow x.a) s D2 := by
          rw [← HD2.out]
          exact HFULL0.out.follow HD.out.1 x.a hc0 k13 k16
        have HNZ := Lib.hid hnz
        have HFIT0 := Lib.hid (Tells.fit HFULL0.out.1 HSM.out)
        have HCUT := Lib.hid (show x.a.kind = 15 → 0 ≤ x.a.n from fun h => step_cut D x.a h hc0)
        have HSMZ := Lib.hid ((HSM.out.follow x.a).mono (q' := 1048580 + 6 * (i + 1)) (by omega))
        subst hcd
        clear hc0 hnz
        go_upto_region 27 with (first
          | (refine loadAct rfl (.tmp 10) rfl P 0 rfl HRC.out ?_)
          | (go_at_call 37; refine (follow_any x HTZ.out HFIT0.out (by omega) HCUT.out).mono ?_; rintro y w7 ⟨rfl, h⟩; have HF7 := Lib.hid h; clear h))
        obtain ⟨T7, hA7, hk7, hs7⟩ := HF7.out
        have HSTZ2 := Lib.hid (show ∀ k, SZ k → ¬ T7 k from fun k hk h7 => by
          rcases hs7 k h7 with h | h
          · exact HSTZ.out k hk h
          · have := HDZ.out.low k hk; omega)
        have HTZZ2 := Lib.hid (show ∀ k, T7 k → w1.heap.size ≤ k from fun k hk => by
          rcases hs7 k hk with h | h
          · exact HTZZ.out k h
          · exact Nat.le_trans HBZ.out.size h)
        have HDZ2 := Lib.hid (HDZ.out.kept hk7 HSTZ.out)
        have HBZ2 := Lib.hid (HBZ.out.trans (hk7.to_below (B := w1.heap.size) HBZ.out.size HTZZ.out))
        have HTZ2 := Lib.hid hA7
        clear HSTZ HTZZ HDZ HBZ HTZ hA7 hk7 hs7 HF7
        have HSTZ := HSTZ2
        have HTZZ := HTZZ2
        have HDZ := HDZ2
        have HBZ := HBZ2
        have HTZ := HTZ2
        clear HSTZ2 HTZZ2 HDZ2 HBZ2 HTZ2 hkd hbox2
        have hnear := HNZ.out
        obtain ⟨sz, hnear⟩ := hnear
        have hfit := Tells.fit hnear.1 HSMZ.out
        have hfull := hnear.see HDZ.out.1
        have hlk : ∀ (k : Nat) n, ((t.follow x.a)).names[k]? = some n → (((t.follow x.a)).leads[k]? = some none → ∃ e, D2.look n = .error e ∧ e ≠ 0) ∧ ∀ j, ((t.follow x.a)).leads[k]? = some (some j) → ∃ y, D2.look n = .ok y ∧ j < ((t.follow x.a)).data.length := fun k n hk => ⟨(Told.look hnear.1 HDZ.out.1 hk).1, fun j hj => ⟨_, (Told.look hnear.1 HDZ.out.1 hk).2 j hj⟩⟩
        have HFIT := Lib.hid hfit
        have HFULL := Lib.hid hfull
        have HLK := Lib.hid hlk
        clear hnear hfit hfull hlk
        go_wp2_with (go_at_call 38; refine (see_any HTZ.out HFIT.out (by omega) HDZ.out (by omega) HSTZ.out HLK.out).mono ?_; rintro y w9 ⟨rfl, h⟩; have HSEE := Lib.hid h; clear h)
        obtain ⟨T9, hA9, hk9, hs9⟩ := HSEE.out
        have hD9 := HDZ.out.kept hk9 HSTZ.out
        have hsz := hk9.size
        have hlow := HDZ.out.low
        have hw1 := HBZ.out.size
        have hb9 : Below w1.heap.size w1 w9 := HBZ.out.trans (hk9.to_below hw1 HTZZ.out)
        have hst9 : ∀ k, SZ k → ¬ T9 k := fun k hk h9 => by
          rcases hs9 k h9 with h | h
          · exact HSTZ.out k hk h
          · have := hlow k hk; omega
        have htg9 : ∀ k, T9 k → w1.heap.size ≤ k := fun k hk => by
          rcases hs9 k hk with h | h
          · exact HTZZ.out k h
          · omega
        have hsm9 := HSMZ.out.see D2
        have HF := Lib.hid (show ∃ S T t s, Dv w9 S d D2 (1099511627776 + (i + 1) * 1048576) (1048576 + (i + 1)) ∧ TrA w9 T p t ∧ (∀ k, S k → ¬ T k) ∧ Below w1.heap.size w1 w9 ∧ (∀ k, S k → w1.heap.size ≤ k) ∧ (∀ k, T k → w1.heap.size ≤ k) ∧ Full t s D2 ∧ Small t (1048580 + 6 * (i + 1)) from ⟨SZ, T9, _, sz, hD9, hA9, hst9, hb9, HSZ.out, htg9, HFULL.out, hsm9⟩)
        clear hA9 hk9 hs9 hD9 hsz hlow hw1 hb9 hst9 htg9 hsm9
        go_roundw
        case rel =>
          obtain ⟨S, T, t', s, a1, a2, a3, a4, a5, a6, a7, a8⟩ := HF.out
          exact ⟨i + 1, D2, S, p, T, t', s, rfl, by go_num, by omega, a1, a2, a3, a4, a5, a6, a7, a8⟩
        case measure => simp [intOf]; omega
      · have e0 : D2 = D := by rw [← HD2.out]; exact step_err D x.a (by rw [HCD.out]; exact hcd)
        have hnz : ∃ s, Near t s D2 := by rw [e0]; exact ⟨s, HFULL0.out.near⟩
        have HNZ := Lib.hid hnz
        have HSMZ := Lib.hid (HSM.out.mono (q' := 1048580 + 6 * (i + 1)) (by omega))
        clear e0 hnz
        have hnear := HNZ.out
        obtain ⟨sz, hnear⟩ := hnear
        have hfit := Tells.fit hnear.1 HSMZ.out
        have hfull := hnear.see HDZ.out.1
        have hlk : ∀ (k : Nat) n, (t).names[k]? = some n → ((t).leads[k]? = some none → ∃ e, D2.look n = .error e ∧ e ≠ 0) ∧ ∀ j, (t).leads[k]? = some (some j) → ∃ y, D2.look n = .ok y ∧ j < (t).data.length := fun k n hk => ⟨(Told.look hnear.1 HDZ.out.1 hk).1, fun j hj => ⟨_, (Told.look hnear.1 HDZ.out.1 hk).2 j hj⟩⟩
        have HFIT := Lib.hid hfit
        have HFULL := Lib.hid hfull
        have HLK := Lib.hid hlk
        clear hnear hfit hfull hlk
        go_wp2_with (go_at_call 38; refine (see_any HTZ.out HFIT.out (by omega) HDZ.out (by omega) HSTZ.out HLK.out).mono ?_; rintro y w9 ⟨rfl, h⟩; have HSEE := Lib.hid h; clear h)
        obtain ⟨T9, hA9, hk9, hs9⟩ := HSEE.out
        have hD9 := HDZ.out.kept hk9 HSTZ.out
        have hsz := hk9.size
        have hlow := HDZ.out.low
        have hw1 := HBZ.out.size
        have hb9 : Below w1.heap.size w1 w9 := HBZ.out.trans (hk9.to_below hw1 HTZZ.out)
        have hst9 : ∀ k, SZ k → ¬ T9 k := fun k hk h9 => by
          rcases hs9 k h9 with h | h
          · exact HSTZ.out k hk h
          · have := hlow k hk; omega
        have htg9 : ∀ k, T9 k → w1.heap.size ≤ k := fun k hk => by
          rcases hs9 k hk with h | h
          · exact HTZZ.out k h
          · omega
        have hsm9 := HSMZ.out.see D2
        have HF := Lib.hid (show ∃ S T t s, Dv w9 S d D2 (1099511627776 + (i + 1) * 1048576) (1048576 + (i + 1)) ∧ TrA w9 T p t ∧ (∀ k, S k → ¬ T k) ∧ Below w1.heap.size w1 w9 ∧ (∀ k, S k → w1.heap.size ≤ k) ∧ (∀ k, T k → w1.heap.size ≤ k) ∧ Full t s D2 ∧ Small t (1048580 + 6 * (i + 1)) from ⟨SZ, T9, _, sz, hD9, hA9, hst9, hb9, HSZ.out, htg9, HFULL.out, hsm9⟩)
        clear hA9 hk9 hs9 hD9 hsz hlow hw1 hb9 hst9 htg9 hsm9
        go_roundw
        case rel =>
          obtain ⟨S, T, t', s, a1, a2, a3, a4, a5, a6, a7, a8⟩ := HF.out
          exact ⟨i + 1, D2, S, p, T, t', s, rfl, by go_num, by omega, a1, a2, a3, a4, a5, a6, a7, a8⟩
        case measure => simp [intOf]; omega
    · obtain rfl : i = na := by omega
      have HBW := Lib.hid hbw
      clear hbw hD hA hST hS hT hfull hsm
      go_wp2
      go_ret
      exact ⟨rfl, HBW1.out.trans (HBW.out.mono (by have := HV1.out; omega))⟩
end Go.Proofs.Ytelgcmcnebncmaa.Dr
