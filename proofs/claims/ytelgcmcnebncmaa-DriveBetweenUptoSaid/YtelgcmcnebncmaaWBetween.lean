/- The walk of DriveBetween. Printed by gen/mkbetw.py. -/
import Derived.Test.YtelgcmcnebncmaaCh
import Derived.Test.YtelgcmcnebncmaaBare
import Derived.LaidEqlPtr
import Derived.Deep.CutBlock
namespace Go.Proofs.Ytelgcmcnebncmaa.Dr
set_option linter.unusedVariables false
open Go.RowKit Go.Proofs Go.Deep Go.Proofs.Ytelgcmcnebncmaa.Ring

theorem text_ne {a b : Bs} (h : a ≠ b) : ((⟨a.toArray⟩ : ByteArray).toList == (⟨b.toArray⟩ : ByteArray).toList) = false := by
  rw [ByteArray.toList_eq, ByteArray.toList_eq]
  exact beq_false_of_ne fun e => h (by simpa using e)
set_option maxRecDepth 100000 in
set_option maxHeartbeats 8000000 in
theorem between_any (k : Cv) (w : World) (hk : k.In w w.heap.size) : Calls Try.prog 7 #[.agg k.cells.toArray] w fun x w' => x = .returned (.bool true) ∧ Below w.heap.size w w' := by
  obtain ⟨V, hV⟩ : ∃ V, w.heap.size = V := ⟨_, rfl⟩
  rw [hV] at hk ⊢
  have HK := Lib.hid hk
  clear hk
  go_enter Try.func7, Try.ntmps7
  go_upto_region 1 with (fail)
  obtain ⟨w0, hw0⟩ : ∃ w0, w.alloc (.cells k.cells.toArray tChange) = w0 := ⟨_, rfl⟩
  have hA0 : w0.heap[V]? = some (.cells k.cells.toArray tChange (0, 0)) := by
    rw [← hw0, ← hV]
    exact heap_alloc_new _ _
  have hb0 : Below V w w0 := by
    rw [← hw0, ← hV]
    exact (Below.refl _ _).alloc (Nat.le_refl _) _
  have hs0 : w0.heap.size = V + 1 := by rw [← hw0, ← hV]; simp
  rw [hw0]
  clear hw0 hV
  have HA0 := Lib.hid hA0
  have HB0 := Lib.hid hb0
  have HS0 := Lib.hid hs0
  clear hA0 hb0 hs0
  go_upto_region 2 with (go_at_call 25; refine (awake_any w0).mono ?_; rintro x w1 ⟨rfl, hb1⟩; have HB1 := Lib.hid hb1; clear hb1)
  have hbw1 : Below V w w1 := HB0.out.trans (HB1.out.mono (by have := HS0.out; omega))
  have hbox : ∀ wr, Below (V + 1) w1 wr → wr.rangeAt V 0 k.cells := fun wr hb => change_box (((hb.block V (by have := HB1.out.size; have := HS0.out; omega)).trans (HB1.out.block V (by have := HS0.out; omega))).trans HA0.out)
  have hV1 : V + 1 ≤ w1.heap.size := by have := HB1.out.size; have := HS0.out; omega
  have hk1 : k.In w1 V := HK.out.below hbw1
  have HBW1 := Lib.hid hbw1
  have HBOX := Lib.hid hbox
  have HV1 := Lib.hid hV1
  have HK1 := Lib.hid hk1
  clear hbw1 hbox hV1 hk1 HK HA0 HB0 HB1 HS0
  have hst : w1.rangeAt V 0 [.int .i64 k.how, .int .i64 k.room, .slice k.Af k.nf k.cf] := by
    intro j v hv
    refine HBOX.out w1 (Below.refl _ _) j v ?_
    match j, hv with
    | 0, hv => exact hv
    | 1, hv => exact hv
    | 2, hv => exact hv
    | j + 3, hv => cases hv
  have HST := Lib.hid hst
  clear hst
  go_upto_region 5 with (first
    | (refine wpList_load_mid rfl tStart (.tmp 35) rfl V 0 rfl [.int .i64 k.how, .int .i64 k.room, .slice k.Af k.nf k.cf] _ HST.out Try.underlying24 rfl (by kernel_rfl) ?_)
    | (go_at_call 12; refine (made_any (how := k.how) (room := k.room) HK1.out.files (by have := HV1.out; omega)).mono ?_; rintro x w2 hmade; obtain ⟨p, hx, hp⟩ := hmade.ptr; subst hx; have HP := Lib.hid hp; clear hp hmade))
  obtain ⟨hb2, hp⟩ := HP.out
  have hst2 : w2.rangeAt V 0 [.int .i64 k.how, .int .i64 k.room, .slice k.Af k.nf k.cf] := by
    intro j v hv
    refine HBOX.out w2 (hb2.mono HV1.out) j v ?_
    match j, hv with
    | 0, hv => exact hv
    | 1, hv => exact hv
    | 2, hv => exact hv
    | j + 3, hv => cases hv
  have hk2 : k.In w2 V := HK1.out.below (hb2.mono (by have := HV1.out; omega))
  have HST2 := Lib.hid hst2
  have HK2 := Lib.hid hk2
  have HB2 := Lib.hid hb2
  have HPP := Lib.hid hp
  clear hst2 hk2 hb2 hp HST HP
  go_upto_region 6 with (first
    | (refine wpList_load_mid rfl tStart (.tmp 41) rfl V 0 rfl [.int .i64 k.how, .int .i64 k.room, .slice k.Af k.nf k.cf] _ HST2.out Try.underlying24 rfl (by kernel_rfl) ?_)
    | (go_at_call 12; refine (made_any (how := k.how) (room := k.room) HK2.out.files (by have := HV1.out; have := HB2.out.size; omega)).mono ?_; rintro x w3 hmade; obtain ⟨p2, hx, hp2⟩ := hmade.ptr; subst hx; have HP2 := Lib.hid hp2; clear hp2 hmade))
  obtain ⟨hb3, hp2⟩ := HP2.out
  have hp := HPP.out
  have HB3 := Lib.hid hb3
  have hb13 : Below w1.heap.size w1 w3 := HB2.out.trans (hb3.mono HB2.out.size)
  have hcc := change_cells (HBOX.out w3 (hb13.mono HV1.out))
  have e4 := hcc.temp
  have e5 := hcc.name
  have HB13 := Lib.hid hb13
  clear hb3 HPP HP2 HST2 hb13 hcc
  rcases hp with ⟨hn, rfl⟩ | ⟨D, d, hD, rfl, hown⟩
  · rcases hp2 with ⟨_, rfl⟩ | ⟨D', _, hD', _, _⟩
    · clear HBOX
      go_wp2_with (go_at_call 26; refine (lnamed_any _ _).mono ?_; rintro x wx ⟨rfl, rfl⟩)
      go_ret
      exact ⟨rfl, HBW1.out.trans (HB13.out.mono (by have := HV1.out; omega))⟩
    · rw [hn] at hD'; cases hD'
  rcases hp2 with ⟨hn, _⟩ | ⟨D', e, hD', rfl, hown2⟩
  · rw [hD] at hn; cases hn
  rw [hD] at hD'
  injection hD' with hD'
  subst hD'
  have HDD := Lib.hid hD
  have HDUO := Lib.hid (duo_of hown hown2)
  clear hown hown2 hD
  have hfin3 : Below V w w3 := HBW1.out.trans (HB13.out.mono (by have := HV1.out; omega))
  have HFIN3 := Lib.hid hfin3
  clear hfin3
  cases hT : Dr.named k.temp with
  | false =>
    have HT := Lib.hid hT
    have HTa := Lib.hid hT
    clear HBOX hT
    go_wp2_with (first
      | (go_at_call 26; have hh := HTa.out; clear HTa; refine (lnamed_any k.temp _).mono ?_; rw [hh]; rintro x wx ⟨rfl, rfl⟩; clear hh)
      | (go_at_call 26; refine (lnamed_any k.name _).mono ?_; rintro x wx ⟨rfl, rfl⟩))
    go_ret
    exact ⟨rfl, HFIN3.out⟩
  | true =>
  cases hM : Dr.named k.name with
  | false =>
    have HT := Lib.hid hT
    have HTa := Lib.hid hT
    have HM := Lib.hid hM
    clear HBOX hT hM
    go_wp2_with (first
      | (go_at_call 26; have hh := HTa.out; clear HTa; refine (lnamed_any k.temp _).mono ?_; rw [hh]; rintro x wx ⟨rfl, rfl⟩; clear hh)
      | (go_at_call 26; refine (lnamed_any k.name _).mono ?_; rw [HM.out]; rintro x wx ⟨rfl, rfl⟩))
    go_ret
    exact ⟨rfl, HFIN3.out⟩
  | true =>
  have HT := Lib.hid hT
  have HTa := Lib.hid hT
  have HM := Lib.hid hM
  clear hT hM
  go_upto_region 8 with (first
      | (go_at_call 26; have hh := HTa.out; clear HTa; refine (lnamed_any k.temp _).mono ?_; rw [hh]; rintro x wx ⟨rfl, rfl⟩; clear hh)
      | (go_at_call 26; refine (lnamed_any k.name _).mono ?_; rw [HM.out]; rintro x wx ⟨rfl, rfl⟩))
  obtain ⟨X, hX⟩ : ∃ X : ByteArray, (⟨k.temp.toArray⟩ : ByteArray) = X := ⟨_, rfl⟩
  obtain ⟨Y, hY⟩ : ∃ Y : ByteArray, (⟨k.name.toArray⟩ : ByteArray) = Y := ⟨_, rfl⟩
  have f4 : w3.cell? ⟨V, 4, none⟩ = some (.string X) := by rw [← hX]; exact e4
  have f5 : w3.cell? ⟨V, 5, none⟩ = some (.string Y) := by rw [← hY]; exact e5
  clear e4 e5
  by_cases hTM : k.temp = k.name
  · have hXY : Y = X := by rw [← hX, ← hY, hTM]
    subst hXY
    clear HBOX hTM hX hY
    go_wp2
    go_ret
    exact ⟨rfl, HFIN3.out⟩
  have hbe : (X.toList == Y.toList) = false := by rw [← hX, ← hY]; exact text_ne hTM
  have HTM := Lib.hid hTM
  clear hTM hX hY HFIN3
  have e3 := (change_cells (HBOX.out w3 (HB13.out.mono HV1.out))).acts
  have hB3 : Below V w1 w3 := HB13.out.mono (by have := HV1.out; omega)
  have hVw : V ≤ w1.heap.size := by have := HV1.out; omega
  have hpl := HDUO.out.played (B := V) (c := k.ca) hVw (HK1.out.acts.below hB3) (by omega) (by omega)
  have HPL := Lib.hid hpl
  clear hpl hB3
  go_upto_region 11 with (go_at_call 27; refine HPL.out.mono ?_; rintro x w4 ⟨rfl, h⟩; have H4 := Lib.hid h; clear h HPL)
  obtain ⟨D1, hD1⟩ : ∃ D1, plays D (k.la.map (·.a)) = D1 := ⟨_, rfl⟩
  rw [hD1] at H4
  obtain ⟨m, hm⟩ : ∃ m, 1099511627776 + 1099511627776 = m := ⟨_, rfl⟩
  obtain ⟨N, hN⟩ : ∃ N, 1048576 + 1048576 = N := ⟨_, rfl⟩
  rw [hm, hN] at H4
  have h4 := (H4.out.swap.mono (m2 := 1099511627776) (N2 := 1048576) (by omega) (by omega))
  have hB4 : Below V w1 w4 := H4.out.back.mono (by have := HV1.out; omega)
  have hpl := h4.played (B := V) (c := k.ca) (by have := HV1.out; omega) (HK1.out.acts.below hB4) (by omega) (by omega)
  rw [hD1, hm, hN] at hpl
  have HPL := Lib.hid hpl
  clear e3 hpl h4
  have e3 := (change_cells (HBOX.out w4 (H4.out.back.mono HV1.out))).acts
  clear f4 f5 hbe hB4
  go_upto_region 12 with (go_at_call 27; refine HPL.out.mono ?_; rintro x w5 ⟨rfl, h⟩; have H5 := Lib.hid h.swap; clear h H4 HPL)
  have hmb : m ≤ 4398046511104 := by omega
  have hNb : N ≤ 4194304 := by omega
  have HD1 := Lib.hid hD1
  obtain ⟨np, hnp⟩ : ∃ n, D1.pend.length = n := ⟨_, rfl⟩
  have HNP := Lib.hid hnp
  clear hD1 hm hN e3 hnp
  have hpn := H5.out.own.pending HNP.out
  have HPN := Lib.hid hpn
  clear hpn
  have hcc := change_cells (HBOX.out w5 (H5.out.back.mono HV1.out))
  have e4 := hcc.temp
  have e5 := hcc.name
  have e6 := hcc.data
  clear hcc
  go_upto_region 14 with (go_at_call 22; refine HPN.out.mono ?_; rintro x wp ⟨rfl, rfl⟩)
  have htr := H5.out.trio (.cells (stepCells k.temp k.name k.Ax k.nx k.cx) tAct)
  obtain ⟨w6, hw6⟩ : ∃ w6, w5.alloc (.cells (stepCells k.temp k.name k.Ax k.nx k.cx) tAct) = w6 := ⟨_, rfl⟩
  obtain ⟨bs, hbs⟩ : ∃ b, w5.heap.size = b := ⟨_, rfl⟩
  rw [hw6, hbs] at htr
  unfold stepCells at hw6
  rw [hw6, hbs]
  obtain ⟨oS, hoS⟩ : ∃ o, Obj.cells (stepCells k.temp k.name k.Ax k.nx k.cx) tAct = o := ⟨_, rfl⟩
  rw [hoS] at htr
  obtain ⟨Fz, hFz⟩ : ∃ F, upTo D1 ((stepsOf k.temp k.name k.data).take k.done.toNat) = F := ⟨_, rfl⟩
  have HOS := Lib.hid hoS
  have HFZ := Lib.hid hFz
  have HTR := Lib.hid htr
  clear hw6 hbs hoS hFz htr e4 e5 e6 HPN H5
  go_upto_block 0 with (fail)
  go_cut [12, 13, 14] from 113 to 136 (fun v1 v2 v3 wr => Trio w1 wr d e Fz D1 (m + 5242880) (N + 5) m N bs oS)
  case first =>
    go_wp2_with (fail)
    go_loopw [12] (fun iv wr => ∃ (i : Nat) (D' : Dr.D), iv = .int .i64 (i : Int) ∧ i ≤ 5 ∧ Trio w1 wr d e D' D1 (m + i * 1048576) (N + i) m N bs oS ∧ upTo D' (((stepsOf k.temp k.name k.data).drop i).take (k.done.toNat - i)) = Fz) (fun iv _ => 5 - (intOf iv).toNat)
    case atStart => exact ⟨0, D1, rfl, by omega, by simpa using HTR.out, by simpa using HFZ.out⟩
    case round =>
      clear HTR
      obtain ⟨i, D', rfl, hi, hN, hup⟩ := hrel
      have e7 := (change_cells (HBOX.out wr (hN.back.mono HV1.out))).done
      by_cases h5 : i < 5
      · have hlt : (i : Int) < 5 := by omega
        by_cases hd : (i : Int) < k.done
        · obtain ⟨y, hy, hya, hyc⟩ := steps_at (T := k.temp) (M := k.name) (x := k.data) (A := k.Ax) (n := k.nx) (c := k.cx) h5
          have hbV : Below V w1 wr := hN.back.mono (by have := HV1.out; omega)
          have hin := steps_in (T := k.temp) (M := k.name) (HK1.out.data.below hbV) HK1.out.nil HK1.out.n_le y (List.mem_of_getElem? hy)
          have hrg : wr.rangeAt bs (i * 7) y.cells := by
            intro j v hv
            have hbl := hN.block
            rw [← HOS.out] at hbl
            rw [cell_of_row wr bs _ _ _ _ hbl]
            exact hyc j v hv
          obtain ⟨D2, an, hst⟩ : ∃ D2 an, D'.step y.a = (D2, an) := ⟨_, _, rfl⟩
          have hdn : k.done.toNat - i = (k.done.toNat - (i + 1)) + 1 := by omega
          obtain ⟨hsl, hse⟩ := List.getElem?_eq_some_iff.1 hya
          rw [List.drop_eq_getElem_cons hsl, hse, hdn, List.take_succ_cons, upTo, hst] at hup
          dsimp only at hup
          have hact := hN.act (B := V) (by have := HV1.out; omega) hin (by omega) (by omega)
          rw [hst] at hact
          dsimp only at hact
          obtain ⟨cd, hcd⟩ : ∃ c, an.code = c := ⟨_, rfl⟩
          rw [hcd] at hact hup
          have HACT := Lib.hid hact
          have HRG := Lib.hid hrg
          have HUP := Lib.hid hup
          clear hact hrg hup hya hyc hy hse hsl hst hcd hin hN hbV
          go_upto_region 18 with (first
            | (refine loadAct rfl (.tmp 129) rfl bs (i * 7) rfl HRG.out ?_)
            | (go_at_call 14; refine HACT.out.mono ?_; rintro z w7 ⟨⟨n, xd, ld, yd, xn, ln, yn, xf, lf, yf, rfl⟩, h⟩; have hst := answer_store w7 cd n xd xn xf ld yd ln yn lf yf; have H7 := Lib.hid (h.below ((Below.refl _ _).alloc (Nat.le_refl _) (.cells #[.int .i64 cd, .int .i64 n, .slice xd ld yd, .slice xn ln yn, .slice xf lf yf] tAnswer))); clear h HACT))
          clear hst
          by_cases hc : cd = 0
          · subst hc
            have hup := HUP.out
            rw [if_pos rfl] at hup
            have HUP2 := Lib.hid hup
            clear hup HUP
            go_wp2
            go_roundw
            case rel => exact ⟨i + 1, D2, by go_num, by omega, H7.out.mono (by omega) (by omega), HUP2.out⟩
            case measure => simp [intOf]; omega
          · have hup := HUP.out
            rw [if_neg hc] at hup
            subst hup
            clear HUP
            go_wp2
            go_meet
            exact H7.out.mono (by omega) (by omega)
        · rw [show k.done.toNat - i = 0 by omega, List.take_zero, upTo] at hup
          subst hup
          have H7 := Lib.hid hN
          clear hN
          go_wp2
          go_meet
          exact H7.out.mono (by omega) (by omega)
      · obtain rfl : i = 5 := by omega
        rw [show (stepsOf k.temp k.name k.data).drop 5 = [] from rfl, List.take_nil, upTo] at hup
        subst hup
        have H7 := Lib.hid hN
        clear hN
        go_wp2
        go_meet
        exact H7.out.mono (by omega) (by omega)
  case rest =>
    have HTZ := Lib.hid hcut
    clear hcut HTR
    obtain ⟨m5, hm5⟩ : ∃ x, m + 5242880 = x := ⟨_, rfl⟩
    obtain ⟨N5, hN5⟩ : ∃ x, N + 5 = x := ⟨_, rfl⟩
    rw [hm5, hN5] at HTZ
    have hm5b : m5 ≤ 4398051753984 := by omega
    have hN5b : N5 ≤ 4194309 := by omega
    obtain ⟨Gz, hGz⟩ : ∃ G, Fz.crash k.dirs k.cuts = G := ⟨_, rfl⟩
    have hcr := HTZ.out.crash (Ad := k.Ad) (nd := k.nd) (cd := k.cd) (Ac := k.Au) (nc := k.nu) (cc := k.cu) (by omega) (by omega) ((HK1.out.fate.below (HTZ.out.back.mono (by have := HV1.out; omega))).more (by have := HV1.out; omega)) hGz
    have HCR := Lib.hid hcr
    have hft := (change_cells (HBOX.out wc (HTZ.out.back.mono HV1.out))).fate
    have HGZ := Lib.hid hGz
    clear hm5 hN5 hGz hcr
    go_upto_region 21 with (first
      | (refine wpList_load_mid rfl 29 (.tmp 138) rfl V 8 rfl [.slice k.Ad k.nd k.cd, .slice k.Au k.nu k.cu] _ hft Try.underlying29 rfl (by kernel_rfl) ?_)
      | (go_at_call 16; refine HCR.out.mono ?_; rintro x w7 ⟨rfl, h⟩; have H7 := Lib.hid h; clear h HCR)
      | (go_at_call 18; refine (num_any 0 _).mono ?_; rintro x w8 ⟨rfl, rfl⟩))
    clear hft HTZ
    obtain ⟨fz, hfz⟩ : ∃ f, Gz.image = f := ⟨_, rfl⟩
    obtain ⟨nz, hnz⟩ : ∃ n, fz.length = n := ⟨_, rfl⟩
    have hnzb : nz ≤ N5 := by rw [← hnz, ← hfz, image_len]; exact H7.out.own.ok.lenN
    have HFI := Lib.hid hfz
    have HNZ := Lib.hid hnz
    clear hfz hnz
    obtain ⟨R, hR⟩ : ∃ R, told? (find fz k.name) = R := ⟨_, rfl⟩
    have HR := Lib.hid hR
    clear hR
    go_cut [15, 16] from 143 to 150 (fun v1 v2 wr => v1 = encStr R.1 ∧ v2 = .bool R.2 ∧ Trio w1 wr d e Gz D1 m5 N5 m N bs oS)
    case first =>
      have e5 := (change_cells (HBOX.out w7 (H7.out.back.mono HV1.out))).name
      have d5 : w7.drew.cell? ⟨V, 5, none⟩ = _ := e5
      have hVl : V < w7.heap.size := by have := H7.out.back.size; have := HV1.out; omega
      go_region_held3 (fun W => W.cell? ⟨V, 5, none⟩ = some (encStr k.name))
        (first
          | go_keep
          | assumption)
        (first
          | (go_at_call 20; refine (image_form (w := w7.drew) (H7.out.own.below (Below.refl _ _).drew).dv (by omega) (by omega) HFI.out HNZ.out).mono ?_; rintro x w8 ⟨Ai, ci, dvi, rfl, hf, hb⟩; have hbb : Below w7.heap.size w7 w8 := (Below.refl _ _).drew.trans hb; have k5 := (hbb.cell (p := ⟨V, 5, none⟩) hVl).trans e5; have HF := Lib.hid hf; have HB8 := Lib.hid hbb; clear hf hb hbb)
          | (go_at_call 40; refine (content_any (HF.out.rd HNZ.out) (by omega) k.name).mono ?_; rw [HR.out]; rintro x w9 ⟨rfl, rfl⟩))
      go_wp2
      go_meet
      exact ⟨rfl, rfl, H7.out.below HB8.out⟩
    case rest =>
      obtain ⟨rfl, rfl, htr⟩ := hcut
      have HT8 := Lib.hid htr
      clear htr H7
      obtain ⟨hl0, m0, hok0⟩ := begun_small HDD.out
      obtain ⟨m1, hok1⟩ := plays_ok (k.la.map (·.a)) hok0
      have hlo := plays_loose (k.la.map (·.a)) hl0
      rw [HD1.out] at hok1 hlo
      rw [Nat.zero_add] at hlo
      obtain ⟨most, hmost⟩ : ∃ b, bulkA (k.la.map (·.a)) = b := ⟨_, rfl⟩
      rw [hmost] at hlo
      have hfl := HK1.out.files.1.1
      have hal := HK1.out.acts.1.1
      have hL : D1.kept.length + D1.pend.length < k.nf + k.na + 1 := by
        have h1 := hok1.lenK
        simp only [List.length_map] at h1
        omega
      have hbet := between hok1 HT.out HM.out HTM.out (x := k.data) (fun i => hlo.at_ i) hL k.done.toNat k.dirs k.cuts
      rw [HFZ.out, HGZ.out, HFI.out, HNP.out] at hbet
      have HBET := Lib.hid hbet
      have HMOST := Lib.hid hmost
      obtain ⟨rx, rb⟩ := R
      have hbl : Below V w1 wc := HT8.out.back.mono (by have := HV1.out; omega)
      clear hl0 hok0 hok1 hlo hmost hfl hal hL hbet
      obtain ⟨X, hX⟩ : ∃ X : ByteArray, (⟨rx.toArray⟩ : ByteArray) = X := ⟨_, rfl⟩
      go_upto_region 22 with (fail)
      rw [show encStr rx = .string X by rw [← hX]]
      have HXX := Lib.hid hX
      clear hX
      go_cut [163] from 151 to 163 (fun v wr => v = .bool (rb && (decide (rx = k.data) && decide (4 ≤ k.done))) ∧ wc = wr)
      case first =>
        have hcc := change_cells (HBOX.out wc (HT8.out.back.mono HV1.out))
        have e6 := hcc.data
        have e7 := hcc.done
        have t1 := run_text (P := Try.prog) wc 35 9 5 Try.underlying35 Try.underlying5 Try.underlying9 k.cx (HK1.out.data.below hbl)
        obtain ⟨Y, hY⟩ : ∃ Y : ByteArray, (⟨k.data.toArray⟩ : ByteArray) = Y := ⟨_, rfl⟩
        have hX := HXX.out
        rw [hY] at t1
        clear hcc
        cases rb with
        | false =>
          clear hX hY
          go_wp2
          go_meet
          exact ⟨by simp, rfl⟩
        | true =>
          by_cases hxy : rx = k.data
          · have hXY : Y = X := by rw [← hX, ← hY, hxy]
            rw [hXY] at t1
            by_cases h4 : 4 ≤ k.done
            · clear hX hY
              go_wp2
              go_meet
              exact ⟨by simp [hxy, h4], rfl⟩
            · clear hX hY
              go_wp2
              go_meet
              exact ⟨by simp [hxy, h4], rfl⟩
          · have hbe : (X.toList == Y.toList) = false := by rw [← hX, ← hY]; exact text_ne hxy
            clear hX hY
            go_wp2
            go_meet
            exact ⟨by simp [hxy], rfl⟩
      case rest =>
        obtain ⟨rfl, rfl⟩ := hcut
        by_cases hb : (rb && (decide (rx = k.data) && decide (4 ≤ k.done))) = true
        · rw [hb]
          go_wp2
          go_ret
          exact ⟨rfl, HBW1.out.trans hbl⟩
        have hbf : (rb && (decide (rx = k.data) && decide (4 ≤ k.done))) = false := by simpa using hb
        rw [hbf]
        have hright := HBET.out.resolve_left (fun ⟨h1, h2⟩ => hb (by
          have h3 := HR.out
          rw [h1] at h3
          simp only [told?, Prod.mk.injEq] at h3
          rw [← h3.1, ← h3.2]
          simp
          omega))
        obtain ⟨hno5, k0, hk0, hfd⟩ := hright
        have HNO5 := Lib.hid hno5
        have HFD := Lib.hid hfd
        clear hb hbf HBET hno5 hfd
        have e7 := (change_cells (HBOX.out wc (HT8.out.back.mono HV1.out))).done
        go_upto_if 166 with (fail)
        go_cut [17, 18, 19, 20] from 164 to 190 (fun v1 v2 v3 v4 wr => Below w1.heap.size w1 wr)
        case first =>
          by_cases h5 : 5 ≤ k.done
          · obtain ⟨y0, hy0, hya0, hyc0⟩ := steps_at (T := k.temp) (M := k.name) (x := k.data) (A := k.Ax) (n := k.nx) (c := k.cx) (i := 0) (by decide)
            obtain ⟨y1, hy1, hya1, hyc1⟩ := steps_at (T := k.temp) (M := k.name) (x := k.data) (A := k.Ax) (n := k.nx) (c := k.cx) (i := 1) (by decide)
            have ha0 : sAc 0 k.temp [] [] = y0.a := Option.some.inj hya0
            have ha1 : sAc 1 k.temp [] k.data = y1.a := Option.some.inj hya1
            have hin0 := steps_in (T := k.temp) (M := k.name) (HK1.out.data.below hbl) HK1.out.nil HK1.out.n_le y0 (List.mem_of_getElem? hy0)
            have hin1 : ∀ wr, Below V w1 wr → y1.In wr V := fun wr hb => steps_in (T := k.temp) (M := k.name) (HK1.out.data.below hb) HK1.out.nil HK1.out.n_le y1 (List.mem_of_getElem? hy1)
            have hrg : ∀ wr : World, wr.heap[bs]? = some oS → wr.rangeAt bs 0 y0.cells ∧ wr.rangeAt bs 7 y1.cells := by
              intro wr hbl
              rw [← HOS.out] at hbl
              exact ⟨fun j v hv => by rw [cell_of_row wr bs _ _ _ _ hbl]; exact hyc0 j v hv, fun j v hv => by rw [cell_of_row wr bs _ _ _ _ hbl]; exact hyc1 j v hv⟩
            obtain ⟨E1, an1, hs1⟩ : ∃ E1 an1, D1.step y0.a = (E1, an1) := ⟨_, _, rfl⟩
            obtain ⟨E2, an2, hs2⟩ : ∃ E2 an2, E1.step y1.a = (E2, an2) := ⟨_, _, rfl⟩
            obtain ⟨c0, hc0⟩ : ∃ c, an1.code = c := ⟨_, rfl⟩
            obtain ⟨c1, hc1⟩ : ∃ c, an2.code = c := ⟨_, rfl⟩
            have hno := HNO5.out (by omega)
            rw [ha0, ha1, hs1] at hno
            dsimp only at hno
            rw [hs2] at hno
            dsimp only at hno
            rw [hc0, hc1] at hno
            have hact := HT8.out.swap.act (B := V) (by have := HV1.out; omega) hin0 (by omega) (by omega)
            rw [hs1] at hact
            dsimp only at hact
            rw [hc0] at hact
            have HACT := Lib.hid hact
            have hr0 := (hrg wc HT8.out.block).1
            have HR0 := Lib.hid hr0
            have HRG := Lib.hid hrg
            have HIN1 := Lib.hid hin1
            have HS2 := Lib.hid hs2
            have HC1 := Lib.hid hc1
            have HNO := Lib.hid hno
            clear hact hr0 hrg hin1 hs1 hs2 hc0 hc1 hno ha0 ha1 hya0 hya1 hyc0 hyc1 hy0 hy1 hin0 e7
            go_upto_region 26 with (first
              | (refine loadAct rfl (.tmp 170) rfl bs 0 rfl HR0.out ?_)
              | (go_at_call 14; refine HACT.out.mono ?_; rintro z w9 ⟨⟨n, xd, ld, yd, xn, ln, yn, xf, lf, yf, rfl⟩, h⟩; have hst := answer_store w9 c0 n xd xn xf ld yd ln yn lf yf; obtain ⟨w9a, hw9a⟩ : ∃ v, w9.alloc (.cells #[.int .i64 c0, .int .i64 n, .slice xd ld yd, .slice xn ln yn, .slice xf lf yf] tAnswer) = v := ⟨_, rfl⟩; have hb9 : Below w9.heap.size w9 w9a := (by rw [← hw9a]; exact (Below.refl _ _).alloc (Nat.le_refl _) _); have hx9 : w9a.heap[w9.heap.size]? = some (.cells #[.int .i64 c0, .int .i64 n, .slice xd ld yd, .slice xn ln yn, .slice xf lf yf] tAnswer (0, 0)) := (by rw [← hw9a]; exact heap_alloc_new _ _); rw [hw9a] at hst; have hfr := h.fresh (.cells #[.int .i64 c0, .int .i64 n, .slice xd ld yd, .slice xn ln yn, .slice xf lf yf] tAnswer); rw [hw9a] at hfr; have H9 := Lib.hid (h.below hb9); have H9F := Lib.hid hfr; clear h HACT hb9 hx9 hfr))
            try rw [hw9a]
            clear hst hw9a
            obtain ⟨b9, hb9⟩ : ∃ b, w9.heap.size = b := ⟨_, rfl⟩
            have hfr := H9F.out
            rw [hb9] at hfr
            rw [hb9]
            have hact := hfr.act (B := V) (by have := HV1.out; omega) (HIN1.out w9a (H9.out.back.mono (by have := HV1.out; omega))) (by omega) (by omega)
            rw [HS2.out] at hact
            dsimp only at hact
            rw [HC1.out] at hact
            have HACT := Lib.hid hact
            have hr0 := (HRG.out w9a H9.out.block).2
            have HR0 := Lib.hid hr0
            clear hact hr0 hb9 hfr
            go_upto_region 27 with (first
              | (refine loadAct rfl (.tmp 178) rfl bs 7 rfl HR0.out ?_)
              | (go_at_call 14; refine HACT.out.mono ?_; rintro z w10 ⟨⟨n2, xd2, ld2, yd2, xn2, ln2, yn2, xf2, lf2, yf2, rfl⟩, h⟩; have hst := answer_store w10 c1 n2 xd2 xn2 xf2 ld2 yd2 ln2 yn2 lf2 yf2; have ht := h.below ((Below.refl w10.heap.size w10).alloc (Nat.le_refl _) (.cells #[.int .i64 c1, .int .i64 n2, .slice xd2 ld2 yd2, .slice xn2 ln2 yn2, .slice xf2 lf2 yf2] tAnswer)); have g0 := (by rw [cell_of_row _ b9 0 _ _ _ ht.block]; rfl : (w10.alloc (.cells #[.int .i64 c1, .int .i64 n2, .slice xd2 ld2 yd2, .slice xn2 ln2 yn2, .slice xf2 lf2 yf2] tAnswer)).cell? ⟨b9, 0, none⟩ = some (.int .i64 c0)); have H10 := Lib.hid ht; clear h ht HACT))
            clear hst
            by_cases hz0 : c0 = 0
            · have hz1 : ¬ c1 = 0 := fun e => HNO.out ⟨hz0, e⟩
              subst hz0
              go_wp2
              go_meet
              exact H10.out.back
            · go_wp2
              go_meet
              exact H10.out.back
          · go_wp2
            go_meet
            exact HT8.out.back
        case rest =>
          have hb1c := hcut
          have HBC := Lib.hid hb1c
          clear hcut hb1c
          obtain ⟨i0, hi0, hz0, hz1, hz2⟩ := info_parts infoBool
          obtain ⟨k1, hk1, hx0, hx1, hx2⟩ := info_parts infoInt
          have hcc := change_cells (HBOX.out wc (HBC.out.mono HV1.out))
          have e8 := hcc.dirs
          have hfi := HK1.out.fate.below (HBC.out.mono (by have := HV1.out; omega))
          have hd1 := hfi.dirs
          have hndb := hfi.nd_le
          have hnz := hfi.nilD
          have hndl : k.dirs.length = k.nd := by have := hd1.1; simpa using this
          have HD1R := Lib.hid hd1
          have HNZ1 := Lib.hid hnz
          have HNDL := Lib.hid hndl
          have hVc : V + 1 ≤ wc.heap.size := by have := HBC.out.size; have := HV1.out; omega
          have HVC := Lib.hid hVc
          have e8a := (((Below.refl wc.heap.size wc).alloc (Nat.le_refl _) (.cells #[] tBool)).cell (p := ⟨V, 8, none⟩) (show V < wc.heap.size by omega)).trans e8
          clear hcc hfi hd1 hnz hndl hVc
          have hrd : Rd (wc.alloc (.cells #[] tBool)) V 1 k.Ad k.nd (cBool k.dirs) := HD1R.out.below ((Below.refl V wc).alloc (by have := HVC.out; omega) _)
          have HRD := Lib.hid hrd
          clear hrd
          go_upto_region 30 with (at_builtin; refine wpList_append_rd _ rfl (.tmp 191) (.tmp 194) 26 rfl wc.heap.size tBool i0 (.bool false) 1 1 Try.underlying26 hi0 hz0 hz1 hz2 rfl (by decide) (.slice (some ⟨wc.heap.size, 0, none⟩) 0 0) 0 [] rfl (own_new wc (Nat.le_refl _) tBool 1 0 [] rfl (Nat.zero_le _)) V k.Ad k.nd k.cd (cBool k.dirs) rfl HRD.out HNZ1.out (cBool_one _) (by unfold maxLen; omega) (by omega) (by simp) ?_; intro v1 w11 hrow1 hg1; have hb11 : Below wc.heap.size wc w11 := ((Below.refl wc.heap.size wc).alloc (Nat.le_refl _) (.cells #[] tBool)).grown hg1 (by simp) (fun j hj => (by simp [Value.ownBlock] at hj; omega)); rw [Nat.zero_add, List.nil_append] at hrow1; obtain ⟨A1, c1, rfl, hnc1, hcm1⟩ := own_form hrow1; have HROW1 := Lib.hid hrow1; have HB11 := Lib.hid hb11; clear hrow1 hg1 hb11)
          have hm1 : min k.nd np ≤ k.nd := Nat.min_le_left _ _
          obtain ⟨md, hmd⟩ : ∃ x, min k.nd np = x := ⟨_, rfl⟩
          go_upto_if 199 with (fail)
          go_cut [21] from 196 to 202 (fun v wr => (∃ c, v = .slice A1 md c) ∧ w11 = wr)
          case first =>
            by_cases hgt : np < k.nd
            · obtain ⟨g1, rfl⟩ := own_some HROW1.out (by omega)
              have hgt2 : (np : Int) < (k.nd : Int) := by omega
              have hmdn : md = np := by omega
              subst hmdn
              have hq1 : (md : Int) ≤ (c1 : Int) := by omega
              have hq2 : (c1 : Int) ≤ 9223372036854775807 := by unfold maxLen at hcm1; omega
              go_wp2
              go_meet
              exact ⟨⟨_, rfl⟩, rfl⟩
            · have hmdn : md = k.nd := by omega
              subst hmdn
              go_wp2
              go_meet
              exact ⟨⟨_, rfl⟩, rfl⟩
          case rest =>
            obtain ⟨⟨cd', rfl⟩, rfl⟩ := hcut
            have hdr : Rd w11 w11.heap.size 1 A1 md (cBool (k.dirs.take np)) := by
              have h1 := rd_take (m := md) (Rd.of_own HROW1.out) (by omega)
              have h2 : (cBool k.dirs).take md = cBool (k.dirs.take np) := by
                unfold cBool
                rw [← List.map_take]
                congr 1
                rw [← hmd, ← HNDL.out]
                rcases Nat.le_total k.dirs.length np with h | h
                · rw [Nat.min_eq_left h, List.take_length, List.take_of_length_le h]
                · rw [Nat.min_eq_right h]
              rw [h2] at h1
              exact h1
            have HDR := Lib.hid hdr
            have h11 : Below w1.heap.size w1 w11 := HBC.out.trans (HB11.out.mono HBC.out.size)
            have H11 := Lib.hid h11
            have hna : k.na ≤ 1048576 := HK1.out.acts.2.2
            have hnf : k.nf ≤ 1048576 := by have := HK1.out.files.2.2; omega
            clear hdr h11 e8 e8a HROW1
            go_upto_region 34 with (fail)
            go_loopw [22, 23] (fun sv iv wr => ∃ (i s : Nat), iv = .int .i64 (i : Int) ∧ sv = .int .i64 (s : Int) ∧ i ≤ k.na ∧ s ≤ i * 1048576 ∧ bulkA ((k.la.map (·.a)).take i) = s ∧ w11 = wr) (fun _ iv _ => k.na - (intOf iv).toNat)
            case atStart => exact ⟨0, 0, rfl, rfl, by omega, by omega, rfl, rfl⟩
            case round =>
              obtain ⟨i, s, rfl, rfl, hi, hs, hsum, rfl⟩ := hrel
              have e3 := (change_cells (HBOX.out w11 (H11.out.mono HV1.out))).acts
              by_cases hlt : i < k.na
              · obtain ⟨b, o, x, hAa, hbV, hx, hcells⟩ := (HK1.out.acts.below (H11.out.mono (by have := HV1.out; omega))).1.at_ hlt
                have hxin := HK1.out.acts.2.1 x (List.mem_of_getElem? hx)
                have hxl : x.a.data.length = x.n := by simpa using hxin.data.1
                have hxn := hxin.n_le
                have e9 : w11.cell? ⟨b, o + i * 7 + 4, none⟩ = some (.slice x.A x.n x.c) := hcells 4 _ rfl
                have hst := bulkA_take (k.la.map (·.a)) i x.a (by rw [List.getElem?_map, hx]; rfl)
                rw [hsum, hxl] at hst
                have HST := Lib.hid hst
                rw [hAa] at e3
                have hlt2 : (i : Int) < (k.na : Int) := by omega
                clear hcells hx hxin hst
                go_wp2
                go_roundw
                case rel => exact ⟨i + 1, s + x.n, by go_num, by go_num, by omega, by omega, HST.out, by trivial⟩
                case measure => simp [intOf]; omega
              · obtain rfl : k.na = i := by omega
                have hsm : s = most := by
                  rw [← hsum, ← HMOST.out, List.take_of_length_le (by have := HK1.out.acts.1.1; simp; omega)]
                subst hsm
                go_upto_region 38 with (fail)
                have hsb : s ≤ 1099511627776 := by omega
                clear e3 hsum hlt hi hs
                obtain ⟨L, hLL⟩ : ∃ L, k.nf + k.na + 1 = L := ⟨_, rfl⟩
                have HLL := Lib.hid hLL
                clear hLL
                go_loopw [24] (fun jv wr => ∃ j : Nat, jv = .int .i64 (j : Int) ∧ j ≤ k0 ∧ Below w11.heap.size w11 wr) (fun jv _ => k0 + 1 - (intOf jv).toNat)
                case atStart => exact ⟨0, rfl, by omega, Below.refl _ _⟩
                case round =>
                  obtain ⟨j, rfl, hj, hbj⟩ := hrel
                  obtain ⟨wo, rfl⟩ : ∃ wo : World, wo = wr := ⟨_, rfl⟩
                  have hjm : (j : Int) ≤ (s : Int) := by omega
                  have hbo : Below w1.heap.size w1 wo := H11.out.trans (hbj.mono H11.out.size)
                  have HBO := Lib.hid hbo
                  have HBJ := Lib.hid hbj
                  have hst := (change_cells (HBOX.out wo (hbo.mono HV1.out))).start
                  have HST := Lib.hid hst
                  have hfl := HK1.out.files.below (hbo.mono (show V ≤ w1.heap.size by have := HV1.out; omega))
                  have HFLS := Lib.hid hfl
                  clear hbo hbj hst hfl
                  go_upto_region 41 with (first
                    | (refine wpList_load_mid rfl tStart (.tmp 225) rfl V 0 rfl [.int .i64 k.how, .int .i64 k.room, .slice k.Af k.nf k.cf] _ HST.out Try.underlying24 rfl (by kernel_rfl) ?_)
                    | (go_at_call 12; refine (made_any (how := k.how) (room := k.room) HFLS.out (by have := HV1.out; have := HBO.out.size; omega)).mono ?_; rintro x w12 hmade; obtain ⟨p2, hx, hp2⟩ := hmade.ptr; subst hx; have HP2 := Lib.hid hp2; clear hp2 hmade))
                  obtain ⟨hb12, hp2⟩ := HP2.out
                  rcases hp2 with ⟨hn, _⟩ | ⟨D', q, hD', rfl, hown2⟩
                  · rw [HDD.out] at hn; cases hn
                  rw [HDD.out] at hD'
                  injection hD' with hD'
                  subst hD'
                  have hb112 : Below w1.heap.size w1 w12 := HBO.out.trans (hb12.mono HBO.out.size)
                  have e3 := (change_cells (HBOX.out w12 (hb112.mono HV1.out))).acts
                  have hpl := hown2.played (B := V) (c := k.ca) (by have := HV1.out; have := HBO.out.size; omega) (HK1.out.acts.below (hb112.mono (by have := HV1.out; omega))) (by omega) (by omega)
                  rw [HD1.out] at hpl
                  have HPL := Lib.hid hpl
                  clear hpl hown2 hb12 hb112 HP2
                  go_upto_region 44 with (go_at_call 27; refine HPL.out.mono ?_; rintro x w13 ⟨rfl, h⟩; have H13 := Lib.hid h; clear h HPL)
                  go_loopw [27, 28] (fun cv iv wr => ∃ i : Nat, iv = .int .i64 (i : Int) ∧ i ≤ L ∧ wr.ownsRow w13.heap.size tInt 1 cv i (cInt (List.replicate i (j : Int))) ∧ Below w13.heap.size w13 wr) (fun _ iv _ => L - (intOf iv).toNat)
                  case atStart => exact ⟨0, rfl, by omega, World.ownsRow_nil _ _ _ _, Below.refl _ _⟩
                  case round =>
                    obtain ⟨i, rfl, hi, hrow, hb⟩ := hrel
                    have hb1 : Below w1.heap.size w1 wr := HBO.out.trans ((H13.out.back.trans (hb.mono H13.out.back.size)).mono HBO.out.size)
                    have hcc := change_cells (HBOX.out wr (hb1.mono HV1.out))
                    have e2 := hcc.files
                    have e3 := hcc.acts
                    have e5 := hcc.name
                    have hll := HLL.out
                    clear hcc
                    by_cases hlt : i < L
                    · have hlt2 : (i : Int) < (k.nf : Int) + (k.na : Int) + 1 := by omega
                      have HROW := Lib.hid (own_alloc hrow (.cells #[.int .i64 (j : Int)] 3))
                      have HB := Lib.hid (hb.alloc hb.size (.cells #[.int .i64 (j : Int)] 3))
                      clear hrow hb hb1
                      go_wp2_with (at_builtin; refine wpList_append_own _ rfl (.tmp 247) (.tmp 249) 27 rfl w13.heap.size tInt k1 (.int .i64 0) 1 8 Try.underlying27 hk1 hx0 hx1 hx2 rfl (by decide) _ _ _ rfl HROW.out ⟨wr.heap.size, 0, none⟩ 1 1 [.int .i64 (j : Int)] rfl rfl (cell_one_new _ _ _) (by simp [Value.oneCell']) (by unfold maxLen; omega) (by omega) HB.out.size ?_; intro v2 w14 hrow3 hg3 _; have HROW3 := Lib.hid hrow3; have HB3 := Lib.hid (HB.out.grown hg3 HB.out.size (fun j hj => own_ge HROW.out hj)); clear hrow3 hg3)
                      go_roundw
                      case rel => exact ⟨i + 1, by go_num, by omega, by rw [← cInt_replicate]; exact HROW3.out, HB3.out⟩
                      case measure => simp [intOf]; omega
                    · obtain rfl : i = L := by omega
                      obtain ⟨AC, cC, rfl, _, _⟩ := own_form hrow
                      obtain ⟨Gq, hGq⟩ : ∃ G, D1.crash (k.dirs.take np) (List.replicate i (j : Int)) = G := ⟨_, rfl⟩
                      have hbw : Below w11.heap.size w11 wr := HBJ.out.trans ((H13.out.back.trans (hb.mono H13.out.back.size)).mono HBJ.out.size)
                      have hcr := own_crash2 (cd := cd') H13.out hb (by omega) (by omega) ((HDR.out.below hbw).more HBJ.out.size) hrow (fun x hx => by rw [List.mem_replicate] at hx; omega) hGq
                      have HCR := Lib.hid hcr
                      have HGQ := Lib.hid hGq
                      have HB := Lib.hid hb
                      have HB1 := Lib.hid hb1
                      have hlt2 : ¬ (i : Int) < (k.nf : Int) + (k.na : Int) + 1 := by omega
                      clear hrow hb hb1 hbw hcr hGq
                      go_upto_region 49 with (first
                        | (go_at_call 16; refine HCR.out.mono ?_; rintro x w15 ⟨rfl, h⟩; have H15 := Lib.hid h; clear h HCR)
                        | (go_at_call 18; refine (num_any 0 _).mono ?_; rintro x w16 ⟨rfl, rfl⟩))
                      obtain ⟨fq, hfq⟩ : ∃ f, Gq.image = f := ⟨_, rfl⟩
                      obtain ⟨nq, hnq⟩ : ∃ n, fq.length = n := ⟨_, rfl⟩
                      have hnqb : nq ≤ 2097152 := by rw [← hnq, ← hfq, image_len]; exact H15.out.ok.lenN
                      have HFQ := Lib.hid hfq
                      have HNQ := Lib.hid hnq
                      obtain ⟨R2, hR2⟩ : ∃ R, told? (find fq k.name) = R := ⟨_, rfl⟩
                      have HR2 := Lib.hid hR2
                      have hb15 : Below w1.heap.size w1 w15 := HBO.out.trans (H15.out.back.mono HBO.out.size)
                      have e5 := (change_cells (HBOX.out w15 (hb15.mono HV1.out))).name
                      have d5 : w15.drew.cell? ⟨V, 5, none⟩ = _ := e5
                      have hVl : V < w15.heap.size := by have := hb15.size; have := HV1.out; omega
                      have HB15 := Lib.hid hb15
                      clear hfq hnq hR2 hb15 e2 e3
                      go_region_held3 (fun W => W.cell? ⟨V, 5, none⟩ = some (encStr k.name))
                        (first
                          | go_keep
                          | assumption)
                        (first
                          | (go_at_call 20; refine (image_form (w := w15.drew) (H15.out.below (Below.refl _ _).drew).dv (by omega) (by omega) HFQ.out HNQ.out).mono ?_; rintro x w17 ⟨Ai, ci, dvi, rfl, hf, hb⟩; have hbb : Below w15.heap.size w15 w17 := (Below.refl _ _).drew.trans hb; have k5 := (hbb.cell (p := ⟨V, 5, none⟩) hVl).trans e5; have HF := Lib.hid hf; have HB17 := Lib.hid hbb; clear hf hb hbb)
                          | (go_at_call 40; refine (content_any (HF.out.rd HNQ.out) (by omega) k.name).mono ?_; rw [HR2.out]; rintro x w18 ⟨rfl, rfl⟩))
                      obtain ⟨rx2, rb2⟩ := R2
                      obtain ⟨X2, hX2⟩ : ∃ X : ByteArray, (⟨rx2.toArray⟩ : ByteArray) = X := ⟨_, rfl⟩
                      go_upto_region 50 with (fail)
                      rw [show encStr rx2 = .string X2 by rw [← hX2]]
                      have hX := HXX.out
                      have hfin : Below w11.heap.size w11 w17 := HBJ.out.trans ((H15.out.back.trans (HB17.out.mono H15.out.back.size)).mono HBJ.out.size)
                      have HFIN := Lib.hid hfin
                      have hend : Below V w w17 := HBW1.out.trans ((HB15.out.trans (HB17.out.mono HB15.out.size)).mono (by have := HV1.out; omega))
                      have HEND := Lib.hid hend
                      clear hfin hend e5 d5
                      by_cases hsame : rx2 = rx ∧ rb2 = rb
                      · obtain ⟨h1, h2⟩ := hsame
                        have hXX2 : X2 = X := by rw [← hX2, ← hX, h1]
                        rw [hXX2, h2]
                        clear hX hX2 h1 h2 hXX2
                        cases rb
                        all_goals (
                          go_wp2
                          go_ret
                          exact ⟨rfl, HEND.out⟩)
                      · have hjk : j ≠ k0 := fun e => hsame (by
                          subst e
                          have h1 := HFD.out
                          rw [HLL.out, HGQ.out, HFQ.out] at h1
                          have h2 := HR.out
                          rw [h1, HR2.out] at h2
                          exact ⟨congrArg Prod.fst h2, congrArg Prod.snd h2⟩)
                        have hjk2 : j + 1 ≤ k0 := by omega
                        by_cases hx : rx2 = rx
                        · have hXX2 : X2 = X := by rw [← hX2, ← hX, hx]
                          rw [hXX2]
                          have hrb : rb2 = !rb := by
                            cases rb2 <;> cases rb
                            · exact absurd ⟨hx, rfl⟩ hsame
                            · rfl
                            · rfl
                            · exact absurd ⟨hx, rfl⟩ hsame
                          rw [hrb]
                          clear hX hX2 hXX2 hrb hsame hx hjk
                          cases rb
                          · go_wp2
                            go_roundw
                            case rel => exact ⟨j + 1, by go_num, by omega, HFIN.out⟩
                            case measure => simp [intOf]; omega
                          · go_wp2
                            go_roundw
                            case rel => exact ⟨j + 1, by go_num, by omega, HFIN.out⟩
                            case measure => simp [intOf]; omega
                        · have hbe : (X2.toList == X.toList) = false := by rw [← hX2, ← hX]; exact text_ne hx
                          clear hX hX2 hsame hx hjk
                          go_wp2
                          go_roundw
                          case rel => exact ⟨j + 1, by go_num, by omega, HFIN.out⟩
                          case measure => simp [intOf]; omega
end Go.Proofs.Ytelgcmcnebncmaa.Dr
