/- The walk of DriveKeeps. -/
import Derived.Test.YtelgcmcnebncmaaL8
namespace Go.Proofs.Ytelgcmcnebncmaa.Dr
open Go.RowKit Go.Proofs Go.Proofs.Ytelgcmcnebncmaa.Ring

set_option maxRecDepth 100000 in
set_option maxHeartbeats 8000000 in
theorem keeps_any (k : Kv) (w : World) (hk : k.In w w.heap.size) : Calls Try.prog 4 #[.agg k.cells.toArray] w fun x w' => x = .returned (.bool true) ∧ Below w.heap.size w w' := by
  obtain ⟨V, hV⟩ : ∃ V, w.heap.size = V := ⟨_, rfl⟩
  rw [hV] at hk ⊢
  have HK := Lib.hid hk
  clear hk
  go_enter Try.func4, Try.ntmps4
  go_upto_region 1 with (fail)
  obtain ⟨w0, hw0⟩ : ∃ w0, w.alloc (.cells k.cells.toArray tKeep) = w0 := ⟨_, rfl⟩
  have hA0 : w0.heap[V]? = some (.cells k.cells.toArray tKeep (0, 0)) := by
    rw [← hw0, ← hV]
    exact heap_alloc_new _ _
  have hb0 : Below V w w0 := by
    rw [← hw0, ← hV]
    exact (Below.refl _ _).alloc (Nat.le_refl _) _
  have hs0 : w0.heap.size = V + 1 := by rw [← hw0, ← hV]; simp
  rw [hw0]
  clear hw0 hV
  have HA0 := Lib.hid hA0
  have HB0 := Lib.hid hb0
  have HS0 := Lib.hid hs0
  clear hA0 hb0 hs0
  go_upto_region 2 with (go_at_call 25; refine (awake_any w0).mono ?_; rintro x w1 ⟨rfl, hb1⟩; have HB1 := Lib.hid hb1; clear hb1)
  have hbw1 : Below V w w1 := HB0.out.trans (HB1.out.mono (by have := HS0.out; omega))
  have hbox : ∀ wr, Below (V + 1) w1 wr → wr.rangeAt V 0 k.cells := fun wr hb => keep_box (((hb.block V (by have := HB1.out.size; have := HS0.out; omega)).trans (HB1.out.block V (by have := HS0.out; omega))).trans HA0.out)
  have hV1 : V + 1 ≤ w1.heap.size := by have := HB1.out.size; have := HS0.out; omega
  have hk1 : k.In w1 V := HK.out.below hbw1
  have HBW1 := Lib.hid hbw1
  have HBOX := Lib.hid hbox
  have HV1 := Lib.hid hV1
  have HK1 := Lib.hid hk1
  clear hbw1 hbox hV1 hk1 HK HA0 HB0 HB1 HS0
  have hst : w1.rangeAt V 0 [.int .i64 k.how, .int .i64 k.room, .slice k.Af k.nf k.cf] := by
    intro j v hv
    refine HBOX.out w1 (Below.refl _ _) j v ?_
    match j, hv with
    | 0, hv => exact hv
    | 1, hv => exact hv
    | 2, hv => exact hv
    | j + 3, hv => cases hv
  have HST := Lib.hid hst
  clear hst
  go_upto_region 5 with (first
    | (refine wpList_load_mid rfl tStart (.tmp 16) rfl V 0 rfl [.int .i64 k.how, .int .i64 k.room, .slice k.Af k.nf k.cf] _ HST.out Try.underlying24 rfl (by kernel_rfl) ?_)
    | (go_at_call 12; refine (made_any (how := k.how) (room := k.room) HK1.out.files (by have := HV1.out; omega)).mono ?_; rintro x w2 hmade; obtain ⟨p, hx, hp⟩ := hmade.ptr; subst hx; have HP := Lib.hid hp; clear hp hmade))
  obtain ⟨hb2, hp⟩ := HP.out
  obtain ⟨_, e4, e5, _, _⟩ := keep_cells (HBOX.out w2 (hb2.mono HV1.out))
  have HB2 := Lib.hid hb2
  clear hb2 HST HP
  rcases hp with ⟨_, rfl⟩ | ⟨D, d, hD, rfl, hown⟩
  · clear HBOX
    go_wp2_with (go_at_call 26; refine (lnamed_any k.name _).mono ?_; rintro x w3 ⟨rfl, rfl⟩)
    go_ret
    exact ⟨rfl, HBW1.out.trans (HB2.out.mono (by have := HV1.out; omega))⟩
  cases hnm : Dr.named k.name with
  | false =>
    have HN := Lib.hid hnm
    clear HBOX hnm hown hD
    go_wp2_with (go_at_call 26; refine (lnamed_any k.name _).mono ?_; rw [HN.out]; rintro x w3 ⟨rfl, rfl⟩)
    go_ret
    exact ⟨rfl, HBW1.out.trans (HB2.out.mono (by have := HV1.out; omega))⟩
  | true =>
    have HN := Lib.hid hnm
    have HOWN := Lib.hid hown
    clear hnm hown hD
    go_upto_region 10 with (go_at_call 26; refine (lnamed_any k.name _).mono ?_; rw [HN.out]; rintro x w3 ⟨rfl, rfl⟩)
    have e3 : w2.cell? ⟨V, 3, none⟩ = some (.slice k.Aa k.na k.ca) := by assumption
    clear e4 e5
    go_upto_region 11 with (go_at_call 27; refine (HOWN.out.played (B := V) (by have := HV1.out; omega) (HK1.out.acts.below (HB2.out.mono (by have := HV1.out; omega))) (by omega) (by omega)).mono ?_; rintro x w3 ⟨rfl, h⟩; have H3 := Lib.hid h; clear h)
    obtain ⟨D1, hD1⟩ : ∃ D1, plays D (k.la.map (·.a)) = D1 := ⟨_, rfl⟩
    rw [hD1] at H3
    clear hD1 e3
    obtain ⟨D2, e, hr⟩ : ∃ D2 e, D1.create k.name = (D2, e) := ⟨_, _, rfl⟩
    have HR := Lib.hid hr
    clear hr
    by_cases he : e = 0
    case neg =>
      clear HBOX
      go_wp2_with (first
        | (go_at_call 28; refine (H3.out.create (by omega) k.name HR.out).mono ?_; rintro x w4 ⟨rfl, h⟩; have H4 := Lib.hid h; clear h)
        | (go_at_call 18; refine (num_any e _).mono ?_; rintro x w5 ⟨rfl, rfl⟩))
      go_ret
      exact ⟨rfl, HBW1.out.trans (H4.out.back.mono (by have := HV1.out; omega))⟩
    subst he
    obtain ⟨D3, e, hr2⟩ : ∃ D3 e, D2.append k.name k.data = (D3, e) := ⟨_, _, rfl⟩
    have HR2 := Lib.hid hr2
    clear hr2
    have hdat : ∀ wr, Below (V + 1) w1 wr → Rd wr wr.heap.size 1 k.Ax k.nx (cU8 k.data) := fun wr hb => (HK1.out.data.below (hb.mono (by omega))).more (by have := hb.size; have := HV1.out; omega)
    have HDAT := Lib.hid hdat
    have hnx := HK1.out.n_le
    clear hdat
    by_cases he : e = 0
    case neg =>
      clear HBOX
      go_wp2_with (first
        | (go_at_call 28; refine (H3.out.create (by omega) k.name HR.out).mono ?_; rintro x w4 ⟨rfl, h⟩; have H4 := Lib.hid h; clear h)
        | (go_at_call 29; refine (H4.out.append k.name (HDAT.out _ (H4.out.back.mono HV1.out)) (by omega) HR2.out).mono ?_; rintro x w4 ⟨rfl, h⟩; have H5 := Lib.hid h; clear h)
        | (go_at_call_of 18 e; refine (num_any e _).mono ?_; rintro x w5 ⟨rfl, rfl⟩)
        | (go_at_call 18; refine (num_any 0 _).mono ?_; rintro x w5 ⟨rfl, rfl⟩))
      go_ret
      exact ⟨rfl, HBW1.out.trans (H5.out.back.mono (by have := HV1.out; omega))⟩
    subst he
    go_upto_region 13 with (first
      | (go_at_call 28; refine (H3.out.create (by omega) k.name HR.out).mono ?_; rintro x w4 ⟨rfl, h⟩; have H4 := Lib.hid h; clear h)
      | (go_at_call 29; refine (H4.out.append k.name (HDAT.out _ (H4.out.back.mono HV1.out)) (by omega) HR2.out).mono ?_; rintro x w4 ⟨rfl, h⟩; have H5 := Lib.hid h; clear h)
      | (go_at_call 18; refine (num_any 0 _).mono ?_; rintro x w5 ⟨rfl, rfl⟩))
    have hfirm := Dr.D.firm_of (d := D1) (x := k.data) H3.out.ok HN.out (by rw [HR.out]) (by rw [HR.out]; show (D2.append k.name k.data).2 = 0; rw [HR2.out])
    rw [HR.out] at hfirm
    change ((((D2.append k.name k.data).1.sync k.name).2 = 0) ∧ (((D2.append k.name k.data).1.sync k.name).1.syncDir).Firm k.name k.data) at hfirm
    rw [HR2.out] at hfirm
    obtain ⟨D4, e, hr3⟩ : ∃ D4 e, D3.sync k.name = (D4, e) := ⟨_, _, rfl⟩
    change (((D3.sync k.name).2 = 0) ∧ ((D3.sync k.name).1.syncDir).Firm k.name k.data) at hfirm
    rw [hr3] at hfirm
    obtain ⟨he, hfirm⟩ := hfirm
    change e = 0 at he
    subst he
    obtain ⟨D5, hD5⟩ : ∃ D5, D4.syncDir = D5 := ⟨_, rfl⟩
    change D4.syncDir.Firm k.name k.data at hfirm
    rw [hD5] at hfirm
    have HR3 := Lib.hid hr3
    have HD5 := Lib.hid hD5
    have HFM := Lib.hid hfirm
    clear hr3 hD5 hfirm
    go_upto_region 15 with (first
      | (go_at_call 30; refine (H5.out.sync k.name HR3.out).mono ?_; rintro x w6 ⟨rfl, h⟩; have H6 := Lib.hid h; clear h)
      | (go_at_call 31; refine (H6.out.syncDir HD5.out).mono ?_; rintro x w7 ⟨rfl, h⟩; have H7 := Lib.hid h; clear h)
      | (go_at_call 18; refine (num_any 0 _).mono ?_; rintro x w5 ⟨rfl, rfl⟩))
    obtain ⟨m7, hm7⟩ : ∃ m7, 1099511627776 + 1099511627776 + k.nx = m7 := ⟨_, rfl⟩
    obtain ⟨N7, hN7⟩ : ∃ N7, 1048576 + 1048576 + 1 = N7 := ⟨_, rfl⟩
    rw [hm7, hN7] at H7
    have hm8 : m7 ≤ 4398046511104 := by omega
    have hN8 : N7 ≤ 4194304 := by omega
    clear hm7 hN7 HR HR2 HR3 HD5 H3 H4 H5 H6 HOWN HN
    have hnm := HK1.out.more.2.2
    go_upto_region 16 with (fail)
    go_loopw [9] (fun iv wr => ∃ (i : Nat) (D : Dr.D), iv = .int .i64 (i : Int) ∧ i ≤ k.nm ∧ Own w1 wr d D (m7 + i * 1048576) (N7 + i) ∧ D.Firm k.name k.data) (fun iv _ => k.nm - (intOf iv).toNat)
    case atStart => exact ⟨0, D5, rfl, by omega, by simpa using H7.out, HFM.out⟩
    case round =>
      obtain ⟨i, Di, rfl, hi, hown, hfirm⟩ := hrel
      have hbw : Below (V + 1) w1 wr := hown.back.mono HV1.out
      obtain ⟨_, _, _, e6, _⟩ := keep_cells (HBOX.out wr hbw)
      by_cases hlt : i < k.nm
      · obtain ⟨b, o, x, hAm, hbB, hx, hcells⟩ := (HK1.out.more.below (hbw.mono (by omega))).1.at_ hlt
        have hxin := (HK1.out.more.below (hbw.mono (by omega))).2.1 x (List.mem_of_getElem? hx)
        have hok := hown.ok
        have hlt2 : (i : Int) < (k.nm : Int) := by omega
        have HXIN := Lib.hid hxin
        have HC := Lib.hid hcells
        have HOWN := Lib.hid hown
        have HFI := Lib.hid hfirm
        have HBW := Lib.hid hbw
        rw [hAm] at e6
        have HAM := Lib.hid hAm
        clear hxin hcells hx hown hfirm hbw hAm hok
        cases htc : touches x.a k.name with
        | true =>
          have HT := Lib.hid htc
          clear htc
          go_wp2_with (first
            | (refine loadAct rfl (.tmp 76) rfl b (o + i * 7) rfl HC.out ?_)
            | (go_at_call 32; refine (touches_any x k.name _).mono ?_; rw [HT.out]; rintro y w8 ⟨rfl, hb8⟩; have HB8 := Lib.hid hb8; clear hb8))
          have HO8 := Lib.hid (HOWN.out.below HB8.out)
          go_roundw
          case rel => exact ⟨i + 1, Di, by go_num, by omega, HO8.out.mono (by omega) (by omega), HFI.out⟩
          case measure => simp [intOf]; omega
        | false =>
          have HT := Lib.hid htc
          clear htc
          have hfn := HFI.out.step HOWN.out.ok HT.out
          have HFN := Lib.hid hfn
          clear hfn
          go_upto_region 19 with (first
            | (refine loadAct rfl (.tmp 76) rfl b (o + i * 7) rfl HC.out ?_)
            | (go_at_call 32; refine (touches_any x k.name _).mono ?_; rw [HT.out]; rintro y w8 ⟨rfl, hb8⟩; have HB8 := Lib.hid hb8; clear hb8))
          have HO8 := Lib.hid (HOWN.out.below HB8.out)
          have hbw8 : Below (V + 1) w1 w8 := HO8.out.back.mono HV1.out
          obtain ⟨_, _, _, g6, _⟩ := keep_cells (HBOX.out w8 hbw8)
          have hc8 : w8.rangeAt b (o + i * 7) x.cells := fun j v hv => (HB8.out.cell (p := ⟨b, o + i * 7 + j, none⟩) (show b < wr.heap.size by have := HBW.out.size; have := HV1.out; omega)).trans (HC.out j v hv)
          have HC8 := Lib.hid hc8
          rw [HAM.out] at g6
          clear hc8 hbw8 e6
          have hi5 : i * 1048576 ≤ 1099511627776 := by omega
          go_upto_region 20 with (first
            | (refine loadAct rfl (.tmp 85) rfl b (o + i * 7) rfl HC8.out ?_)
            | (go_at_call 14; refine (HO8.out.act (B := V) (by have := HV1.out; omega) (ActIn.below HXIN.out (HB8.out.mono (by have := HBW.out.size; have := HV1.out; omega))) (by omega) (by omega)).mono ?_; rintro y w9 ⟨_, _, _, _, rfl, _, h⟩; have HO9 := Lib.hid h; clear h))
          have t1 := run_text (P := Try.prog) w9 35 9 5 Try.underlying35 Try.underlying5 Try.underlying9 k.cx (HDAT.out w9 (HO9.out.back.mono HV1.out))
          obtain ⟨j, hj1, hj2, _⟩ := HFN.out.look
          have HJ1 := Lib.hid hj1
          have HJ2 := Lib.hid hj2
          clear hj1 hj2
          go_wp2_with (go_at_call 33; refine (HO9.out.shows (by omega) HJ1.out HJ2.out).mono ?_; rintro y w10 ⟨rfl, h⟩; have HO10 := Lib.hid h; clear h)
          clear t1
          go_roundw
          case rel => exact ⟨i + 1, _, by go_num, by omega, HO10.out.mono (by omega) (by omega), HFN.out⟩
          case measure => simp [intOf]; omega
      · obtain rfl : k.nm = i := by omega
        have hi5 : k.nm * 1048576 ≤ 1099511627776 := by omega
        obtain ⟨_, _, _, _, e7⟩ := keep_cells (HBOX.out wr hbw)
        have hfa : FateIn wr w1.heap.size k.dirs k.cuts k.Ad k.nd k.cd k.Au k.nu k.cu := ((HK1.out.below (hbw.mono (by omega))).fate).more (by have := HV1.out; omega)
        have hcr := hfirm.crash hown.ok k.dirs k.cuts
        have HE7 := Lib.hid e7
        have HFA := Lib.hid hfa
        have HOWN := Lib.hid hown
        have HCR := Lib.hid hcr
        have hpe : (Di.crash k.dirs k.cuts).pend.length = 0 := rfl
        obtain ⟨D9, hD9⟩ : ∃ D9, Di.crash k.dirs k.cuts = D9 := ⟨_, rfl⟩
        rw [hD9] at hpe HCR
        have HD9 := Lib.hid hD9
        have HPE := Lib.hid hpe
        clear e7 hfa hown hcr hfirm hbw hD9 hpe
        obtain ⟨j, hj1, hj2, hj3⟩ := HCR.out.look
        have hj4 : ((D9.at j).data.length : Int) - (D9.at j).safe = 0 := by rw [hj3, hj2]; omega
        have HJ1 := Lib.hid hj1
        have HJ2 := Lib.hid hj2
        have HJ4 := Lib.hid hj4
        clear hj1 hj2 hj3 hj4 e6
        go_upto_region 24 with (first
          | (refine wpList_load_mid rfl 29 (.tmp 95) rfl V 7 rfl [.slice k.Ad k.nd k.cd, .slice k.Au k.nu k.cu] _ HE7.out Try.underlying29 rfl (by kernel_rfl) ?_)
          | (go_at_call 16; refine (HOWN.out.crash (by omega) (by omega) HFA.out HD9.out).mono ?_; rintro y w11 ⟨rfl, h⟩; have H11 := Lib.hid h; clear h; have t1 := run_text (P := Try.prog) w11 35 9 5 Try.underlying35 Try.underlying5 Try.underlying9 k.cx (HDAT.out w11 (H11.out.back.mono HV1.out)))
          | (go_at_call 18; refine (num_any 0 _).mono ?_; rintro x w5 ⟨rfl, rfl⟩)
          | (go_at_call 33; refine (H11.out.shows (by omega) HJ1.out HJ2.out).mono ?_; rintro y w12 ⟨rfl, h⟩; have H12 := Lib.hid h; clear h))
        clear t1
        go_upto_region 25 with (go_at_call 34; refine (H12.out.loose (by omega) k.name HJ1.out HJ4.out).mono ?_; rintro y w13 ⟨rfl, h⟩; have H13 := Lib.hid h; clear h)
        go_wp2_with (first
          | (go_at_call 18; refine (num_any 0 _).mono ?_; rintro x w5 ⟨rfl, rfl⟩)
          | (go_at_call 22; refine (H13.out.pending HPE.out).mono ?_; rintro x w5 ⟨rfl, rfl⟩))
        go_ret
        exact ⟨rfl, HBW1.out.trans (H13.out.back.mono (by have := HV1.out; omega))⟩
end Go.Proofs.Ytelgcmcnebncmaa.Dr
