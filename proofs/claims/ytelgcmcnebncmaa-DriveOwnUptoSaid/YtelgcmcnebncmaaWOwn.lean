/- The walk of DriveOwn. -/
import Derived.Test.YtelgcmcnebncmaaAnsRows
import Derived.Test.YtelgcmcnebncmaaWApTwo
namespace Go.Proofs.Ytelgcmcnebncmaa.Ap
set_option linter.unusedVariables false
open Go.RowKit Go.Proofs Go.Deep Go.Proofs.Ytelgcmcnebncmaa.Dr Go.Proofs.Ytelgcmcnebncmaa.Ring

theorem beside_played {w0 wh w : World} {lo d m N : Nat} {D : Dr.D} (h : Beside w0 wh w lo d D m N) {B : Nat} (hB : B ≤ w0.heap.size) {A : Option Addr} {n c : Nat} {l : List Av} (ha : Acts w B A n l) (hm : m ≤ 35184372088832) (hN : N ≤ 17592186044) :
    Calls Try.prog 27 #[.pointer (some ⟨d, 0, none⟩), .slice A n c] w fun x w' => x = .returned (.tuple #[]) ∧ Beside w0 wh w' lo d (plays D (l.map (·.a))) (m + 1099511627776) (N + 1048576) := by
  have hs := h.own.back.size
  exact h.call fun S hD hS => played_any hD (Nat.le_trans hB hs) (fun k hk => Nat.le_trans hB (hS k hk)) ha hm hN
set_option maxRecDepth 100000 in
set_option maxHeartbeats 8000000 in
theorem own_any (k : Kv) (w : World) (hk : k.In w w.heap.size) : Calls Try.prog 8 #[.agg k.cells.toArray] w fun x w' => x = .returned (.bool true) ∧ Below w.heap.size w w' := by
  obtain ⟨V, hV⟩ : ∃ V, w.heap.size = V := ⟨_, rfl⟩
  rw [hV] at hk ⊢
  have HK := Lib.hid hk
  clear hk
  go_enter Try.func8, Try.ntmps8
  go_upto_region 1 with (fail)
  obtain ⟨w0, hw0⟩ : ∃ w0, w.alloc (.cells k.cells.toArray tKeep) = w0 := ⟨_, rfl⟩
  have hA0 : w0.heap[V]? = some (.cells k.cells.toArray tKeep (0, 0)) := by
    rw [← hw0, ← hV]
    exact heap_alloc_new _ _
  have hb0 : Below V w w0 := by
    rw [← hw0, ← hV]
    exact (Below.refl _ _).alloc (Nat.le_refl _) _
  have hs0 : w0.heap.size = V + 1 := by rw [← hw0, ← hV]; simp
  rw [hw0]
  clear hw0 hV
  have HA0 := Lib.hid hA0
  have HB0 := Lib.hid hb0
  have HS0 := Lib.hid hs0
  clear hA0 hb0 hs0
  go_upto_region 2 with (go_at_call 25; refine (awake_any w0).mono ?_; rintro x w1 ⟨rfl, hb1⟩; have HB1 := Lib.hid hb1; clear hb1)
  have hbw1 : Below V w w1 := HB0.out.trans (HB1.out.mono (by have := HS0.out; omega))
  have hbox : ∀ wr, Below (V + 1) w1 wr → wr.rangeAt V 0 k.cells := fun wr hb => keep_box (((hb.block V (by have := HB1.out.size; have := HS0.out; omega)).trans (HB1.out.block V (by have := HS0.out; omega))).trans HA0.out)
  have hV1 : V + 1 ≤ w1.heap.size := by have := HB1.out.size; have := HS0.out; omega
  have hk1 : k.In w1 V := HK.out.below hbw1
  have HBW1 := Lib.hid hbw1
  have HBOX := Lib.hid hbox
  have HV1 := Lib.hid hV1
  have HK1 := Lib.hid hk1
  clear hbw1 hbox hV1 hk1 HK HA0 HB0 HB1 HS0
  have hst : w1.rangeAt V 0 [.int .i64 k.how, .int .i64 k.room, .slice k.Af k.nf k.cf] := by
    intro j v hv
    refine HBOX.out w1 (Below.refl _ _) j v ?_
    match j, hv with
    | 0, hv => exact hv
    | 1, hv => exact hv
    | 2, hv => exact hv
    | j + 3, hv => cases hv
  have HST := Lib.hid hst
  clear hst
  go_upto_region 5 with (first
    | (refine wpList_load_mid rfl tStart (.tmp 16) rfl V 0 rfl [.int .i64 k.how, .int .i64 k.room, .slice k.Af k.nf k.cf] _ HST.out Try.underlying24 rfl (by kernel_rfl) ?_)
    | (go_at_call 12; refine (made_any (how := k.how) (room := k.room) HK1.out.files (by have := HV1.out; omega)).mono ?_; rintro x w2 hmade; obtain ⟨p, hx, hp⟩ := hmade.ptr; subst hx; have HP := Lib.hid hp; clear hp hmade))
  obtain ⟨hb2, hp⟩ := HP.out
  obtain ⟨e3, _, _, _, _⟩ := keep_cells (HBOX.out w2 (hb2.mono HV1.out))
  have HB2 := Lib.hid hb2
  clear hb2 HST HP
  rcases hp with ⟨_, rfl⟩ | ⟨D, d, hD, rfl, hown⟩
  · clear HBOX
    go_wp2
    go_ret
    exact ⟨rfl, HBW1.out.trans (HB2.out.mono (by have := HV1.out; omega))⟩
  have HOWN := Lib.hid hown
  clear hown hD
  go_upto_region 8 with (go_at_call 27; refine (HOWN.out.played (B := V) (by have := HV1.out; omega) (HK1.out.acts.below (HB2.out.mono (by have := HV1.out; omega))) (by omega) (by omega)).mono ?_; rintro x w3 ⟨rfl, h⟩; have H3 := Lib.hid h; clear h)
  obtain ⟨D1, hD1⟩ : ∃ D1, plays D (k.la.map (·.a)) = D1 := ⟨_, rfl⟩
  rw [hD1] at H3
  obtain ⟨m, hm⟩ : ∃ m, 1099511627776 + 1099511627776 = m := ⟨_, rfl⟩
  obtain ⟨N, hN⟩ : ∃ N, 1048576 + 1048576 = N := ⟨_, rfl⟩
  rw [hm, hN] at H3
  have hmb : m ≤ 4398046511104 := by omega
  have hNb : N ≤ 4194304 := by omega
  clear hD1 hm hN HOWN e3
  obtain ⟨z1, z2, z3, z4, z5, z6⟩ := image_size H3.out.ok
  obtain ⟨db, hdb⟩ : ∃ b, dataOf D1 k.name = b := ⟨_, rfl⟩
  obtain ⟨ns, hns⟩ : ∃ b, D1.now.map (·.1) = b := ⟨_, rfl⟩
  obtain ⟨fs, hfs⟩ : ∃ b, D1.image = b := ⟨_, rfl⟩
  obtain ⟨gs, hgs⟩ : ∃ b, D1.safe = b := ⟨_, rfl⟩
  have z6 := z6 k.name
  rw [hfs] at z1 z3
  rw [hgs] at z2 z4
  rw [hns] at z5
  rw [hdb] at z6
  have HDB := Lib.hid hdb
  have HNS := Lib.hid hns
  have HFS := Lib.hid hfs
  have HGS := Lib.hid hgs
  have Z1 := Lib.hid z1
  have Z2 := Lib.hid z2
  have hbx3 : ∀ W, Below w3.heap.size w3 W → W.rangeAt V 0 k.cells := fun W hb => HBOX.out W ((H3.out.back.trans (hb.mono H3.out.back.size)).mono HV1.out)
  have HBX3 := Lib.hid hbx3
  clear z1 z2 hdb hns hfs hgs hbx3
  have e3 := (keep_cells (HBX3.out w3 (Below.refl _ _))).2.1
  go_upto_region 9 with (go_at_call 41; refine (told_form H3.out.dv (by omega) (by omega) k.name HDB.out HNS.out HFS.out HGS.out).mono ?_; rintro x w4 ⟨Ad, kAd, cAd, An, kAn, cAn, Af, kAf, cAf, Ag, kAg, cAg, Av, Aw, rfl, hs, hb⟩; have hst := ans_store w4 Ad kAd cAd An kAn cAn Af kAf cAf Ag kAg cAg; have SA := Lib.hid hs; have HB4 := Lib.hid hb; clear hs hb)
  obtain ⟨w5, hw5⟩ : ∃ v, w4.alloc (.cells #[.slice Ad kAd cAd, .slice An kAn cAn, .slice Af kAf cAf, .slice Ag kAg cAg] tAns) = v := ⟨_, rfl⟩
  have hbw5 : Below w4.heap.size w4 w5 := by rw [← hw5]; exact (Below.refl _ _).alloc (Nat.le_refl _) _
  obtain ⟨bA, hbA⟩ : ∃ b, w4.heap.size = b := ⟨_, rfl⟩
  have hhA : Holds w5 w3.heap.size bA ⟨(Ad, kAd, cAd), (An, kAn, cAn), (Af, kAf, cAf), (Ag, kAg, cAg), Av, Aw⟩ db ns fs gs := ⟨SA.out.below hbw5, by rw [← hbA, ← hw5]; exact heap_alloc_new _ _, by rw [← hbA]; exact HB4.out.size⟩
  rw [hw5, hbA]
  clear hw5 hst hbA
  have HBw5 := Lib.hid hbw5
  have HA := Lib.hid hhA
  clear hbw5 hhA
  have hia := SA.out.inside
  have HIA := Lib.hid hia
  have hbk := HB4.out.trans (HBw5.out.mono HB4.out.size)
  have e4 := (keep_cells (HBX3.out w5 hbk)).2.1
  have BK5 := Lib.hid hbk
  clear hbk hia e3 SA
  go_upto_region 10 with (go_at_call 41; refine (told_form (H3.out.below BK5.out).dv (by omega) (by omega) k.name HDB.out HNS.out HFS.out HGS.out).mono ?_; rintro x w6 ⟨Bd, kBd, cBd, Bn, kBn, cBn, Bf, kBf, cBf, Bg, kBg, cBg, Bv, Bw, rfl, hs, hb⟩; have hst := ans_store w6 Bd kBd cBd Bn kBn cBn Bf kBf cBf Bg kBg cBg; have SB := Lib.hid hs; have HB6 := Lib.hid hb; clear hs hb)
  obtain ⟨w7, hw7⟩ : ∃ v, w6.alloc (.cells #[.slice Bd kBd cBd, .slice Bn kBn cBn, .slice Bf kBf cBf, .slice Bg kBg cBg] tAns) = v := ⟨_, rfl⟩
  have hbw7 : Below w6.heap.size w6 w7 := by rw [← hw7]; exact (Below.refl _ _).alloc (Nat.le_refl _) _
  obtain ⟨bB, hbB⟩ : ∃ b, w6.heap.size = b := ⟨_, rfl⟩
  have hhB : Holds w7 w5.heap.size bB ⟨(Bd, kBd, cBd), (Bn, kBn, cBn), (Bf, kBf, cBf), (Bg, kBg, cBg), Bv, Bw⟩ db ns fs gs := ⟨SB.out.below hbw7, by rw [← hbB, ← hw7]; exact heap_alloc_new _ _, by rw [← hbB]; exact HB6.out.size⟩
  rw [hw7, hbB]
  clear hw7 hst hbB
  have HBw7 := Lib.hid hbw7
  have HB := Lib.hid hhB
  clear hbw7 hhB
  have hib := SB.out.inside
  have HIB := Lib.hid hib
  have hbk := BK5.out.trans ((HB6.out.trans (HBw7.out.mono HB6.out.size)).mono BK5.out.size)
  have BK7 := Lib.hid hbk
  have hha := (HA.out.below HB6.out).below HBw7.out
  clear HA
  have HA := Lib.hid hha
  clear hbk hib hha e4 SB
  go_upto_region 11 with (first
    | (refine wpList_load_mid rfl tAns (.tmp 6) rfl bA 0 rfl [.slice Ad kAd cAd, .slice An kAn cAn, .slice Af kAf cAf, .slice Ag kAg cAg] _ HA.out.range Try.underlying81 rfl (by kernel_rfl) ?_)
    | (go_at_call 42; refine (copied_form HA.out.says (by omega) (by omega) (by omega) (by omega) (fun f hf => by have := Z1.out f hf; omega) (fun f hf => by have := Z2.out f hf; omega)).mono ?_; rintro x w8 ⟨Wd, kWd, cWd, Wn, kWn, cWn, Wf, kWf, cWf, Wg, kWg, cWg, Wv, Ww, rfl, hs, hb⟩; have hst := ans_store w8 Wd kWd cWd Wn kWn cWn Wf kWf cWf Wg kWg cWg; have SW := Lib.hid hs; have HB8 := Lib.hid hb; clear hs hb))
  obtain ⟨w9, hw9⟩ : ∃ v, w8.alloc (.cells #[.slice Wd kWd cWd, .slice Wn kWn cWn, .slice Wf kWf cWf, .slice Wg kWg cWg] tAns) = v := ⟨_, rfl⟩
  have hbw9 : Below w8.heap.size w8 w9 := by rw [← hw9]; exact (Below.refl _ _).alloc (Nat.le_refl _) _
  obtain ⟨bW, hbW⟩ : ∃ b, w8.heap.size = b := ⟨_, rfl⟩
  have hhW : Holds w9 w7.heap.size bW ⟨(Wd, kWd, cWd), (Wn, kWn, cWn), (Wf, kWf, cWf), (Wg, kWg, cWg), Wv, Ww⟩ db ns fs gs := ⟨SW.out.below hbw9, by rw [← hbW, ← hw9]; exact heap_alloc_new _ _, by rw [← hbW]; exact HB8.out.size⟩
  rw [hw9, hbW]
  clear hw9 hst hbW
  have HBw9 := Lib.hid hbw9
  have HW := Lib.hid hhW
  clear hbw9 hhW
  have hbk := BK7.out.trans ((HB8.out.trans (HBw9.out.mono HB8.out.size)).mono BK7.out.size)
  have BK9 := Lib.hid hbk
  have hha := (HA.out.below HB8.out).below HBw9.out
  have hhb := (HB.out.below HB8.out).below HBw9.out
  clear HA HB
  have HA := Lib.hid hha
  have HB := Lib.hid hhb
  clear hbk hha hhb SW
  go_upto_region 13 with (first
    | (refine wpList_load_mid rfl tAns (.tmp 6) rfl bA 0 rfl [.slice Ad kAd cAd, .slice An kAn cAn, .slice Af kAf cAf, .slice Ag kAg cAg] _ HA.out.range Try.underlying81 rfl (by kernel_rfl) ?_)
    | (refine wpList_load_mid rfl tAns (.tmp 7) rfl bB 0 rfl [.slice Bd kBd cBd, .slice Bn kBn cBn, .slice Bf kBf cBf, .slice Bg kBg cBg] _ HB.out.range Try.underlying81 rfl (by kernel_rfl) ?_)
    | (go_at_call 43; refine (alike_any HA.out.says.shows HB.out.says.shows (by omega) (by omega) (by omega)).mono ?_; rintro x w10 ⟨rfl, hb⟩; have HB10 := Lib.hid hb; clear hb))
  have hbk := BK9.out.trans (HB10.out.mono BK9.out.size)
  have hbs := H3.out.beside hbk
  have e6 := (keep_cells (HBX3.out w10 hbk)).2.2.2.1
  have hmore : Acts w10 V k.Am k.nm k.lm := HK1.out.more.below ((H3.out.back.trans (hbk.mono H3.out.back.size)).mono (by have := HV1.out; omega))
  have HMORE := Lib.hid hmore
  have BK10 := Lib.hid hbk
  have HBS := Lib.hid hbs
  have hha := (HA.out.below HB10.out)
  have hhb := (HB.out.below HB10.out)
  have hhw := (HW.out.below HB10.out)
  clear HA HB HW
  have HA := Lib.hid hha
  have HB := Lib.hid hhb
  have HW := Lib.hid hhw
  clear hbk hha hhb hhw hbs hmore
  go_upto_region 14 with (go_at_call 27; refine (beside_played HBS.out (B := V) (by have := HV1.out; omega) HMORE.out (by omega) (by omega)).mono ?_; rintro x w11 ⟨rfl, h⟩; have HS11 := Lib.hid h; clear h)
  obtain ⟨D2, hD2⟩ : ∃ D2, plays D1 (k.lm.map (·.a)) = D2 := ⟨_, rfl⟩
  rw [hD2] at HS11
  obtain ⟨m2, hm2⟩ : ∃ x, m + 1099511627776 = x := ⟨_, rfl⟩
  obtain ⟨N2, hN2⟩ : ∃ x, N + 1048576 = x := ⟨_, rfl⟩
  rw [hm2, hN2] at HS11
  have hmb2 : m2 ≤ 5497558138880 := by omega
  have hNb2 : N2 ≤ 8388608 := by omega
  have hha := HA.out.beside HS11.out
  have hhb := (HB.out.lower BK5.out.size).beside HS11.out
  have hhw := (HW.out.lower BK7.out.size).beside HS11.out
  clear HA HB HW
  have HA := Lib.hid hha
  have HB := Lib.hid hhb
  have HW := Lib.hid hhw
  clear hha hhb hhw hD2 hm2 hN2 e6 HBS HMORE
  go_upto_region 16 with (first
    | (refine wpList_load_mid rfl tAns (.tmp 6) rfl bA 0 rfl [.slice Ad kAd cAd, .slice An kAn cAn, .slice Af kAf cAf, .slice Ag kAg cAg] _ HA.out.range Try.underlying81 rfl (by kernel_rfl) ?_)
    | (refine wpList_load_mid rfl tAns (.tmp 8) rfl bW 0 rfl [.slice Wd kWd cWd, .slice Wn kWn cWn, .slice Wf kWf cWf, .slice Wg kWg cWg] _ HW.out.range Try.underlying81 rfl (by kernel_rfl) ?_)
    | (go_at_call 43; refine (alike_any HA.out.says.shows HW.out.says.shows (by omega) (by omega) (by omega)).mono ?_; rintro x w12 ⟨rfl, hb⟩; have HB12 := Lib.hid hb; clear hb; have hhb := HB.out.below HB12.out; have hhw := HW.out.below HB12.out; clear HW; have HX := Lib.hid hhb; have HY := Lib.hid hhw; clear hhb hhw; have x0 : w12.cell? ⟨bB, 0, none⟩ = some (.slice Bd kBd cBd) := HX.out.cell0; have x1 : w12.cell? ⟨bB, 1, none⟩ = some (.slice Bn kBn cBn) := HX.out.cell1; have x2 : w12.cell? ⟨bB, 2, none⟩ = some (.slice Bf kBf cBf) := HX.out.cell2; have x3 : w12.cell? ⟨bB, 3, none⟩ = some (.slice Bg kBg cBg) := HX.out.cell3; have y0 : w12.cell? ⟨bW, 0, none⟩ = some (.slice Wd kWd cWd) := HY.out.cell0; have y1 : w12.cell? ⟨bW, 1, none⟩ = some (.slice Wn kWn cWn) := HY.out.cell1; have y2 : w12.cell? ⟨bW, 2, none⟩ = some (.slice Wf kWf cWf) := HY.out.cell2; have y3 : w12.cell? ⟨bW, 3, none⟩ = some (.slice Wg kWg cWg) := HY.out.cell3)
    | (go_at_call 43; refine (alike_any HX.out.says.shows HY.out.says.shows (by omega) (by omega) (by omega)).mono ?_; rintro x w13 ⟨rfl, hb⟩; have HB13 := Lib.hid hb; clear hb))
  have hbs13 := (HS11.out.below HB12.out).below HB13.out
  have hha := (HA.out.below HB12.out).below HB13.out
  have hhb := HX.out.below HB13.out
  clear HA HX HY x0 x1 x2 x3 y0 y1 y2 y3
  have HA := Lib.hid hha
  have HB := Lib.hid hhb
  obtain ⟨t1, t2, t3, t4, t5, t6⟩ := image_size hbs13.own.ok
  obtain ⟨db2, hdb⟩ : ∃ b, dataOf D2 k.name = b := ⟨_, rfl⟩
  obtain ⟨ns2, hns⟩ : ∃ b, D2.now.map (·.1) = b := ⟨_, rfl⟩
  obtain ⟨fs2, hfs⟩ : ∃ b, D2.image = b := ⟨_, rfl⟩
  obtain ⟨gs2, hgs⟩ : ∃ b, D2.safe = b := ⟨_, rfl⟩
  have t6 := t6 k.name
  rw [hfs] at t1 t3
  rw [hgs] at t2 t4
  rw [hns] at t5
  rw [hdb] at t6
  have HDB2 := Lib.hid hdb
  have HNS2 := Lib.hid hns
  have HFS2 := Lib.hid hfs
  have HGS2 := Lib.hid hgs
  have T1 := Lib.hid t1
  have T2 := Lib.hid t2
  have e7 := (keep_cells (HBOX.out w13 (hbs13.own.back.mono HV1.out))).2.1
  have HS13 := Lib.hid hbs13
  clear t1 t2 hdb hns hfs hgs hbs13 hha hhb
  go_upto_region 17 with (go_at_call 41; refine (told_form HS13.out.dv (by omega) (by omega) k.name HDB2.out HNS2.out HFS2.out HGS2.out).mono ?_; rintro x w14 ⟨Cd, kCd, cCd, Cn, kCn, cCn, Cf, kCf, cCf, Cg, kCg, cCg, Cv, Cw, rfl, hs, hb⟩; have hst := ans_store w14 Cd kCd cCd Cn kCn cCn Cf kCf cCf Cg kCg cCg; have SC := Lib.hid hs; have HB14 := Lib.hid hb; clear hs hb)
  obtain ⟨w15, hw15⟩ : ∃ v, w14.alloc (.cells #[.slice Cd kCd cCd, .slice Cn kCn cCn, .slice Cf kCf cCf, .slice Cg kCg cCg] tAns) = v := ⟨_, rfl⟩
  have hbw15 : Below w14.heap.size w14 w15 := by rw [← hw15]; exact (Below.refl _ _).alloc (Nat.le_refl _) _
  obtain ⟨bC, hbC⟩ : ∃ b, w14.heap.size = b := ⟨_, rfl⟩
  have hhC : Holds w15 w13.heap.size bC ⟨(Cd, kCd, cCd), (Cn, kCn, cCn), (Cf, kCf, cCf), (Cg, kCg, cCg), Cv, Cw⟩ db2 ns2 fs2 gs2 := ⟨SC.out.below hbw15, by rw [← hbC, ← hw15]; exact heap_alloc_new _ _, by rw [← hbC]; exact HB14.out.size⟩
  rw [hw15, hbC]
  clear hw15 hst hbC
  have HBw15 := Lib.hid hbw15
  have HC := Lib.hid hhC
  clear hbw15 hhC
  have hic := SC.out.inside
  have HIC := Lib.hid hic
  clear hic SC e7
  go_upto_region 18 with (first
    | (refine wpList_load_mid rfl tAns (.tmp 9) rfl bC 0 rfl [.slice Cd kCd cCd, .slice Cn kCn cCn, .slice Cf kCf cCf, .slice Cg kCg cCg] _ HC.out.range Try.underlying81 rfl (by kernel_rfl) ?_)
    | (go_at_call 42; refine (copied_form HC.out.says (by omega) (by omega) (by omega) (by omega) (fun f hf => by have := T1.out f hf; omega) (fun f hf => by have := T2.out f hf; omega)).mono ?_; rintro x w16 ⟨Ed, kEd, cEd, En, kEn, cEn, Ef, kEf, cEf, Eg, kEg, cEg, Ev, Ew, rfl, hs, hb⟩; have hst := ans_store w16 Ed kEd cEd En kEn cEn Ef kEf cEf Eg kEg cEg; have SE := Lib.hid hs; have HB16 := Lib.hid hb; clear hs hb))
  obtain ⟨w17, hw17⟩ : ∃ v, w16.alloc (.cells #[.slice Ed kEd cEd, .slice En kEn cEn, .slice Ef kEf cEf, .slice Eg kEg cEg] tAns) = v := ⟨_, rfl⟩
  have hbw17 : Below w16.heap.size w16 w17 := by rw [← hw17]; exact (Below.refl _ _).alloc (Nat.le_refl _) _
  obtain ⟨bE, hbE⟩ : ∃ b, w16.heap.size = b := ⟨_, rfl⟩
  have hhE : Holds w17 w15.heap.size bE ⟨(Ed, kEd, cEd), (En, kEn, cEn), (Ef, kEf, cEf), (Eg, kEg, cEg), Ev, Ew⟩ db2 ns2 fs2 gs2 := ⟨SE.out.below hbw17, by rw [← hbE, ← hw17]; exact heap_alloc_new _ _, by rw [← hbE]; exact HB16.out.size⟩
  rw [hw17, hbE]
  clear hw17 hst hbE
  have HBw17 := Lib.hid hbw17
  have HE := Lib.hid hhE
  clear hbw17 hhE
  have hb17 := ((HB14.out.trans (HBw15.out.mono HB14.out.size)).trans ((HB16.out.trans (HBw17.out.mono HB16.out.size)).mono (by have := HB14.out.size; have := HBw15.out.size; omega)))
  have hha := HA.out.below hb17
  have hhb := HB.out.below hb17
  have hhc := (HC.out.below HB16.out).below HBw17.out
  have hs17 := HS13.out.below hb17
  obtain ⟨la, hla⟩ : ∃ n, (Av4.rows ⟨(Ad, kAd, cAd), (An, kAn, cAn), (Af, kAf, cAf), (Ag, kAg, cAg), Av, Aw⟩).length = n := ⟨_, rfl⟩
  obtain ⟨lb, hlb⟩ : ∃ n, (Av4.rows ⟨(Bd, kBd, cBd), (Bn, kBn, cBn), (Bf, kBf, cBf), (Bg, kBg, cBg), Bv, Bw⟩).length = n := ⟨_, rfl⟩
  obtain ⟨lc, hlc⟩ : ∃ n, (Av4.rows ⟨(Cd, kCd, cCd), (Cn, kCn, cCn), (Cf, kCf, cCf), (Cg, kCg, cCg), Cv, Cw⟩).length = n := ⟨_, rfl⟩
  have hla2 : la ≤ 16777217 := by rw [← hla, rows_len hha.says]; omega
  have hlb2 : lb ≤ 16777217 := by rw [← hlb, rows_len hhb.says]; omega
  have hlc2 : lc ≤ 16777217 := by rw [← hlc, rows_len hhc.says]; omega
  obtain ⟨w17z, hw17z⟩ : ∃ n, w17.heap.size = n := ⟨_, rfl⟩
  clear HA HB HC
  have HA := Lib.hid hha
  have HB := Lib.hid hhb
  have HC := Lib.hid hhc
  have HB17 := Lib.hid hb17
  have HLA := Lib.hid hla
  have HLB := Lib.hid hlb
  have HLC := Lib.hid hlc
  clear hha hhb hhc hs17 hb17 hla hlb hlc hw17z
  obtain ⟨i1, hi', hy0, hy1, hy2⟩ := info_parts infoRow8
  go_upto_region 19 with (first
    | (refine wpList_load_mid rfl tAns (.tmp 6) rfl bA 0 rfl [.slice Ad kAd cAd, .slice An kAn cAn, .slice Af kAf cAf, .slice Ag kAg cAg] _ HA.out.range Try.underlying81 rfl (by kernel_rfl) ?_)
    | (go_at_call 44; refine (rows_form HA.out.says (by omega) (by omega) HLA.out).mono ?_; rintro x w18 ⟨RA, rA, rfl, hr, hb⟩; have HRA := Lib.hid hr; have HB18 := Lib.hid hb; clear hr hb))
  have hq := HB.out.below HB18.out
  have HBq := Lib.hid hq
  clear hq
  go_upto_region 20 with (first
    | (refine wpList_load_mid rfl tAns (.tmp 7) rfl bB 0 rfl [.slice Bd kBd cBd, .slice Bn kBn cBn, .slice Bf kBf cBf, .slice Bg kBg cBg] _ HBq.out.range Try.underlying81 rfl (by kernel_rfl) ?_)
    | (go_at_call 44; refine (rows_form HBq.out.says (by omega) (by omega) HLB.out).mono ?_; rintro x w19 ⟨RB, rB, rfl, hr, hb⟩; have HRB := Lib.hid hr; have HB19 := Lib.hid hb; clear hr hb)
    | (at_builtin; refine wpList_append_rd _ rfl (.tmp 68) (.tmp 70) 85 rfl w17.heap.size 35 i1 (.slice none 0 0) 1 24 Try.underlying85 hi' hy0 hy1 hy2 rfl (by decide) (.slice RA la rA) la _ rfl (own_below HRA.out HB19.out) w19.heap.size RB lb rB _ rfl (Rd.of_own (c := rB) HRB.out) (own_none HRB.out) (rv_one _) (by unfold maxLen; omega) (by omega) (Nat.le_trans HB18.out.size HB19.out.size) ?_; intro vw20 w20 hrow hg; have hbx := grown_outer (own_below HRA.out HB19.out) hg (Nat.le_trans HB18.out.size HB19.out.size); obtain ⟨R2, r2c, rfl, _, _⟩ := own_form hrow; have HR2 := Lib.hid hrow; have BK20 := Lib.hid (Below.trans (HB18.out.trans (HB19.out.mono HB18.out.size)) hbx); clear hrow hg hbx))
  have hq := HC.out.below BK20.out
  have HCq := Lib.hid hq
  clear hq HBq
  go_upto_region 21 with (first
    | (refine wpList_load_mid rfl tAns (.tmp 9) rfl bC 0 rfl [.slice Cd kCd cCd, .slice Cn kCn cCn, .slice Cf kCf cCf, .slice Cg kCg cCg] _ HCq.out.range Try.underlying81 rfl (by kernel_rfl) ?_)
    | (go_at_call 44; refine (rows_form HCq.out.says (by omega) (by omega) HLC.out).mono ?_; rintro x w21 ⟨RC, rC, rfl, hr, hb⟩; have HRC := Lib.hid hr; have HB21 := Lib.hid hb; clear hr hb)
    | (at_builtin; refine wpList_append_rd _ rfl (.tmp 72) (.tmp 74) 85 rfl w17.heap.size 35 i1 (.slice none 0 0) 1 24 Try.underlying85 hi' hy0 hy1 hy2 rfl (by decide) (.slice R2 (la + lb) r2c) (la + lb) _ rfl (own_below HR2.out HB21.out) w21.heap.size RC lc rC _ rfl (Rd.of_own (c := rC) HRC.out) (own_none HRC.out) (rv_one _) (by unfold maxLen; omega) (by omega) (Nat.le_trans BK20.out.size HB21.out.size) ?_; intro vw22 w22 hrow hg; have hbx := grown_outer (own_below HR2.out HB21.out) hg (Nat.le_trans BK20.out.size HB21.out.size); obtain ⟨R3, r3c, rfl, _, _⟩ := own_form hrow; have HR3 := Lib.hid hrow; have BK22 := Lib.hid (Below.trans (BK20.out.trans (HB21.out.mono BK20.out.size)) hbx); clear hrow hg hbx))
  have ha := HA.out.below BK22.out
  have hb := HB.out.below BK22.out
  have hc := HC.out.below BK22.out
  have he := HE.out.below BK22.out
  obtain ⟨ls, hls⟩ : ∃ l : List Row, ((Av4.rows ⟨(Ad, kAd, cAd), (An, kAn, cAn), (Af, kAf, cAf), (Ag, kAg, cAg), Av, Aw⟩) ++ (Av4.rows ⟨(Bd, kBd, cBd), (Bn, kBn, cBn), (Bf, kBf, cBf), (Bg, kBg, cBg), Bv, Bw⟩)) ++ (Av4.rows ⟨(Cd, kCd, cCd), (Cn, kCn, cCn), (Cf, kCf, cCf), (Cg, kCg, cCg), Cv, Cw⟩) = l := ⟨_, rfl⟩
  have hlen : ls.length = la + lb + lc := by rw [← hls, List.length_append, List.length_append, HLA.out, HLB.out, HLC.out]
  have hrow := HR3.out
  rw [show ((Av4.rows ⟨(Ad, kAd, cAd), (An, kAn, cAn), (Af, kAf, cAf), (Ag, kAg, cAg), Av, Aw⟩).map rv ++ (Av4.rows ⟨(Bd, kBd, cBd), (Bn, kBn, cBn), (Bf, kBf, cBf), (Bg, kBg, cBg), Bv, Bw⟩).map rv) ++ (Av4.rows ⟨(Cd, kCd, cCd), (Cn, kCn, cCn), (Cf, kCf, cCf), (Cg, kCg, cCg), Cv, Cw⟩).map rv = ls.map rv by rw [← hls, List.map_append, List.map_append]] at hrow
  have hz10 : w3.heap.size ≤ w5.heap.size ∧ w4.heap.size ≤ w5.heap.size ∧ w6.heap.size ≤ w10.heap.size ∧ w10.heap.size ≤ w13.heap.size ∧ w4.heap.size ≤ w10.heap.size := by
    have s1 := BK5.out.size
    have s2 := HBw5.out.size
    have s3 := HB6.out.size
    have s4 := HBw7.out.size
    have s5 := HB8.out.size
    have s6 := HBw9.out.size
    have s7 := HB10.out.size
    obtain ⟨_, _, _, _, _, s8, _⟩ := HS13.out
    omega
  obtain ⟨u1, u2, u3, u4, u5⟩ := hz10
  have hmem : ∀ r ∈ ls, r ∈ (Av4.rows ⟨(Ad, kAd, cAd), (An, kAn, cAn), (Af, kAf, cAf), (Ag, kAg, cAg), Av, Aw⟩) ∨ r ∈ (Av4.rows ⟨(Bd, kBd, cBd), (Bn, kBn, cBn), (Bf, kBf, cBf), (Bg, kBg, cBg), Bv, Bw⟩) ∨ r ∈ (Av4.rows ⟨(Cd, kCd, cCd), (Cn, kCn, cCn), (Cf, kCf, cCf), (Cg, kCg, cCg), Cv, Cw⟩) := fun r hr => by
    rw [← hls] at hr
    rcases List.mem_append.1 hr with hr | hr
    · rcases List.mem_append.1 hr with hr | hr
      · exact .inl hr
      · exact .inr (.inl hr)
    · exact .inr (.inr hr)
  have hown : ∀ r ∈ ls, ∃ b ys, w22.ownsRow b tU8 1 (rv r) r.2.1 ys := fun r hr => by
    rcases hmem r hr with h | h | h
    · obtain ⟨ys, h⟩ := ha.says.row_own h; exact ⟨_, ys, h⟩
    · obtain ⟨ys, h⟩ := hb.says.row_own h; exact ⟨_, ys, h⟩
    · obtain ⟨ys, h⟩ := hc.says.row_own h; exact ⟨_, ys, h⟩
  have hlens : ∀ (i : Nat) (r : Row), ls[i]? = some r → r.2.1 ≤ 8796093021952 := fun i r hr => by
    rcases hmem r (List.mem_of_getElem? hr) with h | h | h
    · exact Nat.le_trans (ha.says.row_len (b := m) z6 Z1.out Z2.out h) (by omega)
    · exact Nat.le_trans (hb.says.row_len (b := m) z6 Z1.out Z2.out h) (by omega)
    · exact Nat.le_trans (hc.says.row_len (b := m2) t6 T1.out T2.out h) (by omega)
  have hpw : ls.Pairwise Off := by
    rw [← hls]
    exact off_append (off_append ha.says.off hb.says.off HIA.out.rows HIB.out.rows u2) hc.says.off ((HIA.out.rows.mono (Nat.le_refl _) u5).append (HIB.out.rows.mono u1 u3)) HIC.out.rows u4
  have htz : ∀ r ∈ ls, ∀ g, (rv r).ownBlock = some g → Tz w3.heap.size w10.heap.size w13.heap.size w14.heap.size g := fun r hr => by
    rcases hmem r hr with h | h | h
    · exact span_tz HIA.out.rows (.inl ⟨Nat.le_refl _, u5⟩) r h
    · exact span_tz HIB.out.rows (.inl ⟨u1, u3⟩) r h
    · exact span_tz HIC.out.rows (.inr ⟨Nat.le_refl _, Nat.le_refl _⟩) r h
  have hnp : List.Pairwise Off [(An, kAn, cAn), (Bn, kBn, cBn), (Cn, kCn, cCn)] := by
    have o1 := off_span HIA.out.l HIB.out.l u2
    have o2 := off_span (HIA.out.l.mono (Nat.le_refl _) u5) HIC.out.l u4
    have o3 := off_span (HIB.out.l.mono (Nat.le_refl _) u3) HIC.out.l u4
    simp [List.pairwise_cons]
    exact ⟨⟨o1, o2⟩, o3⟩
  have hfp : List.Pairwise Off [(Af, kAf, cAf), (Bf, kBf, cBf), (Cf, kCf, cCf), (Ag, kAg, cAg), (Bg, kBg, cBg), (Cg, kCg, cCg)] := by
    have oa := HA.out.says.offFG
    have ob := HB.out.says.offFG
    have oc := HC.out.says.offFG
    have x1 := off_span HIA.out.f HIB.out.f u2
    have x2 := off_span (HIA.out.f.mono (Nat.le_refl _) u5) HIC.out.f u4
    have x3 := off_span HIA.out.f HIB.out.g u2
    have x4 := off_span (HIA.out.f.mono (Nat.le_refl _) u5) HIC.out.g u4
    have x5 := off_span (HIB.out.f.mono (Nat.le_refl _) u3) HIC.out.f u4
    have x6 := off_symm (off_span HIA.out.g HIB.out.f u2)
    have x7 := off_span (HIB.out.f.mono (Nat.le_refl _) u3) HIC.out.g u4
    have x8 := off_symm (off_span (HIA.out.g.mono (Nat.le_refl _) u5) HIC.out.f u4)
    have x9 := off_symm (off_span (HIB.out.g.mono (Nat.le_refl _) u3) HIC.out.f u4)
    have y1 := off_span HIA.out.g HIB.out.g u2
    have y2 := off_span (HIA.out.g.mono (Nat.le_refl _) u5) HIC.out.g u4
    have y3 := off_span (HIB.out.g.mono (Nat.le_refl _) u3) HIC.out.g u4
    simp [List.pairwise_cons]
    exact ⟨⟨x1, x2, oa, x3, x4⟩, ⟨x5, x6, ob, x7⟩, ⟨x8, x9, oc⟩, ⟨y1, y2⟩, y3⟩
  have hnt : ∀ r ∈ [(An, kAn, cAn), (Bn, kBn, cBn), (Cn, kCn, cCn)], ∀ g, (rv r).ownBlock = some g → Tz w3.heap.size w10.heap.size w13.heap.size w14.heap.size g := fun r hr => by
    simp only [List.mem_cons, List.not_mem_nil, or_false] at hr
    rcases hr with rfl | rfl | rfl
    · exact span_tz HIA.out.l (.inl ⟨Nat.le_refl _, u5⟩) _ (List.mem_singleton.2 rfl)
    · exact span_tz HIB.out.l (.inl ⟨u1, u3⟩) _ (List.mem_singleton.2 rfl)
    · exact span_tz HIC.out.l (.inr ⟨Nat.le_refl _, Nat.le_refl _⟩) _ (List.mem_singleton.2 rfl)
  have hft : ∀ r ∈ [(Af, kAf, cAf), (Bf, kBf, cBf), (Cf, kCf, cCf), (Ag, kAg, cAg), (Bg, kBg, cBg), (Cg, kCg, cCg)], ∀ g, (rv r).ownBlock = some g → Tz w3.heap.size w10.heap.size w13.heap.size w14.heap.size g := fun r hr => by
    simp only [List.mem_cons, List.not_mem_nil, or_false] at hr
    rcases hr with rfl | rfl | rfl | rfl | rfl | rfl
    · exact span_tz HIA.out.f (.inl ⟨Nat.le_refl _, u5⟩) _ (List.mem_singleton.2 rfl)
    · exact span_tz HIB.out.f (.inl ⟨u1, u3⟩) _ (List.mem_singleton.2 rfl)
    · exact span_tz HIC.out.f (.inr ⟨Nat.le_refl _, Nat.le_refl _⟩) _ (List.mem_singleton.2 rfl)
    · exact span_tz HIA.out.g (.inl ⟨Nat.le_refl _, u5⟩) _ (List.mem_singleton.2 rfl)
    · exact span_tz HIB.out.g (.inl ⟨u1, u3⟩) _ (List.mem_singleton.2 rfl)
    · exact span_tz HIC.out.g (.inr ⟨Nat.le_refl _, Nat.le_refl _⟩) _ (List.mem_singleton.2 rfl)
  have hnl : kAn ≤ 17592186044 ∧ kBn ≤ 17592186044 ∧ kCn ≤ 17592186044 := by
    have a := ha.says.names.1
    have b := hb.says.names.1
    have c := hc.says.names.1
    simp at a b c
    omega
  have hfl : kAf ≤ 17592186044 ∧ kBf ≤ 17592186044 ∧ kCf ≤ 17592186044 ∧ kAg ≤ 17592186044 ∧ kBg ≤ 17592186044 ∧ kCg ≤ 17592186044 := by
    have a1 : kAf = _ := ha.says.lenF
    have b1 : kBf = _ := hb.says.lenF
    have c1 : kCf = _ := hc.says.lenF
    have a2 : kAg = _ := ha.says.lenG
    have b2 : kBg = _ := hb.says.lenG
    have c2 : kCg = _ := hc.says.lenG
    omega
  have hrdl := Rd.of_own hrow
  have hoff := outer_off hrow hown (by decide)
  have HA2 := Lib.hid ha
  have HB2 := Lib.hid hb
  have HC2 := Lib.hid hc
  have HE2 := Lib.hid he
  have HLEN := Lib.hid hlen
  have HOWN := Lib.hid hown
  have HLENS := Lib.hid hlens
  have HPW := Lib.hid hpw
  have HTZ := Lib.hid htz
  have HNP := Lib.hid hnp
  have HFP := Lib.hid hfp
  have HNT := Lib.hid hnt
  have HFT := Lib.hid hft
  have HNL := Lib.hid hnl
  have HFL := Lib.hid hfl
  have HRDL := Lib.hid hrdl
  have HOFF := Lib.hid hoff
  have HU := Lib.hid (show w10.heap.size ≤ w13.heap.size from u4)
  clear ha hb hc he hls hlen hrow hmem hown hlens hpw htz hnp hfp hnt hft hnl hfl hrdl hoff u1 u2 u3 u4 u5 HR3 HR2 HRA HRB HRC HA HB HC HE HCq
  go_upto_region 23 with (first
    | (go_at_call 45; refine (bytes_any R3 (la + lb + lc) r3c ls HLEN.out (by omega) HLENS.out 0 w22 (Nat.zero_le _) HRDL.out HOFF.out (apart_of HPW.out) (fun i r hr => by obtain ⟨b, ys, h⟩ := HOWN.out r (List.mem_of_getElem? hr); exact ⟨ys, own_base h (Nat.zero_le _)⟩)).mono ?_; rintro e w23 ⟨rfl, hk⟩; have HK23 := Lib.hid hk; have fa := (box_cell (box_rows HA2.out.box hk HOWN.out (by decide))).2.1; have fb := (box_cell (box_rows HB2.out.box hk HOWN.out (by decide))).2.1; have fc := (box_cell (box_rows HC2.out.box hk HOWN.out (by decide))).2.1; simp only [rv] at fa fb fc; clear hk HOFF HRDL HPW HLENS)
    | (go_at_call 46; refine (names3 (by obtain ⟨b, ys, h⟩ := HA2.out.says.l_own; exact ⟨b, ys, own_rows h HK23.out HOWN.out (by decide)⟩) (by obtain ⟨b, ys, h⟩ := HB2.out.says.l_own; exact ⟨b, ys, own_rows h HK23.out HOWN.out (by decide)⟩) (by obtain ⟨b, ys, h⟩ := HC2.out.says.l_own; exact ⟨b, ys, own_rows h HK23.out HOWN.out (by decide)⟩) HNP.out HNL.out.1 HNL.out.2.1 HNL.out.2.2).mono ?_; rintro e w25 ⟨rfl, hk⟩; have HK25 := Lib.hid hk; have hn3 := names_own (by obtain ⟨b, ys, h⟩ := HA2.out.says.l_own; exact ⟨b, ys, own_rows h HK23.out HOWN.out (by decide)⟩) (by obtain ⟨b, ys, h⟩ := HB2.out.says.l_own; exact ⟨b, ys, own_rows h HK23.out HOWN.out (by decide)⟩) (by obtain ⟨b, ys, h⟩ := HC2.out.says.l_own; exact ⟨b, ys, own_rows h HK23.out HOWN.out (by decide)⟩); have ga := box_cell (box_rows (box_rows HA2.out.box HK23.out HOWN.out (by decide)) hk hn3 (by decide)); have gb := box_cell (box_rows (box_rows HB2.out.box HK23.out HOWN.out (by decide)) hk hn3 (by decide)); have gc := box_cell (box_rows (box_rows HC2.out.box HK23.out HOWN.out (by decide)) hk hn3 (by decide)); simp only [rv] at ga gb gc; obtain ⟨_, _, ga2, ga3⟩ := ga; obtain ⟨_, _, gb2, gb3⟩ := gb; obtain ⟨_, _, gc2, gc3⟩ := gc; have HN3 := Lib.hid hn3; clear hk hn3 fa fb fc HNP)
    | (go_at_call 47; refine (files6 (by obtain ⟨b, ys, h⟩ := HA2.out.says.f_own; exact ⟨b, ys, own_rows (own_rows h HK23.out HOWN.out (by decide)) HK25.out HN3.out (by decide)⟩) (by obtain ⟨b, ys, h⟩ := HB2.out.says.f_own; exact ⟨b, ys, own_rows (own_rows h HK23.out HOWN.out (by decide)) HK25.out HN3.out (by decide)⟩) (by obtain ⟨b, ys, h⟩ := HC2.out.says.f_own; exact ⟨b, ys, own_rows (own_rows h HK23.out HOWN.out (by decide)) HK25.out HN3.out (by decide)⟩) (by obtain ⟨b, ys, h⟩ := HA2.out.says.g_own; exact ⟨b, ys, own_rows (own_rows h HK23.out HOWN.out (by decide)) HK25.out HN3.out (by decide)⟩) (by obtain ⟨b, ys, h⟩ := HB2.out.says.g_own; exact ⟨b, ys, own_rows (own_rows h HK23.out HOWN.out (by decide)) HK25.out HN3.out (by decide)⟩) (by obtain ⟨b, ys, h⟩ := HC2.out.says.g_own; exact ⟨b, ys, own_rows (own_rows h HK23.out HOWN.out (by decide)) HK25.out HN3.out (by decide)⟩) HFP.out HFL.out.1 HFL.out.2.1 HFL.out.2.2.1 HFL.out.2.2.2.1 HFL.out.2.2.2.2.1 HFL.out.2.2.2.2.2).mono ?_; rintro e w27 ⟨rfl, hk⟩; have HK27 := Lib.hid hk; clear hk ga2 ga3 gb2 gb3 gc2 gc3 HFP))
  have hk := ((((HK23.out.mono (fun k hk => sb_tz HTZ.out hk)).trans (HK25.out.mono (fun k hk => sb_tz HNT.out hk)) (fun k hk => .inl hk)).trans (HK27.out.mono (fun k hk => sb_tz HFT.out hk)) (fun k hk => .inl hk)))
  have h1322 := HB17.out.trans (BK22.out.mono HB17.out.size)
  have hzz : w3.heap.size ≤ w10.heap.size ∧ w10.heap.size ≤ w13.heap.size ∧ w13.heap.size ≤ w14.heap.size ∧ w14.heap.size ≤ w15.heap.size ∧ w1.heap.size ≤ w3.heap.size ∧ w13.heap.size ≤ w22.heap.size := ⟨BK10.out.size, HU.out, HB14.out.size, HBw15.out.size, H3.out.back.size, h1322.size⟩
  obtain ⟨v1, v2, v3, v4, v5, v6⟩ := hzz
  have he := HE2.out.kept hk (fun k hk => by unfold Tz at hk; omega)
  obtain ⟨S, hD, hbk, _, h4, _, _⟩ := HS13.out
  have hD27 := (hD.below h1322).kept hk (fun k hS hT => by have := h4 k hS; have := hD.low k hS; unfold Tz at hT; omega)
  have hback : Below w1.heap.size w1 w27 := (hbk.trans (h1322.mono hbk.size)).trans (hk.to_below (by omega) (fun k hk => by unfold Tz at hk; omega))
  have hv4 := (keep_cells (HBOX.out w27 (hback.mono HV1.out))).2.1
  obtain ⟨g0, g1, g2, g3⟩ := box_cell he.box
  simp only [rv] at g0 g1 g2 g3
  have d0 : w27.drew.cell? ⟨bE, 0, none⟩ = _ := g0
  have d1 : w27.drew.cell? ⟨bE, 1, none⟩ = _ := g1
  have d2 : w27.drew.cell? ⟨bE, 2, none⟩ = _ := g2
  have d3 : w27.drew.cell? ⟨bE, 3, none⟩ = _ := g3
  have d4 : w27.drew.cell? ⟨V, 4, none⟩ = _ := hv4
  have hbV : V < w27.heap.size := by have := hback.size; have := HV1.out; omega
  have HEE := Lib.hid he
  have HD27 := Lib.hid hD27
  have HBACK := Lib.hid hback
  clear hk h1322 he hD hbk h4 hD27 hback v1 v2 v3 v4 v5 v6
  go_region_held3 (fun W => W.cell? ⟨bE, 0, none⟩ = some (.slice Ed kEd cEd) ∧ W.cell? ⟨bE, 1, none⟩ = some (.slice En kEn cEn) ∧ W.cell? ⟨bE, 2, none⟩ = some (.slice Ef kEf cEf) ∧ W.cell? ⟨bE, 3, none⟩ = some (.slice Eg kEg cEg) ∧ W.cell? ⟨V, 4, none⟩ = some (encStr k.name))
    (first
      | go_keep
      | (refine ⟨?_, ?_, ?_, ?_, ?_⟩ <;> assumption))
    (first
      | (go_at_call 41; refine (told_form (w := w27.drew) ⟨_, HD27.out.below (Below.refl _ _).drew⟩ (by omega) (by omega) k.name HDB2.out HNS2.out HFS2.out HGS2.out).mono ?_; rintro x w28 ⟨Fd, kFd, cFd, Fn, kFn, cFn, Ff, kFf, cFf, Fg, kFg, cFg, Fv, Fw, rfl, hs, hb⟩; have hbb : Below w27.heap.size w27 w28 := (Below.refl _ _).drew.trans hb; have hf := HEE.out.below hbb; obtain ⟨k0, k1, k2, k3⟩ := box_cell hf.box; simp only [rv] at k0 k1 k2 k3; have k4 := (hbb.cell (p := ⟨V, 4, none⟩) hbV).trans hv4; have SF := Lib.hid hs; have HF := Lib.hid hf; have HB28 := Lib.hid hbb; clear hs hb hbb hf)
      | (go_at_call 43; refine (alike_any HF.out.says.shows SF.out.shows (by omega) (by omega) (by omega)).mono ?_; rintro x w29 ⟨rfl, hb⟩; have HB29 := Lib.hid hb; clear hb; have hbb := HB28.out.trans (HB29.out.mono HB28.out.size); have hf := HEE.out.below hbb; clear k0 k1 k2 k3; obtain ⟨k0, k1, k2, k3⟩ := box_cell hf.box; simp only [rv] at k0 k1 k2 k3; clear k4; have k4 := (hbb.cell (p := ⟨V, 4, none⟩) hbV).trans hv4; clear hbb hf))
  go_wp2
  go_ret
  exact ⟨rfl, HBW1.out.trans ((HBACK.out.trans ((HB28.out.trans (HB29.out.mono HB28.out.size)).mono HBACK.out.size)).mono (by have := HV1.out; omega))⟩
end Go.Proofs.Ytelgcmcnebncmaa.Ap
