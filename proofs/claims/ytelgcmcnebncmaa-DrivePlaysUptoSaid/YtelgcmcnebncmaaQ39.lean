/- XWCrashes, XWPlays: merged by tools/merge.py. -/
import Derived.Test.YtelgcmcnebncmaaQ38
import Derived.Test.YtelgcmcnebncmaaQ03
namespace Go.Proofs.Ytelgcmcnebncmaa.Dr
set_option linter.unusedVariables false
open Go.RowKit Go.Proofs Go.Proofs.Ytelgcmcnebncmaa.Ring

theorem Pair.cases {w0 w : World} {b m N : Nat} {pr pd : Option Addr} {oR oD : Option Dr.D} (h : Pair w0 w b pr pd oR oD m N) : (pr = none ∧ pd = none) ∨ ∃ r d, pr = some ⟨r, 0, none⟩ ∧ pd = some ⟨d, 0, none⟩ := by
  obtain ⟨_, _, (⟨_, _, h1, h2⟩ | ⟨R, D, r, d, SR, SD, _, _, h1, h2, _⟩)⟩ := h
  · exact .inl ⟨h1, h2⟩
  · exact .inr ⟨r, d, h1, h2⟩
theorem Pair.okR {w0 w : World} {b m N : Nat} {pr pd : Option Addr} {oR oD : Option Dr.D} (h : Pair w0 w b pr pd oR oD m N) : ∀ D, oR = some D → D.Ok m N := by
  obtain ⟨_, _, (⟨h1, _⟩ | ⟨R, D, r, d, SR, SD, h1, _, _, _, hr, _⟩)⟩ := h
  · intro D e; rw [h1] at e; cases e
  · intro D e; rw [h1] at e; injection e with e; subst e; exact hr.1
theorem crashO_safe {o : Option Dr.D} {m N : Nat} (h : ∀ D, o = some D → D.Ok m N) (dirs : List Bool) (cuts : List Int) : safO (crashO o dirs cuts) = imgO (crashO o dirs cuts) := by
  cases o with
  | none => rfl
  | some D => exact crash_safe (h D rfl) dirs cuts
theorem step_len {D : Dr.D} {m N : Nat} (h : D.Ok m N) (a : Ac) : (D.step a).2.names.length ≤ N ∧ (D.step a).2.files.length ≤ N := by
  have h1 : D.image.length ≤ N := by rw [image_len]; exact h.lenN
  have h2 : D.safe.length ≤ N := by rw [safe_len]; have := h.lenK; omega
  have h3 : (D.now.map (·.1)).length ≤ N := by rw [List.length_map]; exact h.lenN
  by_cases k0 : a.kind = 0
  · unfold Dr.D.step
    rw [if_pos k0]
    exact ⟨Nat.zero_le _, Nat.zero_le _⟩
  by_cases k1 : a.kind = 1
  · unfold Dr.D.step
    rw [if_neg k0, if_pos k1]
    exact ⟨Nat.zero_le _, Nat.zero_le _⟩
  by_cases k2 : a.kind = 2
  · unfold Dr.D.step
    rw [if_neg k0, if_neg k1, if_pos k2]
    exact ⟨Nat.zero_le _, Nat.zero_le _⟩
  by_cases k3 : a.kind = 3
  · unfold Dr.D.step
    rw [if_neg k0, if_neg k1, if_neg k2, if_pos k3]
    exact ⟨Nat.zero_le _, Nat.zero_le _⟩
  by_cases k4 : a.kind = 4
  · unfold Dr.D.step
    rw [if_neg k0, if_neg k1, if_neg k2, if_neg k3, if_pos k4]
    exact ⟨Nat.zero_le _, Nat.zero_le _⟩
  by_cases k5 : a.kind = 5
  · unfold Dr.D.step
    rw [if_neg k0, if_neg k1, if_neg k2, if_neg k3, if_neg k4, if_pos k5]
    exact ⟨Nat.zero_le _, Nat.zero_le _⟩
  by_cases k6 : a.kind = 6
  · unfold Dr.D.step
    rw [if_neg k0, if_neg k1, if_neg k2, if_neg k3, if_neg k4, if_neg k5, if_pos k6]
    cases D.look a.name <;> exact ⟨Nat.zero_le _, Nat.zero_le _⟩
  by_cases k7 : a.kind = 7
  · unfold Dr.D.step
    rw [if_neg k0, if_neg k1, if_neg k2, if_neg k3, if_neg k4, if_neg k5, if_neg k6, if_pos k7]
    exact ⟨h3, Nat.zero_le _⟩
  by_cases k8 : a.kind = 8
  · unfold Dr.D.step
    rw [if_neg k0, if_neg k1, if_neg k2, if_neg k3, if_neg k4, if_neg k5, if_neg k6, if_neg k7, if_pos k8]
    exact ⟨Nat.zero_le _, Nat.zero_le _⟩
  by_cases k9 : a.kind = 9
  · unfold Dr.D.step
    rw [if_neg k0, if_neg k1, if_neg k2, if_neg k3, if_neg k4, if_neg k5, if_neg k6, if_neg k7, if_neg k8, if_pos k9]
    exact ⟨Nat.zero_le _, Nat.zero_le _⟩
  by_cases k10 : a.kind = 10
  · unfold Dr.D.step
    rw [if_neg k0, if_neg k1, if_neg k2, if_neg k3, if_neg k4, if_neg k5, if_neg k6, if_neg k7, if_neg k8, if_neg k9, if_pos k10]
    cases D.look a.name <;> exact ⟨Nat.zero_le _, Nat.zero_le _⟩
  by_cases k11 : a.kind = 11
  · unfold Dr.D.step
    rw [if_neg k0, if_neg k1, if_neg k2, if_neg k3, if_neg k4, if_neg k5, if_neg k6, if_neg k7, if_neg k8, if_neg k9, if_neg k10, if_pos k11]
    exact ⟨Nat.zero_le _, h1⟩
  by_cases k12 : a.kind = 12
  · unfold Dr.D.step
    rw [if_neg k0, if_neg k1, if_neg k2, if_neg k3, if_neg k4, if_neg k5, if_neg k6, if_neg k7, if_neg k8, if_neg k9, if_neg k10, if_neg k11, if_pos k12]
    exact ⟨Nat.zero_le _, h2⟩
  by_cases k13 : a.kind = 13
  · unfold Dr.D.step
    rw [if_neg k0, if_neg k1, if_neg k2, if_neg k3, if_neg k4, if_neg k5, if_neg k6, if_neg k7, if_neg k8, if_neg k9, if_neg k10, if_neg k11, if_neg k12, if_pos k13]
    exact ⟨Nat.zero_le _, Nat.zero_le _⟩
  by_cases k14 : a.kind = 14
  · unfold Dr.D.step
    rw [if_neg k0, if_neg k1, if_neg k2, if_neg k3, if_neg k4, if_neg k5, if_neg k6, if_neg k7, if_neg k8, if_neg k9, if_neg k10, if_neg k11, if_neg k12, if_neg k13, if_pos k14]
    exact ⟨Nat.zero_le _, Nat.zero_le _⟩
  by_cases k15 : a.kind = 15
  · unfold Dr.D.step
    rw [if_neg k0, if_neg k1, if_neg k2, if_neg k3, if_neg k4, if_neg k5, if_neg k6, if_neg k7, if_neg k8, if_neg k9, if_neg k10, if_neg k11, if_neg k12, if_neg k13, if_neg k14, if_pos k15]
    exact ⟨Nat.zero_le _, Nat.zero_le _⟩
  by_cases k16 : a.kind = 16
  · unfold Dr.D.step
    rw [if_neg k0, if_neg k1, if_neg k2, if_neg k3, if_neg k4, if_neg k5, if_neg k6, if_neg k7, if_neg k8, if_neg k9, if_neg k10, if_neg k11, if_neg k12, if_neg k13, if_neg k14, if_neg k15, if_pos k16]
    exact ⟨Nat.zero_le _, Nat.zero_le _⟩
  unfold Dr.D.step
  rw [if_neg k0, if_neg k1, if_neg k2, if_neg k3, if_neg k4, if_neg k5, if_neg k6, if_neg k7, if_neg k8, if_neg k9, if_neg k10, if_neg k11, if_neg k12, if_neg k13, if_neg k14, if_neg k15, if_neg k16]
  exact ⟨Nat.zero_le _, Nat.zero_le _⟩
theorem nil_len (a : Ac) : (nilStep a).names.length = 0 ∧ (nilStep a).files.length = 0 := by
  by_cases k0 : a.kind = 0
  · unfold nilStep
    rw [if_pos k0]
    exact ⟨rfl, rfl⟩
  by_cases k1 : a.kind = 1
  · unfold nilStep
    rw [if_neg k0, if_pos k1]
    exact ⟨rfl, rfl⟩
  by_cases k2 : a.kind = 2
  · unfold nilStep
    rw [if_neg k0, if_neg k1, if_pos k2]
    exact ⟨rfl, rfl⟩
  by_cases k3 : a.kind = 3
  · unfold nilStep
    rw [if_neg k0, if_neg k1, if_neg k2, if_pos k3]
    exact ⟨rfl, rfl⟩
  by_cases k4 : a.kind = 4
  · unfold nilStep
    rw [if_neg k0, if_neg k1, if_neg k2, if_neg k3, if_pos k4]
    exact ⟨rfl, rfl⟩
  by_cases k5 : a.kind = 5
  · unfold nilStep
    rw [if_neg k0, if_neg k1, if_neg k2, if_neg k3, if_neg k4, if_pos k5]
    exact ⟨rfl, rfl⟩
  by_cases k6 : a.kind = 6
  · unfold nilStep
    rw [if_neg k0, if_neg k1, if_neg k2, if_neg k3, if_neg k4, if_neg k5, if_pos k6]
    exact ⟨rfl, rfl⟩
  by_cases k7 : a.kind = 7
  · unfold nilStep
    rw [if_neg k0, if_neg k1, if_neg k2, if_neg k3, if_neg k4, if_neg k5, if_neg k6, if_pos k7]
    exact ⟨rfl, rfl⟩
  by_cases k8 : a.kind = 8
  · unfold nilStep
    rw [if_neg k0, if_neg k1, if_neg k2, if_neg k3, if_neg k4, if_neg k5, if_neg k6, if_neg k7, if_pos k8]
    exact ⟨rfl, rfl⟩
  by_cases k9 : a.kind = 9
  · unfold nilStep
    rw [if_neg k0, if_neg k1, if_neg k2, if_neg k3, if_neg k4, if_neg k5, if_neg k6, if_neg k7, if_neg k8, if_pos k9]
    exact ⟨rfl, rfl⟩
  by_cases k10 : a.kind = 10
  · unfold nilStep
    rw [if_neg k0, if_neg k1, if_neg k2, if_neg k3, if_neg k4, if_neg k5, if_neg k6, if_neg k7, if_neg k8, if_neg k9, if_pos k10]
    exact ⟨rfl, rfl⟩
  by_cases k11 : a.kind = 11
  · unfold nilStep
    rw [if_neg k0, if_neg k1, if_neg k2, if_neg k3, if_neg k4, if_neg k5, if_neg k6, if_neg k7, if_neg k8, if_neg k9, if_neg k10, if_pos k11]
    exact ⟨rfl, rfl⟩
  by_cases k12 : a.kind = 12
  · unfold nilStep
    rw [if_neg k0, if_neg k1, if_neg k2, if_neg k3, if_neg k4, if_neg k5, if_neg k6, if_neg k7, if_neg k8, if_neg k9, if_neg k10, if_neg k11, if_pos k12]
    exact ⟨rfl, rfl⟩
  by_cases k13 : a.kind = 13
  · unfold nilStep
    rw [if_neg k0, if_neg k1, if_neg k2, if_neg k3, if_neg k4, if_neg k5, if_neg k6, if_neg k7, if_neg k8, if_neg k9, if_neg k10, if_neg k11, if_neg k12, if_pos k13]
    exact ⟨rfl, rfl⟩
  by_cases k14 : a.kind = 14
  · unfold nilStep
    rw [if_neg k0, if_neg k1, if_neg k2, if_neg k3, if_neg k4, if_neg k5, if_neg k6, if_neg k7, if_neg k8, if_neg k9, if_neg k10, if_neg k11, if_neg k12, if_neg k13, if_pos k14]
    exact ⟨rfl, rfl⟩
  by_cases k15 : a.kind = 15
  · unfold nilStep
    rw [if_neg k0, if_neg k1, if_neg k2, if_neg k3, if_neg k4, if_neg k5, if_neg k6, if_neg k7, if_neg k8, if_neg k9, if_neg k10, if_neg k11, if_neg k12, if_neg k13, if_neg k14, if_pos k15]
    exact ⟨rfl, rfl⟩
  by_cases k16 : a.kind = 16
  · unfold nilStep
    rw [if_neg k0, if_neg k1, if_neg k2, if_neg k3, if_neg k4, if_neg k5, if_neg k6, if_neg k7, if_neg k8, if_neg k9, if_neg k10, if_neg k11, if_neg k12, if_neg k13, if_neg k14, if_neg k15, if_pos k16]
    exact ⟨rfl, rfl⟩
  unfold nilStep
  rw [if_neg k0, if_neg k1, if_neg k2, if_neg k3, if_neg k4, if_neg k5, if_neg k6, if_neg k7, if_neg k8, if_neg k9, if_neg k10, if_neg k11, if_neg k12, if_neg k13, if_neg k14, if_neg k15, if_neg k16]
  exact ⟨rfl, rfl⟩
theorem ansO_len {w0 w : World} {b m N : Nat} {pr pd : Option Addr} {oR oD : Option Dr.D} (h : Pair w0 w b pr pd oR oD m N) (a : Ac) : (ansO oR a).names.length ≤ N ∧ (ansO oR a).files.length ≤ N := by
  have h2 := h.okR
  cases oR with
  | none => obtain ⟨h3, h4⟩ := nil_len a; show (nilStep a).names.length ≤ N ∧ (nilStep a).files.length ≤ N; omega
  | some D => exact step_len (h2 D rfl) a
theorem crashO_pend (o : Option Dr.D) (dirs : List Bool) (cuts : List Int) : pendO (crashO o dirs cuts) = 0 := by cases o <;> rfl
theorem imgO_len {w0 w : World} {b m N : Nat} {pr pd : Option Addr} {oR oD : Option Dr.D} (h : Pair w0 w b pr pd oR oD m N) : (imgO oR).length ≤ N ∧ (safO oR).length ≤ N := by
  have h2 := h.okR
  cases oR with
  | none => exact ⟨Nat.zero_le _, Nat.zero_le _⟩
  | some D =>
    have := h2 D rfl
    exact ⟨by show D.image.length ≤ N; rw [image_len]; exact this.lenN, by show D.safe.length ≤ N; rw [safe_len]; have := this.lenK; omega⟩
set_option maxRecDepth 100000 in
set_option maxHeartbeats 16000000 in
theorem crashes_any {how room : Int} {A Aa Ad Au : Option Addr} {n c na ca nd cd nu cu : Nat} {l : List Fl} {la : List Av} {dirs : List Bool} {cuts : List Int} (w : World) (hf : Files w w.heap.size A n l) (ha : Acts w w.heap.size Aa na la) (hfa : FateIn w w.heap.size dirs cuts Ad nd cd Au nu cu) :
    Calls Try.prog 3 #[.agg #[.int .i64 how, .int .i64 room, .slice A n c], .slice Aa na ca, .agg #[.slice Ad nd cd, .slice Au nu cu]] w fun x w' => x = .returned (.bool true) ∧ Below w.heap.size w w' := by
  obtain ⟨V, hV⟩ : ∃ V, w.heap.size = V := ⟨_, rfl⟩
  rw [hV] at hf ha hfa ⊢
  have HFI := Lib.hid hf
  have HAC := Lib.hid ha
  have HFA := Lib.hid hfa
  have hna := ha.2.2
  clear hf ha hfa
  go_enter Try.func3, Try.ntmps3
  go_upto_region 1 with (fail)
  obtain ⟨w0, hw0⟩ : ∃ w0, (w.alloc (.cells #[.int .i64 how, .int .i64 room, .slice A n c] tStart)).alloc (.cells #[.slice Ad nd cd, .slice Au nu cu] tFate) = w0 := ⟨_, rfl⟩
  have hst0 : w0.heap[V]? = some (.cells #[.int .i64 how, .int .i64 room, .slice A n c] tStart (0, 0)) := by
    rw [← hw0, ← hV]
    exact (heap_alloc_old _ _ (by simp)).trans (heap_alloc_new _ _)
  have hfr0 : w0.heap[V + 1]? = some (.cells #[.slice Ad nd cd, .slice Au nu cu] tFate (0, 0)) := by
    have := heap_alloc_new (w.alloc (.cells #[.int .i64 how, .int .i64 room, .slice A n c] tStart)) (.cells #[.slice Ad nd cd, .slice Au nu cu] tFate)
    rw [← hw0, ← hV]
    simpa using this
  have hb0 : Below V w w0 := by
    rw [← hw0, ← hV]
    exact ((Below.refl _ _).alloc (Nat.le_refl _) _).alloc (by simp) _
  have hs0 : w0.heap.size = V + 2 := by rw [← hw0, ← hV]; simp
  try rw [hw0]
  clear hw0 hV
  have hrg : ∀ wx, Below w0.heap.size w0 wx → wx.rangeAt V 0 [.int .i64 how, .int .i64 room, .slice A n c] := by
    intro wx hb j v hv
    rw [Nat.zero_add, cell_of_row wx V _ _ _ _ ((hb.block V (by omega)).trans hst0)]
    simpa using hv
  have hrf : ∀ wx, Below w0.heap.size w0 wx → wx.rangeAt (V + 1) 0 [.slice Ad nd cd, .slice Au nu cu] := by
    intro wx hb j v hv
    rw [Nat.zero_add, cell_of_row wx (V + 1) _ _ _ _ ((hb.block (V + 1) (by omega)).trans hfr0)]
    simpa using hv
  have HRF := Lib.hid hrf
  clear hrf hfr0
  have HB0 := Lib.hid hb0
  have HS0 := Lib.hid hs0
  have HRG := Lib.hid hrg
  have HST := Lib.hid (hrg w0 (Below.refl _ _))
  clear hst0 hb0 hs0 hrg
  go_upto_region 2 with (first
    | (refine wpList_load_mid rfl tStart (.tmp 3) rfl V 0 rfl [.int .i64 how, .int .i64 room, .slice A n c] _ HST.out Try.underlying24 rfl (by kernel_rfl) ?_)
    | (go_at_call 11; go_loud (refine (rbegun_any (how := how) (room := room) (HFI.out.below HB0.out) (by have := HS0.out; omega)).mono ?_); rintro x w1 ⟨pr, rfl, hb1, hl1⟩; have HB1 := Lib.hid hb1; have HL1 := Lib.hid hl1; clear hb1 hl1))
  have HST1 := Lib.hid (HRG.out w1 HB1.out)
  have hV1 : V ≤ w1.heap.size := by have := HB1.out.size; have := HS0.out; omega
  clear HST
  go_upto_region 3 with (first
    | (refine wpList_load_mid rfl tStart (.tmp 3) rfl V 0 rfl [.int .i64 how, .int .i64 room, .slice A n c] _ HST1.out Try.underlying24 rfl (by kernel_rfl) ?_)
    | (go_at_call 12; go_loud (refine (made_any (how := how) (room := room) ((HFI.out.below HB0.out).below (HB1.out.mono (by have := HS0.out; omega))) hV1).mono ?_); rintro x w2 hmade; obtain ⟨pd, hx, hp⟩ := hmade.ptr; subst hx; have HP := Lib.hid (Pair.start HB1.out HL1.out hp); clear hp hmade))
  clear HST1 HL1
  obtain ⟨o0, ho0⟩ : ∃ o, begun how room (l.map Fl.file) = o := ⟨_, rfl⟩
  rw [ho0] at HP
  clear ho0 hV1
  rcases HP.out.cases with ⟨rfl, rfl⟩ | ⟨r, d, rfl, rfl⟩
  · go_upto_region 6 with (fail)
    go_loopw [10] (fun iv wr => ∃ (i : Nat) (o : Option Dr.D), iv = .int .i64 (i : Int) ∧ i ≤ na ∧ Pair w0 wr wr.heap.size none none o o (1099511627776 + i * 2097152) (1048576 + i * 2)) (fun iv _ => na - (intOf iv).toNat)
    case atStart => exact ⟨0, o0, rfl, by omega, HP.out.mono (by omega) (by omega)⟩
    case round =>
      clear HP
      obtain ⟨i, o, rfl, hi, hP⟩ := hrel
      have hbw := HB0.out.trans (hP.back.mono (by have := HS0.out; omega))
      by_cases hlt : i < na
      · obtain ⟨b, q7, x, rfl, hbB, hx, hcells⟩ := HAC.out.1.at_ hlt
        have hxin := HAC.out.2.1 x (List.mem_of_getElem? hx)
        have HXIN := Lib.hid hxin
        have HRA := Lib.hid (show ∀ wx, Below V w wx → wx.rangeAt b (q7 + i * 7) x.cells from fun wx hb j v hv => (hb.cell (p := ⟨b, q7 + i * 7 + j, none⟩) hbB).trans (hcells j v hv))
        have HXA := Lib.hid (show ∀ wx, Below V w wx → x.In wx V from fun wx hb => ActIn.below hxin hb)
        have HCE := Lib.hid (HRA.out wr hbw)
        have HXW := Lib.hid (HXA.out wr hbw)
        have HPP := Lib.hid hP
        have hlt2 : (i : Int) < (na : Int) := by omega
        have hxn := hxin.n_le
        clear hx hxin hcells hP hbw hbB
        go_wp2_with (first
          | (refine loadAct rfl (.tmp 39) rfl b (q7 + i * 7) rfl HCE.out ?_)
          | (go_at_call 13; go_loud (refine (pair_do_r HPP.out (B := V) (by have := HS0.out; omega) HXW.out (by omega) (by omega)).mono ?_); rintro y w3 ⟨_, _, _, _, rfl, _, hP3⟩; go_loud (have hb3 := HB0.out.trans (hP3.back.mono (by have := HS0.out; omega))); have HC3 := Lib.hid (HRA.out _ hb3); have HX3 := Lib.hid (HXA.out _ hb3); have HP3 := Lib.hid hP3; clear hP3 hb3 HCE HXW HPP)
          | (refine loadAct rfl (.tmp 45) rfl b (q7 + i * 7) rfl HC3.out ?_)
          | (go_at_call 14; go_loud (refine (pair_do_d HP3.out (B := V) (by have := HS0.out; omega) HX3.out (by omega) (by omega)).mono ?_); rintro y w4 ⟨_, _, _, _, rfl, _, hP4, _⟩; have HP4 := Lib.hid hP4; clear hP4))
        go_roundw
        case rel => exact ⟨i + 1, stepO o x.a, by go_num, by omega, HP4.out.mono (by omega) (by omega)⟩
        case measure => simp [intOf]; omega
      · obtain rfl : i = na := by omega
        have HRFW := Lib.hid (HRF.out wr hP.back)
        have HFAW := Lib.hid (HFA.out.below hbw)
        have HPP := Lib.hid hP
        have hok := hP.okR
        have HSAF := Lib.hid (crashO_safe hok dirs cuts)
        have HPEN := Lib.hid (crashO_pend o dirs cuts)
        clear hP hok hbw hlt
        go_upto_region 11 with (first
          | (refine wpList_load_mid rfl tFate (.tmp 5) rfl (V + 1) 0 rfl [.slice Ad nd cd, .slice Au nu cu] _ HRFW.out Try.underlying29 rfl (by kernel_rfl) ?_)
          | (go_at_call 15; go_loud (refine (pair_crash_r HPP.out (by omega) (by omega) (HFAW.out.dirs.more (by have := HPP.out.back.size; have := HS0.out; omega)) (HFAW.out.cuts.more (by have := HPP.out.back.size; have := HS0.out; omega)) HFAW.out.cut).mono ?_); rintro y w3 ⟨rfl, hP3⟩; have HP3 := Lib.hid hP3; clear hP3))
        have hb3 := HB0.out.trans (HP3.out.back.mono (by have := HS0.out; omega))
        have HRF3 := Lib.hid (HRF.out w3 HP3.out.back)
        have HFA3 := Lib.hid (HFA.out.below hb3)
        clear hb3 HRFW HFAW HPP
        go_upto_region 12 with (first
          | (refine wpList_load_mid rfl tFate (.tmp 5) rfl (V + 1) 0 rfl [.slice Ad nd cd, .slice Au nu cu] _ HRF3.out Try.underlying29 rfl (by kernel_rfl) ?_)
          | (go_at_call 16; go_loud (refine (pair_crash_d HP3.out (by omega) (by omega) (B := V) (by have := HS0.out; omega) HFA3.out).mono ?_); rintro y w4 ⟨rfl, hP4⟩; have HP4 := Lib.hid hP4; clear hP4))
        obtain ⟨oc, hoc⟩ : ∃ oc, crashO o dirs cuts = oc := ⟨_, rfl⟩
        rw [hoc] at HP4 HSAF HPEN
        obtain ⟨hl1, hl2⟩ := imgO_len HP4.out
        obtain ⟨k1, hk1⟩ : ∃ k, (imgO oc).length = k := ⟨_, rfl⟩
        have hk2 : (safO oc).length = k1 := by rw [HSAF.out, hk1]
        rw [hk1] at hl1
        obtain ⟨cc, hcc⟩ : ∃ cc, codeO o = cc := ⟨_, rfl⟩
        obtain ⟨uu, huu⟩ : ∃ uu, usedO oc = uu := ⟨_, rfl⟩
        have HUU := Lib.hid huu
        have HK1 := Lib.hid hk1
        have HK2 := Lib.hid hk2
        try rw [hcc]
        clear HRF3 HFA3 HP3 hoc hk1 hk2 hl2 hcc huu
        go_upto_region 13 with (first
          | (go_at_call 17; go_loud (refine (pair_image_r HP4.out (by omega) (by omega) rfl HK1.out).mono ?_); rintro y w5 ⟨A5, c5, dv5, rfl, hf5, hb5⟩; have HF5 := Lib.hid (hf5.rd HK1.out); have HP5 := Lib.hid (HP4.out.below hb5); clear hf5 hb5))
        go_wp2_with (first
          | (go_at_call 18; refine (num_any _ _).mono ?_; rintro y wy ⟨rfl, rfl⟩)
          | (go_at_call 20; go_loud (refine (pair_image_d HP5.out (by omega) (by omega) rfl HK1.out).mono ?_); rintro y w6 ⟨A6, c6, dv6, rfl, hf6, hb6⟩; have HF6 := Lib.hid (hf6.rd HK1.out); have HF56 := Lib.hid (HF5.out.below hb6); have HP6 := Lib.hid (HP5.out.below hb6); clear hf6 hb6 HP5 HF5)
          | (go_at_call 19; go_loud (refine (sameFiles_any HF6.out HF56.out (by omega)).mono ?_); rintro y w7 ⟨rfl, hb7⟩; have HF7 := Lib.hid (HF56.out.below hb7); have HP7 := Lib.hid (HP6.out.below hb7); clear hb7 HP6 HF6 HF56)
          | (go_at_call 21; go_loud (refine (pair_safe_d HP7.out (by omega) (by omega) rfl HK2.out).mono ?_); rintro y w8 ⟨A8, c8, dv8, rfl, hf8, hb8⟩; have HF8 := Lib.hid (hf8.rd HK2.out); have HF78 := Lib.hid (HF7.out.below hb8); have HP8 := Lib.hid (HP7.out.below hb8); clear hf8 hb8 HP7 HF7)
          | (go_at_call 19; go_loud (refine (sameFiles_any (HSAF.out ▸ HF8.out) HF78.out (by omega)).mono ?_); rintro y w9 ⟨rfl, hb9⟩; have HP9 := Lib.hid (HP8.out.below hb9); clear hb9 HP8 HF8 HF78)
          | (go_at_call 22; go_loud (have hpd := pair_pending_d HP9.out); rw [HPEN.out] at hpd; refine hpd.mono ?_; rintro y w10 ⟨rfl, hb10⟩; have HP10 := Lib.hid (HP9.out.below hb10); clear hb10 HP9 hpd)
          | (go_at_call 23; go_loud (have hpd := pair_used_d HP10.out); rw [HUU.out] at hpd; refine hpd.mono ?_; rintro y w11 ⟨rfl, hb11⟩; have HP11 := Lib.hid (HP10.out.below hb11); clear hb11 HP10 hpd)
          | (go_at_call 24; go_loud (have hpd := pair_used_r HP11.out); rw [HUU.out] at hpd; refine hpd.mono ?_; rintro y w12 ⟨rfl, hb12⟩; have HP12 := Lib.hid (HP11.out.below hb12); clear hb12 HP11 hpd))
        go_ret
        exact ⟨rfl, HB0.out.trans (HP12.out.back.mono (by have := HS0.out; omega))⟩
  · go_upto_region 6 with (fail)
    go_loopw [10] (fun iv wr => ∃ (i : Nat) (o : Option Dr.D), iv = .int .i64 (i : Int) ∧ i ≤ na ∧ Pair w0 wr wr.heap.size (some ⟨r, 0, none⟩) (some ⟨d, 0, none⟩) o o (1099511627776 + i * 2097152) (1048576 + i * 2)) (fun iv _ => na - (intOf iv).toNat)
    case atStart => exact ⟨0, o0, rfl, by omega, HP.out.mono (by omega) (by omega)⟩
    case round =>
      clear HP
      obtain ⟨i, o, rfl, hi, hP⟩ := hrel
      have hbw := HB0.out.trans (hP.back.mono (by have := HS0.out; omega))
      by_cases hlt : i < na
      · obtain ⟨b, q7, x, rfl, hbB, hx, hcells⟩ := HAC.out.1.at_ hlt
        have hxin := HAC.out.2.1 x (List.mem_of_getElem? hx)
        have HXIN := Lib.hid hxin
        have HRA := Lib.hid (show ∀ wx, Below V w wx → wx.rangeAt b (q7 + i * 7) x.cells from fun wx hb j v hv => (hb.cell (p := ⟨b, q7 + i * 7 + j, none⟩) hbB).trans (hcells j v hv))
        have HXA := Lib.hid (show ∀ wx, Below V w wx → x.In wx V from fun wx hb => ActIn.below hxin hb)
        have HCE := Lib.hid (HRA.out wr hbw)
        have HXW := Lib.hid (HXA.out wr hbw)
        have HPP := Lib.hid hP
        have hlt2 : (i : Int) < (na : Int) := by omega
        have hxn := hxin.n_le
        clear hx hxin hcells hP hbw hbB
        go_wp2_with (first
          | (refine loadAct rfl (.tmp 39) rfl b (q7 + i * 7) rfl HCE.out ?_)
          | (go_at_call 13; go_loud (refine (pair_do_r HPP.out (B := V) (by have := HS0.out; omega) HXW.out (by omega) (by omega)).mono ?_); rintro y w3 ⟨_, _, _, _, rfl, _, hP3⟩; go_loud (have hb3 := HB0.out.trans (hP3.back.mono (by have := HS0.out; omega))); have HC3 := Lib.hid (HRA.out _ hb3); have HX3 := Lib.hid (HXA.out _ hb3); have HP3 := Lib.hid hP3; clear hP3 hb3 HCE HXW HPP)
          | (refine loadAct rfl (.tmp 45) rfl b (q7 + i * 7) rfl HC3.out ?_)
          | (go_at_call 14; go_loud (refine (pair_do_d HP3.out (B := V) (by have := HS0.out; omega) HX3.out (by omega) (by omega)).mono ?_); rintro y w4 ⟨_, _, _, _, rfl, _, hP4, _⟩; have HP4 := Lib.hid hP4; clear hP4))
        go_roundw
        case rel => exact ⟨i + 1, stepO o x.a, by go_num, by omega, HP4.out.mono (by omega) (by omega)⟩
        case measure => simp [intOf]; omega
      · obtain rfl : i = na := by omega
        have HRFW := Lib.hid (HRF.out wr hP.back)
        have HFAW := Lib.hid (HFA.out.below hbw)
        have HPP := Lib.hid hP
        have hok := hP.okR
        have HSAF := Lib.hid (crashO_safe hok dirs cuts)
        have HPEN := Lib.hid (crashO_pend o dirs cuts)
        clear hP hok hbw hlt
        go_upto_region 11 with (first
          | (refine wpList_load_mid rfl tFate (.tmp 5) rfl (V + 1) 0 rfl [.slice Ad nd cd, .slice Au nu cu] _ HRFW.out Try.underlying29 rfl (by kernel_rfl) ?_)
          | (go_at_call 15; go_loud (refine (pair_crash_r HPP.out (by omega) (by omega) (HFAW.out.dirs.more (by have := HPP.out.back.size; have := HS0.out; omega)) (HFAW.out.cuts.more (by have := HPP.out.back.size; have := HS0.out; omega)) HFAW.out.cut).mono ?_); rintro y w3 ⟨rfl, hP3⟩; have HP3 := Lib.hid hP3; clear hP3))
        have hb3 := HB0.out.trans (HP3.out.back.mono (by have := HS0.out; omega))
        have HRF3 := Lib.hid (HRF.out w3 HP3.out.back)
        have HFA3 := Lib.hid (HFA.out.below hb3)
        clear hb3 HRFW HFAW HPP
        go_upto_region 12 with (first
          | (refine wpList_load_mid rfl tFate (.tmp 5) rfl (V + 1) 0 rfl [.slice Ad nd cd, .slice Au nu cu] _ HRF3.out Try.underlying29 rfl (by kernel_rfl) ?_)
          | (go_at_call 16; go_loud (refine (pair_crash_d HP3.out (by omega) (by omega) (B := V) (by have := HS0.out; omega) HFA3.out).mono ?_); rintro y w4 ⟨rfl, hP4⟩; have HP4 := Lib.hid hP4; clear hP4))
        obtain ⟨oc, hoc⟩ : ∃ oc, crashO o dirs cuts = oc := ⟨_, rfl⟩
        rw [hoc] at HP4 HSAF HPEN
        obtain ⟨hl1, hl2⟩ := imgO_len HP4.out
        obtain ⟨k1, hk1⟩ : ∃ k, (imgO oc).length = k := ⟨_, rfl⟩
        have hk2 : (safO oc).length = k1 := by rw [HSAF.out, hk1]
        rw [hk1] at hl1
        obtain ⟨cc, hcc⟩ : ∃ cc, codeO o = cc := ⟨_, rfl⟩
        obtain ⟨uu, huu⟩ : ∃ uu, usedO oc = uu := ⟨_, rfl⟩
        have HUU := Lib.hid huu
        have HK1 := Lib.hid hk1
        have HK2 := Lib.hid hk2
        try rw [hcc]
        clear HRF3 HFA3 HP3 hoc hk1 hk2 hl2 hcc huu
        go_upto_region 13 with (first
          | (go_at_call 17; go_loud (refine (pair_image_r HP4.out (by omega) (by omega) rfl HK1.out).mono ?_); rintro y w5 ⟨A5, c5, dv5, rfl, hf5, hb5⟩; have HF5 := Lib.hid (hf5.rd HK1.out); have HP5 := Lib.hid (HP4.out.below hb5); clear hf5 hb5))
        go_wp2_with (first
          | (go_at_call 18; refine (num_any _ _).mono ?_; rintro y wy ⟨rfl, rfl⟩)
          | (go_at_call 20; go_loud (refine (pair_image_d HP5.out (by omega) (by omega) rfl HK1.out).mono ?_); rintro y w6 ⟨A6, c6, dv6, rfl, hf6, hb6⟩; have HF6 := Lib.hid (hf6.rd HK1.out); have HF56 := Lib.hid (HF5.out.below hb6); have HP6 := Lib.hid (HP5.out.below hb6); clear hf6 hb6 HP5 HF5)
          | (go_at_call 19; go_loud (refine (sameFiles_any HF6.out HF56.out (by omega)).mono ?_); rintro y w7 ⟨rfl, hb7⟩; have HF7 := Lib.hid (HF56.out.below hb7); have HP7 := Lib.hid (HP6.out.below hb7); clear hb7 HP6 HF6 HF56)
          | (go_at_call 21; go_loud (refine (pair_safe_d HP7.out (by omega) (by omega) rfl HK2.out).mono ?_); rintro y w8 ⟨A8, c8, dv8, rfl, hf8, hb8⟩; have HF8 := Lib.hid (hf8.rd HK2.out); have HF78 := Lib.hid (HF7.out.below hb8); have HP8 := Lib.hid (HP7.out.below hb8); clear hf8 hb8 HP7 HF7)
          | (go_at_call 19; go_loud (refine (sameFiles_any (HSAF.out ▸ HF8.out) HF78.out (by omega)).mono ?_); rintro y w9 ⟨rfl, hb9⟩; have HP9 := Lib.hid (HP8.out.below hb9); clear hb9 HP8 HF8 HF78)
          | (go_at_call 22; go_loud (have hpd := pair_pending_d HP9.out); rw [HPEN.out] at hpd; refine hpd.mono ?_; rintro y w10 ⟨rfl, hb10⟩; have HP10 := Lib.hid (HP9.out.below hb10); clear hb10 HP9 hpd)
          | (go_at_call 23; go_loud (have hpd := pair_used_d HP10.out); rw [HUU.out] at hpd; refine hpd.mono ?_; rintro y w11 ⟨rfl, hb11⟩; have HP11 := Lib.hid (HP10.out.below hb11); clear hb11 HP10 hpd)
          | (go_at_call 24; go_loud (have hpd := pair_used_r HP11.out); rw [HUU.out] at hpd; refine hpd.mono ?_; rintro y w12 ⟨rfl, hb12⟩; have HP12 := Lib.hid (HP11.out.below hb12); clear hb12 HP11 hpd))
        go_ret
        exact ⟨rfl, HB0.out.trans (HP12.out.back.mono (by have := HS0.out; omega))⟩
end Go.Proofs.Ytelgcmcnebncmaa.Dr
namespace Go.Proofs.Ytelgcmcnebncmaa.Dr
set_option linter.unusedVariables false
open Go.RowKit Go.Proofs Go.Proofs.Ytelgcmcnebncmaa.Ring

set_option maxRecDepth 100000 in
set_option maxHeartbeats 16000000 in
theorem plays_any {how room : Int} {A Aa : Option Addr} {n c na ca : Nat} {l : List Fl} {la : List Av} (w : World) (hf : Files w w.heap.size A n l) (ha : Acts w w.heap.size Aa na la) :
    Calls Try.prog 10 #[.agg #[.int .i64 how, .int .i64 room, .slice A n c], .slice Aa na ca] w fun x w' => x = .returned (.bool true) ∧ Below w.heap.size w w' := by
  obtain ⟨V, hV⟩ : ∃ V, w.heap.size = V := ⟨_, rfl⟩
  rw [hV] at hf ha ⊢
  have HFI := Lib.hid hf
  have HAC := Lib.hid ha

  have hna := ha.2.2
  clear hf ha
  go_enter Try.func10, Try.ntmps10
  go_upto_region 1 with (fail)
  obtain ⟨w0, hw0⟩ : ∃ w0, w.alloc (.cells #[.int .i64 how, .int .i64 room, .slice A n c] tStart) = w0 := ⟨_, rfl⟩
  have hst0 : w0.heap[V]? = some (.cells #[.int .i64 how, .int .i64 room, .slice A n c] tStart (0, 0)) := by
    rw [← hw0, ← hV]
    exact heap_alloc_new _ _
  have hb0 : Below V w w0 := by
    rw [← hw0, ← hV]
    exact (Below.refl _ _).alloc (Nat.le_refl _) _
  have hs0 : w0.heap.size = V + 1 := by rw [← hw0, ← hV]; simp
  try rw [hw0]
  clear hw0 hV
  have hrg : ∀ wx, Below w0.heap.size w0 wx → wx.rangeAt V 0 [.int .i64 how, .int .i64 room, .slice A n c] := by
    intro wx hb j v hv
    rw [Nat.zero_add, cell_of_row wx V _ _ _ _ ((hb.block V (by omega)).trans hst0)]
    simpa using hv
  have HB0 := Lib.hid hb0
  have HS0 := Lib.hid hs0
  have HRG := Lib.hid hrg
  have HST := Lib.hid (hrg w0 (Below.refl _ _))
  clear hst0 hb0 hs0 hrg
  go_upto_region 2 with (first
    | (refine wpList_load_mid rfl tStart (.tmp 2) rfl V 0 rfl [.int .i64 how, .int .i64 room, .slice A n c] _ HST.out Try.underlying24 rfl (by kernel_rfl) ?_)
    | (go_at_call 11; go_loud (refine (rbegun_any (how := how) (room := room) (HFI.out.below HB0.out) (by have := HS0.out; omega)).mono ?_); rintro x w1 ⟨pr, rfl, hb1, hl1⟩; have HB1 := Lib.hid hb1; have HL1 := Lib.hid hl1; clear hb1 hl1))
  have HST1 := Lib.hid (HRG.out w1 HB1.out)
  have hV1 : V ≤ w1.heap.size := by have := HB1.out.size; have := HS0.out; omega
  clear HST
  go_upto_region 3 with (first
    | (refine wpList_load_mid rfl tStart (.tmp 2) rfl V 0 rfl [.int .i64 how, .int .i64 room, .slice A n c] _ HST1.out Try.underlying24 rfl (by kernel_rfl) ?_)
    | (go_at_call 12; go_loud (refine (made_any (how := how) (room := room) ((HFI.out.below HB0.out).below (HB1.out.mono (by have := HS0.out; omega))) hV1).mono ?_); rintro x w2 hmade; obtain ⟨pd, hx, hp⟩ := hmade.ptr; subst hx; have HP := Lib.hid (Pair.start HB1.out HL1.out hp); clear hp hmade))
  clear HST1 HL1
  obtain ⟨o0, ho0⟩ : ∃ o, begun how room (l.map Fl.file) = o := ⟨_, rfl⟩
  rw [ho0] at HP
  clear ho0 hV1
  rcases HP.out.cases with ⟨rfl, rfl⟩ | ⟨r, d, rfl, rfl⟩
  · go_upto_region 6 with (fail)
    go_loopw [8] (fun iv wr => ∃ (i : Nat) (o : Option Dr.D), iv = .int .i64 (i : Int) ∧ i ≤ na ∧ Pair w0 wr wr.heap.size none none o o (1099511627776 + i * 2097152) (1048576 + i * 2)) (fun iv _ => na - (intOf iv).toNat)
    case atStart => exact ⟨0, o0, rfl, by omega, HP.out.mono (by omega) (by omega)⟩
    case round =>
      clear HP
      obtain ⟨i, o, rfl, hi, hP⟩ := hrel
      have hbw := HB0.out.trans (hP.back.mono (by have := HS0.out; omega))
      by_cases hlt : i < na
      · obtain ⟨b, q7, x, rfl, hbB, hx, hcells⟩ := HAC.out.1.at_ hlt
        have hxin := HAC.out.2.1 x (List.mem_of_getElem? hx)
        have HXIN := Lib.hid hxin
        have HRA := Lib.hid (show ∀ wx, Below V w wx → wx.rangeAt b (q7 + i * 7) x.cells from fun wx hb j v hv => (hb.cell (p := ⟨b, q7 + i * 7 + j, none⟩) hbB).trans (hcells j v hv))
        have HXA := Lib.hid (show ∀ wx, Below V w wx → x.In wx V from fun wx hb => ActIn.below hxin hb)
        have HCE := Lib.hid (HRA.out wr hbw)
        have HXW := Lib.hid (HXA.out wr hbw)
        have HPP := Lib.hid hP
        have hlt2 : (i : Int) < (na : Int) := by omega
        have hxn := hxin.n_le
        clear hx hxin hcells hP hbw hbB
        go_upto_region 9 with (first
          | (refine loadAct rfl (.tmp 39) rfl b (q7 + i * 7) rfl HCE.out ?_)
          | (go_at_call 13; go_loud (refine (pair_do_r HPP.out (B := V) (by have := HS0.out; omega) HXW.out (by omega) (by omega)).mono ?_); rintro y w3 ⟨v1, v2, v3, dv1, rfl, hat1, hP3⟩; go_loud (have hb3 := HB0.out.trans (hP3.back.mono (by have := HS0.out; omega))); obtain ⟨B1, c1, B2, c2, B3, c3, rfl, rfl, rfl, hsay⟩ := hat1.say; have HAT1 := Lib.hid hat1; have HP3 := Lib.hid hP3; clear hP3 hb3 HCE HXW hat1 hsay))
        obtain ⟨x1, hx1⟩ : ∃ y, ansO o x.a = y := ⟨_, rfl⟩
        rw [hx1] at HAT1
        try rw [hx1]
        have HX1 := Lib.hid hx1
        clear hx1
        obtain ⟨P1, hP1⟩ : ∃ P, w3.heap.size = P := ⟨_, rfl⟩
        obtain ⟨wa, hwa⟩ : ∃ wa, w3.alloc (.cells #[.int .i64 x1.code, .int .i64 x1.n, .slice B1 x1.data.length c1, .slice B2 x1.names.length c2, .slice B3 x1.files.length c3] tAnswer) = wa := ⟨_, rfl⟩
        have hba : Below w3.heap.size w3 wa := by rw [← hwa]; exact (Below.refl _ _).alloc (Nat.le_refl _) _
        have hca : wa.heap[P1]? = some (.cells #[.int .i64 x1.code, .int .i64 x1.n, .slice B1 x1.data.length c1, .slice B2 x1.names.length c2, .slice B3 x1.files.length c3] tAnswer (0, 0)) := by rw [← hwa, ← hP1]; exact heap_alloc_new _ _
        have hrb : wr.heap.size ≤ P1 := by rw [← hP1]; exact HP3.out.2.1
        have HPA := Lib.hid (HP3.out.below hba)
        have hbv := HB0.out.trans (HPA.out.back.mono (by have := HS0.out; omega))
        have HCA := Lib.hid (HRA.out wa hbv)
        have HXA2 := Lib.hid (HXA.out wa hbv)
        have HATA := Lib.hid (show AnAt wa wr.heap.size _ _ _ dv1 x1 from HAT1.out.same fun k _ hk => hba.block k hk)
        have hP1a : P1 < wa.heap.size := (Array.getElem?_eq_some_iff.1 hca).1
        have HP1 := Lib.hid hca
        have HPL1 := Lib.hid hP1a
        have HRB := Lib.hid hrb
        have HLEN := Lib.hid (ansO_len HPP.out x.a)
        rw [HX1.out] at HLEN
        rw [hwa, hP1]
        clear hba hca hrb hbv hwa hP1 hP1a HP3 HAT1 HPP
        go_upto_region 10 with (first
          | (refine loadAct rfl (.tmp 46) rfl b (q7 + i * 7) rfl HCA.out ?_)
          | (go_at_call 14; go_loud (refine (pair_do_d HPA.out (B := V) (by have := HS0.out; omega) HXA2.out (by omega) (by omega)).mono ?_); rw [HX1.out]; rintro y w5 ⟨u1, u2, u3, dv2, rfl, hat2, hP5, hs5, hk5⟩; have HSZ5 := Lib.hid hs5; obtain ⟨G1, e1, G2, e2, G3, e3, rfl, rfl, rfl, hsay⟩ := hat2.say; have HAT2 := Lib.hid hat2; have HP5 := Lib.hid hP5; have HK5 := Lib.hid hk5; clear hP5 hat2 hsay hs5 hk5 HCA HXA2))
        obtain ⟨P2, hP2⟩ : ∃ P, w5.heap.size = P := ⟨_, rfl⟩
        obtain ⟨w6, hw6⟩ : ∃ w6, w5.alloc (.cells #[.int .i64 x1.code, .int .i64 x1.n, .slice G1 x1.data.length e1, .slice G2 x1.names.length e2, .slice G3 x1.files.length e3] tAnswer) = w6 := ⟨_, rfl⟩
        have hb6 : Below w5.heap.size w5 w6 := by rw [← hw6]; exact (Below.refl _ _).alloc (Nat.le_refl _) _
        have hc6 : w6.heap[P2]? = some (.cells #[.int .i64 x1.code, .int .i64 x1.n, .slice G1 x1.data.length e1, .slice G2 x1.names.length e2, .slice G3 x1.files.length e3] tAnswer (0, 0)) := by rw [← hw6, ← hP2]; exact heap_alloc_new _ _
        have hs5 : wa.heap.size ≤ w5.heap.size := HSZ5.out
        rw [hw6, hP2]
        have hbv6 : ∀ k, wr.heap.size ≤ k → k < wa.heap.size → w6.heap[k]? = wa.heap[k]? := fun k h1 h2 => (hb6.block k (by omega)).trans (HK5.out k h1 h2)
        have hc1 : w6.heap[P1]? = some (.cells #[.int .i64 x1.code, .int .i64 x1.n, .slice B1 x1.data.length c1, .slice B2 x1.names.length c2, .slice B3 x1.files.length c3] tAnswer (0, 0)) := (hbv6 P1 HRB.out HPL1.out).trans HP1.out
        have ha1 := HATA.out.same hbv6
        have ha2 := HAT2.out.same (fun k _ hk => hb6.block k hk)
        have s1 : SayR w6 B1 x1.data.length B2 x1.names.length B3 x1.files.length x1 := ⟨Rd.of_own ha1.data, Rd.of_own ha1.names, ha1.files.rd rfl⟩
        have s2 : SayR w6 G1 x1.data.length G2 x1.names.length G3 x1.files.length x1 := ⟨Rd.of_own ha2.data, Rd.of_own ha2.names, ha2.files.rd rfl⟩
        have cP10 : w6.cell? ⟨P1, 0, none⟩ = some (.int .i64 x1.code) := by rw [cell_of_row w6 P1 _ _ _ _ hc1]; rfl
        have cP11 : w6.cell? ⟨P1, 1, none⟩ = some (.int .i64 x1.n) := by rw [cell_of_row w6 P1 _ _ _ _ hc1]; rfl
        have cP12 : w6.cell? ⟨P1, 2, none⟩ = some (.slice B1 x1.data.length c1) := by rw [cell_of_row w6 P1 _ _ _ _ hc1]; rfl
        have cP13 : w6.cell? ⟨P1, 3, none⟩ = some (.slice B2 x1.names.length c2) := by rw [cell_of_row w6 P1 _ _ _ _ hc1]; rfl
        have cP14 : w6.cell? ⟨P1, 4, none⟩ = some (.slice B3 x1.files.length c3) := by rw [cell_of_row w6 P1 _ _ _ _ hc1]; rfl
        have cP20 : w6.cell? ⟨P2, 0, none⟩ = some (.int .i64 x1.code) := by rw [cell_of_row w6 P2 _ _ _ _ hc6]; rfl
        have cP21 : w6.cell? ⟨P2, 1, none⟩ = some (.int .i64 x1.n) := by rw [cell_of_row w6 P2 _ _ _ _ hc6]; rfl
        have cP22 : w6.cell? ⟨P2, 2, none⟩ = some (.slice G1 x1.data.length e1) := by rw [cell_of_row w6 P2 _ _ _ _ hc6]; rfl
        have cP23 : w6.cell? ⟨P2, 3, none⟩ = some (.slice G2 x1.names.length e2) := by rw [cell_of_row w6 P2 _ _ _ _ hc6]; rfl
        have cP24 : w6.cell? ⟨P2, 4, none⟩ = some (.slice G3 x1.files.length e3) := by rw [cell_of_row w6 P2 _ _ _ _ hc6]; rfl
        have HS1 := Lib.hid s1
        have HS2 := Lib.hid s2
        have HP6 := Lib.hid (HP5.out.below hb6)
        obtain ⟨hn1, hn2⟩ := HLEN.out
        have HSAME := Lib.hid (same_any (cd := e1) (cn := e2) (cf := e3) (dd := c1) (dn := c2) (df := c3) (q0 := x1.code) (q1 := x1.n) HS2.out HS1.out (by omega) (by omega))
        clear hbv6 hc1 ha1 ha2 s1 s2 hb6 hc6 hw6 hP2 hs5 HP5 HAT2 HATA HK5 HP1 HPA
        go_wp2_with (first
          | (go_at_call 52; go_loud (refine HSAME.out.mono ?_); rintro y w7 ⟨rfl, hb7⟩; have HP7 := Lib.hid (HP6.out.below hb7).now; clear hb7)
          | (go_at_call 53; refine (struck_any _).mono ?_; rintro y wy ⟨rfl, rfl⟩))
        go_roundw
        case rel => exact ⟨i + 1, stepO o x.a, by go_num, by omega, HP7.out.mono (by omega) (by omega)⟩
        case measure => simp [intOf]; omega
      · obtain rfl : i = na := by omega
        have HP4 := Lib.hid hP
        obtain ⟨hl1, hl2⟩ := imgO_len hP
        obtain ⟨k1, hk1⟩ : ∃ k, (imgO o).length = k := ⟨_, rfl⟩
        obtain ⟨k2, hk2⟩ : ∃ k, (safO o).length = k := ⟨_, rfl⟩
        rw [hk1] at hl1
        rw [hk2] at hl2
        have HK1 := Lib.hid hk1
        have HK2 := Lib.hid hk2
        clear hP hbw hlt hk1 hk2
        go_upto_region 13 with (first
          | (go_at_call 17; go_loud (refine (pair_image_r HP4.out (by omega) (by omega) rfl HK1.out).mono ?_); rintro y w5 ⟨A5, c5, dv5, rfl, hf5, hb5⟩; have HF5 := Lib.hid (hf5.rd HK1.out); have HP5 := Lib.hid (HP4.out.below hb5); clear hf5 hb5))
        go_upto_region 14 with (first
          | (go_at_call 54; go_loud (refine (pair_safe_r HP5.out (by omega) (by omega) rfl HK2.out).mono ?_); rintro y w5b ⟨A5b, c5b, dv5b, rfl, hf5b, hb5b⟩; have HG5 := Lib.hid (hf5b.rd HK2.out); have HF5b := Lib.hid (HF5.out.below hb5b); have HP5b := Lib.hid (HP5.out.below hb5b); clear hf5b hb5b HP5 HF5))
        go_wp2_with (first
          | (go_at_call 20; go_loud (refine (pair_image_d HP5b.out (by omega) (by omega) rfl HK1.out).mono ?_); rintro y w6 ⟨A6, c6, dv6, rfl, hf6, hb6⟩; have HF6 := Lib.hid (hf6.rd HK1.out); have HF56 := Lib.hid (HF5b.out.below hb6); have HG6 := Lib.hid (HG5.out.below hb6); have HP6 := Lib.hid (HP5b.out.below hb6); clear hf6 hb6 HP5b HF5b HG5)
          | (go_at_call 19; go_loud (refine (sameFiles_any HF6.out HF56.out (by omega)).mono ?_); rintro y w7 ⟨rfl, hb7⟩; have HG7 := Lib.hid (HG6.out.below hb7); have HP7 := Lib.hid (HP6.out.below hb7); clear hb7 HP6 HF6 HF56 HG6)
          | (go_at_call 21; go_loud (refine (pair_safe_d HP7.out (by omega) (by omega) rfl HK2.out).mono ?_); rintro y w8 ⟨A8, c8, dv8, rfl, hf8, hb8⟩; have HF8 := Lib.hid (hf8.rd HK2.out); have HG8 := Lib.hid (HG7.out.below hb8); have HP8 := Lib.hid (HP7.out.below hb8); clear hf8 hb8 HP7 HG7)
          | (go_at_call 19; go_loud (refine (sameFiles_any HF8.out HG8.out (by omega)).mono ?_); rintro y w9 ⟨rfl, hb9⟩; have HP9 := Lib.hid (HP8.out.below hb9); clear hb9 HP8 HF8 HG8))
        go_ret
        exact ⟨rfl, HB0.out.trans (HP9.out.back.mono (by have := HS0.out; omega))⟩
  · go_upto_region 6 with (fail)
    go_loopw [8] (fun iv wr => ∃ (i : Nat) (o : Option Dr.D), iv = .int .i64 (i : Int) ∧ i ≤ na ∧ Pair w0 wr wr.heap.size (some ⟨r, 0, none⟩) (some ⟨d, 0, none⟩) o o (1099511627776 + i * 2097152) (1048576 + i * 2)) (fun iv _ => na - (intOf iv).toNat)
    case atStart => exact ⟨0, o0, rfl, by omega, HP.out.mono (by omega) (by omega)⟩
    case round =>
      clear HP
      obtain ⟨i, o, rfl, hi, hP⟩ := hrel
      have hbw := HB0.out.trans (hP.back.mono (by have := HS0.out; omega))
      by_cases hlt : i < na
      · obtain ⟨b, q7, x, rfl, hbB, hx, hcells⟩ := HAC.out.1.at_ hlt
        have hxin := HAC.out.2.1 x (List.mem_of_getElem? hx)
        have HXIN := Lib.hid hxin
        have HRA := Lib.hid (show ∀ wx, Below V w wx → wx.rangeAt b (q7 + i * 7) x.cells from fun wx hb j v hv => (hb.cell (p := ⟨b, q7 + i * 7 + j, none⟩) hbB).trans (hcells j v hv))
        have HXA := Lib.hid (show ∀ wx, Below V w wx → x.In wx V from fun wx hb => ActIn.below hxin hb)
        have HCE := Lib.hid (HRA.out wr hbw)
        have HXW := Lib.hid (HXA.out wr hbw)
        have HPP := Lib.hid hP
        have hlt2 : (i : Int) < (na : Int) := by omega
        have hxn := hxin.n_le
        clear hx hxin hcells hP hbw hbB
        go_upto_region 9 with (first
          | (refine loadAct rfl (.tmp 39) rfl b (q7 + i * 7) rfl HCE.out ?_)
          | (go_at_call 13; go_loud (refine (pair_do_r HPP.out (B := V) (by have := HS0.out; omega) HXW.out (by omega) (by omega)).mono ?_); rintro y w3 ⟨v1, v2, v3, dv1, rfl, hat1, hP3⟩; go_loud (have hb3 := HB0.out.trans (hP3.back.mono (by have := HS0.out; omega))); obtain ⟨B1, c1, B2, c2, B3, c3, rfl, rfl, rfl, hsay⟩ := hat1.say; have HAT1 := Lib.hid hat1; have HP3 := Lib.hid hP3; clear hP3 hb3 HCE HXW hat1 hsay))
        obtain ⟨x1, hx1⟩ : ∃ y, ansO o x.a = y := ⟨_, rfl⟩
        rw [hx1] at HAT1
        try rw [hx1]
        have HX1 := Lib.hid hx1
        clear hx1
        obtain ⟨P1, hP1⟩ : ∃ P, w3.heap.size = P := ⟨_, rfl⟩
        obtain ⟨wa, hwa⟩ : ∃ wa, w3.alloc (.cells #[.int .i64 x1.code, .int .i64 x1.n, .slice B1 x1.data.length c1, .slice B2 x1.names.length c2, .slice B3 x1.files.length c3] tAnswer) = wa := ⟨_, rfl⟩
        have hba : Below w3.heap.size w3 wa := by rw [← hwa]; exact (Below.refl _ _).alloc (Nat.le_refl _) _
        have hca : wa.heap[P1]? = some (.cells #[.int .i64 x1.code, .int .i64 x1.n, .slice B1 x1.data.length c1, .slice B2 x1.names.length c2, .slice B3 x1.files.length c3] tAnswer (0, 0)) := by rw [← hwa, ← hP1]; exact heap_alloc_new _ _
        have hrb : wr.heap.size ≤ P1 := by rw [← hP1]; exact HP3.out.2.1
        have HPA := Lib.hid (HP3.out.below hba)
        have hbv := HB0.out.trans (HPA.out.back.mono (by have := HS0.out; omega))
        have HCA := Lib.hid (HRA.out wa hbv)
        have HXA2 := Lib.hid (HXA.out wa hbv)
        have HATA := Lib.hid (show AnAt wa wr.heap.size _ _ _ dv1 x1 from HAT1.out.same fun k _ hk => hba.block k hk)
        have hP1a : P1 < wa.heap.size := (Array.getElem?_eq_some_iff.1 hca).1
        have HP1 := Lib.hid hca
        have HPL1 := Lib.hid hP1a
        have HRB := Lib.hid hrb
        have HLEN := Lib.hid (ansO_len HPP.out x.a)
        rw [HX1.out] at HLEN
        rw [hwa, hP1]
        clear hba hca hrb hbv hwa hP1 hP1a HP3 HAT1 HPP
        go_upto_region 10 with (first
          | (refine loadAct rfl (.tmp 46) rfl b (q7 + i * 7) rfl HCA.out ?_)
          | (go_at_call 14; go_loud (refine (pair_do_d HPA.out (B := V) (by have := HS0.out; omega) HXA2.out (by omega) (by omega)).mono ?_); rw [HX1.out]; rintro y w5 ⟨u1, u2, u3, dv2, rfl, hat2, hP5, hs5, hk5⟩; have HSZ5 := Lib.hid hs5; obtain ⟨G1, e1, G2, e2, G3, e3, rfl, rfl, rfl, hsay⟩ := hat2.say; have HAT2 := Lib.hid hat2; have HP5 := Lib.hid hP5; have HK5 := Lib.hid hk5; clear hP5 hat2 hsay hs5 hk5 HCA HXA2))
        obtain ⟨P2, hP2⟩ : ∃ P, w5.heap.size = P := ⟨_, rfl⟩
        obtain ⟨w6, hw6⟩ : ∃ w6, w5.alloc (.cells #[.int .i64 x1.code, .int .i64 x1.n, .slice G1 x1.data.length e1, .slice G2 x1.names.length e2, .slice G3 x1.files.length e3] tAnswer) = w6 := ⟨_, rfl⟩
        have hb6 : Below w5.heap.size w5 w6 := by rw [← hw6]; exact (Below.refl _ _).alloc (Nat.le_refl _) _
        have hc6 : w6.heap[P2]? = some (.cells #[.int .i64 x1.code, .int .i64 x1.n, .slice G1 x1.data.length e1, .slice G2 x1.names.length e2, .slice G3 x1.files.length e3] tAnswer (0, 0)) := by rw [← hw6, ← hP2]; exact heap_alloc_new _ _
        have hs5 : wa.heap.size ≤ w5.heap.size := HSZ5.out
        rw [hw6, hP2]
        have hbv6 : ∀ k, wr.heap.size ≤ k → k < wa.heap.size → w6.heap[k]? = wa.heap[k]? := fun k h1 h2 => (hb6.block k (by omega)).trans (HK5.out k h1 h2)
        have hc1 : w6.heap[P1]? = some (.cells #[.int .i64 x1.code, .int .i64 x1.n, .slice B1 x1.data.length c1, .slice B2 x1.names.length c2, .slice B3 x1.files.length c3] tAnswer (0, 0)) := (hbv6 P1 HRB.out HPL1.out).trans HP1.out
        have ha1 := HATA.out.same hbv6
        have ha2 := HAT2.out.same (fun k _ hk => hb6.block k hk)
        have s1 : SayR w6 B1 x1.data.length B2 x1.names.length B3 x1.files.length x1 := ⟨Rd.of_own ha1.data, Rd.of_own ha1.names, ha1.files.rd rfl⟩
        have s2 : SayR w6 G1 x1.data.length G2 x1.names.length G3 x1.files.length x1 := ⟨Rd.of_own ha2.data, Rd.of_own ha2.names, ha2.files.rd rfl⟩
        have cP10 : w6.cell? ⟨P1, 0, none⟩ = some (.int .i64 x1.code) := by rw [cell_of_row w6 P1 _ _ _ _ hc1]; rfl
        have cP11 : w6.cell? ⟨P1, 1, none⟩ = some (.int .i64 x1.n) := by rw [cell_of_row w6 P1 _ _ _ _ hc1]; rfl
        have cP12 : w6.cell? ⟨P1, 2, none⟩ = some (.slice B1 x1.data.length c1) := by rw [cell_of_row w6 P1 _ _ _ _ hc1]; rfl
        have cP13 : w6.cell? ⟨P1, 3, none⟩ = some (.slice B2 x1.names.length c2) := by rw [cell_of_row w6 P1 _ _ _ _ hc1]; rfl
        have cP14 : w6.cell? ⟨P1, 4, none⟩ = some (.slice B3 x1.files.length c3) := by rw [cell_of_row w6 P1 _ _ _ _ hc1]; rfl
        have cP20 : w6.cell? ⟨P2, 0, none⟩ = some (.int .i64 x1.code) := by rw [cell_of_row w6 P2 _ _ _ _ hc6]; rfl
        have cP21 : w6.cell? ⟨P2, 1, none⟩ = some (.int .i64 x1.n) := by rw [cell_of_row w6 P2 _ _ _ _ hc6]; rfl
        have cP22 : w6.cell? ⟨P2, 2, none⟩ = some (.slice G1 x1.data.length e1) := by rw [cell_of_row w6 P2 _ _ _ _ hc6]; rfl
        have cP23 : w6.cell? ⟨P2, 3, none⟩ = some (.slice G2 x1.names.length e2) := by rw [cell_of_row w6 P2 _ _ _ _ hc6]; rfl
        have cP24 : w6.cell? ⟨P2, 4, none⟩ = some (.slice G3 x1.files.length e3) := by rw [cell_of_row w6 P2 _ _ _ _ hc6]; rfl
        have HS1 := Lib.hid s1
        have HS2 := Lib.hid s2
        have HP6 := Lib.hid (HP5.out.below hb6)
        obtain ⟨hn1, hn2⟩ := HLEN.out
        have HSAME := Lib.hid (same_any (cd := e1) (cn := e2) (cf := e3) (dd := c1) (dn := c2) (df := c3) (q0 := x1.code) (q1 := x1.n) HS2.out HS1.out (by omega) (by omega))
        clear hbv6 hc1 ha1 ha2 s1 s2 hb6 hc6 hw6 hP2 hs5 HP5 HAT2 HATA HK5 HP1 HPA
        go_wp2_with (first
          | (go_at_call 52; go_loud (refine HSAME.out.mono ?_); rintro y w7 ⟨rfl, hb7⟩; have HP7 := Lib.hid (HP6.out.below hb7).now; clear hb7)
          | (go_at_call 53; refine (struck_any _).mono ?_; rintro y wy ⟨rfl, rfl⟩))
        go_roundw
        case rel => exact ⟨i + 1, stepO o x.a, by go_num, by omega, HP7.out.mono (by omega) (by omega)⟩
        case measure => simp [intOf]; omega
      · obtain rfl : i = na := by omega
        have HP4 := Lib.hid hP
        obtain ⟨hl1, hl2⟩ := imgO_len hP
        obtain ⟨k1, hk1⟩ : ∃ k, (imgO o).length = k := ⟨_, rfl⟩
        obtain ⟨k2, hk2⟩ : ∃ k, (safO o).length = k := ⟨_, rfl⟩
        rw [hk1] at hl1
        rw [hk2] at hl2
        have HK1 := Lib.hid hk1
        have HK2 := Lib.hid hk2
        clear hP hbw hlt hk1 hk2
        go_upto_region 13 with (first
          | (go_at_call 17; go_loud (refine (pair_image_r HP4.out (by omega) (by omega) rfl HK1.out).mono ?_); rintro y w5 ⟨A5, c5, dv5, rfl, hf5, hb5⟩; have HF5 := Lib.hid (hf5.rd HK1.out); have HP5 := Lib.hid (HP4.out.below hb5); clear hf5 hb5))
        go_upto_region 14 with (first
          | (go_at_call 54; go_loud (refine (pair_safe_r HP5.out (by omega) (by omega) rfl HK2.out).mono ?_); rintro y w5b ⟨A5b, c5b, dv5b, rfl, hf5b, hb5b⟩; have HG5 := Lib.hid (hf5b.rd HK2.out); have HF5b := Lib.hid (HF5.out.below hb5b); have HP5b := Lib.hid (HP5.out.below hb5b); clear hf5b hb5b HP5 HF5))
        go_wp2_with (first
          | (go_at_call 20; go_loud (refine (pair_image_d HP5b.out (by omega) (by omega) rfl HK1.out).mono ?_); rintro y w6 ⟨A6, c6, dv6, rfl, hf6, hb6⟩; have HF6 := Lib.hid (hf6.rd HK1.out); have HF56 := Lib.hid (HF5b.out.below hb6); have HG6 := Lib.hid (HG5.out.below hb6); have HP6 := Lib.hid (HP5b.out.below hb6); clear hf6 hb6 HP5b HF5b HG5)
          | (go_at_call 19; go_loud (refine (sameFiles_any HF6.out HF56.out (by omega)).mono ?_); rintro y w7 ⟨rfl, hb7⟩; have HG7 := Lib.hid (HG6.out.below hb7); have HP7 := Lib.hid (HP6.out.below hb7); clear hb7 HP6 HF6 HF56 HG6)
          | (go_at_call 21; go_loud (refine (pair_safe_d HP7.out (by omega) (by omega) rfl HK2.out).mono ?_); rintro y w8 ⟨A8, c8, dv8, rfl, hf8, hb8⟩; have HF8 := Lib.hid (hf8.rd HK2.out); have HG8 := Lib.hid (HG7.out.below hb8); have HP8 := Lib.hid (HP7.out.below hb8); clear hf8 hb8 HP7 HG7)
          | (go_at_call 19; go_loud (refine (sameFiles_any HF8.out HG8.out (by omega)).mono ?_); rintro y w9 ⟨rfl, hb9⟩; have HP9 := Lib.hid (HP8.out.below hb9); clear hb9 HP8 HF8 HG8))
        go_ret
        exact ⟨rfl, HB0.out.trans (HP9.out.back.mono (by have := HS0.out; omega))⟩
end Go.Proofs.Ytelgcmcnebncmaa.Dr
