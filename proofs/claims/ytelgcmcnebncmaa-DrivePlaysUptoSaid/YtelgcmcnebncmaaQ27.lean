/- XRf6, XRf7: merged by tools/merge.py. -/
import Derived.Test.YtelgcmcnebncmaaQ24
import Derived.Test.YtelgcmcnebncmaaQ26
namespace Go.Proofs.Ytelgcmcnebncmaa.Dr
set_option linter.unusedVariables false
open Go.RowKit Go.Proofs Go.Proofs.Ytelgcmcnebncmaa.Ring

theorem setBody_same {D : Dr.D} {i : Nat} (hi : i < D.bd.length) : D.setBody i (D.at i) = D := by
  unfold Dr.D.setBody Dr.D.at
  rw [List.getD_eq_getElem?_getD, List.getElem?_eq_getElem hi]
  simp
theorem fits_wrap (D : Dr.D) (k : Nat) : D.fits k = decide (wrap64 (wrap64 (D.used : Int) + (k : Int)) ≤ (D.room : Int)) := by
  rw [wrap_more]
  unfold Dr.D.fits wrap64
  first | rfl | simp
section
variable {w : World} {S : Nat → Prop} {r m N : Nat} {D : Dr.D}
set_option maxRecDepth 100000 in
set_option maxHeartbeats 8000000 in
theorem rappend_any (h : Rv w S r D m N) (n : Bs) {Ax : Option Addr} {k cx : Nat} {x : Bs} (hx : Rd w w.heap.size 1 Ax k (cU8 x)) (hxn : Ax = none → cx = 0) (hm : m + k ≤ 140737488355328) :
    Calls Try.prog 62 #[.pointer (some ⟨r, 0, none⟩), encStr n, .slice Ax k cx] w fun y w' => y = .returned (.int .i64 (D.append n x).2) ∧ Rturn w w' S r (D.append n x).1 (m + k) N := by
  have hxl : x.length = k := by simpa using hx.1
  have hok := h.1.append n x
  rw [hxl] at hok
  have H := Lib.hid h
  have hHQ : ∀ q, Rv (w.drewN q) S r D m N := fun q => h.below (below_drewN (Below.refl _ _) _)
  have HQ := Lib.hid hHQ
  clear hHQ
  obtain ⟨ho, hbn, vb, vn, vk, vc, ds, cs, h⟩ := h
  unfold Dr.D.append at hok ⊢
  cases hl : D.look n with
  | error e =>
    have hne := look_ne hl
    have hz : atZ D n = -1 := by unfold atZ; rw [hl]
    have he : atE D n = e := by unfold atE; rw [hl]
    have HZ := Lib.hid hz
    have HE := Lib.hid he
    clear h hl hz he hok hx hxn hxl
    go_enter Try.func62, Try.ntmps62
    go_wp2_with (go_at_call 101; refine (rat_any H.out n HZ.out HE.out).mono ?_; rintro x w1 ⟨rfl, rfl⟩)
    go_ret
    exact ⟨rfl, (Rturn.refl H.out).mono (Nat.le_add_right _ _) (Nat.le_refl _)⟩
  | ok i =>
    rw [hl] at hok
    dsimp only at hok ⊢
    have hz : atZ D n = (i : Int) := by unfold atZ; rw [hl]
    have he : atE D n = 0 := by unfold atE; rw [hl]
    have hil := (look_in ho hl).2
    have hdm := (ho.at_ok i).2
    obtain ⟨hb, gb, cb, Av, cv, rfl, hv, hrow, e0, e1, f0, f1⟩ := h.body hil
    obtain ⟨x0, x1, _, _, _⟩ := rcells h.head
    have hlt : (i : Int) < (D.bd.length : Int) := by omega
    obtain ⟨u0, hu0, hz0, hz1, hz2⟩ := info_parts infoU8
    have HZ := Lib.hid hz
    have HE := Lib.hid he
    have HA := Lib.hid h
    have HB := Lib.hid hb
    have HXD0 := Lib.hid hx
    have HXN := Lib.hid hxn
    have HXL := Lib.hid hxl
    have HROW0 := Lib.hid hrow
    have HNL := Lib.hid (own_none hrow)
    have HIL := Lib.hid hil
    clear h hl hz he hb hv hrow hil hx hxn e1 f1
    by_cases hk0 : x = []
    · rw [if_pos hk0] at hok ⊢
      have hk1 : k = 0 := by rw [← hxl, hk0]; rfl
      have HOK := Lib.hid (show (D.setBody i ⟨(D.at i).data ++ x, (D.at i).safe⟩).Ok (m + k) N from by rw [hk0, List.append_nil, setBody_same HIL.out]; exact hok)
      have hkn : ¬ (0 : Int) < (k : Int) := by omega
      have hkn2 : decide ((0 : Int) < (k : Int)) = false := decide_eq_false hkn
      have hkn3 : decide (0 < k) = false := decide_eq_false (by omega)
      have HFD := Lib.hid (show D.setBody i ⟨(D.at i).data ++ x, (D.at i).safe⟩ = D from by rw [hk0, List.append_nil, setBody_same HIL.out])
      clear hok hxl hk0 hk1
      go_enter Try.func62, Try.ntmps62
      go_upto_region 4 with (go_at_call 101; refine (rat_any H.out n HZ.out HE.out).mono ?_; rintro x w1 ⟨rfl, rfl⟩)
      go_quiet (fail)
      obtain ⟨wq, hwq⟩ : ∃ wq, w.drewN nq = wq := ⟨_, rfl⟩
      rw [hwq]
      have hbq : Below w.heap.size w wq := by rw [← hwq]; exact below_drewN (Below.refl _ _) _
      have HKQ := Lib.hid (Kept.of_below S hbq)
      have x1 : wq.cell? ⟨r, 1, none⟩ = some (.slice (some ⟨gb, 0, none⟩) D.bd.length cb) := by rw [← hwq]; exact x1
      have e0 : wq.cell? ⟨gb, i * 2, none⟩ = some (.slice Av (D.at i).data.length cv) := by rw [← hwq]; exact e0
      have f0 : wq.frozen? ⟨gb, i * 2, none⟩ = false := by rw [← hwq]; exact f0
      have HA := Lib.hid (HA.out.below hbq)
      have HROW := Lib.hid (own_below HROW0.out hbq)
      have HXD := Lib.hid (show Rd wq.drew wq.drew.heap.size 1 Ax k (cU8 x) from HXD0.out.next hbq.drew)
      clear hwq hbq
      have HRD := Lib.hid (show Rd wq.drew wq.drew.heap.size 1 Av (D.at i).data.length (cU8 (D.at i).data) from Rd.of_own HROW.out)
      have HX1 := Lib.hid x1
      have HE0 := Lib.hid e0
      have HF0 := Lib.hid f0
      have HRL := Lib.hid (HA.out.low r HA.out.inR)
      have HGL := Lib.hid (HA.out.low gb (HA.out.inB gb rfl))
      clear x1 e0 f0
      go_upto_region 6 with (fail)
      refine wp_region_any (by kernel_rfl) ?_
      change wpAny _ _ _ _ _ _ _ (World.drew _)
      refine wpAny_of_P (S := fun w' => w'.cell? ⟨r, 1, none⟩ = some (.slice (some ⟨gb, 0, none⟩) D.bd.length cb) ∧ w'.cell? ⟨gb, i * 2, none⟩ = some (.slice Av (D.at i).data.length cv)) (late := [18]) _ _ _ _ ?_
      refine takeT (i := 0) (v := ?_) rfl (by kernel_rfl) (by kernel_rfl) (by kernel_rfl) (by kernel_rfl) (fun _ _ _ h => h) (⟨HX1.out, HE0.out⟩) (.inl ⟨by rfl, fun w => .inl ?hy0⟩) ?_; case hy0 => (go_simp; try with_reducible rfl)
      try go_frame
      refine takeT (i := 1) (v := ?_) rfl (by kernel_rfl) (by kernel_rfl) (by kernel_rfl) (by kernel_rfl) (fun _ _ _ h => h) (⟨HX1.out, HE0.out⟩) (.inl ⟨by rfl, fun w => .inl ?hy1⟩) ?_; case hy1 => (go_simp; try with_reducible rfl)
      try go_frame
      refine takeT (i := 2) (v := ?_) rfl (by kernel_rfl) (by kernel_rfl) (by kernel_rfl) (by kernel_rfl) (fun _ _ _ h => h) (⟨HX1.out, HE0.out⟩) (.inl ⟨by rfl, fun w => .inl ?hy2⟩) ?_; case hy2 => (go_simp; try with_reducible rfl)
      try go_frame
      refine takePT 8 (i := 3) (v := ?_) rfl (by kernel_rfl) (by kernel_rfl) (by kernel_rfl) (by kernel_rfl) (by kernel_rfl) (by kernel_rfl) (fun _ _ _ h => h) (⟨HX1.out, HE0.out⟩) (.inl ⟨by rfl, fun w hw => .inl ?hy3⟩) ?_; case hy3 => (obtain ⟨hw0, hw1⟩ := hw; go_simp; try with_reducible rfl)
      try go_frame
      refine takeT (i := 4) (v := ?_) rfl (by kernel_rfl) (by kernel_rfl) (by kernel_rfl) (by kernel_rfl) (fun _ _ _ h => h) (⟨HX1.out, HE0.out⟩) (.inl ⟨by rfl, fun w => .inl ?hy4⟩) ?_; case hy4 => (go_simp; try with_reducible rfl)
      try go_frame
      refine takeT (i := 5) (v := ?_) rfl (by kernel_rfl) (by kernel_rfl) (by kernel_rfl) (by kernel_rfl) (fun _ _ _ h => h) (⟨HX1.out, HE0.out⟩) (.inl ⟨by rfl, fun w => .inl ?hy5⟩) ?_; case hy5 => (go_simp; try with_reducible rfl)
      try go_frame
      refine takeT (i := 6) (v := ?_) rfl (by kernel_rfl) (by kernel_rfl) (by kernel_rfl) (by kernel_rfl) (fun _ _ _ h => h) (⟨HX1.out, HE0.out⟩) (.inl ⟨by rfl, fun w => .inl ?hy6⟩) ?_; case hy6 => (go_simp; try with_reducible rfl)
      try go_frame
      refine takeT (i := 7) (v := ?_) rfl (by kernel_rfl) (by kernel_rfl) (by kernel_rfl) (by kernel_rfl) (fun _ _ _ h => h) (⟨HX1.out, HE0.out⟩) (.inl ⟨by rfl, fun w => .inl ?hy7⟩) ?_; case hy7 => (go_simp; try with_reducible rfl)
      try go_frame
      refine takePT 8 (i := 8) (v := ?_) rfl (by kernel_rfl) (by kernel_rfl) (by kernel_rfl) (by kernel_rfl) (by kernel_rfl) (by kernel_rfl) (fun _ _ _ h => h) (⟨HX1.out, HE0.out⟩) (.inl ⟨by rfl, fun w hw => .inl ?hy8⟩) ?_; case hy8 => (obtain ⟨hw0, hw1⟩ := hw; go_simp; try with_reducible rfl)
      try go_frame
      refine takeT (i := 9) (v := ?_) rfl (by kernel_rfl) (by kernel_rfl) (by kernel_rfl) (by kernel_rfl) (fun _ _ _ h => h) (⟨HX1.out, HE0.out⟩) (.inl ⟨by rfl, fun w => .inl ?hy9⟩) ?_; case hy9 => (go_simp; try with_reducible rfl)
      try go_frame
      refine takeT (i := 10) (v := ?_) rfl (by kernel_rfl) (by kernel_rfl) (by kernel_rfl) (by kernel_rfl) (fun _ _ _ h => h) (⟨HX1.out, HE0.out⟩) (.inl ⟨by rfl, fun w => .inl ?hy10⟩) ?_; case hy10 => (go_simp; try with_reducible rfl)
      try go_frame
      refine takeT (i := 11) (v := ?_) rfl (by kernel_rfl) (by kernel_rfl) (by kernel_rfl) (by kernel_rfl) (fun _ _ _ h => h) (⟨HX1.out, HE0.out⟩) (.inl ⟨by rfl, fun w => .inl ?hy11⟩) ?_; case hy11 => (go_simp; try with_reducible rfl)
      try go_frame
      refine takePT 8 (i := 12) (v := ?_) rfl (by kernel_rfl) (by kernel_rfl) (by kernel_rfl) (by kernel_rfl) (by kernel_rfl) (by kernel_rfl) (fun _ _ _ h => h) (⟨HX1.out, HE0.out⟩) (.inl ⟨by rfl, fun w hw => .inl ?hy12⟩) ?_; case hy12 => (obtain ⟨hw0, hw1⟩ := hw; go_simp; try with_reducible rfl)
      try go_frame
      refine takeT (i := 14) (v := ?_) rfl (by kernel_rfl) (by kernel_rfl) (by kernel_rfl) (by kernel_rfl) (fun _ _ _ h => h) (⟨HX1.out, HE0.out⟩) (.inl ⟨by rfl, fun w => .inl ?hy14⟩) ?_; case hy14 => (go_simp; try with_reducible rfl)
      try go_frame
      refine forcedP (i := 13) rfl rfl (by kernel_rfl) (fun K hK => ?_)
      go_simp
      refine (rcopied_any HRD.out HNL.out (by omega)).mono ?_
      rintro y w1 ⟨A1, c1, rfl, hrow1, hb1⟩
      have hx1 : w1.cell? ⟨r, 1, none⟩ = some (.slice (some ⟨gb, 0, none⟩) D.bd.length cb) := (hb1.cell (p := ⟨r, 1, none⟩) HRL.out).trans HX1.out
      have he1 : w1.cell? ⟨gb, i * 2, none⟩ = some (.slice Av (D.at i).data.length cv) := (hb1.cell (p := ⟨gb, i * 2, none⟩) HGL.out).trans HE0.out
      refine hK _ _ (⟨hx1, he1⟩) ?_; clear hK K
      try go_frame
      refine forcedP (i := 15) rfl rfl (by kernel_rfl) (fun K hK => ?_)
      refine wp_append_rd (.tmp 46) (.tmp 47) 35 rfl wq.heap.size tU8 u0 (.int .u8 0) 1 1 Try.underlying35 hu0 hz0 hz1 hz2 rfl (by decide) (.slice A1 (D.at i).data.length c1) (D.at i).data.length (cU8 (D.at i).data) rfl hrow1 wq.heap.size Ax k cx (cU8 x) rfl (HXD.out.below hb1) HXN.out (cU8_one x) (by unfold maxLen; omega) (by omega) hb1.size ?_
      intro v2 w2 hrow2 hg2
      obtain ⟨A2, c2, rfl, _, _⟩ := own_form hrow2
      have hb2 : Below wq.heap.size wq w2 := (Below.refl wq.heap.size wq).drew.trans (hb1.grown hg2 hb1.size (fun k hk => own_ge hrow1 hk))
      have hx2 : w2.cell? ⟨r, 1, none⟩ = some (.slice (some ⟨gb, 0, none⟩) D.bd.length cb) := (hb2.cell (p := ⟨r, 1, none⟩) HRL.out).trans HX1.out
      have he2 : w2.cell? ⟨gb, i * 2, none⟩ = some (.slice Av (D.at i).data.length cv) := (hb2.cell (p := ⟨gb, i * 2, none⟩) HGL.out).trans HE0.out
      have hf2 : w2.frozen? ⟨gb, i * 2, none⟩ = false := (World.frozen?_of_block (a := ⟨gb, i * 2, none⟩) (hb2.block gb HGL.out)).trans HF0.out
      go_simp
      refine hK _ _ (⟨hx2, he2⟩) ?_; clear hK K
      try go_frame
      refine takeT (i := 16) (v := ?_) rfl (by kernel_rfl) (by kernel_rfl) (by kernel_rfl) (by kernel_rfl) (fun _ _ _ h => h) (⟨hx2, he2⟩) (.inl ⟨by rfl, fun w => .inl ?hy16⟩) ?_; case hy16 => (go_simp; try with_reducible rfl)
      try go_frame
      refine takeT (i := 17) (v := ?_) rfl (by kernel_rfl) (by kernel_rfl) (by kernel_rfl) (by kernel_rfl) (fun _ _ _ h => h) (⟨hx2, he2⟩) (.inl ⟨by rfl, fun w => .inl ?hy17⟩) ?_; case hy17 => (go_simp; try with_reducible rfl)
      try go_frame
      refine lateP (i := 18) rfl rfl (by kernel_rfl) (by kernel_rfl) (fun K hK => ?_)
      go_simp
      refine hK _ _ ?_; clear hK K
      try go_frame
      refine wpAny_done (by kernel_rfl) ?_ _
      have hA2 := (HA.out.below hb2).wider (S' := fun k => S k ∨ (wq.heap.size ≤ k ∧ k < w2.heap.size)) (fun k hk => .inl hk) (fun k hk => by
        rcases hk with hk | hk
        · exact Nat.lt_of_lt_of_le (HA.out.low k hk) hb2.size
        · exact hk.2)
      have hlen : (D.at i).data.length + k = ((D.at i).data ++ x).length := by rw [List.length_append, HXL.out]
      have hrow3 : w2.ownsRow 0 tU8 1 (.slice A2 ((D.at i).data.length + k) c2) ((D.at i).data ++ x).length (cU8 ((D.at i).data ++ x)) := by
        rw [← hlen, show cU8 ((D.at i).data ++ x) = cU8 (D.at i).data ++ cU8 x by simp]
        exact own_base hrow2 (Nat.zero_le _)
      have hset := hA2.setData rfl HB.out hrow3 (fun g hg => .inr ⟨own_ge hrow2 hg, by obtain ⟨cur, h3⟩ := own_lt hrow2 hg; exact (Array.getElem?_eq_some_iff.1 h3).1⟩)
      have hfin : Rturn w (w2.setCell ⟨gb, i * 2, none⟩ (.slice A2 ((D.at i).data.length + k) c2)) S r (D.setBody i ⟨(D.at i).data ++ x, (D.at i).safe⟩) (m + k) N := by
        refine Rturn.join HKQ.out (fun k hk => .inl hk) ⟨_, ⟨HOK.out, by show (D.bd.set i _).length ≤ N; rw [List.length_set]; exact hbn, _, _, _, _, _, _, hset⟩, (Kept.of_below S hb2).set (HA.out.inB gb rfl) _, fun k hk => ?_⟩
        rcases hk with hk | hk
        · exact .inl hk
        · exact .inr hk.1
      have HFIN := Lib.hid hfin
      clear hfin hset hrow3 hlen hA2 hb2 hx2 he2 hf2 hrow2 hg2 hrow1 hb1 hx1 he1
      go_wp2
      go_ret
      have h9 := HFIN.out
      rw [HFD.out] at h9
      exact ⟨rfl, h9⟩
    · rw [if_neg hk0] at hok ⊢
      rw [hxl] at hok ⊢
      have hkp : (0 : Int) < (k : Int) := by
        have : x.length ≠ 0 := fun h => hk0 (List.eq_nil_of_length_eq_zero h)
        omega
      rw [fits_wrap] at hok ⊢
      have hkp2 : decide ((0 : Int) < (k : Int)) = true := decide_eq_true hkp
      have hkp3 : decide (0 < k) = true := decide_eq_true (by omega)
      clear hk0 hxl
      by_cases hft : wrap64 (wrap64 (D.used : Int) + (k : Int)) ≤ (D.room : Int)
      · rw [if_pos (by simpa using hft)] at hok ⊢
        have HOK := Lib.hid hok
        clear hok
        go_enter Try.func62, Try.ntmps62
        go_upto_region 4 with (go_at_call 101; refine (rat_any H.out n HZ.out HE.out).mono ?_; rintro x w1 ⟨rfl, rfl⟩)
        go_quiet ((go_at_call 24; exact Calls.quiet_of (rused_any (HQ.out _))))
        obtain ⟨wq, hwq⟩ : ∃ wq, w.drewN nq = wq := ⟨_, rfl⟩
        rw [hwq]
        have hbq : Below w.heap.size w wq := by rw [← hwq]; exact below_drewN (Below.refl _ _) _
        have HKQ := Lib.hid (Kept.of_below S hbq)
        have x1 : wq.cell? ⟨r, 1, none⟩ = some (.slice (some ⟨gb, 0, none⟩) D.bd.length cb) := by rw [← hwq]; exact x1
        have e0 : wq.cell? ⟨gb, i * 2, none⟩ = some (.slice Av (D.at i).data.length cv) := by rw [← hwq]; exact e0
        have f0 : wq.frozen? ⟨gb, i * 2, none⟩ = false := by rw [← hwq]; exact f0
        have HA := Lib.hid (HA.out.below hbq)
        have HROW := Lib.hid (own_below HROW0.out hbq)
        have HXD := Lib.hid (show Rd wq.drew wq.drew.heap.size 1 Ax k (cU8 x) from HXD0.out.next hbq.drew)
        clear hwq hbq
        have HRD := Lib.hid (show Rd wq.drew wq.drew.heap.size 1 Av (D.at i).data.length (cU8 (D.at i).data) from Rd.of_own HROW.out)
        have HX1 := Lib.hid x1
        have HE0 := Lib.hid e0
        have HF0 := Lib.hid f0
        have HRL := Lib.hid (HA.out.low r HA.out.inR)
        have HGL := Lib.hid (HA.out.low gb (HA.out.inB gb rfl))
        clear x1 e0 f0
        go_upto_region 6 with (fail)
        refine wp_region_any (by kernel_rfl) ?_
        change wpAny _ _ _ _ _ _ _ (World.drew _)
        refine wpAny_of_P (S := fun w' => w'.cell? ⟨r, 1, none⟩ = some (.slice (some ⟨gb, 0, none⟩) D.bd.length cb) ∧ w'.cell? ⟨gb, i * 2, none⟩ = some (.slice Av (D.at i).data.length cv)) (late := [18]) _ _ _ _ ?_
        refine takeT (i := 0) (v := ?_) rfl (by kernel_rfl) (by kernel_rfl) (by kernel_rfl) (by kernel_rfl) (fun _ _ _ h => h) (⟨HX1.out, HE0.out⟩) (.inl ⟨by rfl, fun w => .inl ?hy0⟩) ?_; case hy0 => (go_simp; try with_reducible rfl)
        try go_frame
        refine takeT (i := 1) (v := ?_) rfl (by kernel_rfl) (by kernel_rfl) (by kernel_rfl) (by kernel_rfl) (fun _ _ _ h => h) (⟨HX1.out, HE0.out⟩) (.inl ⟨by rfl, fun w => .inl ?hy1⟩) ?_; case hy1 => (go_simp; try with_reducible rfl)
        try go_frame
        refine takeT (i := 2) (v := ?_) rfl (by kernel_rfl) (by kernel_rfl) (by kernel_rfl) (by kernel_rfl) (fun _ _ _ h => h) (⟨HX1.out, HE0.out⟩) (.inl ⟨by rfl, fun w => .inl ?hy2⟩) ?_; case hy2 => (go_simp; try with_reducible rfl)
        try go_frame
        refine takePT 8 (i := 3) (v := ?_) rfl (by kernel_rfl) (by kernel_rfl) (by kernel_rfl) (by kernel_rfl) (by kernel_rfl) (by kernel_rfl) (fun _ _ _ h => h) (⟨HX1.out, HE0.out⟩) (.inl ⟨by rfl, fun w hw => .inl ?hy3⟩) ?_; case hy3 => (obtain ⟨hw0, hw1⟩ := hw; go_simp; try with_reducible rfl)
        try go_frame
        refine takeT (i := 4) (v := ?_) rfl (by kernel_rfl) (by kernel_rfl) (by kernel_rfl) (by kernel_rfl) (fun _ _ _ h => h) (⟨HX1.out, HE0.out⟩) (.inl ⟨by rfl, fun w => .inl ?hy4⟩) ?_; case hy4 => (go_simp; try with_reducible rfl)
        try go_frame
        refine takeT (i := 5) (v := ?_) rfl (by kernel_rfl) (by kernel_rfl) (by kernel_rfl) (by kernel_rfl) (fun _ _ _ h => h) (⟨HX1.out, HE0.out⟩) (.inl ⟨by rfl, fun w => .inl ?hy5⟩) ?_; case hy5 => (go_simp; try with_reducible rfl)
        try go_frame
        refine takeT (i := 6) (v := ?_) rfl (by kernel_rfl) (by kernel_rfl) (by kernel_rfl) (by kernel_rfl) (fun _ _ _ h => h) (⟨HX1.out, HE0.out⟩) (.inl ⟨by rfl, fun w => .inl ?hy6⟩) ?_; case hy6 => (go_simp; try with_reducible rfl)
        try go_frame
        refine takeT (i := 7) (v := ?_) rfl (by kernel_rfl) (by kernel_rfl) (by kernel_rfl) (by kernel_rfl) (fun _ _ _ h => h) (⟨HX1.out, HE0.out⟩) (.inl ⟨by rfl, fun w => .inl ?hy7⟩) ?_; case hy7 => (go_simp; try with_reducible rfl)
        try go_frame
        refine takePT 8 (i := 8) (v := ?_) rfl (by kernel_rfl) (by kernel_rfl) (by kernel_rfl) (by kernel_rfl) (by kernel_rfl) (by kernel_rfl) (fun _ _ _ h => h) (⟨HX1.out, HE0.out⟩) (.inl ⟨by rfl, fun w hw => .inl ?hy8⟩) ?_; case hy8 => (obtain ⟨hw0, hw1⟩ := hw; go_simp; try with_reducible rfl)
        try go_frame
        refine takeT (i := 9) (v := ?_) rfl (by kernel_rfl) (by kernel_rfl) (by kernel_rfl) (by kernel_rfl) (fun _ _ _ h => h) (⟨HX1.out, HE0.out⟩) (.inl ⟨by rfl, fun w => .inl ?hy9⟩) ?_; case hy9 => (go_simp; try with_reducible rfl)
        try go_frame
        refine takeT (i := 10) (v := ?_) rfl (by kernel_rfl) (by kernel_rfl) (by kernel_rfl) (by kernel_rfl) (fun _ _ _ h => h) (⟨HX1.out, HE0.out⟩) (.inl ⟨by rfl, fun w => .inl ?hy10⟩) ?_; case hy10 => (go_simp; try with_reducible rfl)
        try go_frame
        refine takeT (i := 11) (v := ?_) rfl (by kernel_rfl) (by kernel_rfl) (by kernel_rfl) (by kernel_rfl) (fun _ _ _ h => h) (⟨HX1.out, HE0.out⟩) (.inl ⟨by rfl, fun w => .inl ?hy11⟩) ?_; case hy11 => (go_simp; try with_reducible rfl)
        try go_frame
        refine takePT 8 (i := 12) (v := ?_) rfl (by kernel_rfl) (by kernel_rfl) (by kernel_rfl) (by kernel_rfl) (by kernel_rfl) (by kernel_rfl) (fun _ _ _ h => h) (⟨HX1.out, HE0.out⟩) (.inl ⟨by rfl, fun w hw => .inl ?hy12⟩) ?_; case hy12 => (obtain ⟨hw0, hw1⟩ := hw; go_simp; try with_reducible rfl)
        try go_frame
        refine takeT (i := 14) (v := ?_) rfl (by kernel_rfl) (by kernel_rfl) (by kernel_rfl) (by kernel_rfl) (fun _ _ _ h => h) (⟨HX1.out, HE0.out⟩) (.inl ⟨by rfl, fun w => .inl ?hy14⟩) ?_; case hy14 => (go_simp; try with_reducible rfl)
        try go_frame
        refine forcedP (i := 13) rfl rfl (by kernel_rfl) (fun K hK => ?_)
        go_simp
        refine (rcopied_any HRD.out HNL.out (by omega)).mono ?_
        rintro y w1 ⟨A1, c1, rfl, hrow1, hb1⟩
        have hx1 : w1.cell? ⟨r, 1, none⟩ = some (.slice (some ⟨gb, 0, none⟩) D.bd.length cb) := (hb1.cell (p := ⟨r, 1, none⟩) HRL.out).trans HX1.out
        have he1 : w1.cell? ⟨gb, i * 2, none⟩ = some (.slice Av (D.at i).data.length cv) := (hb1.cell (p := ⟨gb, i * 2, none⟩) HGL.out).trans HE0.out
        refine hK _ _ (⟨hx1, he1⟩) ?_; clear hK K
        try go_frame
        refine forcedP (i := 15) rfl rfl (by kernel_rfl) (fun K hK => ?_)
        refine wp_append_rd (.tmp 46) (.tmp 47) 35 rfl wq.heap.size tU8 u0 (.int .u8 0) 1 1 Try.underlying35 hu0 hz0 hz1 hz2 rfl (by decide) (.slice A1 (D.at i).data.length c1) (D.at i).data.length (cU8 (D.at i).data) rfl hrow1 wq.heap.size Ax k cx (cU8 x) rfl (HXD.out.below hb1) HXN.out (cU8_one x) (by unfold maxLen; omega) (by omega) hb1.size ?_
        intro v2 w2 hrow2 hg2
        obtain ⟨A2, c2, rfl, _, _⟩ := own_form hrow2
        have hb2 : Below wq.heap.size wq w2 := (Below.refl wq.heap.size wq).drew.trans (hb1.grown hg2 hb1.size (fun k hk => own_ge hrow1 hk))
        have hx2 : w2.cell? ⟨r, 1, none⟩ = some (.slice (some ⟨gb, 0, none⟩) D.bd.length cb) := (hb2.cell (p := ⟨r, 1, none⟩) HRL.out).trans HX1.out
        have he2 : w2.cell? ⟨gb, i * 2, none⟩ = some (.slice Av (D.at i).data.length cv) := (hb2.cell (p := ⟨gb, i * 2, none⟩) HGL.out).trans HE0.out
        have hf2 : w2.frozen? ⟨gb, i * 2, none⟩ = false := (World.frozen?_of_block (a := ⟨gb, i * 2, none⟩) (hb2.block gb HGL.out)).trans HF0.out
        go_simp
        refine hK _ _ (⟨hx2, he2⟩) ?_; clear hK K
        try go_frame
        refine takeT (i := 16) (v := ?_) rfl (by kernel_rfl) (by kernel_rfl) (by kernel_rfl) (by kernel_rfl) (fun _ _ _ h => h) (⟨hx2, he2⟩) (.inl ⟨by rfl, fun w => .inl ?hy16⟩) ?_; case hy16 => (go_simp; try with_reducible rfl)
        try go_frame
        refine takeT (i := 17) (v := ?_) rfl (by kernel_rfl) (by kernel_rfl) (by kernel_rfl) (by kernel_rfl) (fun _ _ _ h => h) (⟨hx2, he2⟩) (.inl ⟨by rfl, fun w => .inl ?hy17⟩) ?_; case hy17 => (go_simp; try with_reducible rfl)
        try go_frame
        refine lateP (i := 18) rfl rfl (by kernel_rfl) (by kernel_rfl) (fun K hK => ?_)
        go_simp
        refine hK _ _ ?_; clear hK K
        try go_frame
        refine wpAny_done (by kernel_rfl) ?_ _
        have hA2 := (HA.out.below hb2).wider (S' := fun k => S k ∨ (wq.heap.size ≤ k ∧ k < w2.heap.size)) (fun k hk => .inl hk) (fun k hk => by
          rcases hk with hk | hk
          · exact Nat.lt_of_lt_of_le (HA.out.low k hk) hb2.size
          · exact hk.2)
        have hlen : (D.at i).data.length + k = ((D.at i).data ++ x).length := by rw [List.length_append, HXL.out]
        have hrow3 : w2.ownsRow 0 tU8 1 (.slice A2 ((D.at i).data.length + k) c2) ((D.at i).data ++ x).length (cU8 ((D.at i).data ++ x)) := by
          rw [← hlen, show cU8 ((D.at i).data ++ x) = cU8 (D.at i).data ++ cU8 x by simp]
          exact own_base hrow2 (Nat.zero_le _)
        have hset := hA2.setData rfl HB.out hrow3 (fun g hg => .inr ⟨own_ge hrow2 hg, by obtain ⟨cur, h3⟩ := own_lt hrow2 hg; exact (Array.getElem?_eq_some_iff.1 h3).1⟩)
        have hfin : Rturn w (w2.setCell ⟨gb, i * 2, none⟩ (.slice A2 ((D.at i).data.length + k) c2)) S r (D.setBody i ⟨(D.at i).data ++ x, (D.at i).safe⟩) (m + k) N := by
          refine Rturn.join HKQ.out (fun k hk => .inl hk) ⟨_, ⟨HOK.out, by show (D.bd.set i _).length ≤ N; rw [List.length_set]; exact hbn, _, _, _, _, _, _, hset⟩, (Kept.of_below S hb2).set (HA.out.inB gb rfl) _, fun k hk => ?_⟩
          rcases hk with hk | hk
          · exact .inl hk
          · exact .inr hk.1
        have HFIN := Lib.hid hfin
        clear hfin hset hrow3 hlen hA2 hb2 hx2 he2 hf2 hrow2 hg2 hrow1 hb1 hx1 he1
        go_wp2
        go_ret
        exact ⟨rfl, HFIN.out⟩
      · rw [if_neg (by simpa using hft)]
        clear hok
        go_enter Try.func62, Try.ntmps62
        go_upto_region 4 with (go_at_call 101; refine (rat_any H.out n HZ.out HE.out).mono ?_; rintro x w1 ⟨rfl, rfl⟩)
        go_quiet ((go_at_call 24; exact Calls.quiet_of (rused_any (HQ.out _))))
        go_wp2
        go_ret
        exact ⟨rfl, (Rturn.of_below H.out (below_drewN (Below.refl _ _) _)).mono (Nat.le_add_right _ _) (Nat.le_refl _)⟩
end
end Go.Proofs.Ytelgcmcnebncmaa.Dr
namespace Go.Proofs.Ytelgcmcnebncmaa.Dr
set_option linter.unusedVariables false
open Go.RowKit Go.Proofs Go.Proofs.Ytelgcmcnebncmaa.Ring

theorem rd_part {w : World} {B n m : Nat} {A : Option Addr} {l : Bs} (h : Rd w B 1 A n (cU8 l)) (hm : m ≤ n) : Rd w B 1 A m (cU8 (l.take m)) := by
  have hl : l.length = n := by simpa using h.1
  refine ⟨by simp; omega, fun h0 => ?_⟩
  obtain ⟨ad, e, hb, hc⟩ := h.2 (by omega)
  refine ⟨ad, e, hb, fun j u hu => hc j u ?_⟩
  have hj : j < m := by
    have := (List.getElem?_eq_some_iff.1 hu).1
    simp at this; omega
  rw [← hu]
  unfold cU8
  rw [List.map_take, List.getElem?_take_of_lt hj]
section
variable {w : World} {S : Nat → Prop} {r m N : Nat} {D : Dr.D}
set_option maxRecDepth 100000 in
set_option maxHeartbeats 8000000 in
theorem rcut_any (h : Rv w S r D m N) (n : Bs) (k : Int) (hm : m ≤ 140737488355328) :
    Calls Try.prog 72 #[.pointer (some ⟨r, 0, none⟩), encStr n, .int .i64 k] w fun y w' => y = .returned (.int .i64 (D.cut n k).2) ∧ Rturn w w' S r (D.cut n k).1 m N := by
  have hok := h.1.cut n k
  have H := Lib.hid h
  obtain ⟨ho, hbn, vb, vn, vk, vc, ds, cs, h⟩ := h
  unfold Dr.D.cut at hok ⊢
  cases hnm : Dr.named n with
  | false =>
    have hl : D.look n = .error 91 := by unfold Dr.D.look; rw [if_neg (by simp [hnm])]
    rw [if_neg (by simp), hl]
    have HNM := Lib.hid hnm
    clear hnm hok h hl
    go_enter Try.func72, Try.ntmps72
    go_wp2_with (go_at_call 97; refine (rnamed_any n _).mono ?_; rw [HNM.out]; rintro x w1 ⟨rfl, rfl⟩)
    go_ret
    exact ⟨rfl, Rturn.refl H.out⟩
  | true =>
    have HNM := Lib.hid hnm
    rw [hnm] at hok
    by_cases hk : k < 0
    · rw [if_pos (by simp [hk])]
      clear hnm hok h
      go_enter Try.func72, Try.ntmps72
      go_wp2_with (go_at_call 97; refine (rnamed_any n _).mono ?_; rw [HNM.out]; rintro x w1 ⟨rfl, rfl⟩)
      go_ret
      exact ⟨rfl, Rturn.refl H.out⟩
    · rw [if_neg (by simp; omega)] at hok ⊢
      obtain ⟨q, rfl⟩ : ∃ q : Nat, k = (q : Int) := ⟨k.toNat, by omega⟩
      rw [show ((q : Int)).toNat = q by omega] at hok ⊢
      cases hl : D.look n with
      | error e =>
        have hne := look_ne hl
        have hz : atZ D n = -1 := by unfold atZ; rw [hl]
        have he : atE D n = e := by unfold atE; rw [hl]
        have HZ := Lib.hid hz
        have HE := Lib.hid he
        clear hnm hok h hl hz he
        go_enter Try.func72, Try.ntmps72
        go_wp2_with (first
          | (go_at_call 97; refine (rnamed_any n _).mono ?_; rw [HNM.out]; rintro x w1 ⟨rfl, rfl⟩)
          | (go_at_call 101; refine (rat_any H.out n HZ.out HE.out).mono ?_; rintro x w1 ⟨rfl, rfl⟩))
        go_ret
        exact ⟨rfl, Rturn.refl H.out⟩
      | ok i =>
        rw [hl] at hok
        dsimp only at hok ⊢
        have hz : atZ D n = (i : Int) := by unfold atZ; rw [hl]
        have he : atE D n = 0 := by unfold atE; rw [hl]
        have hil := (look_in ho hl).2
        have hdm := (ho.at_ok i).2
        obtain ⟨hb, gb, cb, Av, cv, rfl, hv, hrow, e0, _, f0, _⟩ := h.body hil
        obtain ⟨_, x1, _, _, _⟩ := rcells h.head
        have hlt : (i : Int) < (D.bd.length : Int) := by omega
        have HZ := Lib.hid hz
        have HE := Lib.hid he
        have HA := Lib.hid h
        have HB := Lib.hid hb
        have HV := Lib.hid hv
        have HOK := Lib.hid hok
        have HROW := Lib.hid hrow
        have HIL := Lib.hid hil
        clear h hl hz he hb hv hrow hil hok hnm
        go_enter Try.func72, Try.ntmps72
        by_cases hq : q < (D.at i).data.length
        · have hq2 : (q : Int) < ((D.at i).data.length : Int) := by omega
          obtain ⟨gv, rfl⟩ := own_some HROW.out (by omega)
          have hqc : q ≤ cv := by
            obtain ⟨A', c', e', h1, _⟩ := own_form HROW.out
            injection e' with _ _ e'
            omega
          go_upto_region 12 with (first
            | (go_at_call 97; refine (rnamed_any n _).mono ?_; rw [HNM.out]; rintro x w1 ⟨rfl, rfl⟩)
            | (go_at_call 101; refine (rat_any H.out n HZ.out HE.out).mono ?_; rintro x w1 ⟨rfl, rfl⟩))
          have HRD := Lib.hid (show Rd w.drew w.drew.heap.size 1 (some ⟨gv, 0, none⟩) q (cU8 ((D.at i).data.take q)) from rd_part (Rd.of_own HROW.out) (by omega))
          have HNL := Lib.hid (show (some (⟨gv, 0, none⟩ : Addr)) = none → cv = 0 from fun h => by cases h)
          have HX1 := Lib.hid x1
          have HE0 := Lib.hid e0
          have HF0 := Lib.hid f0
          have HRL := Lib.hid (HA.out.low r HA.out.inR)
          have HGL := Lib.hid (HA.out.low gb (HA.out.inB gb rfl))
          clear x1 e0 f0
          refine wp_region_any (by kernel_rfl) ?_
          change wpAny _ _ _ _ _ _ _ (World.drew _)
          refine wpAny_of_P (S := fun w' => w'.cell? ⟨r, 1, none⟩ = some (.slice (some ⟨gb, 0, none⟩) D.bd.length cb) ∧ w'.cell? ⟨gb, i * 2, none⟩ = some (.slice (some ⟨gv, 0, none⟩) (D.at i).data.length cv)) (late := [18]) _ _ _ _ ?_
          refine takeT (i := 0) (v := ?_) rfl (by kernel_rfl) (by kernel_rfl) (by kernel_rfl) (by kernel_rfl) (fun _ _ _ h => h) (⟨HX1.out, HE0.out⟩) (.inl ⟨by rfl, fun w => .inl ?hy0⟩) ?_; case hy0 => (go_simp; try with_reducible rfl)
          try go_frame
          refine takeT (i := 1) (v := ?_) rfl (by kernel_rfl) (by kernel_rfl) (by kernel_rfl) (by kernel_rfl) (fun _ _ _ h => h) (⟨HX1.out, HE0.out⟩) (.inl ⟨by rfl, fun w => .inl ?hy1⟩) ?_; case hy1 => (go_simp; try with_reducible rfl)
          try go_frame
          refine takeT (i := 2) (v := ?_) rfl (by kernel_rfl) (by kernel_rfl) (by kernel_rfl) (by kernel_rfl) (fun _ _ _ h => h) (⟨HX1.out, HE0.out⟩) (.inl ⟨by rfl, fun w => .inl ?hy2⟩) ?_; case hy2 => (go_simp; try with_reducible rfl)
          try go_frame
          refine takePT 8 (i := 3) (v := ?_) rfl (by kernel_rfl) (by kernel_rfl) (by kernel_rfl) (by kernel_rfl) (by kernel_rfl) (by kernel_rfl) (fun _ _ _ h => h) (⟨HX1.out, HE0.out⟩) (.inl ⟨by rfl, fun w hw => .inl ?hy3⟩) ?_; case hy3 => (obtain ⟨hw0, hw1⟩ := hw; go_simp; try with_reducible rfl)
          try go_frame
          refine takeT (i := 4) (v := ?_) rfl (by kernel_rfl) (by kernel_rfl) (by kernel_rfl) (by kernel_rfl) (fun _ _ _ h => h) (⟨HX1.out, HE0.out⟩) (.inl ⟨by rfl, fun w => .inl ?hy4⟩) ?_; case hy4 => (go_simp; try with_reducible rfl)
          try go_frame
          refine takeT (i := 5) (v := ?_) rfl (by kernel_rfl) (by kernel_rfl) (by kernel_rfl) (by kernel_rfl) (fun _ _ _ h => h) (⟨HX1.out, HE0.out⟩) (.inl ⟨by rfl, fun w => .inl ?hy5⟩) ?_; case hy5 => (go_simp; try with_reducible rfl)
          try go_frame
          refine takeT (i := 6) (v := ?_) rfl (by kernel_rfl) (by kernel_rfl) (by kernel_rfl) (by kernel_rfl) (fun _ _ _ h => h) (⟨HX1.out, HE0.out⟩) (.inl ⟨by rfl, fun w => .inl ?hy6⟩) ?_; case hy6 => (go_simp; try with_reducible rfl)
          try go_frame
          refine takeT (i := 7) (v := ?_) rfl (by kernel_rfl) (by kernel_rfl) (by kernel_rfl) (by kernel_rfl) (fun _ _ _ h => h) (⟨HX1.out, HE0.out⟩) (.inl ⟨by rfl, fun w => .inl ?hy7⟩) ?_; case hy7 => (go_simp; try with_reducible rfl)
          try go_frame
          refine takePT 8 (i := 8) (v := ?_) rfl (by kernel_rfl) (by kernel_rfl) (by kernel_rfl) (by kernel_rfl) (by kernel_rfl) (by kernel_rfl) (fun _ _ _ h => h) (⟨HX1.out, HE0.out⟩) (.inl ⟨by rfl, fun w hw => .inl ?hy8⟩) ?_; case hy8 => (obtain ⟨hw0, hw1⟩ := hw; go_simp; try with_reducible rfl)
          try go_frame
          refine takeT (i := 9) (v := ?_) rfl (by kernel_rfl) (by kernel_rfl) (by kernel_rfl) (by kernel_rfl) (fun _ _ _ h => h) (⟨HX1.out, HE0.out⟩) (.inl ⟨by rfl, fun w => .inl ?hy9⟩) ?_; case hy9 => (go_simp; try with_reducible rfl)
          try go_frame
          refine takeT (i := 10) (v := ?_) rfl (by kernel_rfl) (by kernel_rfl) (by kernel_rfl) (by kernel_rfl) (fun _ _ _ h => h) (⟨HX1.out, HE0.out⟩) (.inl ⟨by rfl, fun w => .inl ?hy10⟩) ?_; case hy10 => (go_simp; try with_reducible rfl)
          try go_frame
          refine takeT (i := 11) (v := ?_) rfl (by kernel_rfl) (by kernel_rfl) (by kernel_rfl) (by kernel_rfl) (fun _ _ _ h => h) (⟨HX1.out, HE0.out⟩) (.inl ⟨by rfl, fun w => .inl ?hy11⟩) ?_; case hy11 => (go_simp; try with_reducible rfl)
          try go_frame
          refine takePT 8 (i := 12) (v := ?_) rfl (by kernel_rfl) (by kernel_rfl) (by kernel_rfl) (by kernel_rfl) (by kernel_rfl) (by kernel_rfl) (fun _ _ _ h => h) (⟨HX1.out, HE0.out⟩) (.inl ⟨by rfl, fun w hw => .inl ?hy12⟩) ?_; case hy12 => (obtain ⟨hw0, hw1⟩ := hw; go_simp; try with_reducible rfl)
          try go_frame
          refine takeT (i := 13) (v := ?_) rfl (by kernel_rfl) (by kernel_rfl) (by kernel_rfl) (by kernel_rfl) (fun _ _ _ h => h) (⟨HX1.out, HE0.out⟩) (.inl ⟨by rfl, fun w => .inl ?hy13⟩) ?_; case hy13 => (go_simp; try with_reducible rfl)
          try go_frame
          refine takeT (i := 14) (v := ?_) rfl (by kernel_rfl) (by kernel_rfl) (by kernel_rfl) (by kernel_rfl) (fun _ _ _ h => h) (⟨HX1.out, HE0.out⟩) (.inl ⟨by rfl, fun w => .inl ?hy14⟩) ?_; case hy14 => (go_simp; try with_reducible rfl)
          try go_frame
          refine forcedP (i := 15) rfl rfl (by kernel_rfl) (fun K hK => ?_)
          go_simp
          refine (rcopied_any HRD.out HNL.out (by omega)).mono ?_
          rintro y w1 ⟨A1, c1, rfl, hrow1, hb1⟩
          have hx1 : w1.cell? ⟨r, 1, none⟩ = some (.slice (some ⟨gb, 0, none⟩) D.bd.length cb) := (hb1.cell (p := ⟨r, 1, none⟩) HRL.out).trans HX1.out
          have he1 : w1.cell? ⟨gb, i * 2, none⟩ = some (.slice (some ⟨gv, 0, none⟩) (D.at i).data.length cv) := (hb1.cell (p := ⟨gb, i * 2, none⟩) HGL.out).trans HE0.out
          have hf1 : w1.frozen? ⟨gb, i * 2, none⟩ = false := (World.frozen?_of_block (a := ⟨gb, i * 2, none⟩) (hb1.block gb HGL.out)).trans HF0.out
          refine hK _ _ (⟨hx1, he1⟩) ?_; clear hK K
          try go_frame
          refine takeT (i := 16) (v := ?_) rfl (by kernel_rfl) (by kernel_rfl) (by kernel_rfl) (by kernel_rfl) (fun _ _ _ h => h) (⟨hx1, he1⟩) (.inl ⟨by rfl, fun w => .inl ?hy16⟩) ?_; case hy16 => (go_simp; try with_reducible rfl)
          try go_frame
          refine takeT (i := 17) (v := ?_) rfl (by kernel_rfl) (by kernel_rfl) (by kernel_rfl) (by kernel_rfl) (fun _ _ _ h => h) (⟨hx1, he1⟩) (.inl ⟨by rfl, fun w => .inl ?hy17⟩) ?_; case hy17 => (go_simp; try with_reducible rfl)
          try go_frame
          refine lateP (i := 18) rfl rfl (by kernel_rfl) (by kernel_rfl) (fun K hK => ?_)
          go_simp
          refine hK _ _ ?_; clear hK K
          try go_frame
          refine wpAny_done (by kernel_rfl) ?_ _
          have hb2 : Below w.heap.size w w1 := (Below.refl w.heap.size w).drew.trans hb1
          have hA2 := (HA.out.below hb2).wider (S' := fun k => S k ∨ (w.heap.size ≤ k ∧ k < w1.heap.size)) (fun k hk => .inl hk) (fun k hk => by
            rcases hk with hk | hk
            · exact Nat.lt_of_lt_of_le (HA.out.low k hk) hb2.size
            · exact hk.2)
          have hrow3 : w1.ownsRow 0 tU8 1 (.slice A1 q c1) ((D.at i).data.take q).length (cU8 ((D.at i).data.take q)) := by
            rw [List.length_take, Nat.min_eq_left (by omega)]
            exact own_base hrow1 (Nat.zero_le _)
          have hset := hA2.setData rfl HB.out hrow3 (fun g hg => .inr ⟨own_ge hrow1 hg, by obtain ⟨cur, h3⟩ := own_lt hrow1 hg; exact (Array.getElem?_eq_some_iff.1 h3).1⟩)
          obtain ⟨D1, hD1⟩ : ∃ D1, D.setBody i ⟨(D.at i).data.take q, (D.at i).safe⟩ = D1 := ⟨_, rfl⟩
          rw [hD1] at hset
          obtain ⟨wx, hwx⟩ : ∃ wx, w1.setCell ⟨gb, i * 2, none⟩ (.slice A1 q c1) = wx := ⟨_, rfl⟩
          have hkx : Kept w wx S := by rw [← hwx]; exact (Kept.of_below S hb2).set (HA.out.inB gb rfl) _
          have hsx : ∀ k, (S k ∨ (w.heap.size ≤ k ∧ k < w1.heap.size)) → S k ∨ w.heap.size ≤ k := fun k hk => by
            rcases hk with hk | hk
            · exact .inl hk
            · exact .inr hk.1
          rw [hwx] at hset ⊢
          have hl1 : D1.bd.length = D.bd.length := by rw [← hD1]; simp [Dr.D.setBody]
          have HBI := Lib.hid (show D1.bd[i]? = some ⟨(D.at i).data.take q, (D.at i).safe⟩ from by rw [← hD1]; exact List.getElem?_set_self HIL.out)
          have HDI := Lib.hid (show (ds.set i (.slice A1 q c1))[i]? = some (.slice A1 q c1) from List.getElem?_set_self (by have := HA.out.dl; have := HIL.out; omega))
          obtain ⟨SX, hSX⟩ : ∃ SX : Nat → Prop, (fun k => S k ∨ (w.heap.size ≤ k ∧ k < w1.heap.size)) = SX := ⟨_, rfl⟩
          rw [hSX] at hset
          have HSX := Lib.hid (show ∀ k, SX k → S k ∨ w.heap.size ≤ k from by rw [← hSX]; exact hsx)
          rw [← hl1] at hset
          have HR2 := Lib.hid hset
          have HD1 := Lib.hid hD1
          have HK := Lib.hid hkx
          obtain ⟨gx, hgx⟩ : ∃ gx, gb = gx := ⟨_, rfl⟩
          subst hgx
          clear hset hD1 hkx hwx hsx hSX hrow3 hA2 hb2 hx1 he1 hf1 hrow1 hb1 hl1
          obtain ⟨_, x1, _, _, _⟩ := rcells HR2.out.head
          obtain ⟨c0, c1⟩ := cB_at _ _ i _ _ HBI.out HDI.out
          have e1 : wx.cell? ⟨gb, i * 2 + 1, none⟩ = some (.int .i64 ((D.at i).safe : Int)) := own_cellS HR2.out.bod c1
          have f1 : wx.frozen? ⟨gb, i * 2 + 1, none⟩ = false := HR2.out.bod.frozenAt _
          have hltx : (i : Int) < (D1.bd.length : Int) := by have := (List.getElem?_eq_some_iff.1 HBI.out).1; omega
          clear c0 c1
          by_cases hks : q < (D.at i).safe
          · have hks2 : (q : Int) < ((D.at i).safe : Int) := by omega
            have hs := HR2.out.setSafe rfl HBI.out q
            have e : D1.setBody i ⟨(D.at i).data.take q, q⟩ = D.setBody i ⟨(D.at i).data.take q, min (D.at i).safe q⟩ := by
              rw [Nat.min_eq_right (by omega), ← HD1.out]
              exact setBody_twice
            rw [e] at hs
            have hfin : Rturn w (wx.setCell ⟨gb, i * 2 + 1, none⟩ (.int .i64 (q : Int))) S r (D.setBody i ⟨(D.at i).data.take q, min (D.at i).safe q⟩) m N := 
              Rturn.join HK.out HSX.out ⟨SX, ⟨HOK.out, by show (D.bd.set i _).length ≤ N; rw [List.length_set]; exact hbn, _, _, _, _, _, _, hs⟩, (Kept.refl wx SX).set (HR2.out.inB gb rfl) _, fun k hk => .inl hk⟩
            have HFIN := Lib.hid hfin
            clear hfin hs e
            go_wp2
            go_ret
            exact ⟨rfl, HFIN.out⟩
          · have hks2 : ¬ (q : Int) < ((D.at i).safe : Int) := by omega
            have e : D1 = D.setBody i ⟨(D.at i).data.take q, min (D.at i).safe q⟩ := by
              rw [Nat.min_eq_left (by omega)]
              exact HD1.out.symm
            have hr9 := HR2.out
            rw [show D1.bd.length = (D.setBody i ⟨(D.at i).data.take q, min (D.at i).safe q⟩).bd.length by rw [e]] at hr9
            have hr9 := e ▸ hr9
            have hfin : Rturn w wx S r (D.setBody i ⟨(D.at i).data.take q, min (D.at i).safe q⟩) m N :=
              Rturn.join HK.out HSX.out (Rturn.refl ⟨HOK.out, by show (D.bd.set i _).length ≤ N; rw [List.length_set]; exact hbn, _, _, _, _, _, _, hr9⟩)
            have HFIN := Lib.hid hfin
            clear hfin hr9 e
            go_wp2
            go_ret
            exact ⟨rfl, HFIN.out⟩
        · have hq2 : ¬ (q : Int) < ((D.at i).data.length : Int) := by omega
          go_upto_region 13 with (first
            | (go_at_call 97; refine (rnamed_any n _).mono ?_; rw [HNM.out]; rintro x w1 ⟨rfl, rfl⟩)
            | (go_at_call 101; refine (rat_any H.out n HZ.out HE.out).mono ?_; rintro x w1 ⟨rfl, rfl⟩))
          obtain ⟨D1, hD1⟩ : ∃ D1, D.setBody i ⟨(D.at i).data.take q, (D.at i).safe⟩ = D1 := ⟨_, rfl⟩
          have hDD : D1 = D := by rw [← hD1, List.take_of_length_le (by omega)]; exact setBody_same HIL.out
          have HBI := Lib.hid (show D1.bd[i]? = some ⟨(D.at i).data.take q, (D.at i).safe⟩ from by rw [← hD1]; exact List.getElem?_set_self HIL.out)
          have HDI := HV
          obtain ⟨wx, hwx⟩ : ∃ wx, w = wx := ⟨_, rfl⟩
          have HSX := Lib.hid (show ∀ k, S k → S k ∨ w.heap.size ≤ k from fun k hk => .inl hk)
          have hset : RefAt wx S r D1 (.slice (some ⟨gb, 0, none⟩) D1.bd.length cb) vn vk vc ds cs := by rw [hDD, ← hwx]; exact HA.out
          have hkx : Kept w wx S := by rw [← hwx]; exact Kept.refl _ _
          have HR2 := Lib.hid hset
          have HD1 := Lib.hid hD1
          have HK := Lib.hid hkx
          have hll : D.bd.length = D1.bd.length := by rw [hDD]
          rw [hll]
          clear hset hD1 hkx hDD x1 e0 f0 hlt hll
          subst hwx
          obtain ⟨_, x1, _, _, _⟩ := rcells HR2.out.head
          obtain ⟨c0, c1⟩ := cB_at _ _ i _ _ HBI.out HDI.out
          have e1 : w.cell? ⟨gb, i * 2 + 1, none⟩ = some (.int .i64 ((D.at i).safe : Int)) := own_cellS HR2.out.bod c1
          have f1 : w.frozen? ⟨gb, i * 2 + 1, none⟩ = false := HR2.out.bod.frozenAt _
          have hltx : (i : Int) < (D1.bd.length : Int) := by have := (List.getElem?_eq_some_iff.1 HBI.out).1; omega
          clear c0 c1
          by_cases hks : q < (D.at i).safe
          · have hks2 : (q : Int) < ((D.at i).safe : Int) := by omega
            have hs := HR2.out.setSafe rfl HBI.out q
            have e : D1.setBody i ⟨(D.at i).data.take q, q⟩ = D.setBody i ⟨(D.at i).data.take q, min (D.at i).safe q⟩ := by
              rw [Nat.min_eq_right (by omega), ← HD1.out]
              exact setBody_twice
            rw [e] at hs
            have hfin : Rturn w (w.setCell ⟨gb, i * 2 + 1, none⟩ (.int .i64 (q : Int))) S r (D.setBody i ⟨(D.at i).data.take q, min (D.at i).safe q⟩) m N := 
              Rturn.join HK.out HSX.out ⟨S, ⟨HOK.out, by show (D.bd.set i _).length ≤ N; rw [List.length_set]; exact hbn, _, _, _, _, _, _, hs⟩, (Kept.refl w S).set (HR2.out.inB gb rfl) _, fun k hk => .inl hk⟩
            have HFIN := Lib.hid hfin
            clear hfin hs e
            go_wp2
            go_ret
            exact ⟨rfl, HFIN.out⟩
          · have hks2 : ¬ (q : Int) < ((D.at i).safe : Int) := by omega
            have e : D1 = D.setBody i ⟨(D.at i).data.take q, min (D.at i).safe q⟩ := by
              rw [Nat.min_eq_left (by omega)]
              exact HD1.out.symm
            have hr9 := HR2.out
            rw [show D1.bd.length = (D.setBody i ⟨(D.at i).data.take q, min (D.at i).safe q⟩).bd.length by rw [e]] at hr9
            have hr9 := e ▸ hr9
            have hfin : Rturn w w S r (D.setBody i ⟨(D.at i).data.take q, min (D.at i).safe q⟩) m N :=
              Rturn.join HK.out HSX.out (Rturn.refl ⟨HOK.out, by show (D.bd.set i _).length ≤ N; rw [List.length_set]; exact hbn, _, _, _, _, _, _, hr9⟩)
            have HFIN := Lib.hid hfin
            clear hfin hr9 e
            go_wp2
            go_ret
            exact ⟨rfl, HFIN.out⟩
end
end Go.Proofs.Ytelgcmcnebncmaa.Dr
