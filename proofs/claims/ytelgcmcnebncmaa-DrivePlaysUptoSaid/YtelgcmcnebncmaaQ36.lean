/- XRf16, XMix: merged by tools/merge.py. -/
import Derived.Test.YtelgcmcnebncmaaQ35
import Derived.Test.YtelgcmcnebncmaaQ20
namespace Go.Proofs.Ytelgcmcnebncmaa.Dr
set_option linter.unusedVariables false
open Go.RowKit Go.Proofs Go.Proofs.Ytelgcmcnebncmaa.Ring

abbrev RNil (w1 wr : World) (S : Nat → Prop) (P : Nat) (x : An) : Prop :=
  ∃ S' : Nat → Prop, ∃ vd vn vf dv, Kept w1 wr (fun k => S k ∨ k = P) ∧ (∀ k, S' k → S k ∨ w1.heap.size ≤ k) ∧ wr.heap[P]? = some (.cells #[.int .i64 x.code, .int .i64 x.n, vd, vn, vf] tAnswer (0, 0)) ∧ AnAt wr w1.heap.size vd vn vf dv x
theorem rnmeet {w1 wx wr : World} {S : Nat → Prop} {P : Nat} {x : An} {vd vn vf : Value} (hPl : P < w1.heap.size) (hb : Below w1.heap.size w1 wx) (hk : Kept wx wr (fun k => k = P))
    (hP : wr.heap[P]? = some (.cells #[.int .i64 x.code, .int .i64 x.n, vd, vn, vf] tAnswer (0, 0))) (ha : AnAt wx w1.heap.size vd vn vf [] x) : RNil w1 wr S P x := by
  have hk2 : Kept w1 wr (fun k => k = P) := (Kept.of_below _ hb).trans hk (fun k hk => .inl hk)
  exact ⟨S, vd, vn, vf, [], hk2.mono fun k hk => .inr hk, fun k hk => .inl hk, hP, ha.same fun k h1 h2 => hk.block k h2 fun e => by omega⟩
section
variable {w : World}
set_option maxRecDepth 100000 in
set_option maxHeartbeats 16000000 in
theorem rdo_nil {B : Nat} (hB : B ≤ w.heap.size) {a : Ac} {A Ad Au : Option Addr} {n c nd cd nu cu : Nat} (ha : ActIn w B a A n c Ad nd cd Au nu cu) :
    Calls Try.prog 13 #[.pointer none, actV a A n c Ad nd cd Au nu cu] w fun x w' => ∃ vd vn vf dv,
      x = .returned (.agg #[.int .i64 (nilStep a).code, .int .i64 (nilStep a).n, vd, vn, vf]) ∧ AnAt w' w.heap.size vd vn vf dv (nilStep a) ∧ Below w.heap.size w w' := by
  obtain ⟨V, hV⟩ : ∃ V, w.heap.size = V := ⟨_, rfl⟩
  have HA := Lib.hid ha
  have HV := Lib.hid hV
  obtain ⟨S, hS0⟩ : ∃ S : Nat → Prop, ∀ k, ¬ S k := ⟨fun _ => False, fun _ h => h⟩
  have HNS := Lib.hid (show ∀ k, V ≤ k → ¬ S k from fun k _ => hS0 k)
  have HS0 := Lib.hid hS0
  clear hS0
  clear ha hV
  go_enter Try.func13, Try.ntmps13
  go_upto_region 2 with (fail)
  obtain ⟨w1, hw1⟩ : ∃ w1, ((w.alloc (.cells #[.int .i64 a.kind, encStr a.name, encStr a.dst, .int .i64 a.n, .slice A n c, .slice Ad nd cd, .slice Au nu cu] tAct)).alloc (.cells #[.int .i64 0, .int .i64 0, .slice none 0 0, .slice none 0 0, .slice none 0 0] tAnswer)).alloc
    (.cells #[.int .i64 0, .int .i64 0, .slice none 0 0, .slice none 0 0, .slice none 0 0] tAnswer) = w1 := ⟨_, rfl⟩
  have hs1 : w1.heap.size = V + 3 := by rw [← hw1, ← HV.out]; simp
  have hA1 : w1.heap[V]? = some (.cells #[.int .i64 a.kind, encStr a.name, encStr a.dst, .int .i64 a.n, .slice A n c, .slice Ad nd cd, .slice Au nu cu] tAct (0, 0)) := by
    rw [← hw1, ← HV.out]
    exact (heap_alloc_old _ _ (by simp; omega)).trans ((heap_alloc_old _ _ (by simp)).trans (heap_alloc_new _ _))
  have hR1 : w1.heap[V + 1]? = some (.cells #[.int .i64 0, .int .i64 0, .slice none 0 0, .slice none 0 0, .slice none 0 0] tAnswer (0, 0)) := by
    rw [← hw1, ← HV.out]
    exact (heap_alloc_old _ _ (by simp)).trans (heap_alloc2_new _ _ _)
  have hP1 : w1.heap[V + 2]? = some (.cells #[.int .i64 0, .int .i64 0, .slice none 0 0, .slice none 0 0, .slice none 0 0] tAnswer (0, 0)) := by
    rw [← hw1, ← HV.out]
    have := heap_alloc_new ((w.alloc (.cells #[.int .i64 a.kind, encStr a.name, encStr a.dst, .int .i64 a.n, .slice A n c, .slice Ad nd cd, .slice Au nu cu] tAct)).alloc (.cells #[.int .i64 0, .int .i64 0, .slice none 0 0, .slice none 0 0, .slice none 0 0] tAnswer)) (.cells #[.int .i64 0, .int .i64 0, .slice none 0 0, .slice none 0 0, .slice none 0 0] tAnswer)
    rwa [show ((w.alloc (.cells #[.int .i64 a.kind, encStr a.name, encStr a.dst, .int .i64 a.n, .slice A n c, .slice Ad nd cd, .slice Au nu cu] tAct)).alloc (.cells #[.int .i64 0, .int .i64 0, .slice none 0 0, .slice none 0 0, .slice none 0 0] tAnswer)).heap.size = w.heap.size + 2 by simp] at this
  have hb1 : Below V w w1 := by
    rw [← hw1, ← HV.out]
    exact (((Below.refl _ _).alloc (Nat.le_refl _) _).alloc (by simp) _).alloc (by simp; omega) _
  rw [hw1, HV.out]
  clear hw1
  obtain ⟨R, hR⟩ : ∃ R, V + 1 = R := ⟨_, rfl⟩
  obtain ⟨P, hP⟩ : ∃ P, R + 1 = P := ⟨_, rfl⟩
  have hVP : V + 2 = P := by omega
  rw [hVP] at hP1
  rw [hR] at hR1
  rw [hR, hP]
  have f0 : w1.cell? ⟨V, 0, none⟩ = some (.int .i64 a.kind) := by rw [cell_of_row w1 V _ _ _ _ hA1]; rfl
  have HS1 := Lib.hid hs1
  have HA1 := Lib.hid hA1
  have HR1 := Lib.hid hR1
  have HP1 := Lib.hid hP1
  have HB1 := Lib.hid hb1
  have HRP := Lib.hid (show R = V + 1 ∧ P = V + 2 from by omega)
  have HWV := Lib.hid (show Below w.heap.size w w1 from by rw [HV.out]; exact hb1)

  clear hs1 hA1 hR1 hP1 hb1 hR hP hVP
  go_upto_block 0 with (fail)
  go_cut [7] from 8 to 134 (fun kv wr => RNil w1 wr S P (nilStep a))
  case rest =>
    obtain ⟨S', vd, vn, vf, dv, hK, hS', hP, hAn⟩ := hcut
    obtain ⟨xd, yd, rfl, _, _⟩ := own_form hAn.data
    obtain ⟨xn, yn, rfl, _, _⟩ := own_form hAn.names
    obtain ⟨xf, yf, rfl, _, _⟩ := own_form hAn.files.row
    obtain ⟨ld, hld⟩ : ∃ l, (nilStep a).data.length = l := ⟨_, rfl⟩
    obtain ⟨ln, hln⟩ : ∃ l, (nilStep a).names.length = l := ⟨_, rfl⟩
    obtain ⟨lf, hlf⟩ : ∃ l, (nilStep a).files.length = l := ⟨_, rfl⟩
    rw [hld, hln, hlf] at hP hAn
    have hRS : ¬ S R := HNS.out R (by have := HRP.out; omega)
    have hRc := (hK.block R (by have := HRP.out; have := HS1.out; omega) (fun h => h.elim hRS (fun e => by have := HRP.out; omega))).trans HR1.out
    obtain ⟨q0, hq0⟩ : ∃ q, (nilStep a).code = q := ⟨_, rfl⟩
    obtain ⟨q1, hq1⟩ : ∃ q, (nilStep a).n = q := ⟨_, rfl⟩
    rw [hq0, hq1] at hP
    have c0 : wc.cell? ⟨P, 0, none⟩ = some (.int .i64 q0) := by rw [cell_of_row wc P _ _ _ _ hP]; rfl
    have c1 : wc.cell? ⟨P, 1, none⟩ = some (.int .i64 q1) := by rw [cell_of_row wc P _ _ _ _ hP]; rfl
    have c2 : wc.cell? ⟨P, 2, none⟩ = some (.slice xd ld yd) := by rw [cell_of_row wc P _ _ _ _ hP]; rfl
    have c3 : wc.cell? ⟨P, 3, none⟩ = some (.slice xn ln yn) := by rw [cell_of_row wc P _ _ _ _ hP]; rfl
    have c4 : wc.cell? ⟨P, 4, none⟩ = some (.slice xf lf yf) := by rw [cell_of_row wc P _ _ _ _ hP]; rfl
    have r0 : wc.cell? ⟨R, 0, none⟩ = some (.int .i64 0) := by rw [cell_of_row wc R _ _ _ _ hRc]; rfl
    have r1 : wc.cell? ⟨R, 1, none⟩ = some (.int .i64 0) := by rw [cell_of_row wc R _ _ _ _ hRc]; rfl
    have r2 : wc.cell? ⟨R, 2, none⟩ = some (.slice none 0 0) := by rw [cell_of_row wc R _ _ _ _ hRc]; rfl
    have r3 : wc.cell? ⟨R, 3, none⟩ = some (.slice none 0 0) := by rw [cell_of_row wc R _ _ _ _ hRc]; rfl
    have r4 : wc.cell? ⟨R, 4, none⟩ = some (.slice none 0 0) := by rw [cell_of_row wc R _ _ _ _ hRc]; rfl
    have z0 := unfrozen hRc 0
    have z1 := unfrozen hRc 1
    have z2 := unfrozen hRc 2
    have z3 := unfrozen hRc 3
    have z4 := unfrozen hRc 4
    have HRC := Lib.hid hRc
    have HK := Lib.hid hK
    have HSS := Lib.hid hS'
    have HAN := Lib.hid hAn
    have HLD := Lib.hid hld
    have HLN := Lib.hid hln
    have HLF := Lib.hid hlf
    have HQ0 := Lib.hid hq0
    have HQ1 := Lib.hid hq1

    clear hP hRc hK hS' hAn f0 hld hln hlf hq0 hq1 hRS
    go_wp2
    clear c0 c1 c2 c3 c4 r0 r1 r2 r3 r4 z0 z1 z2 z3 z4
    have hR9 := heap_same (heap_same (heap_same (heap_same (heap_same HRC.out (i := 0) (.int .i64 q0)) (i := 1) (.int .i64 q1)) (i := 2) (.slice xd ld yd)) (i := 3) (.slice xn ln yn)) (i := 4) (.slice xf lf yf)
    refine bodyPost_ret (results_cell_row Try.results13 _ _ R tAnswer _ _ _ rfl hR9 Try.underlying38 rfl (by kernel_rfl)) rfl ?_
    have hk89 := ((((((Kept.refl wc (fun k => k = R)).set (p := ⟨R, 0, none⟩) rfl (.int .i64 q0)).set (p := ⟨R, 1, none⟩) rfl (.int .i64 q1)).set (p := ⟨R, 2, none⟩) rfl (.slice xd ld yd)).set (p := ⟨R, 3, none⟩) rfl (.slice xn ln yn)).set (p := ⟨R, 4, none⟩) rfl (.slice xf lf yf))
    obtain ⟨w9, hw9⟩ : ∃ w9, ((((wc.setCell ⟨R, 0, none⟩ (.int .i64 q0)).setCell ⟨R, 1, none⟩ (.int .i64 q1)).setCell ⟨R, 2, none⟩ (.slice xd ld yd)).setCell ⟨R, 3, none⟩ (.slice xn ln yn)).setCell ⟨R, 4, none⟩ (.slice xf lf yf) = w9 := ⟨_, rfl⟩
    rw [hw9] at hk89 ⊢
    have hV3 := HS1.out
    obtain ⟨hRv, hPv⟩ := HRP.out
    rw [← HQ0.out, ← HQ1.out]
    refine ⟨_, _, _, dv, rfl, (HAN.out.same fun k h1 h2 => hk89.block k h2 (fun e => by omega)).lower (by have := HV.out; omega), ?_⟩
    have hkw : Kept w w1 S := Kept.of_below S HWV.out
    have hfin := ((hkw.trans (HK.out.mono (T := fun k => S k ∨ V ≤ k) fun k hk => hk.elim .inl (fun e => .inr (by omega))) (fun k hk => hk.elim .inl fun e => .inr (by rw [HV.out]; exact e))).trans hk89 (fun k e => .inr (by rw [HV.out]; omega)))
    exact hfin.to_below (Nat.le_refl _) (fun k hk => (HS0.out k hk).elim)
  case first =>
    have f1 : w1.cell? ⟨V, 1, none⟩ = some (encStr a.name) := by rw [cell_of_row w1 V _ _ _ _ HA1.out]; rfl
    have f2 : w1.cell? ⟨V, 2, none⟩ = some (encStr a.dst) := by rw [cell_of_row w1 V _ _ _ _ HA1.out]; rfl
    have f3 : w1.cell? ⟨V, 3, none⟩ = some (.int .i64 a.n) := by rw [cell_of_row w1 V _ _ _ _ HA1.out]; rfl
    have f4 : w1.cell? ⟨V, 4, none⟩ = some (.slice A n c) := by rw [cell_of_row w1 V _ _ _ _ HA1.out]; rfl
    have f5 : w1.cell? ⟨V, 5, none⟩ = some (.slice Ad nd cd) := by rw [cell_of_row w1 V _ _ _ _ HA1.out]; rfl
    have f6 : w1.cell? ⟨V, 6, none⟩ = some (.slice Au nu cu) := by rw [cell_of_row w1 V _ _ _ _ HA1.out]; rfl
    have HPS := Lib.hid (show ¬ S P from HNS.out P (by have := HRP.out; omega))
    have HPL := Lib.hid (show P < w1.heap.size from by have := HRP.out; have := HS1.out; omega)
    have HZ : ∀ wx : World, wx.heap[P]? = w1.heap[P]? → wx.cell? ⟨P, 0, none⟩ = some (.int .i64 0) ∧ wx.cell? ⟨P, 1, none⟩ = some (.int .i64 0) ∧ wx.cell? ⟨P, 2, none⟩ = some (.slice none 0 0) ∧ wx.cell? ⟨P, 3, none⟩ = some (.slice none 0 0) ∧ wx.cell? ⟨P, 4, none⟩ = some (.slice none 0 0) := fun wx e =>
      have h := e.trans HP1.out
      ⟨by rw [cell_of_row wx P _ _ _ _ h]; rfl, by rw [cell_of_row wx P _ _ _ _ h]; rfl, by rw [cell_of_row wx P _ _ _ _ h]; rfl, by rw [cell_of_row wx P _ _ _ _ h]; rfl, by rw [cell_of_row wx P _ _ _ _ h]; rfl⟩
    have HZC := Lib.hid HZ
    clear HZ

    by_cases k0 : a.kind = 0
    · have hst : nilStep a = { code := 1 } := by
        unfold nilStep
        rw [if_pos k0]
      have HST := Lib.hid hst
      clear hst
      go_wp2_with (first | (go_at_call 61; go_loud (refine (rnil_Create a.name _).mono ?_); rintro x w' ⟨rfl, hb5⟩; have hpb := hb5.block P HPL.out; obtain ⟨y0, y1, y2, y3, y4⟩ := HZC.out w' hpb; have hpr := hpb.trans HP1.out; have u0 := unfrozen hpr 0; have HPR := Lib.hid hpr; clear hpb hpr; have HB5 := Lib.hid hb5))
      clear y0 y1 y2 y3 y4 hb5 u0
      go_meet
      rw [HST.out]
      exact rnmeet HPL.out HB5.out ((Kept.refl _ (fun k => k = P)).set (p := ⟨P, 0, none⟩) rfl (.int .i64 1)) (heap_same HPR.out (i := 0) (.int .i64 1)) (AnAt.none_ _ _ _ rfl rfl rfl)
    by_cases k1 : a.kind = 1
    · have hst : nilStep a = { code := 1 } := by
        unfold nilStep
        rw [if_neg k0, if_pos k1]
      have HST := Lib.hid hst
      clear hst
      go_wp2_with (first | (go_at_call 62; go_loud (refine (rnil_Append a.name _ _ _ _).mono ?_); rintro x w' ⟨rfl, hb5⟩; have hpb := hb5.block P HPL.out; obtain ⟨y0, y1, y2, y3, y4⟩ := HZC.out w' hpb; have hpr := hpb.trans HP1.out; have u0 := unfrozen hpr 0; have HPR := Lib.hid hpr; clear hpb hpr; have HB5 := Lib.hid hb5))
      clear y0 y1 y2 y3 y4 hb5 u0
      go_meet
      rw [HST.out]
      exact rnmeet HPL.out HB5.out ((Kept.refl _ (fun k => k = P)).set (p := ⟨P, 0, none⟩) rfl (.int .i64 1)) (heap_same HPR.out (i := 0) (.int .i64 1)) (AnAt.none_ _ _ _ rfl rfl rfl)
    by_cases k2 : a.kind = 2
    · have hst : nilStep a = { code := 1 } := by
        unfold nilStep
        rw [if_neg k0, if_neg k1, if_pos k2]
      have HST := Lib.hid hst
      clear hst
      go_wp2_with (first | (go_at_call 63; go_loud (refine (rnil_Sync a.name _).mono ?_); rintro x w' ⟨rfl, hb5⟩; have hpb := hb5.block P HPL.out; obtain ⟨y0, y1, y2, y3, y4⟩ := HZC.out w' hpb; have hpr := hpb.trans HP1.out; have u0 := unfrozen hpr 0; have HPR := Lib.hid hpr; clear hpb hpr; have HB5 := Lib.hid hb5))
      clear y0 y1 y2 y3 y4 hb5 u0
      go_meet
      rw [HST.out]
      exact rnmeet HPL.out HB5.out ((Kept.refl _ (fun k => k = P)).set (p := ⟨P, 0, none⟩) rfl (.int .i64 1)) (heap_same HPR.out (i := 0) (.int .i64 1)) (AnAt.none_ _ _ _ rfl rfl rfl)
    by_cases k3 : a.kind = 3
    · have hst : nilStep a = { code := 1 } := by
        unfold nilStep
        rw [if_neg k0, if_neg k1, if_neg k2, if_pos k3]
      have HST := Lib.hid hst
      clear hst
      go_wp2_with (first | (go_at_call 64; go_loud (refine (rnil_Rename a.name a.dst _).mono ?_); rintro x w' ⟨rfl, hb5⟩; have hpb := hb5.block P HPL.out; obtain ⟨y0, y1, y2, y3, y4⟩ := HZC.out w' hpb; have hpr := hpb.trans HP1.out; have u0 := unfrozen hpr 0; have HPR := Lib.hid hpr; clear hpb hpr; have HB5 := Lib.hid hb5))
      clear y0 y1 y2 y3 y4 hb5 u0
      go_meet
      rw [HST.out]
      exact rnmeet HPL.out HB5.out ((Kept.refl _ (fun k => k = P)).set (p := ⟨P, 0, none⟩) rfl (.int .i64 1)) (heap_same HPR.out (i := 0) (.int .i64 1)) (AnAt.none_ _ _ _ rfl rfl rfl)
    by_cases k4 : a.kind = 4
    · have hst : nilStep a = { code := 1 } := by
        unfold nilStep
        rw [if_neg k0, if_neg k1, if_neg k2, if_neg k3, if_pos k4]
      have HST := Lib.hid hst
      clear hst
      go_wp2_with (first | (go_at_call 65; go_loud (refine (rnil_Remove a.name _).mono ?_); rintro x w' ⟨rfl, hb5⟩; have hpb := hb5.block P HPL.out; obtain ⟨y0, y1, y2, y3, y4⟩ := HZC.out w' hpb; have hpr := hpb.trans HP1.out; have u0 := unfrozen hpr 0; have HPR := Lib.hid hpr; clear hpb hpr; have HB5 := Lib.hid hb5))
      clear y0 y1 y2 y3 y4 hb5 u0
      go_meet
      rw [HST.out]
      exact rnmeet HPL.out HB5.out ((Kept.refl _ (fun k => k = P)).set (p := ⟨P, 0, none⟩) rfl (.int .i64 1)) (heap_same HPR.out (i := 0) (.int .i64 1)) (AnAt.none_ _ _ _ rfl rfl rfl)
    by_cases k5 : a.kind = 5
    · have hst : nilStep a = { code := 1 } := by
        unfold nilStep
        rw [if_neg k0, if_neg k1, if_neg k2, if_neg k3, if_neg k4, if_pos k5]
      have HST := Lib.hid hst
      clear hst
      go_wp2_with (first | (go_at_call 66; go_loud (refine (rnil_SyncDir _).mono ?_); rintro x w' ⟨rfl, hb5⟩; have hpb := hb5.block P HPL.out; obtain ⟨y0, y1, y2, y3, y4⟩ := HZC.out w' hpb; have hpr := hpb.trans HP1.out; have u0 := unfrozen hpr 0; have HPR := Lib.hid hpr; clear hpb hpr; have HB5 := Lib.hid hb5))
      clear y0 y1 y2 y3 y4 hb5 u0
      go_meet
      rw [HST.out]
      exact rnmeet HPL.out HB5.out ((Kept.refl _ (fun k => k = P)).set (p := ⟨P, 0, none⟩) rfl (.int .i64 1)) (heap_same HPR.out (i := 0) (.int .i64 1)) (AnAt.none_ _ _ _ rfl rfl rfl)
    by_cases k6 : a.kind = 6
    · have hst : nilStep a = { code := 1 } := by
        unfold nilStep
        rw [if_neg k0, if_neg k1, if_neg k2, if_neg k3, if_neg k4, if_neg k5, if_pos k6]
      have HST := Lib.hid hst
      clear hst
      go_wp2_with (first | (go_at_call 67; go_loud (refine (rnil_Read a.name _).mono ?_); rintro x w' ⟨rfl, hb5⟩; have hpb := hb5.block P HPL.out; obtain ⟨y0, y1, y2, y3, y4⟩ := HZC.out w' hpb; have hpr := hpb.trans HP1.out; have u2 := unfrozen hpr 2; have u0 := unfrozen hpr 0; have HPR := Lib.hid hpr; clear hpb hpr; have HB5 := Lib.hid hb5))
      clear y0 y1 y2 y3 y4 hb5 u2 u0
      go_meet
      rw [HST.out]
      exact rnmeet HPL.out HB5.out (((Kept.refl _ (fun k => k = P)).set (p := ⟨P, 2, none⟩) rfl (.slice none 0 0)).set (p := ⟨P, 0, none⟩) rfl (.int .i64 1)) (heap_same (heap_same HPR.out (i := 2) (.slice none 0 0)) (i := 0) (.int .i64 1)) (AnAt.none_ _ _ _ rfl rfl rfl)
    by_cases k7 : a.kind = 7
    · have hst : nilStep a = { code := 1 } := by
        unfold nilStep
        rw [if_neg k0, if_neg k1, if_neg k2, if_neg k3, if_neg k4, if_neg k5, if_neg k6, if_pos k7]
      have HST := Lib.hid hst
      clear hst
      go_wp2_with (first | (go_at_call 68; go_loud (refine (rnil_List _).mono ?_); rintro x w' ⟨rfl, hb5⟩; have hpb := hb5.block P HPL.out; obtain ⟨y0, y1, y2, y3, y4⟩ := HZC.out w' hpb; have hpr := hpb.trans HP1.out; have u3 := unfrozen hpr 3; have u0 := unfrozen hpr 0; have HPR := Lib.hid hpr; clear hpb hpr; have HB5 := Lib.hid hb5))
      clear y0 y1 y2 y3 y4 hb5 u3 u0
      go_meet
      rw [HST.out]
      exact rnmeet HPL.out HB5.out (((Kept.refl _ (fun k => k = P)).set (p := ⟨P, 3, none⟩) rfl (.slice none 0 0)).set (p := ⟨P, 0, none⟩) rfl (.int .i64 1)) (heap_same (heap_same HPR.out (i := 3) (.slice none 0 0)) (i := 0) (.int .i64 1)) (AnAt.none_ _ _ _ rfl rfl rfl)
    by_cases k8 : a.kind = 8
    · have hst : nilStep a = {} := by
        unfold nilStep
        rw [if_neg k0, if_neg k1, if_neg k2, if_neg k3, if_neg k4, if_neg k5, if_neg k6, if_neg k7, if_pos k8]
      have HST := Lib.hid hst
      clear hst
      go_wp2_with (first | (go_at_call 24; go_loud (refine (rnil_Used _).mono ?_); rintro x w' ⟨rfl, hb5⟩; have hpb := hb5.block P HPL.out; obtain ⟨y0, y1, y2, y3, y4⟩ := HZC.out w' hpb; have hpr := hpb.trans HP1.out; have u1 := unfrozen hpr 1; have HPR := Lib.hid hpr; clear hpb hpr; have HB5 := Lib.hid hb5))
      clear y0 y1 y2 y3 y4 hb5 u1
      go_meet
      rw [HST.out]
      exact rnmeet HPL.out HB5.out ((Kept.refl _ (fun k => k = P)).set (p := ⟨P, 1, none⟩) rfl (.int .i64 0)) (heap_same HPR.out (i := 1) (.int .i64 0)) (AnAt.none_ _ _ _ rfl rfl rfl)
    by_cases k9 : a.kind = 9
    · have hst : nilStep a = {} := by
        unfold nilStep
        rw [if_neg k0, if_neg k1, if_neg k2, if_neg k3, if_neg k4, if_neg k5, if_neg k6, if_neg k7, if_neg k8, if_pos k9]
      have HST := Lib.hid hst
      clear hst
      go_wp2_with (first | (go_at_call 69; go_loud (refine (rnil_Pending _).mono ?_); rintro x w' ⟨rfl, hb5⟩; have hpb := hb5.block P HPL.out; obtain ⟨y0, y1, y2, y3, y4⟩ := HZC.out w' hpb; have hpr := hpb.trans HP1.out; have u1 := unfrozen hpr 1; have HPR := Lib.hid hpr; clear hpb hpr; have HB5 := Lib.hid hb5))
      clear y0 y1 y2 y3 y4 hb5 u1
      go_meet
      rw [HST.out]
      exact rnmeet HPL.out HB5.out ((Kept.refl _ (fun k => k = P)).set (p := ⟨P, 1, none⟩) rfl (.int .i64 0)) (heap_same HPR.out (i := 1) (.int .i64 0)) (AnAt.none_ _ _ _ rfl rfl rfl)
    by_cases k10 : a.kind = 10
    · have hst : nilStep a = { code := 1 } := by
        unfold nilStep
        rw [if_neg k0, if_neg k1, if_neg k2, if_neg k3, if_neg k4, if_neg k5, if_neg k6, if_neg k7, if_neg k8, if_neg k9, if_pos k10]
      have HST := Lib.hid hst
      clear hst
      go_wp2_with (first | (go_at_call 70; go_loud (refine (rnil_Loose a.name _).mono ?_); rintro x w' ⟨rfl, hb5⟩; have hpb := hb5.block P HPL.out; obtain ⟨y0, y1, y2, y3, y4⟩ := HZC.out w' hpb; have hpr := hpb.trans HP1.out; have u1 := unfrozen hpr 1; have u0 := unfrozen hpr 0; have HPR := Lib.hid hpr; clear hpb hpr; have HB5 := Lib.hid hb5))
      clear y0 y1 y2 y3 y4 hb5 u1 u0
      go_meet
      rw [HST.out]
      exact rnmeet HPL.out HB5.out (((Kept.refl _ (fun k => k = P)).set (p := ⟨P, 1, none⟩) rfl (.int .i64 0)).set (p := ⟨P, 0, none⟩) rfl (.int .i64 1)) (heap_same (heap_same HPR.out (i := 1) (.int .i64 0)) (i := 0) (.int .i64 1)) (AnAt.none_ _ _ _ rfl rfl rfl)
    by_cases k11 : a.kind = 11
    · have hst : nilStep a = {} := by
        unfold nilStep
        rw [if_neg k0, if_neg k1, if_neg k2, if_neg k3, if_neg k4, if_neg k5, if_neg k6, if_neg k7, if_neg k8, if_neg k9, if_neg k10, if_pos k11]
      have HST := Lib.hid hst
      clear hst
      go_wp2_with (first | (go_at_call 17; go_loud (refine (rnil_Image _).mono ?_); rintro x w' ⟨rfl, hb5⟩; have hpb := hb5.block P HPL.out; obtain ⟨y0, y1, y2, y3, y4⟩ := HZC.out w' hpb; have hpr := hpb.trans HP1.out; have u4 := unfrozen hpr 4; have HPR := Lib.hid hpr; clear hpb hpr; have HB5 := Lib.hid hb5))
      clear y0 y1 y2 y3 y4 hb5 u4
      go_meet
      rw [HST.out]
      exact rnmeet HPL.out HB5.out ((Kept.refl _ (fun k => k = P)).set (p := ⟨P, 4, none⟩) rfl (.slice none 0 0)) (heap_same HPR.out (i := 4) (.slice none 0 0)) (AnAt.none_ _ _ _ rfl rfl rfl)
    by_cases k12 : a.kind = 12
    · have hst : nilStep a = {} := by
        unfold nilStep
        rw [if_neg k0, if_neg k1, if_neg k2, if_neg k3, if_neg k4, if_neg k5, if_neg k6, if_neg k7, if_neg k8, if_neg k9, if_neg k10, if_neg k11, if_pos k12]
      have HST := Lib.hid hst
      clear hst
      go_wp2_with (first | (go_at_call 54; go_loud (refine (rnil_Safe _).mono ?_); rintro x w' ⟨rfl, hb5⟩; have hpb := hb5.block P HPL.out; obtain ⟨y0, y1, y2, y3, y4⟩ := HZC.out w' hpb; have hpr := hpb.trans HP1.out; have u4 := unfrozen hpr 4; have HPR := Lib.hid hpr; clear hpb hpr; have HB5 := Lib.hid hb5))
      clear y0 y1 y2 y3 y4 hb5 u4
      go_meet
      rw [HST.out]
      exact rnmeet HPL.out HB5.out ((Kept.refl _ (fun k => k = P)).set (p := ⟨P, 4, none⟩) rfl (.slice none 0 0)) (heap_same HPR.out (i := 4) (.slice none 0 0)) (AnAt.none_ _ _ _ rfl rfl rfl)
    by_cases k13 : a.kind = 13
    · have hst : nilStep a = { code := 1 } := by
        unfold nilStep
        rw [if_neg k0, if_neg k1, if_neg k2, if_neg k3, if_neg k4, if_neg k5, if_neg k6, if_neg k7, if_neg k8, if_neg k9, if_neg k10, if_neg k11, if_neg k12, if_pos k13]
      have HST := Lib.hid hst
      clear hst
      go_wp2_with (first | (go_at_call 15; go_loud (refine (rnil_Crash _ _ _ _ _ _ _).mono ?_); rintro x w' ⟨rfl, hb5⟩; have hpb := hb5.block P HPL.out; obtain ⟨y0, y1, y2, y3, y4⟩ := HZC.out w' hpb; have hpr := hpb.trans HP1.out; have u0 := unfrozen hpr 0; have HPR := Lib.hid hpr; clear hpb hpr; have HB5 := Lib.hid hb5))
      clear y0 y1 y2 y3 y4 hb5 u0
      go_meet
      rw [HST.out]
      exact rnmeet HPL.out HB5.out ((Kept.refl _ (fun k => k = P)).set (p := ⟨P, 0, none⟩) rfl (.int .i64 1)) (heap_same HPR.out (i := 0) (.int .i64 1)) (AnAt.none_ _ _ _ rfl rfl rfl)
    by_cases k14 : a.kind = 14
    · have hst : nilStep a = { code := 1 } := by
        unfold nilStep
        rw [if_neg k0, if_neg k1, if_neg k2, if_neg k3, if_neg k4, if_neg k5, if_neg k6, if_neg k7, if_neg k8, if_neg k9, if_neg k10, if_neg k11, if_neg k12, if_neg k13, if_pos k14]
      have HST := Lib.hid hst
      clear hst
      go_wp2_with (first | (go_at_call 71; go_loud (refine (rnil_Flip a.name _ _ _ _ _).mono ?_); rintro x w' ⟨rfl, hb5⟩; have hpb := hb5.block P HPL.out; obtain ⟨y0, y1, y2, y3, y4⟩ := HZC.out w' hpb; have hpr := hpb.trans HP1.out; have u0 := unfrozen hpr 0; have HPR := Lib.hid hpr; clear hpb hpr; have HB5 := Lib.hid hb5))
      clear y0 y1 y2 y3 y4 hb5 u0
      go_meet
      rw [HST.out]
      exact rnmeet HPL.out HB5.out ((Kept.refl _ (fun k => k = P)).set (p := ⟨P, 0, none⟩) rfl (.int .i64 1)) (heap_same HPR.out (i := 0) (.int .i64 1)) (AnAt.none_ _ _ _ rfl rfl rfl)
    by_cases k15 : a.kind = 15
    · have hst : nilStep a = { code := 1 } := by
        unfold nilStep
        rw [if_neg k0, if_neg k1, if_neg k2, if_neg k3, if_neg k4, if_neg k5, if_neg k6, if_neg k7, if_neg k8, if_neg k9, if_neg k10, if_neg k11, if_neg k12, if_neg k13, if_neg k14, if_pos k15]
      have HST := Lib.hid hst
      clear hst
      go_wp2_with (first | (go_at_call 72; go_loud (refine (rnil_Cut a.name _ _).mono ?_); rintro x w' ⟨rfl, hb5⟩; have hpb := hb5.block P HPL.out; obtain ⟨y0, y1, y2, y3, y4⟩ := HZC.out w' hpb; have hpr := hpb.trans HP1.out; have u0 := unfrozen hpr 0; have HPR := Lib.hid hpr; clear hpb hpr; have HB5 := Lib.hid hb5))
      clear y0 y1 y2 y3 y4 hb5 u0
      go_meet
      rw [HST.out]
      exact rnmeet HPL.out HB5.out ((Kept.refl _ (fun k => k = P)).set (p := ⟨P, 0, none⟩) rfl (.int .i64 1)) (heap_same HPR.out (i := 0) (.int .i64 1)) (AnAt.none_ _ _ _ rfl rfl rfl)
    by_cases k16 : a.kind = 16
    · have hst : nilStep a = { code := 1 } := by
        unfold nilStep
        rw [if_neg k0, if_neg k1, if_neg k2, if_neg k3, if_neg k4, if_neg k5, if_neg k6, if_neg k7, if_neg k8, if_neg k9, if_neg k10, if_neg k11, if_neg k12, if_neg k13, if_neg k14, if_neg k15, if_pos k16]
      have HST := Lib.hid hst
      clear hst
      go_wp2_with (first | (go_at_call 73; go_loud (refine (rnil_Wipe _).mono ?_); rintro x w' ⟨rfl, hb5⟩; have hpb := hb5.block P HPL.out; obtain ⟨y0, y1, y2, y3, y4⟩ := HZC.out w' hpb; have hpr := hpb.trans HP1.out; have u0 := unfrozen hpr 0; have HPR := Lib.hid hpr; clear hpb hpr; have HB5 := Lib.hid hb5))
      clear y0 y1 y2 y3 y4 hb5 u0
      go_meet
      rw [HST.out]
      exact rnmeet HPL.out HB5.out ((Kept.refl _ (fun k => k = P)).set (p := ⟨P, 0, none⟩) rfl (.int .i64 1)) (heap_same HPR.out (i := 0) (.int .i64 1)) (AnAt.none_ _ _ _ rfl rfl rfl)
    have hst : nilStep a = {} := by
      unfold nilStep
      rw [if_neg k0, if_neg k1, if_neg k2, if_neg k3, if_neg k4, if_neg k5, if_neg k6, if_neg k7, if_neg k8, if_neg k9, if_neg k10, if_neg k11, if_neg k12, if_neg k13, if_neg k14, if_neg k15, if_neg k16]
    have HST := Lib.hid hst
    clear hst
    go_wp2
    go_meet
    rw [HST.out]
    exact rnmeet HPL.out (Below.refl _ _) (Kept.refl _ _) HP1.out (AnAt.none_ _ _ _ rfl rfl rfl)
end
end Go.Proofs.Ytelgcmcnebncmaa.Dr
namespace Go.Proofs.Ytelgcmcnebncmaa.Dr
open Go.RowKit Go.Proofs Go.Proofs.Ytelgcmcnebncmaa.Ring

/-- Every byte one more. -/
def D.bump (d : Dr.D) : Dr.D := { d with bd := d.bd.map fun b => ⟨b.data.map (· + 1), b.safe⟩ }
theorem bump_at (d : Dr.D) {i : Nat} (hi : i < d.bd.length) : (Dr.D.bump d).at i = ⟨(d.at i).data.map (· + 1), (d.at i).safe⟩ := by
  unfold Dr.D.at Dr.D.bump
  simp [List.getD_eq_getElem?_getD, List.getElem?_map, List.getElem?_eq_getElem hi]
theorem bump_image {d : Dr.D} {m N : Nat} (h : d.Ok m N) : (Dr.D.bump d).image = d.image.map fun f => (f.1, f.2.map (· + 1)) := by
  unfold Dr.D.image Dr.D.files
  rw [List.map_map]
  refine List.map_congr_left fun p hp => ?_
  rw [bump_at d (h.inN p hp)]
  rfl
theorem bump_ok {d : Dr.D} {m N : Nat} (h : d.Ok m N) : (Dr.D.bump d).Ok m N := by
  have hl : (Dr.D.bump d).bd.length = d.bd.length := by unfold Dr.D.bump; simp
  refine ⟨h.room, h.now, h.kept, fun p hp => hl ▸ h.inN p hp, fun p hp => hl ▸ h.inK p hp, fun c hc s hs => ⟨(h.inP c hc s hs).1, fun i hi => hl ▸ (h.inP c hc s hs).2 i hi⟩, h.one, h.oneP, fun b hb => ?_, h.lenN, h.lenK, h.namN, h.namK⟩
  unfold Dr.D.bump at hb
  obtain ⟨b0, hb0, rfl⟩ := List.mem_map.1 hb
  have := h.safe b0 hb0
  simpa using this
end Go.Proofs.Ytelgcmcnebncmaa.Dr
namespace Go.Proofs.Ytelgcmcnebncmaa.Dr
open Go.RowKit Go.Proofs Go.Proofs.Ytelgcmcnebncmaa.Ring

def up1 (f : Bs × Bs) : Bs × Bs := (f.1, f.2.map (· + 1))
/-- Of file j: all of it one more where j is below i, its first c bytes where j is i. -/
def mixB (i c j : Nat) (b : Bs) : Bs := if j < i then b.map (· + 1) else if j = i then (b.take c).map (· + 1) ++ b.drop c else b
def mix (fs : List (Bs × Bs)) (i c : Nat) : List (Bs × Bs) := fs.mapIdx fun j f => (f.1, mixB i c j f.2)
theorem mix_len (fs : List (Bs × Bs)) (i c : Nat) : (mix fs i c).length = fs.length := by simp [mix]
theorem mix_at (fs : List (Bs × Bs)) (i c j : Nat) : (mix fs i c)[j]? = (fs[j]?).map fun f => (f.1, mixB i c j f.2) := by simp [mix, List.getElem?_mapIdx]
theorem mixB_len (i c j : Nat) (b : Bs) : (mixB i c j b).length = b.length := by
  unfold mixB
  split
  · simp
  · split
    · simp; omega
    · rfl
theorem mix_start (fs : List (Bs × Bs)) : mix fs 0 0 = fs := by
  apply List.ext_getElem?
  intro j
  rw [mix_at]
  cases fs[j]? with
  | none => rfl
  | some f => simp [mixB]
theorem mix_next {fs : List (Bs × Bs)} {i : Nat} {f : Bs × Bs} (hf : fs[i]? = some f) : mix fs i f.2.length = mix fs (i + 1) 0 := by
  apply List.ext_getElem?
  intro j
  rw [mix_at, mix_at]
  by_cases hj : j = i
  · subst hj
    rw [hf]
    simp only [Option.map_some, mixB]
    rw [if_neg (by omega), if_pos (show j < j + 1 by omega), if_pos trivial, List.take_length, List.drop_length, List.append_nil]
  · cases fs[j]? with
    | none => rfl
    | some x =>
      simp only [Option.map_some, mixB]
      by_cases h1 : j < i
      · rw [if_pos h1, if_pos (by omega)]
      · rw [if_neg h1, if_neg hj, if_neg (by omega)]
        by_cases h2 : j = i + 1
        · rw [if_pos h2]; simp
        · rw [if_neg h2]
theorem mix_all {fs : List (Bs × Bs)} {i : Nat} (hi : fs.length ≤ i) : mix fs i 0 = fs.map up1 := by
  apply List.ext_getElem?
  intro j
  rw [mix_at, List.getElem?_map]
  cases hj : fs[j]? with
  | none => rfl
  | some x =>
    have := (List.getElem?_eq_some_iff.1 hj).1
    simp only [Option.map_some, mixB, up1]
    rw [if_pos (by omega)]
theorem mixB_now {i c : Nat} {b : Bs} {y : UInt8} (hy : b[c]? = some y) : (mixB i c i b)[c]? = some y ∧ (mixB i c i b).set c (y + 1) = mixB i (c + 1) i b := by
  have hc := (List.getElem?_eq_some_iff.1 hy).1
  have hlen : ((b.take c).map (· + 1)).length = c := by simp; omega
  unfold mixB
  rw [if_neg (by omega), if_pos rfl, if_pos rfl, if_neg (by omega)]
  refine ⟨?_, ?_⟩
  · rw [List.getElem?_append_right (by omega), hlen, Nat.sub_self, List.getElem?_drop, Nat.add_zero, hy]
  · rw [List.set_append, if_neg (by omega), hlen, Nat.sub_self, List.drop_eq_getElem_cons hc, List.set_cons_zero, List.take_succ_eq_append_getElem hc]
    have : b[c] = y := by rw [List.getElem?_eq_getElem hc] at hy; injection hy
    simp [this]
theorem mix_step {fs : List (Bs × Bs)} {i c : Nat} {f : Bs × Bs} {y : UInt8} (hf : fs[i]? = some f) (hy : f.2[c]? = some y) : (mix fs i c).set i (f.1, (mixB i c i f.2).set c (y + 1)) = mix fs i (c + 1) := by
  apply List.ext_getElem?
  intro j
  by_cases hj : j = i
  · subst hj
    have hl : j < (mix fs j c).length := by rw [mix_len]; exact (List.getElem?_eq_some_iff.1 hf).1
    rw [List.getElem?_set_self hl, mix_at, hf, (mixB_now hy).2]
    rfl
  · rw [List.getElem?_set_ne (by omega), mix_at, mix_at]
    cases fs[j]? with
    | none => rfl
    | some x =>
      simp only [Option.map_some, mixB]
      by_cases h1 : j < i
      · rw [if_pos h1, if_pos h1]
      · rw [if_neg h1, if_neg hj, if_neg h1, if_neg hj]
theorem cF_set : ∀ (fs : List (Bs × Bs)) (dv : List Value) (i : Nat) (f : Bs × Bs) (x : Bs), fs[i]? = some f → cF (fs.set i (f.1, x)) dv = cF fs dv
  | [], _, _, _, _, h => by cases h
  | _ :: _, [], 0, _, _, _ => rfl
  | _ :: _, [], _ + 1, _, _, _ => rfl
  | a :: fs, y :: dv, 0, f, x, h => by injection h with h; subst h; rfl
  | a :: fs, y :: dv, i + 1, f, x, h => by
    show encStr a.1 :: y :: cF (fs.set i (f.1, x)) dv = _
    rw [cF_set fs dv i f x h]
    rfl
theorem FilesAt.poke {w : World} {base : Nat} {v : Value} {dv : List Value} {fs : List (Bs × Bs)} (h : FilesAt w base v dv fs) {i c g n cap : Nat} {f : Bs × Bs} (y : UInt8) (hf : fs[i]? = some f) (hx : dv[i]? = some (.slice (some ⟨g, 0, none⟩) n cap)) (hn : f.2.length = n) :
    FilesAt (w.setCell ⟨g, c, none⟩ (.int .u8 (y.toNat : Int))) base v dv (fs.set i (f.1, f.2.set c y)) := by
  have hd := h.data i f _ hf hx
  have hil := (List.getElem?_eq_some_iff.1 hf).1
  obtain ⟨cur, hcur⟩ := own_lt hd (g := g) rfl
  refine ⟨?_, by rw [List.length_set]; exact h.len, fun j f' x hf' hx' => ?_, h.own⟩
  · rw [cF_set fs dv i f _ hf, List.length_set]
    refine ownsRow_setCell_other h.row (fun e => ?_) _
    obtain ⟨cur', h2⟩ := own_lt h.row e
    rw [hcur] at h2
    injection h2 with h2
    injection h2 with _ h2 _
    revert h2; decide
  · by_cases hj : j = i
    · subst hj
      rw [List.getElem?_set_self hil] at hf'
      injection hf' with hf'
      subst hf'
      rw [hx] at hx'
      injection hx' with hx'
      subst hx'
      have hst := (World.ownsRow.stored (hn ▸ hd) c (.int .u8 (y.toNat : Int))).1
      simp only [List.length_set]
      have e : cU8 (f.2.set c y) = (cU8 f.2).set c (.int .u8 (y.toNat : Int)) := by simp [cU8, List.map_set]
      rw [e, hn]
      exact hst
    · rw [List.getElem?_set_ne (by omega)] at hf'
      exact ownsRow_setCell_other (h.data j f' x hf' hx') (fun e => hj (h.own j i x _ g hx' hx e rfl)) _
theorem FilesAt.kept {w w' : World} {base : Nat} {v : Value} {dv : List Value} {fs : List (Bs × Bs)} {S : Nat → Prop} (h : FilesAt w base v dv fs) (hk : Kept w w' S) (hS : ∀ k, S k → k < base) : FilesAt w' base v dv fs := by
  have hb : ∀ {e : TypeId} {s n : Nat} {x : Value} {xs : List Value}, w.ownsRow base e s x n xs → w'.ownsRow base e s x n xs := by
    intro e s n x xs hx
    refine own_same hx fun g hg => hk.block g ?_ fun h1 => ?_
    · obtain ⟨cur, h1⟩ := own_lt hx hg
      exact (Array.getElem?_eq_some_iff.1 h1).1
    · have := own_ge hx hg; have := hS g h1; omega
  exact ⟨hb h.row, h.len, fun j f x hf hx => hb (h.data j f x hf hx), h.own⟩
theorem FilesAt.lt {w : World} {base : Nat} {v : Value} {dv : List Value} {fs : List (Bs × Bs)} (h : FilesAt w base v dv fs) {i : Nat} {x : Value} {g : Nat} (hx : dv[i]? = some x) (hg : x.ownBlock = some g) : base ≤ g ∧ g < w.heap.size := by
  have hi := (List.getElem?_eq_some_iff.1 hx).1
  have hd := h.data i _ x (List.getElem?_eq_getElem (by have := h.len; omega)) hx
  obtain ⟨cur, h1⟩ := own_lt hd hg
  exact ⟨own_ge hd hg, (Array.getElem?_eq_some_iff.1 h1).1⟩
/-- The files in the middle of the writing: of what stood in w0 only their own blocks have turned. -/
def MixAt (w0 w : World) (B U : Nat) (A : Option Addr) (n c : Nat) (dv : List Value) (fs : List (Bs × Bs)) (i k : Nat) : Prop :=
  FilesAt w B (.slice A n c) dv (mix fs i k) ∧ Kept w0 w (fun b => B ≤ b ∧ b < U) ∧ ∀ (j : Nat) (x : Value) (g : Nat), dv[j]? = some x → x.ownBlock = some g → g < U
section
variable {w0 w : World} {B U n c i k : Nat} {A : Option Addr} {dv : List Value} {fs : List (Bs × Bs)}
theorem mix_begin (h : FilesAt w B (.slice A n c) dv fs) (hU : ∀ (j : Nat) (x : Value) (g : Nat), dv[j]? = some x → x.ownBlock = some g → g < U) : MixAt w w B U A n c dv fs 0 0 :=
  ⟨by rw [mix_start]; exact h, Kept.refl _ _, hU⟩
theorem MixAt.next {f : Bs × Bs} (h : MixAt w0 w B U A n c dv fs i f.2.length) (hf : fs[i]? = some f) : MixAt w0 w B U A n c dv fs (i + 1) 0 := by
  unfold MixAt
  rw [← mix_next hf]
  exact h
theorem MixAt.below {w1 : World} (h : MixAt w0 w B U A n c dv fs i k) (hb : Below w.heap.size w w1) : MixAt w0 w1 B U A n c dv fs i k := ⟨h.1.below hb, h.2.1.below hb, h.2.2⟩
theorem MixAt.file {f : Bs × Bs} (h : MixAt w0 w B U A n c dv fs i k) (hf : fs[i]? = some f) (hn : fs.length = n) : ∃ ga Af cf, A = some ⟨ga, 0, none⟩ ∧ dv[i]? = some (.slice Af f.2.length cf) ∧ w.cell? ⟨ga, i * 2 + 1, none⟩ = some (.slice Af f.2.length cf) := by
  obtain ⟨g, Af, cf, e, _, _, h2, h3⟩ := (h.1.rd ((mix_len _ _ _).trans hn)).2 i (f.1, mixB i k i f.2) (by rw [mix_at, hf]; rfl)
  simp only [mixB_len] at h2
  have hi := (List.getElem?_eq_some_iff.1 hf).1
  have hdl : i < dv.length := by have h5 := h.1.len; rw [mix_len] at h5; omega
  refine ⟨g, Af, cf, e, ?_, h2⟩
  have hr := h.1.row
  rw [e, mix_len, hn] at hr
  have hc1 := World.ownsRow.cellAt hr (i * 2 + 1) (by omega)
  rw [h2, (cF_at _ dv i (f.1, mixB i k i f.2) dv[i] (by rw [mix_at, hf]; rfl) (List.getElem?_eq_getElem hdl)).2] at hc1
  rw [List.getElem?_eq_getElem hdl]
  exact hc1.symm
theorem MixAt.byte {f : Bs × Bs} {Af : Option Addr} {cf : Nat} {y : UInt8} (h : MixAt w0 w B U A n c dv fs i k) (hf : fs[i]? = some f) (hx : dv[i]? = some (.slice Af f.2.length cf)) (hy : f.2[k]? = some y) : ∃ g, Af = some ⟨g, 0, none⟩ ∧ w.cell? ⟨g, k, none⟩ = some (.int .u8 (y.toNat : Int)) ∧
    w.frozen? ⟨g, k, none⟩ = false ∧ MixAt w0 (w.setCell ⟨g, k, none⟩ (.int .u8 ((y + 1).toNat : Int))) B U A n c dv fs i (k + 1) := by
  have hk := (List.getElem?_eq_some_iff.1 hy).1
  have hm : (mix fs i k)[i]? = some (f.1, mixB i k i f.2) := by rw [mix_at, hf]; rfl
  have hd := h.1.data i _ _ hm hx
  simp only [mixB_len] at hd
  obtain ⟨g, rfl⟩ := own_some hd (by omega)
  refine ⟨g, rfl, ?_, World.ownsRow.frozenAt hd k, ?_, ?_, h.2.2⟩
  · rw [World.ownsRow.cellAt hd k (by omega)]
    unfold cU8
    rw [List.getElem?_map, (mixB_now hy).1]
    rfl
  · have := h.1.poke (c := k) (y + 1) hm hx (mixB_len _ _ _ _)
    rw [mix_step hf hy] at this
    exact this
  · have hg1 := (h.1.lt hx (g := g) rfl).1
    exact h.2.1.set ⟨hg1, h.2.2 i _ g hx rfl⟩ _
end
end Go.Proofs.Ytelgcmcnebncmaa.Dr
