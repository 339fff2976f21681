/- XRf15: merged by tools/merge.py. -/
import Derived.Test.YtelgcmcnebncmaaQ34
namespace Go.Proofs.Ytelgcmcnebncmaa.Dr
set_option linter.unusedVariables false
open Go.RowKit Go.Proofs Go.Proofs.Ytelgcmcnebncmaa.Ring

/-- Where the ways through the switch meet. -/
abbrev RMeet (w1 wr : World) (S : Nat → Prop) (r : Nat) (D' : Dr.D) (m N P : Nat) (x : An) : Prop :=
  ∃ S' : Nat → Prop, ∃ vd vn vf dv, Rv wr S' r D' m N ∧ Kept w1 wr (fun k => S k ∨ k = P) ∧ (∀ k, S' k → S k ∨ w1.heap.size ≤ k) ∧ wr.heap[P]? = some (.cells #[.int .i64 x.code, .int .i64 x.n, vd, vn, vf] tAnswer (0, 0)) ∧ AnAt wr w1.heap.size vd vn vf dv x
theorem Rturn.row {w1 wr : World} {S : Nat → Prop} {r m N P : Nat} {D' : Dr.D} (ht : Rturn w1 wr S r D' m N) (hPl : P < w1.heap.size) (hPS : ¬ S P) : wr.heap[P]? = w1.heap[P]? := by
  obtain ⟨_, _, t2, _⟩ := ht
  exact t2.block P hPl hPS
theorem rmeet_turn {w1 wx : World} {S : Nat → Prop} {r m N m' N' P : Nat} {D' : Dr.D} {e : Int} (hPl : P < w1.heap.size) (hPS : ¬ S P) (hP : w1.heap[P]? = some (.cells #[.int .i64 0, .int .i64 0, .slice none 0 0, .slice none 0 0, .slice none 0 0] tAnswer (0, 0))) (ht : Rturn w1 wx S r D' m N)
    (hm : m ≤ m') (hN : N ≤ N') : RMeet w1 (wx.setCell ⟨P, 0, none⟩ (.int .i64 e)) S r D' m' N' P { code := e } := by
  have hp := (ht.row hPl hPS).trans hP
  obtain ⟨S', t1, t2, t3⟩ := ht
  have hk : Kept wx (wx.setCell ⟨P, 0, none⟩ (.int .i64 e)) (fun k => k = P) := (Kept.refl wx (fun k => k = P)).set (p := ⟨P, 0, none⟩) rfl _
  refine ⟨S', _, _, _, [], (t1.kept hk fun k h1 h2 => ?_).mono hm hN, (t2.mono fun k hk => .inl hk).trans (hk.mono (T := fun k => S k ∨ k = P) fun k e => .inr e) (fun k hk => .inl hk), t3, heap_same hp (i := 0) _, AnAt.none_ _ _ _ rfl rfl rfl⟩
  subst h2
  rcases t3 _ h1 with h | h
  · exact hPS h
  · omega
theorem rmeet_read {w1 wx wr : World} {S : Nat → Prop} {r m N m' N' P : Nat} {D : Dr.D} {x : An} {vd vn vf : Value} {dv : List Value} (h : Rv w1 S r D m N) (hPS : ¬ S P) (hPl : P < w1.heap.size) (hb : Below w1.heap.size w1 wx) (hk : Kept wx wr (fun k => k = P))
    (hm : m ≤ m') (hN : N ≤ N') (hP : wr.heap[P]? = some (.cells #[.int .i64 x.code, .int .i64 x.n, vd, vn, vf] tAnswer (0, 0))) (ha : AnAt wx w1.heap.size vd vn vf dv x) : RMeet w1 wr S r D m' N' P x := by
  have hk2 : Kept w1 wr (fun k => k = P) := (Kept.of_below _ hb).trans hk (fun k hk => .inl hk)
  exact ⟨S, vd, vn, vf, dv, (h.kept hk2 fun k h1 h2 => hPS (h2 ▸ h1)).mono hm hN, hk2.mono fun k hk => .inr hk, fun k hk => .inl hk, hP, ha.same fun k h1 h2 => hk.block k h2 fun e => by omega⟩
section
variable {w : World} {S : Nat → Prop} {r m N : Nat} {D : Dr.D}
set_option maxRecDepth 100000 in
set_option maxHeartbeats 16000000 in
theorem rdo_any (h : Rv w S r D m N) {B : Nat} (hB : B ≤ w.heap.size) {a : Ac} {A Ad Au : Option Addr} {n c nd cd nu cu : Nat} (ha : ActIn w B a A n c Ad nd cd Au nu cu) (hm : m ≤ 70368744177664) (hN : N ≤ 1099511627776) :
    Calls Try.prog 13 #[.pointer (some ⟨r, 0, none⟩), actV a A n c Ad nd cd Au nu cu] w fun x w' => ∃ vd vn vf dv,
      x = .returned (.agg #[.int .i64 (D.step a).2.code, .int .i64 (D.step a).2.n, vd, vn, vf]) ∧ AnAt w' w.heap.size vd vn vf dv (D.step a).2 ∧ Rturn w w' S r (D.step a).1 (m + n) (N + 1) := by
  obtain ⟨V, hV⟩ : ∃ V, w.heap.size = V := ⟨_, rfl⟩
  have HA := Lib.hid ha
  have HV := Lib.hid hV
  have H := Lib.hid h
  have HNS := Lib.hid (show ∀ k, V ≤ k → ¬ S k from fun k hk hs => by have := h.low k hs; omega)
  clear h
  clear ha hV
  go_enter Try.func13, Try.ntmps13
  go_upto_region 2 with (fail)
  obtain ⟨w1, hw1⟩ : ∃ w1, ((w.alloc (.cells #[.int .i64 a.kind, encStr a.name, encStr a.dst, .int .i64 a.n, .slice A n c, .slice Ad nd cd, .slice Au nu cu] tAct)).alloc (.cells #[.int .i64 0, .int .i64 0, .slice none 0 0, .slice none 0 0, .slice none 0 0] tAnswer)).alloc
    (.cells #[.int .i64 0, .int .i64 0, .slice none 0 0, .slice none 0 0, .slice none 0 0] tAnswer) = w1 := ⟨_, rfl⟩
  have hs1 : w1.heap.size = V + 3 := by rw [← hw1, ← HV.out]; simp
  have hA1 : w1.heap[V]? = some (.cells #[.int .i64 a.kind, encStr a.name, encStr a.dst, .int .i64 a.n, .slice A n c, .slice Ad nd cd, .slice Au nu cu] tAct (0, 0)) := by
    rw [← hw1, ← HV.out]
    exact (heap_alloc_old _ _ (by simp; omega)).trans ((heap_alloc_old _ _ (by simp)).trans (heap_alloc_new _ _))
  have hR1 : w1.heap[V + 1]? = some (.cells #[.int .i64 0, .int .i64 0, .slice none 0 0, .slice none 0 0, .slice none 0 0] tAnswer (0, 0)) := by
    rw [← hw1, ← HV.out]
    exact (heap_alloc_old _ _ (by simp)).trans (heap_alloc2_new _ _ _)
  have hP1 : w1.heap[V + 2]? = some (.cells #[.int .i64 0, .int .i64 0, .slice none 0 0, .slice none 0 0, .slice none 0 0] tAnswer (0, 0)) := by
    rw [← hw1, ← HV.out]
    have := heap_alloc_new ((w.alloc (.cells #[.int .i64 a.kind, encStr a.name, encStr a.dst, .int .i64 a.n, .slice A n c, .slice Ad nd cd, .slice Au nu cu] tAct)).alloc (.cells #[.int .i64 0, .int .i64 0, .slice none 0 0, .slice none 0 0, .slice none 0 0] tAnswer)) (.cells #[.int .i64 0, .int .i64 0, .slice none 0 0, .slice none 0 0, .slice none 0 0] tAnswer)
    rwa [show ((w.alloc (.cells #[.int .i64 a.kind, encStr a.name, encStr a.dst, .int .i64 a.n, .slice A n c, .slice Ad nd cd, .slice Au nu cu] tAct)).alloc (.cells #[.int .i64 0, .int .i64 0, .slice none 0 0, .slice none 0 0, .slice none 0 0] tAnswer)).heap.size = w.heap.size + 2 by simp] at this
  have hb1 : Below V w w1 := by
    rw [← hw1, ← HV.out]
    exact (((Below.refl _ _).alloc (Nat.le_refl _) _).alloc (by simp) _).alloc (by simp; omega) _
  rw [hw1, HV.out]
  clear hw1
  obtain ⟨R, hR⟩ : ∃ R, V + 1 = R := ⟨_, rfl⟩
  obtain ⟨P, hP⟩ : ∃ P, R + 1 = P := ⟨_, rfl⟩
  have hVP : V + 2 = P := by omega
  rw [hVP] at hP1
  rw [hR] at hR1
  rw [hR, hP]
  have f0 : w1.cell? ⟨V, 0, none⟩ = some (.int .i64 a.kind) := by rw [cell_of_row w1 V _ _ _ _ hA1]; rfl
  have HS1 := Lib.hid hs1
  have HA1 := Lib.hid hA1
  have HR1 := Lib.hid hR1
  have HP1 := Lib.hid hP1
  have HB1 := Lib.hid hb1
  have HRP := Lib.hid (show R = V + 1 ∧ P = V + 2 from by omega)
  have HWV := Lib.hid (show Below w.heap.size w w1 from by rw [HV.out]; exact hb1)
  have H1 := Lib.hid (H.out.below HWV.out)
  clear hs1 hA1 hR1 hP1 hb1 hR hP hVP
  go_upto_block 0 with (fail)
  go_cut [7] from 8 to 134 (fun kv wr => RMeet w1 wr S r (D.step a).1 (m + n) (N + 1) P (D.step a).2)
  case rest =>
    obtain ⟨S', vd, vn, vf, dv, hD, hK, hS', hP, hAn⟩ := hcut
    obtain ⟨xd, yd, rfl, _, _⟩ := own_form hAn.data
    obtain ⟨xn, yn, rfl, _, _⟩ := own_form hAn.names
    obtain ⟨xf, yf, rfl, _, _⟩ := own_form hAn.files.row
    obtain ⟨ld, hld⟩ : ∃ l, (D.step a).2.data.length = l := ⟨_, rfl⟩
    obtain ⟨ln, hln⟩ : ∃ l, (D.step a).2.names.length = l := ⟨_, rfl⟩
    obtain ⟨lf, hlf⟩ : ∃ l, (D.step a).2.files.length = l := ⟨_, rfl⟩
    rw [hld, hln, hlf] at hP hAn
    have hRS : ¬ S R := HNS.out R (by have := HRP.out; omega)
    have hRc := (hK.block R (by have := HRP.out; have := HS1.out; omega) (fun h => h.elim hRS (fun e => by have := HRP.out; omega))).trans HR1.out
    obtain ⟨q0, hq0⟩ : ∃ q, (D.step a).2.code = q := ⟨_, rfl⟩
    obtain ⟨q1, hq1⟩ : ∃ q, (D.step a).2.n = q := ⟨_, rfl⟩
    rw [hq0, hq1] at hP
    have c0 : wc.cell? ⟨P, 0, none⟩ = some (.int .i64 q0) := by rw [cell_of_row wc P _ _ _ _ hP]; rfl
    have c1 : wc.cell? ⟨P, 1, none⟩ = some (.int .i64 q1) := by rw [cell_of_row wc P _ _ _ _ hP]; rfl
    have c2 : wc.cell? ⟨P, 2, none⟩ = some (.slice xd ld yd) := by rw [cell_of_row wc P _ _ _ _ hP]; rfl
    have c3 : wc.cell? ⟨P, 3, none⟩ = some (.slice xn ln yn) := by rw [cell_of_row wc P _ _ _ _ hP]; rfl
    have c4 : wc.cell? ⟨P, 4, none⟩ = some (.slice xf lf yf) := by rw [cell_of_row wc P _ _ _ _ hP]; rfl
    have r0 : wc.cell? ⟨R, 0, none⟩ = some (.int .i64 0) := by rw [cell_of_row wc R _ _ _ _ hRc]; rfl
    have r1 : wc.cell? ⟨R, 1, none⟩ = some (.int .i64 0) := by rw [cell_of_row wc R _ _ _ _ hRc]; rfl
    have r2 : wc.cell? ⟨R, 2, none⟩ = some (.slice none 0 0) := by rw [cell_of_row wc R _ _ _ _ hRc]; rfl
    have r3 : wc.cell? ⟨R, 3, none⟩ = some (.slice none 0 0) := by rw [cell_of_row wc R _ _ _ _ hRc]; rfl
    have r4 : wc.cell? ⟨R, 4, none⟩ = some (.slice none 0 0) := by rw [cell_of_row wc R _ _ _ _ hRc]; rfl
    have z0 := unfrozen hRc 0
    have z1 := unfrozen hRc 1
    have z2 := unfrozen hRc 2
    have z3 := unfrozen hRc 3
    have z4 := unfrozen hRc 4
    have HRC := Lib.hid hRc
    have HK := Lib.hid hK
    have HSS := Lib.hid hS'
    have HAN := Lib.hid hAn
    have HLD := Lib.hid hld
    have HLN := Lib.hid hln
    have HLF := Lib.hid hlf
    have HQ0 := Lib.hid hq0
    have HQ1 := Lib.hid hq1
    have HD := Lib.hid hD
    clear hD
    clear hP hRc hK hS' hAn f0 hld hln hlf hq0 hq1 hRS
    go_wp2
    clear c0 c1 c2 c3 c4 r0 r1 r2 r3 r4 z0 z1 z2 z3 z4
    have hR9 := heap_same (heap_same (heap_same (heap_same (heap_same HRC.out (i := 0) (.int .i64 q0)) (i := 1) (.int .i64 q1)) (i := 2) (.slice xd ld yd)) (i := 3) (.slice xn ln yn)) (i := 4) (.slice xf lf yf)
    refine bodyPost_ret (results_cell_row Try.results13 _ _ R tAnswer _ _ _ rfl hR9 Try.underlying38 rfl (by kernel_rfl)) rfl ?_
    have hk89 := ((((((Kept.refl wc (fun k => k = R)).set (p := ⟨R, 0, none⟩) rfl (.int .i64 q0)).set (p := ⟨R, 1, none⟩) rfl (.int .i64 q1)).set (p := ⟨R, 2, none⟩) rfl (.slice xd ld yd)).set (p := ⟨R, 3, none⟩) rfl (.slice xn ln yn)).set (p := ⟨R, 4, none⟩) rfl (.slice xf lf yf))
    obtain ⟨w9, hw9⟩ : ∃ w9, ((((wc.setCell ⟨R, 0, none⟩ (.int .i64 q0)).setCell ⟨R, 1, none⟩ (.int .i64 q1)).setCell ⟨R, 2, none⟩ (.slice xd ld yd)).setCell ⟨R, 3, none⟩ (.slice xn ln yn)).setCell ⟨R, 4, none⟩ (.slice xf lf yf) = w9 := ⟨_, rfl⟩
    rw [hw9] at hk89 ⊢
    have hV3 := HS1.out
    obtain ⟨hRv, hPv⟩ := HRP.out
    rw [← HQ0.out, ← HQ1.out]
    refine ⟨_, _, _, dv, rfl, (HAN.out.same fun k h1 h2 => hk89.block k h2 (fun e => by omega)).lower (by have := HV.out; omega), ?_⟩
    have hkw : Kept w w1 S := Kept.of_below S HWV.out
    refine ⟨S', HD.out.kept hk89 fun k hk e => ?_, ((hkw.trans (HK.out.mono (T := fun k => S k ∨ V ≤ k) fun k hk => hk.elim .inl (fun e => .inr (by omega))) (fun k hk => hk.elim .inl fun e => .inr (by rw [HV.out]; exact e))).trans hk89 (fun k e => .inr (by rw [HV.out]; omega))), fun k hk => ?_⟩
    · subst e
      rcases HSS.out _ hk with h1 | h1
      · exact HNS.out _ (by omega) h1
      · omega
    · rcases HSS.out k hk with h1 | h1
      · exact .inl h1
      · exact .inr (by rw [HV.out]; omega)
  case first =>
    have f1 : w1.cell? ⟨V, 1, none⟩ = some (encStr a.name) := by rw [cell_of_row w1 V _ _ _ _ HA1.out]; rfl
    have f2 : w1.cell? ⟨V, 2, none⟩ = some (encStr a.dst) := by rw [cell_of_row w1 V _ _ _ _ HA1.out]; rfl
    have f3 : w1.cell? ⟨V, 3, none⟩ = some (.int .i64 a.n) := by rw [cell_of_row w1 V _ _ _ _ HA1.out]; rfl
    have f4 : w1.cell? ⟨V, 4, none⟩ = some (.slice A n c) := by rw [cell_of_row w1 V _ _ _ _ HA1.out]; rfl
    have f5 : w1.cell? ⟨V, 5, none⟩ = some (.slice Ad nd cd) := by rw [cell_of_row w1 V _ _ _ _ HA1.out]; rfl
    have f6 : w1.cell? ⟨V, 6, none⟩ = some (.slice Au nu cu) := by rw [cell_of_row w1 V _ _ _ _ HA1.out]; rfl
    have HPS := Lib.hid (show ¬ S P from HNS.out P (by have := HRP.out; omega))
    have HPL := Lib.hid (show P < w1.heap.size from by have := HRP.out; have := HS1.out; omega)
    have HZ : ∀ wx : World, wx.heap[P]? = w1.heap[P]? → wx.cell? ⟨P, 0, none⟩ = some (.int .i64 0) ∧ wx.cell? ⟨P, 1, none⟩ = some (.int .i64 0) ∧ wx.cell? ⟨P, 2, none⟩ = some (.slice none 0 0) ∧ wx.cell? ⟨P, 3, none⟩ = some (.slice none 0 0) ∧ wx.cell? ⟨P, 4, none⟩ = some (.slice none 0 0) := fun wx e =>
      have h := e.trans HP1.out
      ⟨by rw [cell_of_row wx P _ _ _ _ h]; rfl, by rw [cell_of_row wx P _ _ _ _ h]; rfl, by rw [cell_of_row wx P _ _ _ _ h]; rfl, by rw [cell_of_row wx P _ _ _ _ h]; rfl, by rw [cell_of_row wx P _ _ _ _ h]; rfl⟩
    have HZC := Lib.hid HZ
    clear HZ
    have HRDA := Lib.hid (show Rd w1 w1.heap.size 1 A n (cU8 a.data) from (HA.out.data.below (HWV.out.mono hB)).more (by have := HWV.out.size; omega))
    have HRDD := Lib.hid (show Rd w1 w1.heap.size 1 Ad nd (cBool a.dirs) from (HA.out.dirs.below (HWV.out.mono hB)).more (by have := HWV.out.size; omega))
    have HRDC := Lib.hid (show Rd w1 w1.heap.size 1 Au nu (cInt a.cuts) from (HA.out.cuts.below (HWV.out.mono hB)).more (by have := HWV.out.size; omega))
    by_cases k0 : a.kind = 0
    · have hst : D.step a = ((D.create a.name).1, { code := (D.create a.name).2 }) := by
        unfold Dr.D.step
        rw [if_pos k0]
      have HST := Lib.hid hst
      clear hst
      go_wp2_with (first | (go_at_call 61; go_loud (refine (rcreate_any H1.out (by omega) a.name).mono ?_); rintro x w' ⟨rfl, ht⟩; go_loud (have htk := ht.row HPL.out HPS.out); have hpb := htk; obtain ⟨y0, y1, y2, y3, y4⟩ := HZC.out w' hpb; have hpr := hpb.trans HP1.out; have u0 := unfrozen hpr 0; have HPR := Lib.hid hpr; clear hpb hpr; have HT := Lib.hid ht; clear ht htk))
      clear y0 y1 y2 y3 y4 u0
      go_meet
      rw [HST.out]
      exact rmeet_turn HPL.out HPS.out HP1.out HT.out (e := (D.create a.name).2) (by omega) (by omega)
    by_cases k1 : a.kind = 1
    · have hst : D.step a = ((D.append a.name a.data).1, { code := (D.append a.name a.data).2 }) := by
        unfold Dr.D.step
        rw [if_neg k0, if_pos k1]
      have HST := Lib.hid hst
      clear hst
      go_wp2_with (first | (go_at_call 62; go_loud (refine (rappend_any H1.out a.name HRDA.out HA.out.nil (by have := HA.out.n_le; omega)).mono ?_); rintro x w' ⟨rfl, ht⟩; go_loud (have htk := ht.row HPL.out HPS.out); have hpb := htk; obtain ⟨y0, y1, y2, y3, y4⟩ := HZC.out w' hpb; have hpr := hpb.trans HP1.out; have u0 := unfrozen hpr 0; have HPR := Lib.hid hpr; clear hpb hpr; have HT := Lib.hid ht; clear ht htk))
      clear y0 y1 y2 y3 y4 u0
      go_meet
      rw [HST.out]
      exact rmeet_turn HPL.out HPS.out HP1.out HT.out (e := (D.append a.name a.data).2) (by omega) (by omega)
    by_cases k2 : a.kind = 2
    · have hst : D.step a = ((D.sync a.name).1, { code := (D.sync a.name).2 }) := by
        unfold Dr.D.step
        rw [if_neg k0, if_neg k1, if_pos k2]
      have HST := Lib.hid hst
      clear hst
      go_wp2_with (first | (go_at_call 63; go_loud (refine (rsync_any H1.out a.name).mono ?_); rintro x w' ⟨rfl, ht⟩; go_loud (have htk := ht.row HPL.out HPS.out); have hpb := htk; obtain ⟨y0, y1, y2, y3, y4⟩ := HZC.out w' hpb; have hpr := hpb.trans HP1.out; have u0 := unfrozen hpr 0; have HPR := Lib.hid hpr; clear hpb hpr; have HT := Lib.hid ht; clear ht htk))
      clear y0 y1 y2 y3 y4 u0
      go_meet
      rw [HST.out]
      exact rmeet_turn HPL.out HPS.out HP1.out HT.out (e := (D.sync a.name).2) (by omega) (by omega)
    by_cases k3 : a.kind = 3
    · have hst : D.step a = ((D.rename a.name a.dst).1, { code := (D.rename a.name a.dst).2 }) := by
        unfold Dr.D.step
        rw [if_neg k0, if_neg k1, if_neg k2, if_pos k3]
      have HST := Lib.hid hst
      clear hst
      go_wp2_with (first | (go_at_call 64; go_loud (refine (rrename_any H1.out (by omega) a.name a.dst).mono ?_); rintro x w' ⟨rfl, ht⟩; go_loud (have htk := ht.row HPL.out HPS.out); have hpb := htk; obtain ⟨y0, y1, y2, y3, y4⟩ := HZC.out w' hpb; have hpr := hpb.trans HP1.out; have u0 := unfrozen hpr 0; have HPR := Lib.hid hpr; clear hpb hpr; have HT := Lib.hid ht; clear ht htk))
      clear y0 y1 y2 y3 y4 u0
      go_meet
      rw [HST.out]
      exact rmeet_turn HPL.out HPS.out HP1.out HT.out (e := (D.rename a.name a.dst).2) (by omega) (by omega)
    by_cases k4 : a.kind = 4
    · have hst : D.step a = ((D.remove a.name).1, { code := (D.remove a.name).2 }) := by
        unfold Dr.D.step
        rw [if_neg k0, if_neg k1, if_neg k2, if_neg k3, if_pos k4]
      have HST := Lib.hid hst
      clear hst
      go_wp2_with (first | (go_at_call 65; go_loud (refine (rremove_any H1.out (by omega) a.name).mono ?_); rintro x w' ⟨rfl, ht⟩; go_loud (have htk := ht.row HPL.out HPS.out); have hpb := htk; obtain ⟨y0, y1, y2, y3, y4⟩ := HZC.out w' hpb; have hpr := hpb.trans HP1.out; have u0 := unfrozen hpr 0; have HPR := Lib.hid hpr; clear hpb hpr; have HT := Lib.hid ht; clear ht htk))
      clear y0 y1 y2 y3 y4 u0
      go_meet
      rw [HST.out]
      exact rmeet_turn HPL.out HPS.out HP1.out HT.out (e := (D.remove a.name).2) (by omega) (by omega)
    by_cases k5 : a.kind = 5
    · have hst : D.step a = (D.syncDir, {}) := by
        unfold Dr.D.step
        rw [if_neg k0, if_neg k1, if_neg k2, if_neg k3, if_neg k4, if_pos k5]
      have HST := Lib.hid hst
      clear hst
      go_wp2_with (first | (go_at_call 66; go_loud (refine (rsyncDir_any H1.out).mono ?_); rintro x w' ⟨rfl, ht⟩; go_loud (have htk := ht.row HPL.out HPS.out); have hpb := htk; obtain ⟨y0, y1, y2, y3, y4⟩ := HZC.out w' hpb; have hpr := hpb.trans HP1.out; have u0 := unfrozen hpr 0; have HPR := Lib.hid hpr; clear hpb hpr; have HT := Lib.hid ht; clear ht htk))
      clear y0 y1 y2 y3 y4 u0
      go_meet
      rw [HST.out]
      exact rmeet_turn HPL.out HPS.out HP1.out HT.out (e := 0) (by omega) (by omega)
    by_cases k6 : a.kind = 6
    · have hst : D.step a = (D, match D.look a.name with | .error e => { code := e } | .ok i => { data := (D.at i).data }) := by
        unfold Dr.D.step
        rw [if_neg k0, if_neg k1, if_neg k2, if_neg k3, if_neg k4, if_neg k5, if_pos k6]
        cases D.look a.name <;> rfl
      have HST := Lib.hid hst
      clear hst
      cases hlk : D.look a.name with
      | error e =>
        have HLK := Lib.hid hlk
        clear hlk
        go_wp2_with (first | (go_at_call 67; go_loud (refine (rread_no H1.out HLK.out).mono ?_); rintro x w' ⟨rfl, rfl⟩; go_loud (have hb5 := Below.refl w1.heap.size w1); have hpb := hb5.block P HPL.out; obtain ⟨y0, y1, y2, y3, y4⟩ := HZC.out w1 hpb; have hpr := hpb.trans HP1.out; have u2 := unfrozen hpr 2; have u0 := unfrozen hpr 0; have HPR := Lib.hid hpr; clear hpb hpr; have HB5 := Lib.hid hb5))
        clear y0 y1 y2 y3 y4 u2 u0 hb5
        go_meet
        rw [HST.out, HLK.out]
        exact rmeet_read (x := { code := e }) H1.out HPS.out HPL.out HB5.out (((Kept.refl _ (fun k => k = P)).set (p := ⟨P, 2, none⟩) rfl (.slice none 0 0)).set (p := ⟨P, 0, none⟩) rfl (.int .i64 e)) (by omega) (by omega) (heap_same (heap_same HPR.out (i := 2) (.slice none 0 0)) (i := 0) (.int .i64 e)) (AnAt.none_ _ _ _ rfl rfl rfl)
      | ok i =>
        have HLK := Lib.hid hlk
        clear hlk
        go_wp2_with (first | (go_at_call 67; go_loud (refine (rread_ok H1.out (by omega) HLK.out).mono ?_); rintro x w' ⟨hb5, A', c', rfl, ho⟩; have HO := Lib.hid ho; clear ho; have hpb := hb5.block P HPL.out; obtain ⟨y0, y1, y2, y3, y4⟩ := HZC.out w' hpb; have hpr := hpb.trans HP1.out; have u2 := unfrozen hpr 2; have u0 := unfrozen hpr 0; have HPR := Lib.hid hpr; clear hpb hpr; have HB5 := Lib.hid hb5))
        clear y0 y1 y2 y3 y4 u2 u0 hb5
        go_meet
        rw [HST.out, HLK.out]
        exact rmeet_read (x := { data := (D.at i).data }) H1.out HPS.out HPL.out HB5.out (((Kept.refl _ (fun k => k = P)).set (p := ⟨P, 2, none⟩) rfl (.slice A' (D.at i).data.length c')).set (p := ⟨P, 0, none⟩) rfl (.int .i64 0)) (by omega) (by omega) (heap_same (heap_same HPR.out (i := 2) (.slice A' (D.at i).data.length c')) (i := 0) (.int .i64 0)) ⟨HO.out, World.ownsRow_nil _ _ _ _, FilesAt.nil _ _⟩
    by_cases k7 : a.kind = 7
    · have hst : D.step a = (D, { names := D.now.map (·.1) }) := by
        unfold Dr.D.step
        rw [if_neg k0, if_neg k1, if_neg k2, if_neg k3, if_neg k4, if_neg k5, if_neg k6, if_pos k7]
      have HST := Lib.hid hst
      clear hst
      go_wp2_with (first | (go_at_call 68; go_loud (refine (rlist_any H1.out (by omega)).mono ?_); rintro x w' ⟨A', c', rfl, ho, hb5⟩; have HO := Lib.hid ho; clear ho; have hpb := hb5.block P HPL.out; obtain ⟨y0, y1, y2, y3, y4⟩ := HZC.out w' hpb; have hpr := hpb.trans HP1.out; have u3 := unfrozen hpr 3; have u0 := unfrozen hpr 0; have HPR := Lib.hid hpr; clear hpb hpr; have HB5 := Lib.hid hb5))
      clear y0 y1 y2 y3 y4 u3 u0 hb5
      go_meet
      rw [HST.out]
      exact rmeet_read (x := { names := D.now.map (·.1) }) H1.out HPS.out HPL.out HB5.out (((Kept.refl _ (fun k => k = P)).set (p := ⟨P, 3, none⟩) rfl (.slice A' D.now.length c')).set (p := ⟨P, 0, none⟩) rfl (.int .i64 0)) (by omega) (by omega) (heap_same (heap_same HPR.out (i := 3) (.slice A' D.now.length c')) (i := 0) (.int .i64 0)) ⟨World.ownsRow_nil _ _ _ _, (by rw [List.length_map]; exact HO.out), FilesAt.nil _ _⟩
    by_cases k8 : a.kind = 8
    · have hst : D.step a = (D, { n := wrap64 (D.used : Int) }) := by
        unfold Dr.D.step
        rw [if_neg k0, if_neg k1, if_neg k2, if_neg k3, if_neg k4, if_neg k5, if_neg k6, if_neg k7, if_pos k8]
        simp only [wrap64]
      have HST := Lib.hid hst
      clear hst
      go_wp2_with (first | (go_at_call 24; go_loud (refine (rused_any H1.out).mono ?_); rintro x w' ⟨rfl, q9, rfl⟩; go_loud (have hb5 := below_drewN (Below.refl w1.heap.size w1) q9); have hpb := hb5.block P HPL.out; obtain ⟨y0, y1, y2, y3, y4⟩ := HZC.out (w1.drewN q9) hpb; have hpr := hpb.trans HP1.out; have u1 := unfrozen hpr 1; have HPR := Lib.hid hpr; clear hpb hpr; have HB5 := Lib.hid hb5))
      clear y0 y1 y2 y3 y4 u1 hb5
      go_meet
      rw [HST.out]
      exact rmeet_read H1.out HPS.out HPL.out HB5.out ((Kept.refl _ (fun k => k = P)).set (p := ⟨P, 1, none⟩) rfl (.int .i64 (wrap64 (D.used : Int)))) (by omega) (by omega) (heap_same HPR.out (i := 1) (.int .i64 (wrap64 (D.used : Int)))) (AnAt.none_ _ _ _ rfl rfl rfl)
    by_cases k9 : a.kind = 9
    · have hst : D.step a = (D, { n := D.pend.length }) := by
        unfold Dr.D.step
        rw [if_neg k0, if_neg k1, if_neg k2, if_neg k3, if_neg k4, if_neg k5, if_neg k6, if_neg k7, if_neg k8, if_pos k9]
      have HST := Lib.hid hst
      clear hst
      go_wp2_with (first | (go_at_call 69; go_loud (refine (rpending_any H1.out).mono ?_); rintro x w' ⟨rfl, rfl⟩; go_loud (have hb5 := Below.refl w1.heap.size w1); have hpb := hb5.block P HPL.out; obtain ⟨y0, y1, y2, y3, y4⟩ := HZC.out w1 hpb; have hpr := hpb.trans HP1.out; have u1 := unfrozen hpr 1; have HPR := Lib.hid hpr; clear hpb hpr; have HB5 := Lib.hid hb5))
      clear y0 y1 y2 y3 y4 u1 hb5
      go_meet
      rw [HST.out]
      exact rmeet_read H1.out HPS.out HPL.out HB5.out ((Kept.refl _ (fun k => k = P)).set (p := ⟨P, 1, none⟩) rfl (.int .i64 (D.pend.length : Int))) (by omega) (by omega) (heap_same HPR.out (i := 1) (.int .i64 (D.pend.length : Int))) (AnAt.none_ _ _ _ rfl rfl rfl)
    by_cases k10 : a.kind = 10
    · have hst : D.step a = (D, match D.look a.name with | .error e => { code := e } | .ok i => { n := (D.at i).data.length - (D.at i).safe }) := by
        unfold Dr.D.step
        rw [if_neg k0, if_neg k1, if_neg k2, if_neg k3, if_neg k4, if_neg k5, if_neg k6, if_neg k7, if_neg k8, if_neg k9, if_pos k10]
        cases D.look a.name <;> rfl
      have HST := Lib.hid hst
      clear hst
      cases hlk : D.look a.name with
      | error e =>
        have HLK := Lib.hid hlk
        clear hlk
        go_wp2_with (first | (go_at_call 70; go_loud (refine (rloose_no H1.out HLK.out).mono ?_); rintro x w' ⟨rfl, rfl⟩; go_loud (have hb5 := Below.refl w1.heap.size w1); have hpb := hb5.block P HPL.out; obtain ⟨y0, y1, y2, y3, y4⟩ := HZC.out w1 hpb; have hpr := hpb.trans HP1.out; have u1 := unfrozen hpr 1; have u0 := unfrozen hpr 0; have HPR := Lib.hid hpr; clear hpb hpr; have HB5 := Lib.hid hb5))
        clear y0 y1 y2 y3 y4 u1 u0 hb5
        go_meet
        rw [HST.out, HLK.out]
        exact rmeet_read (x := { code := e }) H1.out HPS.out HPL.out HB5.out (((Kept.refl _ (fun k => k = P)).set (p := ⟨P, 1, none⟩) rfl (.int .i64 0)).set (p := ⟨P, 0, none⟩) rfl (.int .i64 e)) (by omega) (by omega) (heap_same (heap_same HPR.out (i := 1) (.int .i64 0)) (i := 0) (.int .i64 e)) (AnAt.none_ _ _ _ rfl rfl rfl)
      | ok i =>
        have HLK := Lib.hid hlk
        clear hlk
        obtain ⟨q, hq⟩ : ∃ q : Int, (((D.at i).data.length : Int) - (D.at i).safe) = q := ⟨_, rfl⟩
        have hlo := rloose_ok H1.out HLK.out (by omega)
        rw [hq] at hlo
        have HLO := Lib.hid hlo
        have HQ := Lib.hid hq
        clear hq hlo
        go_wp2_with (first | (go_at_call 70; go_loud (refine (HLO.out).mono ?_); rintro x w' ⟨rfl, hb5⟩; have hpb := hb5.block P HPL.out; obtain ⟨y0, y1, y2, y3, y4⟩ := HZC.out w' hpb; have hpr := hpb.trans HP1.out; have u1 := unfrozen hpr 1; have u0 := unfrozen hpr 0; have HPR := Lib.hid hpr; clear hpb hpr; have HB5 := Lib.hid hb5))
        clear y0 y1 y2 y3 y4 u1 u0 hb5
        go_meet
        rw [HST.out, HLK.out]
        simp only [HQ.out]
        exact rmeet_read (x := { n := q }) H1.out HPS.out HPL.out HB5.out (((Kept.refl _ (fun k => k = P)).set (p := ⟨P, 1, none⟩) rfl (.int .i64 q)).set (p := ⟨P, 0, none⟩) rfl (.int .i64 0)) (by omega) (by omega) (heap_same (heap_same HPR.out (i := 1) (.int .i64 q)) (i := 0) (.int .i64 0)) (AnAt.none_ _ _ _ rfl rfl rfl)
    by_cases k11 : a.kind = 11
    · have hst : D.step a = (D, { files := D.image }) := by
        unfold Dr.D.step
        rw [if_neg k0, if_neg k1, if_neg k2, if_neg k3, if_neg k4, if_neg k5, if_neg k6, if_neg k7, if_neg k8, if_neg k9, if_neg k10, if_pos k11]
      have HST := Lib.hid hst
      clear hst
      go_wp2_with (first | (go_at_call 17; go_loud (refine (rimage_any H1.out (by omega) (by omega) rfl rfl).mono ?_); rintro x w' ⟨A', c', dv, rfl, ho, hb5⟩; have HO := Lib.hid ho; clear ho; have hpb := hb5.block P HPL.out; obtain ⟨y0, y1, y2, y3, y4⟩ := HZC.out w' hpb; have hpr := hpb.trans HP1.out; have u4 := unfrozen hpr 4; have HPR := Lib.hid hpr; clear hpb hpr; have HB5 := Lib.hid hb5))
      clear y0 y1 y2 y3 y4 u4 hb5
      go_meet
      rw [HST.out]
      exact rmeet_read H1.out HPS.out HPL.out HB5.out ((Kept.refl _ (fun k => k = P)).set (p := ⟨P, 4, none⟩) rfl (.slice A' D.image.length c')) (by omega) (by omega) (heap_same HPR.out (i := 4) (.slice A' D.image.length c')) ⟨World.ownsRow_nil _ _ _ _, World.ownsRow_nil _ _ _ _, HO.out⟩
    by_cases k12 : a.kind = 12
    · have hst : D.step a = (D, { files := D.safe }) := by
        unfold Dr.D.step
        rw [if_neg k0, if_neg k1, if_neg k2, if_neg k3, if_neg k4, if_neg k5, if_neg k6, if_neg k7, if_neg k8, if_neg k9, if_neg k10, if_neg k11, if_pos k12]
      have HST := Lib.hid hst
      clear hst
      go_wp2_with (first | (go_at_call 54; go_loud (refine (rsafe_any H1.out (by omega) (by omega) rfl rfl).mono ?_); rintro x w' ⟨A', c', dv, rfl, ho, hb5⟩; have HO := Lib.hid ho; clear ho; have hpb := hb5.block P HPL.out; obtain ⟨y0, y1, y2, y3, y4⟩ := HZC.out w' hpb; have hpr := hpb.trans HP1.out; have u4 := unfrozen hpr 4; have HPR := Lib.hid hpr; clear hpb hpr; have HB5 := Lib.hid hb5))
      clear y0 y1 y2 y3 y4 u4 hb5
      go_meet
      rw [HST.out]
      exact rmeet_read H1.out HPS.out HPL.out HB5.out ((Kept.refl _ (fun k => k = P)).set (p := ⟨P, 4, none⟩) rfl (.slice A' D.safe.length c')) (by omega) (by omega) (heap_same HPR.out (i := 4) (.slice A' D.safe.length c')) ⟨World.ownsRow_nil _ _ _ _, World.ownsRow_nil _ _ _ _, HO.out⟩
    by_cases k13 : a.kind = 13
    · have hst : D.step a = (D.crash a.dirs a.cuts, {}) := by
        unfold Dr.D.step
        rw [if_neg k0, if_neg k1, if_neg k2, if_neg k3, if_neg k4, if_neg k5, if_neg k6, if_neg k7, if_neg k8, if_neg k9, if_neg k10, if_neg k11, if_neg k12, if_pos k13]
      have HST := Lib.hid hst
      clear hst
      go_wp2_with (first | (go_at_call 15; go_loud (refine (rcrash_any H1.out (by omega) (by omega) HRDD.out HRDC.out HA.out.cut).mono ?_); rintro x w' ⟨rfl, ht⟩; go_loud (have htk := ht.row HPL.out HPS.out); have hpb := htk; obtain ⟨y0, y1, y2, y3, y4⟩ := HZC.out w' hpb; have hpr := hpb.trans HP1.out; have u0 := unfrozen hpr 0; have HPR := Lib.hid hpr; clear hpb hpr; have HT := Lib.hid ht; clear ht htk))
      clear y0 y1 y2 y3 y4 u0
      go_meet
      rw [HST.out]
      exact rmeet_turn HPL.out HPS.out HP1.out HT.out (e := 0) (by omega) (by omega)
    by_cases k14 : a.kind = 14
    · have hst : D.step a = ((D.flip a.name a.n a.data).1, { code := (D.flip a.name a.n a.data).2 }) := by
        unfold Dr.D.step
        rw [if_neg k0, if_neg k1, if_neg k2, if_neg k3, if_neg k4, if_neg k5, if_neg k6, if_neg k7, if_neg k8, if_neg k9, if_neg k10, if_neg k11, if_neg k12, if_neg k13, if_pos k14]
      have HST := Lib.hid hst
      clear hst
      go_wp2_with (first | (go_at_call 71; go_loud (refine (rflip_any H1.out a.name a.n HRDA.out (by omega)).mono ?_); rintro x w' ⟨rfl, ht⟩; go_loud (have htk := ht.row HPL.out HPS.out); have hpb := htk; obtain ⟨y0, y1, y2, y3, y4⟩ := HZC.out w' hpb; have hpr := hpb.trans HP1.out; have u0 := unfrozen hpr 0; have HPR := Lib.hid hpr; clear hpb hpr; have HT := Lib.hid ht; clear ht htk))
      clear y0 y1 y2 y3 y4 u0
      go_meet
      rw [HST.out]
      exact rmeet_turn HPL.out HPS.out HP1.out HT.out (e := (D.flip a.name a.n a.data).2) (by omega) (by omega)
    by_cases k15 : a.kind = 15
    · have hst : D.step a = ((D.cut a.name a.n).1, { code := (D.cut a.name a.n).2 }) := by
        unfold Dr.D.step
        rw [if_neg k0, if_neg k1, if_neg k2, if_neg k3, if_neg k4, if_neg k5, if_neg k6, if_neg k7, if_neg k8, if_neg k9, if_neg k10, if_neg k11, if_neg k12, if_neg k13, if_neg k14, if_pos k15]
      have HST := Lib.hid hst
      clear hst
      go_wp2_with (first | (go_at_call 72; go_loud (refine (rcut_any H1.out a.name a.n (by omega)).mono ?_); rintro x w' ⟨rfl, ht⟩; go_loud (have htk := ht.row HPL.out HPS.out); have hpb := htk; obtain ⟨y0, y1, y2, y3, y4⟩ := HZC.out w' hpb; have hpr := hpb.trans HP1.out; have u0 := unfrozen hpr 0; have HPR := Lib.hid hpr; clear hpb hpr; have HT := Lib.hid ht; clear ht htk))
      clear y0 y1 y2 y3 y4 u0
      go_meet
      rw [HST.out]
      exact rmeet_turn HPL.out HPS.out HP1.out HT.out (e := (D.cut a.name a.n).2) (by omega) (by omega)
    by_cases k16 : a.kind = 16
    · have hst : D.step a = (D.wipe, {}) := by
        unfold Dr.D.step
        rw [if_neg k0, if_neg k1, if_neg k2, if_neg k3, if_neg k4, if_neg k5, if_neg k6, if_neg k7, if_neg k8, if_neg k9, if_neg k10, if_neg k11, if_neg k12, if_neg k13, if_neg k14, if_neg k15, if_pos k16]
      have HST := Lib.hid hst
      clear hst
      go_wp2_with (first | (go_at_call 73; go_loud (refine (rwipe_any H1.out).mono ?_); rintro x w' ⟨rfl, ht⟩; go_loud (have htk := ht.row HPL.out HPS.out); have hpb := htk; obtain ⟨y0, y1, y2, y3, y4⟩ := HZC.out w' hpb; have hpr := hpb.trans HP1.out; have u0 := unfrozen hpr 0; have HPR := Lib.hid hpr; clear hpb hpr; have HT := Lib.hid ht; clear ht htk))
      clear y0 y1 y2 y3 y4 u0
      go_meet
      rw [HST.out]
      exact rmeet_turn HPL.out HPS.out HP1.out HT.out (e := 0) (by omega) (by omega)
    have hst : D.step a = (D, {}) := by
      unfold Dr.D.step
      rw [if_neg k0, if_neg k1, if_neg k2, if_neg k3, if_neg k4, if_neg k5, if_neg k6, if_neg k7, if_neg k8, if_neg k9, if_neg k10, if_neg k11, if_neg k12, if_neg k13, if_neg k14, if_neg k15, if_neg k16]
    have HST := Lib.hid hst
    clear hst
    go_wp2
    go_meet
    rw [HST.out]
    exact rmeet_read H1.out HPS.out HPL.out (Below.refl _ _) (Kept.refl _ _) (by omega) (by omega) HP1.out (AnAt.none_ _ _ _ rfl rfl rfl)
end
end Go.Proofs.Ytelgcmcnebncmaa.Dr
