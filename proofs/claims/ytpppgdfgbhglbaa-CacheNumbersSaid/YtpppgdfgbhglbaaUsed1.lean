/- The walk of used: call 1. -/
import Derived.Test.YtpppgdfgbhglbaaUsed
namespace Go.Proofs.Ytpppgdfgbhglbaa.CaS
open Go.RowKit Go.Proofs Go.Proofs.Ytpppgdfgbhglbaa.Ring Go.Proofs.Ytpppgdfgbhglbaa.Lru Go.Proofs.Ytpppgdfgbhglbaa.Ca
set_option maxRecDepth 100000 in
set_option maxHeartbeats 2000000 in
theorem used_1 {w : World} {S : Nat → Prop} {c room cnt n cp : Nat} {l : List Ent} {A : Option Addr} (h : Pair w S c room l cnt A n cp) (u : U) (hu : u.ok) (hcnt : cnt ≤ 2513169434843) (hd : u.doo = 1) :
    Calls Try.prog 27 #[.pointer (some ⟨c, 0, none⟩), rv room A n cp, .agg u.cells.toArray] w fun x w' => ∃ S' l' A' n' cp', x = .returned (.tuple #[rv room A' n' cp', .bool true]) ∧ Pair w' S' c room l' (cnt + 1) A' n' cp' ∧ Kept w w' S ∧ (∀ k, S' k → S k ∨ w.heap.size ≤ k) ∧ (∀ ad, 0 < n' → A' = some ad → (A' = A ∧ 0 < n) ∨ w.heap.size ≤ ad.block) := by
  have HP := Lib.hid h
  have HKL := Lib.hid hu.2.1
  have hnl : n ≤ cnt := by have h1 := h.1.len; have h2 := h.2.1.1; omega
  have hcnt2 : cnt < maxLen := by unfold maxLen; omega
  clear h hu
  go_enter Try.func27, Try.ntmps27
  go_upto_region 1 with (fail)
  obtain ⟨wb, V, hwb, hV, hb0, hsz, hc0, hu0, hr0⟩ := boxed3 w room A n cp u
  rw [hwb, hV]
  rw [hd] at hu0
  have HU := Lib.hid hu0
  have HC0 := Lib.hid hc0
  have HR0 := Lib.hid hr0
  have HWB := Lib.hid hwb
  have HSZ := Lib.hid hsz
  have HVV := Lib.hid hV
  clear hwb hsz hV hu0 hc0 hr0
  obtain ⟨e1, e2, e3, e4⟩ := five_cells HU.out
  obtain ⟨c0, c1, _, _⟩ := two_cells HC0.out
  have hsum : sumW l ≤ room := HP.out.1.fits
  have hroom : room ≤ 1073741824 := HP.out.1.2
  have hSR : ¬ S (V + 1 + 1) := fun h => by have := HP.out.1.low _ h; have := HVV.out; omega
  have hSV : ¬ S V := fun h => by have := HP.out.1.low _ h; have := HVV.out; omega
  obtain ⟨sv, gv, bb, hg1, hg2, hg3, hg4⟩ : ∃ (sv gv : Value) (bb : Bool), gotS (seek u.key l) = sv ∧ gotV (seek u.key l) = gv ∧ (seek u.key l).isSome = bb ∧ (∃ s : List UInt8, sv = .string ⟨s.toArray⟩ ∧ gv = .tuple #[.string ⟨s.toArray⟩, .bool bb]) := by
    refine ⟨_, _, _, rfl, rfl, rfl, ?_⟩
    cases hs : seek u.key l with
    | none => exact ⟨[], rfl, rfl⟩
    | some e => exact ⟨e.val, rfl, rfl⟩
  obtain ⟨s, rfl, rfl⟩ := hg4
  have HG1 := Lib.hid hg1
  have HG2 := Lib.hid hg2
  have HG3 := Lib.hid hg3
  clear hg1 hg2 hg3
  go_upto_region 7 with (first
    | (go_at_call 19; refine (rget_v room A n cp w.heap.size l u.key (by omega) wb hb0.size (HP.out.2.1.below hb0) HP.out.2.2.1 HG1.out HG3.out).mono ?_; rintro x w1 ⟨A1, c1', rfl, hE1, hcap1, hfr1, hb1⟩; have HE1 := Lib.hid hE1; obtain ⟨m1, hm1⟩ : ∃ m, (Lru.get u.key l).length = m := ⟨_, rfl⟩; rw [hm1] at HE1 ⊢; have HM1 := Lib.hid hm1; clear hE1 hm1; obtain ⟨f1, f2, f3, f4⟩ := five_cells (hb1.at_block HU.out)))
  have hbx : Below w.heap.size w (w1.alloc (.cells #[.int .i64 (room : Int), .slice A1 m1 c1'] 45)) := (bch hb0 hb1).alloc (bch hb0 hb1).size _
  have hbw : Below wb.heap.size wb (w1.alloc (.cells #[.int .i64 (room : Int), .slice A1 m1 c1'] 45)) := hb1.alloc hb1.size _
  have hx := heap_alloc_new w1 (.cells #[.int .i64 (room : Int), .slice A1 m1 c1'] 45)
  have HEX := Lib.hid ((HE1.out.below ((Below.refl _ w1).alloc (Nat.le_refl _) (.cells #[.int .i64 (room : Int), .slice A1 m1 c1'] 45))).more (by simp : w1.heap.size ≤ (w1.alloc (.cells #[.int .i64 (room : Int), .slice A1 m1 c1'] 45)).heap.size))
  have hsx : (w1.alloc (.cells #[.int .i64 (room : Int), .slice A1 m1 c1'] 45)).heap.size = w1.heap.size + 1 := by simp
  obtain ⟨X, hX⟩ : ∃ X, w1.heap.size = X := ⟨_, rfl⟩
  obtain ⟨wx, hwx⟩ : ∃ wx, w1.alloc (.cells #[.int .i64 (room : Int), .slice A1 m1 c1'] 45) = wx := ⟨_, rfl⟩
  rw [hwx] at hx hbx hbw HEX hsx ⊢
  rw [hX] at hx hsx ⊢
  have HX := Lib.hid hX
  have HSX := Lib.hid hsx
  have HWX := Lib.hid hwx
  have HUX := Lib.hid (hbw.at_block HU.out)
  have HRX := Lib.hid (hbw.at_block HR0.out)
  have HXX := Lib.hid hx
  obtain ⟨g1, g2, g3, g4⟩ := five_cells HUX.out
  obtain ⟨r0, r1, s0, s1⟩ := two_cells HRX.out
  obtain ⟨x0, x1, _, _⟩ := two_cells HXX.out
  have HCX := Lib.hid (HP.out.1.below hbx)
  have hdx : Below wx.heap.size wx wx.drew := (Below.refl _ _).drew
  have HCD := Lib.hid (HCX.out.below hdx)
  clear hX hwx e1 e2 e3 e4 c0 c1 f1 f2 f3 f4 hx hsx
  have hVX : V + 3 ≤ X := by have := hb1.size; have := HSZ.out; have := HX.out; omega
  have hSX : ¬ S X := fun h => by have := HP.out.1.low _ h; have := HVV.out; omega
  have hXR : X ≠ V + 1 + 1 := by omega
  have hRX : V + 1 + 1 ≠ X := by omega
  have hold : ∀ ad, 0 < n → A = some ad → ¬ V ≤ ad.block ∧ ¬ S ad.block := fun ad h0 had => by
    obtain ⟨ad', e, hlt, _⟩ := HP.out.2.1.2.1.2 h0
    rw [had] at e; injection e with e; subst e
    exact ⟨by have := HVV.out; omega, HP.out.2.2.2 ad h0 had⟩
  have hmn : m1 = n ∨ 0 < n := by
    rcases Nat.eq_zero_or_pos n with h0 | h0
    · left
      have h1 : l = [] := List.eq_nil_of_length_eq_zero (by rw [HP.out.2.1.1, h0])
      rw [← HM1.out, h1, h0]; rfl
    · exact .inr h0
  have HFR := Lib.hid (show ∀ ad, 0 < m1 → A1 = some ad → (V ≤ ad.block → V + 3 ≤ ad.block) ∧ ¬ S ad.block from fun ad h0 had => by
    rcases hfr1 with e | hfr1
    · obtain ⟨h1, h2⟩ := hold ad (by omega) (e ▸ had)
      exact ⟨fun h => absurd h h1, h2⟩
    · have h1 := hfr1 ad had
      have h2 := HSZ.out
      exact ⟨fun _ => by omega, fun h => by have := HP.out.1.low _ h; have := HVV.out; omega⟩)
  have HFN := Lib.hid (show ∀ ad, 0 < m1 → A1 = some ad → (A1 = A ∧ 0 < n) ∨ w.heap.size ≤ ad.block from fun ad h0 had => by
    rcases hfr1 with e | hfr1
    · exact .inl ⟨e, by omega⟩
    · exact .inr (Nat.le_trans hb0.size (hfr1 ad had)))
  clear hfr1 hold hmn
  cases bb with
  | true =>
    go_wp2_with (first
      | (go_at_call 29; refine (get_csv HCX.out u.key HKL.out HG2.out).mono ?_; rintro x w2 ⟨rfl, ht⟩; obtain ⟨p0, p1, t0, t1⟩ := two_cells (ht.at_ HRX.out hSR); obtain ⟨y0, y1, _, _⟩ := two_cells (ht.at_ HXX.out hSX); have HTU := Lib.hid ht; clear ht))
    refine bodyPost_ret (v := .tuple #[rv room A1 m1 c1', .bool true]) (by simp [results, Try.results27, go_sem, p0, p1]) rfl ?_
    obtain ⟨S', q1, q2, q3⟩ := pair_close (x := .int .i64 (room : Int)) (y := .slice A1 m1 c1') HP.out HVV.out hbx (by have := HSX.out; omega) HTU.out.more HEX.out hcap1 HFR.out
    exact ⟨S', _, A1, m1, c1', rfl, q1, q2, q3, HFN.out⟩
  | false =>
    go_wp2_with (first
      | (go_at_call 29; refine (get_csv HCX.out u.key HKL.out HG2.out).mono ?_; rintro x w2 ⟨rfl, ht⟩; obtain ⟨p0, p1, t0, t1⟩ := two_cells (ht.at_ HRX.out hSR); obtain ⟨y0, y1, _, _⟩ := two_cells (ht.at_ HXX.out hSX); have HTU := Lib.hid ht; clear ht))
    refine bodyPost_ret (v := .tuple #[rv room A1 m1 c1', .bool true]) (by simp [results, Try.results27, go_sem, p0, p1]) rfl ?_
    obtain ⟨S', q1, q2, q3⟩ := pair_close (x := .int .i64 (room : Int)) (y := .slice A1 m1 c1') HP.out HVV.out hbx (by have := HSX.out; omega) HTU.out.more HEX.out hcap1 HFR.out
    exact ⟨S', _, A1, m1, c1', rfl, q1, q2, q3, HFN.out⟩
end Go.Proofs.Ytpppgdfgbhglbaa.CaS
