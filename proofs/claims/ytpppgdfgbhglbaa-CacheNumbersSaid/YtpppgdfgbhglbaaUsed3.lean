/- The walk of used: call 3. -/
import Derived.Test.YtpppgdfgbhglbaaUsed
namespace Go.Proofs.Ytpppgdfgbhglbaa.CaS
open Go.RowKit Go.Proofs Go.Proofs.Ytpppgdfgbhglbaa.Ring Go.Proofs.Ytpppgdfgbhglbaa.Lru Go.Proofs.Ytpppgdfgbhglbaa.Ca
set_option maxRecDepth 100000 in
set_option maxHeartbeats 2000000 in
theorem used_3 {w : World} {S : Nat → Prop} {c room cnt n cp : Nat} {l : List Ent} {A : Option Addr} (h : Pair w S c room l cnt A n cp) (u : U) (hu : u.ok) (hcnt : cnt ≤ 2513169434843) (hd : u.doo = 3) :
    Calls Try.prog 27 #[.pointer (some ⟨c, 0, none⟩), rv room A n cp, .agg u.cells.toArray] w fun x w' => ∃ S' l' A' n' cp', x = .returned (.tuple #[rv room A' n' cp', .bool true]) ∧ Pair w' S' c room l' (cnt + 1) A' n' cp' ∧ Kept w w' S ∧ (∀ k, S' k → S k ∨ w.heap.size ≤ k) ∧ (∀ ad, 0 < n' → A' = some ad → (A' = A ∧ 0 < n) ∨ w.heap.size ≤ ad.block) := by
  have HP := Lib.hid h
  have HKL := Lib.hid hu.2.1
  have hnl : n ≤ cnt := by have h1 := h.1.len; have h2 := h.2.1.1; omega
  have hcnt2 : cnt < maxLen := by unfold maxLen; omega
  clear h hu
  go_enter Try.func27, Try.ntmps27
  go_upto_region 1 with (fail)
  obtain ⟨wb, V, hwb, hV, hb0, hsz, hc0, hu0, hr0⟩ := boxed3 w room A n cp u
  rw [hwb, hV]
  rw [hd] at hu0
  have HU := Lib.hid hu0
  have HC0 := Lib.hid hc0
  have HR0 := Lib.hid hr0
  have HWB := Lib.hid hwb
  have HSZ := Lib.hid hsz
  have HVV := Lib.hid hV
  clear hwb hsz hV hu0 hc0 hr0
  obtain ⟨e1, e2, e3, e4⟩ := five_cells HU.out
  obtain ⟨c0, c1, _, _⟩ := two_cells HC0.out
  have hsum : sumW l ≤ room := HP.out.1.fits
  have hroom : room ≤ 1073741824 := HP.out.1.2
  have hSR : ¬ S (V + 1 + 1) := fun h => by have := HP.out.1.low _ h; have := HVV.out; omega
  have hSV : ¬ S V := fun h => by have := HP.out.1.low _ h; have := HVV.out; omega
  have hold : ∀ ad, 0 < n → A = some ad → (V ≤ ad.block → V + 3 ≤ ad.block) ∧ ¬ S ad.block := fun ad h0 had => by
    obtain ⟨ad', e, hlt, _⟩ := HP.out.2.1.2.1.2 h0
    rw [had] at e; injection e with e; subst e
    exact ⟨fun h => by have := HVV.out; omega, HP.out.2.2.2 ad h0 had⟩
  have HO := Lib.hid hold
  have HCW := Lib.hid (HP.out.1.below hb0)
  have HEW := Lib.hid ((HP.out.2.1.below hb0).more hb0.size)
  obtain ⟨r0, r1, s0, s1⟩ := two_cells HR0.out
  have hdw : Below wb.heap.size wb wb.drew := (Below.refl _ _).drew
  have HCD := Lib.hid (HCW.out.below hdw)
  have hVR : V ≠ V + 1 + 1 := by omega
  clear hold
  go_wp2_with (first
    | (go_at_call 31; refine (clear_cs HCW.out).mono ?_; rintro x w1 ⟨rfl, ht⟩; obtain ⟨c0', c1', _, _⟩ := two_cells (ht.at_ HC0.out hSV); have HR1 := Lib.hid (ht.at_ HR0.out hSR); have HTU := Lib.hid ht; clear ht)
    | (go_at_call 46; refine (rclear_any room A n cp w1).mono ?_; rintro x w2 ⟨rfl, hb2⟩; obtain ⟨p0, p1, t0, t1⟩ := two_cells (hb2.at_block HR1.out)))
  refine bodyPost_ret (v := .tuple #[rv room none 0 0, .bool true]) (by simp [results, Try.results27, go_sem, p0, p1]) rfl ?_
  obtain ⟨S', q1, q2, q3⟩ := pair_close (x := .int .i64 (room : Int)) (y := .slice none 0 0) HP.out HVV.out hb0 (by have := HSZ.out; omega) (HTU.out.then hb2).more Es.none_ (fun _ => rfl) (fun ad h0 _ => absurd h0 (by omega))
  exact ⟨S', _, none, 0, 0, rfl, q1, q2, q3, fun ad _ had => by cases had⟩
end Go.Proofs.Ytpppgdfgbhglbaa.CaS
