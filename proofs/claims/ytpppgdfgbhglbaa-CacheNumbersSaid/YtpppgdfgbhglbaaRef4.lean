/- The walk of the document's Put. -/
import Derived.Test.YtpppgdfgbhglbaaRef3
namespace Go.Proofs.Ytpppgdfgbhglbaa.Ca
open Go.RowKit Go.Proofs Go.Proofs.Ytpppgdfgbhglbaa.Lru

set_option maxRecDepth 100000 in
set_option maxHeartbeats 1000000 in
theorem rput_not (room : Nat) (A : Option Addr) (n c B : Nat) (l : List Ent) (k v : Bs) (wt : Int) (hw : wt < 0 ∨ (room : Int) < wt) (hn : n ≤ 3298534883327) (w : World) (hB : B ≤ w.heap.size) (hr : Es w B A n l) :
    Calls Try.prog 16 #[rv room A n c, .string ⟨k.toArray⟩, .string ⟨v.toArray⟩, .int .i64 wt] w fun x w' => ∃ A' c', x = .returned (.tuple #[rv room A' (out k l).length c', .bool false]) ∧ Es w' w'.heap.size A' (out k l).length (out k l) ∧ (A' = none → c' = 0) ∧ (∀ ad, A' = some ad → w.heap.size ≤ ad.block) ∧ Below w.heap.size w w' := by
  have HR := Lib.hid hr
  obtain ⟨m, hm⟩ : ∃ m, (out k l).length = m := ⟨_, rfl⟩
  rw [hm]
  have HM := Lib.hid hm
  clear hr hm
  go_enter Try.func16, Try.ntmps16
  go_upto_region 1 with (fail)
  obtain ⟨wb, V, hwb, hV, hb0, hsz, hc0, hr0⟩ := boxed2 w room A n c #[.int .i64 0, .slice none 0 0] 45
  rw [hwb, hV]
  have c1 := (two_cells hc0).2.1
  have hBb := Nat.le_trans hB hb0.size
  have HWB := Lib.hid hwb
  have HSZ := Lib.hid hsz
  have HVV := Lib.hid hV
  clear hwb hsz hV
  go_upto_region 2 with (go_at_call 40; refine (without_any A n c B l k (by omega) wb hBb (HR.out.below (hb0.mono hB))).mono ?_; rintro x w1 ⟨v1, rfl, hown, hb1⟩; rw [HM.out] at hown; obtain ⟨A', c', rfl, _, _⟩ := own_form hown)
  obtain ⟨d0, d1, _, _⟩ := two_cells (hb1.at_block hc0)
  obtain ⟨q0, q1, g0, g1⟩ := two_cells (hb1.at_block hr0)
  clear c1
  rcases hw with hw | hw
  · go_wp2
    refine bodyPost_ret (v := .tuple #[rv room A' m c', .bool false]) (by simp [results, Try.results16, go_sem, q0, q1]) rfl ?_
    have hq := out2n HVV.out hb0 HSZ.out hb1 hown HM.out (.int .i64 (room : Int)) (.slice A' m c')
    exact ⟨A', c', rfl, hq.1, Es.own_cap hown, own_from hown hb0.size, hq.2⟩
  · have hw0 : ¬ wt < 0 := by omega
    go_wp2
    refine bodyPost_ret (v := .tuple #[rv room A' m c', .bool false]) (by simp [results, Try.results16, go_sem, q0, q1]) rfl ?_
    have hq := out2n HVV.out hb0 HSZ.out hb1 hown HM.out (.int .i64 (room : Int)) (.slice A' m c')
    exact ⟨A', c', rfl, hq.1, Es.own_cap hown, own_from hown hb0.size, hq.2⟩

def lenOf (v : Value) : Nat :=
  match v with
  | .slice _ j _ => j
  | _ => 0
theorem sum_n (A : Option Addr) (n c B : Nat) (l : List Ent) (hn : n ≤ 3298534883328) {s : Nat} (hs : s ≤ 4611686018427387904) (w : World) (hr : Es w B A n l) (he : sumW l = s) :
    Calls Try.prog 41 #[.slice A n c] w fun x w' => x = .returned (.int .i64 (s : Int)) ∧ w = w' := by
  subst he
  exact sum_any A n c B l hn hs w hr

set_option maxRecDepth 100000 in
set_option maxHeartbeats 2000000 in
theorem rput_any (room : Nat) (hroom : room ≤ 1073741824) (A : Option Addr) (n c B : Nat) (l : List Ent) (k v : Bs) (wn : Nat) (hw : wn ≤ room) (hsum : sumW l ≤ room) (hn : n ≤ 3298534883327) (w : World) (hB : B ≤ w.heap.size) (hr : Es w B A n l) :
    Calls Try.prog 16 #[rv room A n c, .string ⟨k.toArray⟩, .string ⟨v.toArray⟩, .int .i64 (wn : Int)] w fun x w' => ∃ A' c', x = .returned (.tuple #[rv room A' (Lru.put room k v wn l).length c', .bool true]) ∧ Es w' w'.heap.size A' (Lru.put room k v wn l).length (Lru.put room k v wn l) ∧ (A' = none → c' = 0) ∧ (∀ ad, A' = some ad → w.heap.size ≤ ad.block) ∧ Below w.heap.size w w' := by
  obtain ⟨i0, hi, hz0, hz1, hz2⟩ := info_parts' infoEnt
  have HR := Lib.hid hr
  have hmn : (out k l).length ≤ n := by rw [← hr.1]; exact List.length_filter_le _ _
  have hso : sumW (out k l) ≤ room := Nat.le_trans (sumW_sub List.filter_sublist) hsum
  obtain ⟨m, hm⟩ : ∃ m, (out k l).length = m := ⟨_, rfl⟩
  rw [hm] at hmn
  have HM := Lib.hid hm
  have HSO := Lib.hid hso
  clear hr hm hsum hso
  go_enter Try.func16, Try.ntmps16
  go_upto_region 1 with (fail)
  obtain ⟨wb, V, hwb, hV, hb0, hsz, hc0, hr0⟩ := boxed2 w room A n c #[.int .i64 0, .slice none 0 0] 45
  rw [hwb, hV]
  have c1 := (two_cells hc0).2.1
  have hBb := Nat.le_trans hB hb0.size
  have HWB := Lib.hid hwb
  have HSZ := Lib.hid hsz
  have HVV := Lib.hid hV
  clear hwb hsz hV
  go_upto_region 2 with (go_at_call 40; refine (without_any A n c B l k (by omega) wb hBb (HR.out.below (hb0.mono hB))).mono ?_; rintro x w1 ⟨v1, rfl, hown, hb1⟩; rw [HM.out] at hown; obtain ⟨A', c', rfl, hmc, hcm⟩ := own_form hown)
  obtain ⟨d0, d1, _, _⟩ := two_cells (hb1.at_block hc0)
  obtain ⟨q0, q1, g0, g1⟩ := two_cells (hb1.at_block hr0)
  have hE0 := Lib.hid (Es.of_own hown)
  have hcap := Lib.hid (Es.own_cap hown)
  obtain ⟨B1, hB1⟩ : ∃ B1, w1.heap.size = B1 := ⟨_, rfl⟩
  rw [hB1] at hE0
  have HB1 := Lib.hid hB1
  have hwn0 : ¬ ((wn : Int) < 0) := by omega
  have hwn1 : ¬ ((room : Int) < (wn : Int)) := by omega
  clear c1 hB1
  go_wp2
  go_loopw [10] (fun u wr => ∃ (j q : Nat) (lx : List Ent), u = .slice A' j c' ∧ j ≤ m ∧ Es w1 B1 A' j lx ∧ trim room wn lx.length lx = trim room wn (out k l).length (out k l) ∧ sumW lx ≤ room ∧ wr = w1.drewN q) (fun u _ => lenOf u)
  case atStart => exact ⟨m, 0, out k l, rfl, Nat.le_refl _, hE0.out, rfl, HSO.out, rfl⟩
  case round =>
    obtain ⟨j, q, lx, rfl, hjm, hE, htr, hsx, rfl⟩ := hrel
    have HE := Lib.hid hE
    have HT := Lib.hid htr
    obtain ⟨sx, hsxe⟩ : ∃ sx, sumW lx = sx := ⟨_, rfl⟩
    rw [hsxe] at hsx
    have HSX := Lib.hid hsxe
    clear hE htr hsxe
    have d0q : (w1.drewN q).cell? ⟨V, 0, none⟩ = some (.int .i64 (room : Int)) := d0
    by_cases hfit : (room : Int) < (sx : Int) + (wn : Int)
    · have hj1 : 1 ≤ j := by
        rcases Nat.eq_zero_or_pos j with h0 | h0
        · have h1 := HE.out.1
          rw [h0] at h1
          have h2 := HSX.out
          rw [List.eq_nil_of_length_eq_zero h1] at h2
          simp only [sumW] at h2
          omega
        · exact h0
      have hjc : j - 1 ≤ c' := by omega
      have hjc2 : ((j : Int) - 1) ≤ (c' : Int) := by omega
      have hjn : ¬ ((j : Int) - 1 < 0) := by omega
      have hE2 := Lib.hid (HE.out.front (m := j - 1) (by omega))
      have hld : lx.take (j - 1) = lx.dropLast := by rw [List.dropLast_eq_take, HE.out.1]
      have hst := trim_step hw (l := lx) (by rw [HSX.out]; omega)
      have hsl := sumW_dropLast_le lx
      rw [HSX.out] at hsl
      rw [hld] at hE2
      have HST := Lib.hid hst
      have HSL := Lib.hid hsl
      clear hld hst hsl
      go_wp2
      go_quiet ((go_at_call 41; exact quiet_la (sum_n A' j c' B1 lx (by omega) (by omega) _ HE.out HSX.out)))
      go_wp2
      go_roundw
      case rel => exact ⟨j - 1, _, lx.dropLast, rfl, by omega, hE2.out, HST.out.symm.trans HT.out, Nat.le_trans HSL.out hsx, rfl⟩
      case measure => simp [lenOf]; omega
    · have hfin : Lru.put room k v wn l = ⟨k, v, wn⟩ :: lx := by
        unfold Lru.put
        rw [← HT.out, trim_done (by rw [HSX.out]; omega)]
      have HF := Lib.hid hfin
      clear hfin
      go_wp2
      go_quiet ((go_at_call 41; exact quiet_la (sum_n A' j c' B1 lx (by omega) (by omega) _ HE.out HSX.out)))
      have hbd : Below w1.heap.size w1 ((w1.drewN q).drewN nq) := below_drewN (below_drewN (Below.refl _ _) q) nq
      have hEd : Es ((w1.drewN q).drewN nq) B1 A' j lx := HE.out
      obtain ⟨wd, hwd⟩ : ∃ wd, (w1.drewN q).drewN nq = wd := ⟨_, rfl⟩
      rw [hwd] at hbd hEd ⊢
      have hcd := (hb1.trans (hbd.mono hb1.size)).at_block hc0
      have hrd := (hb1.trans (hbd.mono hb1.size)).at_block hr0
      have HED := Lib.hid hEd
      clear d0q d0 d1 q0 q1 g0 g1 hEd
      go_wp2_with (first
        | (refine wpList_buildEnt rfl (.tmp 43) rfl ⟨k, v, wn⟩ rfl ?_; have hrow := World.ownsRow_lit (base := wd.heap.size) (e := 88) (size := 3) wd (eC ⟨k, v, wn⟩).toArray 1 (Nat.le_refl _) (by decide) rfl; have hba : Below wd.heap.size wd (wd.alloc (.cells (eC ⟨k, v, wn⟩).toArray 88)) := (Below.refl _ _).alloc (Nat.le_refl _) _; obtain ⟨wa, hwa⟩ : ∃ wa, wd.alloc (.cells (eC ⟨k, v, wn⟩).toArray 88) = wa := ⟨_, rfl⟩; rw [hwa] at hrow hba ⊢; clear hwa)
        | (at_builtin; go_loud (refine wpList_append_rd _ rfl (.tmp 45) (.tmp 46) 43 rfl wd.heap.size 88 i0 zE 3 40 Try.underlying43 hi hz0 hz1 hz2 rfl (by decide) _ 1 _ rfl hrow B1 A' j c' (cE lx) rfl ((HED.out.below (hba.mono (HB1.out ▸ hbd.size))).2.1) hcap.out (cE_one _) (by unfold maxLen; omega) (by omega) hba.size ?_); intro v2 w2 hrow2 hg2; have hb2 : Below wd.heap.size wd w2 := hba.grown hg2 hba.size (fun g hg => by injection hg with hg; rw [← hg]; exact Nat.le_refl _); obtain ⟨A2, c2, rfl, _, _⟩ := own_form hrow2; obtain ⟨d0, d1, _, _⟩ := two_cells (hb2.at_block hcd); obtain ⟨q0, q1, g0, g1⟩ := two_cells (hb2.at_block hrd); clear hg2))
      refine bodyPost_ret (v := .tuple #[rv room A2 (1 + j) c2, .bool true]) (by simp [results, Try.results16, go_sem, q0, q1]) rfl ?_
      have hlen : (⟨k, v, wn⟩ :: lx : List Ent).length = 1 + j := by rw [List.length_cons, HE.out.1]; omega
      have hbw : Below wb.heap.size wb wd := hb1.trans (hbd.mono hb1.size)
      have hbz : Below wb.heap.size wb w2 := hbw.trans (hb2.mono hbw.size)
      have hq := out2n (l := ⟨k, v, wn⟩ :: lx) HVV.out hb0 HSZ.out hbz (own_base hrow2 hbw.size) hlen (.int .i64 (room : Int)) (.slice A2 (1 + j) c2)
      rw [HF.out, hlen]
      exact ⟨A2, c2, rfl, hq.1, Es.own_cap hrow2, own_from hrow2 (by have := hb0.size; have := hbw.size; omega), hq.2⟩
end Go.Proofs.Ytpppgdfgbhglbaa.Ca
