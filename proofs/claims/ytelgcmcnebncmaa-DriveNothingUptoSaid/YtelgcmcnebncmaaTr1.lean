/- The law's own trace: place, body. -/
import Derived.Test.YtelgcmcnebncmaaTr
namespace Go.Proofs.Ytelgcmcnebncmaa.Dr
open Go.RowKit Go.Proofs Go.Proofs.Ytelgcmcnebncmaa.Ring

theorem modify_set {α : Type} {l : List α} {f : α → α} {k : Nat} {a : α} (h : l[k]? = some a) : l.modify k f = l.set k (f a) := by
  apply List.ext_getElem?
  intro j
  rw [List.getElem?_modify, List.getElem?_set]
  by_cases hk : k = j
  · subst hk
    rw [if_pos rfl, if_pos (List.getElem?_eq_some_iff.1 h).1, h]
    simp
  · simp [hk]
section
variable {w : World} {T : Nat → Prop} {p q : Nat} {t : Tr}
set_option maxRecDepth 100000 in
set_option maxHeartbeats 4000000 in
theorem place_any (h : TrA w T p t) (hq : Small t q) (hlen : t.leads.length = t.names.length ∧ t.led.length = t.names.length) (hq2 : q ≤ 1099511627776) (n : Bs) :
    Calls Try.prog 93 #[.pointer (some ⟨p, 0, none⟩), encStr n] w fun x w' => x = .returned (.int .i64 ((t.place n).2 : Int)) ∧ TrT w w' T p (t.place n).1 := by
  obtain ⟨An, cn, Al, cl, Ae, ce, Ad, cd, As, cs, rs, hrl, hst⟩ := St.open h
  obtain ⟨hn, _, _, _, _⟩ := hst.rows hrl
  obtain ⟨x0, _, _, _, _⟩ := head5 hst.cells
  obtain ⟨s0, hs0, hy0, hy1, hy2⟩ := info_parts infoStr
  obtain ⟨i0, hi0, hz0, hz1, hz2⟩ := info_parts infoInt2
  obtain ⟨j0, hj0, hq0, hq1, hq3⟩ := info_parts infoInts
  have hsm := hq.names
  have HST := Lib.hid hst
  have HN := Lib.hid hn
  have HH := Lib.hid h
  have HRL := Lib.hid hrl
  have HLEN := Lib.hid hlen
  clear hst hn h hrl hlen
  go_enter Try.func93, Try.ntmps93
  go_upto_region 2 with (fail)
  go_loopw [5] (fun iv wr => ∃ i : Nat, iv = .int .i64 (i : Int) ∧ w = wr ∧ i ≤ t.names.length ∧ ∀ j : Nat, j < i → t.names[j]? ≠ some n) (fun iv _ => t.names.length - (intOf iv).toNat)
  case atStart => exact ⟨0, rfl, rfl, by omega, fun j hj => by omega⟩
  case round =>
    obtain ⟨i, rfl, rfl, hi, hno⟩ := hrel
    by_cases hlt : i < t.names.length
    · obtain ⟨g, rfl⟩ := own_some HN.out (by omega)
      obtain ⟨y, hy⟩ : ∃ y, t.names[i]? = some y := ⟨_, List.getElem?_eq_getElem hlt⟩
      have e1 : w.cell? ⟨g, i, none⟩ = some (encStr y) := own_cell HN.out (k := i) hlt (by simp [hy])
      have hlt2 : (i : Int) < (t.names.length : Int) := by omega
      have HY := Lib.hid hy
      have HNO := Lib.hid hno
      clear hy hno
      by_cases hyn : y = n
      · subst hyn
        go_wp2
        have hat : t.at? y = some i := by
          unfold Tr.at?
          rw [List.idxOf?_eq_some_iff]
          obtain ⟨h1, h2⟩ := List.getElem?_eq_some_iff.1 HY.out
          refine ⟨h1, by simpa using h2, fun j hj => ?_⟩
          have := HNO.out j hj
          rw [List.getElem?_eq_getElem (by omega)] at this
          simpa using this
        go_ret
        unfold Tr.place
        rw [hat]
        exact ⟨rfl, HH.out.refl⟩
      · have hyq : (y == n) = false := by simpa using hyn
        go_wp2
        go_roundw
        case rel =>
          refine ⟨i + 1, by go_num, trivial, by omega, fun j hj e => ?_⟩
          rcases Nat.lt_or_ge j i with h1 | h1
          · exact HNO.out j h1 e
          · obtain rfl : j = i := by omega
            rw [HY.out] at e
            injection e with e
            exact hyn e
        case measure => simp [intOf]; omega
    · obtain rfl : i = t.names.length := by omega
      have hat : t.at? n = none := by
        rw [at_none]
        intro hm
        obtain ⟨j, hj⟩ := List.mem_iff_getElem?.1 hm
        exact hno j (List.getElem?_eq_some_iff.1 hj).1 hj
      have HAT := Lib.hid hat
      clear hat hno
      go_upto_region 7 with (at_builtin; go_loud (refine wpList_append_keeps _ rfl (.tmp 29) (.tmp 31) 36 rfl 0 kStr s0 (.string ⟨#[]⟩) 1 16 Try.underlying36 hs0 hy0 hy1 hy2 rfl (by decide) (.slice An t.names.length cn) t.names.length (cStr t.names) rfl (own_alloc HN.out _) ⟨w.heap.size, 0, none⟩ 1 1 [encStr n] rfl rfl (cell_one_new _ _ _) (by simp [Value.oneCell']) (by omega) (by unfold maxLen; omega) (by omega) (Nat.zero_le _) ?_); go_loud (intro g1 cap1 w3 hg hgr hat hlt _); go_loud (have hd := (HST.out.head_grown (i := 0) rfl hgr).trans HST.out.cells; obtain ⟨a0, a1, a2, a3, a4⟩ := head5 hd; have b0 := head5f hd 0); have HG := Lib.hid hg; have HGR := Lib.hid hgr; have HAT2 := Lib.hid hat; clear hg hgr hd hat)
      have hS := HST.out.names HGR.out HG.out HAT2.out
      obtain ⟨wa, hwa⟩ : ∃ wa, w3.setCell ⟨p, 0, none⟩ (.slice (some ⟨g1, 0, none⟩) (t.names.length + 1) cap1) = wa := ⟨_, rfl⟩
      rw [hwa] at hS ⊢
      clear hwa HG HGR HAT2 a0 a1 a2 a3 a4 b0
      obtain ⟨T1, hst1, hk1, hs1⟩ := hS
      obtain ⟨_, hl1, _, _, _⟩ := hst1.rows HRL.out
      obtain ⟨_, x1, _, _, _⟩ := head5 hst1.cells
      have HST1 := Lib.hid hst1
      have HL1 := Lib.hid hl1
      have HK1 := Lib.hid hk1
      have HS1 := Lib.hid hs1
      clear hst1 hl1 hk1 hs1 x0
      have hll : t.leads.length ≤ q := by have := HLEN.out.1; omega
      go_upto_region 8 with (at_builtin; go_loud (refine wpList_append_keeps _ rfl (.tmp 39) (.tmp 40) 27 rfl 0 tIntE i0 (.int .i64 0) 1 8 Try.underlying27 hi0 hz0 hz1 hz2 rfl (by decide) (.slice Al t.leads.length cl) t.leads.length (cLead t.leads) rfl (own_alloc HL1.out _) ⟨wa.heap.size, 0, none⟩ 1 1 [.int .i64 (-1)] rfl rfl (cell_one_new _ _ _) (by simp [Value.oneCell']) (by omega) (by unfold maxLen; omega) (by omega) (Nat.zero_le _) ?_); go_loud (intro g2 cap2 w3 hg hgr hat hlt _); go_loud (have hd := (HST1.out.head_grown (i := 1) rfl hgr).trans HST1.out.cells; obtain ⟨a0, a1, a2, a3, a4⟩ := head5 hd; have b0 := head5f hd 1); have HG := Lib.hid hg; have HGR := Lib.hid hgr; have HAT2 := Lib.hid hat; clear hg hgr hd hat)
      have hS := HST1.out.leads (x := none) HGR.out HG.out HAT2.out
      obtain ⟨wb, hwa⟩ : ∃ wa, w3.setCell ⟨p, 1, none⟩ (.slice (some ⟨g2, 0, none⟩) (t.leads.length + 1) cap2) = wa := ⟨_, rfl⟩
      rw [hwa] at hS ⊢
      clear hwa HG HGR HAT2 a0 a1 a2 a3 a4 b0
      obtain ⟨T2, hst2, hk2, hs2⟩ := Sturn.join HK1.out HS1.out hS
      obtain ⟨_, _, he2, _, _⟩ := hst2.rows HRL.out
      obtain ⟨_, _, x2, _, _⟩ := head5 hst2.cells
      have HST2 := Lib.hid hst2
      have HE2 := Lib.hid he2
      have HK2 := Lib.hid hk2
      have HS2 := Lib.hid hs2
      clear hst2 he2 hk2 hs2 x1
      have hll2 : t.led.length ≤ q := by have := HLEN.out.2; omega
      go_upto_region 9 with (at_builtin; go_loud (refine wpList_append_keeps _ rfl (.tmp 48) (.tmp 49) 154 rfl 0 tInts j0 (.slice none 0 0) 1 24 Try.underlying154 hj0 hq0 hq1 hq3 rfl (by decide) (.slice Ae t.led.length ce) t.led.length rs rfl (own_alloc HE2.out _) ⟨wb.heap.size, 0, none⟩ 1 1 [.slice none 0 0] rfl rfl (cell_one_new _ _ _) (by simp [Value.oneCell']) (by omega) (by unfold maxLen; omega) (by omega) (Nat.zero_le _) ?_); go_loud (intro g3 cap3 w3 hg hgr hat hlt _); go_loud (have hd := (HST2.out.head_grown (i := 2) rfl hgr).trans HST2.out.cells; obtain ⟨a0, a1, a2, a3, a4⟩ := head5 hd; have b0 := head5f hd 2); have HG := Lib.hid hg; have HGR := Lib.hid hgr; have HAT2 := Lib.hid hat; clear hg hgr hd hat)
      have hS := HST2.out.ledNew HRL.out (l := []) (v := .slice none 0 0) (World.grownBy.refl _ _) (World.ownsRow_nil _ _ _ _) (fun g hg => by cases hg) HGR.out HG.out HAT2.out
      obtain ⟨wc, hwa⟩ : ∃ wa, w3.setCell ⟨p, 2, none⟩ (.slice (some ⟨g3, 0, none⟩) (t.led.length + 1) cap3) = wa := ⟨_, rfl⟩
      rw [hwa] at hS ⊢
      clear hwa HG HGR HAT2 a0 a1 a2 a3 a4 b0
      obtain ⟨T3, hst3, hk3, hs3⟩ := Sturn.join HK2.out HS2.out hS
      obtain ⟨x0, _, _, _, _⟩ := head5 hst3.cells
      have HST3 := Lib.hid hst3
      have HK3 := Lib.hid hk3
      have HS3 := Lib.hid hs3
      clear hst3 hk3 hs3 x2 hll hll2
      go_wp2
      go_ret
      unfold Tr.place
      rw [HAT.out]
      refine ⟨?_, T3, ⟨_, _, _, _, _, _, ?_, HST3.out⟩, HK3.out, HS3.out⟩
      · first | rfl | exact ret_int (by simp) | exact ret_int (by omega)
      · have := HRL.out; simp; omega
set_option maxRecDepth 100000 in
set_option maxHeartbeats 4000000 in
theorem body_any (h : TrA w T p t) (hf : Fit t q) (hq2 : q ≤ 1099511627776) (n : Bs) (x : Nat) :
    Calls Try.prog 92 #[.pointer (some ⟨p, 0, none⟩), encStr n, .int .i64 (x : Int)] w fun y w' => y = .returned (.int .i64 (t.data.length : Int)) ∧ TrT w w' T p (t.body n x) := by
  obtain ⟨An, cn, Al, cl, Ae, ce, Ad, cd, As, cs, rs, hrl, hst⟩ := St.open h
  obtain ⟨_, _, _, hn, _⟩ := hst.rows hrl
  obtain ⟨_, _, _, x0, _⟩ := head5 hst.cells
  obtain ⟨s0, hs0, hy0, hy1, hy2⟩ := info_parts infoStr
  obtain ⟨i0, hi0, hz0, hz1, hz2⟩ := info_parts infoInt2
  have hsm := hf.small.data
  have HST := Lib.hid hst
  have HN := Lib.hid hn
  have HRL := Lib.hid hrl
  have HF := Lib.hid hf
  clear hst hn h hrl hf
  go_enter Try.func92, Try.ntmps92
  go_upto_region 2 with (at_builtin; go_loud (refine wpList_append_keeps _ rfl (.tmp 11) (.tmp 13) 36 rfl 0 kStr s0 (.string ⟨#[]⟩) 1 16 Try.underlying36 hs0 hy0 hy1 hy2 rfl (by decide) (.slice Ad t.data.length cd) t.data.length (cStr t.data) rfl (own_alloc HN.out _) ⟨w.heap.size, 0, none⟩ 1 1 [encStr n] rfl rfl (cell_one_new _ _ _) (by simp [Value.oneCell']) (by omega) (by unfold maxLen; omega) (by omega) (Nat.zero_le _) ?_); go_loud (intro g1 cap1 w3 hg hgr hat hlt _); go_loud (have hd := (HST.out.head_grown (i := 3) rfl hgr).trans HST.out.cells; obtain ⟨a0, a1, a2, a3, a4⟩ := head5 hd; have b0 := head5f hd 3); have HG := Lib.hid hg; have HGR := Lib.hid hgr; have HAT2 := Lib.hid hat; clear hg hgr hd hat)
  have hS := HST.out.data HGR.out HG.out HAT2.out
  obtain ⟨wa, hwa⟩ : ∃ wa, w3.setCell ⟨p, 3, none⟩ (.slice (some ⟨g1, 0, none⟩) (t.data.length + 1) cap1) = wa := ⟨_, rfl⟩
  rw [hwa] at hS ⊢
  clear hwa HG HGR HAT2 a0 a1 a2 a3 a4 b0
  obtain ⟨T1, hst1, hk1, hs1⟩ := hS
  obtain ⟨_, _, _, _, hl1⟩ := hst1.rows HRL.out
  obtain ⟨_, _, _, _, x1⟩ := head5 hst1.cells
  have HST1 := Lib.hid hst1
  have HL1 := Lib.hid hl1
  have HK1 := Lib.hid hk1
  have HS1 := Lib.hid hs1
  clear hst1 hl1 hk1 hs1 x0
  have hll : t.safe.length ≤ q := by have := HF.out.len.2.2; omega
  go_upto_region 3 with (at_builtin; go_loud (refine wpList_append_keeps _ rfl (.tmp 21) (.tmp 23) 27 rfl 0 tIntE i0 (.int .i64 0) 1 8 Try.underlying27 hi0 hz0 hz1 hz2 rfl (by decide) (.slice As t.safe.length cs) t.safe.length (cNat t.safe) rfl (own_alloc HL1.out _) ⟨wa.heap.size, 0, none⟩ 1 1 [.int .i64 (x : Int)] rfl rfl (cell_one_new _ _ _) (by simp [Value.oneCell']) (by omega) (by unfold maxLen; omega) (by omega) (Nat.zero_le _) ?_); go_loud (intro g2 cap2 w3 hg hgr hat hlt _); go_loud (have hd := (HST1.out.head_grown (i := 4) rfl hgr).trans HST1.out.cells; obtain ⟨a0, a1, a2, a3, a4⟩ := head5 hd; have b0 := head5f hd 4); have HG := Lib.hid hg; have HGR := Lib.hid hgr; have HAT2 := Lib.hid hat; clear hg hgr hd hat)
  have hS := HST1.out.safes HGR.out HG.out HAT2.out
  obtain ⟨wb, hwa⟩ : ∃ wa, w3.setCell ⟨p, 4, none⟩ (.slice (some ⟨g2, 0, none⟩) (t.safe.length + 1) cap2) = wa := ⟨_, rfl⟩
  rw [hwa] at hS ⊢
  clear hwa HG HGR HAT2 a0 a1 a2 a3 a4 b0
  obtain ⟨T2, hst2, hk2, hs2⟩ := Sturn.join HK1.out HS1.out hS
  obtain ⟨_, _, _, x0, _⟩ := head5 hst2.cells
  have HST2 := Lib.hid hst2
  have HK2 := Lib.hid hk2
  have HS2 := Lib.hid hs2
  clear hst2 hk2 hs2 x1 hll
  go_wp2
  go_ret
  refine ⟨?_, T2, ⟨_, _, _, _, _, _, ?_, HST2.out⟩, HK2.out, HS2.out⟩
  · first | rfl | exact ret_int (by simp) | exact ret_int (by omega)
  · exact HRL.out
set_option maxRecDepth 100000 in
set_option maxHeartbeats 4000000 in
theorem lead_any (h : TrA w T p t) (hf : Fit t q) (hq2 : q ≤ 1099511627775) (n : Bs) {x : Option Nat} (hx : ∀ i, x = some i → i < t.data.length) {z : Int} (hz : leadZ x = z) :
    Calls Try.prog 94 #[.pointer (some ⟨p, 0, none⟩), encStr n, .int .i64 z] w fun y w' => y = .returned (.tuple #[]) ∧ TrT w w' T p (t.lead n x) := by
  have HH := Lib.hid h
  have HF := Lib.hid hf
  have HX := Lib.hid hx
  have HZ := Lib.hid hz
  obtain ⟨r, hr⟩ : ∃ r, t.lead n x = r := ⟨_, rfl⟩
  rw [hr]
  have HR := Lib.hid hr
  clear h hf hx hz hr
  go_enter Try.func94, Try.ntmps94
  go_upto_region 1 with (go_at_call 93; refine (place_any HH.out HF.out.small ⟨HF.out.len.1, HF.out.len.2.1⟩ (by omega) n).mono ?_; rintro y w1 ⟨rfl, h⟩; have H1 := Lib.hid h; clear h)
  have hfp := HF.out.place n
  have hat := HF.out.at_ n
  have hdp := (place_at HF.out.len.1 n).2.1
  have hx2 : ∀ i, x = some i → i < (t.place n).1.data.length := by rw [hdp]; exact HX.out
  have hr := HR.out
  unfold Tr.lead at hr
  obtain ⟨T1, hA, hk1, hs1⟩ := H1.out
  generalize t.place n = pl at hfp hat hA hx2 hr ⊢
  obtain ⟨u, q1⟩ := pl
  dsimp only at hfp hat hA hx2 hr
  have HK1 := Lib.hid hk1
  have HS1 := Lib.hid hs1
  subst hr
  clear hdp H1 hk1 hs1 HX HH HF HR
  obtain ⟨An, cn, Al, cl, Ae, ce, Ad, cd, As, cs, rs, hrl, hst⟩ := St.open hA
  obtain ⟨_, hl, _, _, _⟩ := hst.rows hrl
  obtain ⟨_, x1, _, _, _⟩ := head5 hst.cells
  obtain ⟨g, rfl⟩ := own_some hl (by have := hfp.len.1; omega)
  obtain ⟨b, hb⟩ : ∃ b, u.leads[q1]? = some b := ⟨_, List.getElem?_eq_getElem (by have := hfp.len.1; omega)⟩
  have e1 : w1.cell? ⟨g, q1, none⟩ = some (.int .i64 (leadZ b)) := own_cell hl (k := q1) (by have := hfp.len.1; omega) (by simp [hb])
  have f1 : w1.frozen? ⟨g, q1, none⟩ = false := hl.frozenAt q1
  have hlt : (q1 : Int) < (u.leads.length : Int) := by have := hfp.len.1; omega
  have HST := Lib.hid hst
  have HRL := Lib.hid hrl
  have HFP := Lib.hid hfp
  have HX2 := Lib.hid hx2
  have HAT := Lib.hid hat
  clear hst hl hrl hA hfp hb hx2
  go_upto_region 2 with (fail)
  have hS := Sturn.join HK1.out HS1.out (HST.out.leadSet q1 x)
  rw [HZ.out] at hS
  obtain ⟨wa, hwa⟩ : ∃ wa, w1.setCell ⟨g, q1, none⟩ (.int .i64 z) = wa := ⟨_, rfl⟩
  rw [hwa] at hS ⊢
  clear hwa x1 e1 f1
  obtain ⟨T2, hst2, hk2, hs2⟩ := hS
  have HST2 := Lib.hid hst2
  have HK2 := Lib.hid hk2
  have HS2 := Lib.hid hs2
  clear hst2 hk2 hs2 hlt
  cases x with
  | none =>
    have hz1 : z < 0 := by have := HZ.out; simp [leadZ] at this; omega
    clear HZ
    go_wp2
    go_end0
    refine ⟨rfl, T2, ⟨_, _, _, _, _, _, ?_, HST2.out⟩, HK2.out, HS2.out⟩
    exact HRL.out
  | some b =>
    obtain rfl : z = (b : Int) := HZ.out.symm
    clear HZ
    obtain ⟨_, _, he, _, _⟩ := HST2.out.rows HRL.out
    obtain ⟨ge, rfl⟩ := own_some he (by have := HFP.out.len.2.1; have := HAT.out; show 0 < u.led.length; omega)
    obtain ⟨l, hl⟩ : ∃ l, u.led[q1]? = some l := ⟨_, List.getElem?_eq_getElem (by have := HFP.out.len.2.1; have := HAT.out; omega)⟩
    obtain ⟨v, hv⟩ : ∃ v, rs[q1]? = some v := ⟨_, List.getElem?_eq_getElem (by have := HFP.out.len.2.1; have := HAT.out; have := HRL.out; omega)⟩
    obtain ⟨hi5, hrow⟩ := HST2.out.ledRow hv hl
    obtain ⟨Av, cv, rfl, _, _⟩ := own_form hrow
    have hcl := HST2.out.cells
    have hec : wa.cell? ⟨ge, q1, none⟩ = some (.slice Av l.length cv) := own_cell he (k := q1) (by have := HFP.out.len.2.1; have := HAT.out; show q1 < u.led.length; omega) hv
    have hls := HFP.out.small.led l (List.mem_of_getElem? hl)
    have hqe : (q1 : Int) < (u.led.length : Int) := by have := HFP.out.len.2.1; have := HAT.out; omega
    obtain ⟨i0, hi0, hz0, hz1, hz2⟩ := info_parts infoInt2
    have HE := Lib.hid he
    have HL := Lib.hid hl
    have HV := Lib.hid hv
    have HI5 := Lib.hid hi5
    have HROW := Lib.hid hrow
    have HCL := Lib.hid hcl
    have HEC := Lib.hid hec
    clear he hl hv hi5 hrow hcl hec
    go_upto_region 3 with (fail)
    refine wp_region_any (by kernel_rfl) ?_
    change wpAny _ _ _ _ _ _ _ (World.drew _)
    refine wpAny_of_P (S := fun w' => w'.heap[p]? = some (.cells #[.slice An u.names.length cn, .slice (some ⟨g, 0, none⟩) u.leads.length cl, .slice (some ⟨ge, 0, none⟩) u.led.length ce, .slice Ad u.data.length cd, .slice As u.safe.length cs] tTrace (0, 0)) ∧ w'.cell? ⟨ge, q1, none⟩ = some (.slice Av l.length cv)) (late := [16]) _ _ _ _ ?_
    refine takeT (i := 0) (v := ?_) rfl (by kernel_rfl) (by kernel_rfl) (by kernel_rfl) (by kernel_rfl) (fun _ _ _ h => h) (⟨HCL.out, HEC.out⟩) (.inl ⟨by rfl, fun w => .inl ?hy0⟩) ?_; case hy0 => (go_simp; try with_reducible rfl)
    try go_frame
    refine takeT (i := 1) (v := ?_) rfl (by kernel_rfl) (by kernel_rfl) (by kernel_rfl) (by kernel_rfl) (fun _ _ _ h => h) (⟨HCL.out, HEC.out⟩) (.inl ⟨by rfl, fun w => .inl ?hy1⟩) ?_; case hy1 => (go_simp; try with_reducible rfl)
    try go_frame
    refine takeT (i := 2) (v := ?_) rfl (by kernel_rfl) (by kernel_rfl) (by kernel_rfl) (by kernel_rfl) (fun _ _ _ h => h) (⟨HCL.out, HEC.out⟩) (.inl ⟨by rfl, fun w => .inl ?hy2⟩) ?_; case hy2 => (go_simp; try with_reducible rfl)
    try go_frame
    refine takePT 8 (i := 3) (v := ?_) rfl (by kernel_rfl) (by kernel_rfl) (by kernel_rfl) (by kernel_rfl) (by kernel_rfl) (by kernel_rfl) (fun _ _ _ h => h) (⟨HCL.out, HEC.out⟩) (.inl ⟨by rfl, fun w hw => .inl ?hy3⟩) ?_; case hy3 => (obtain ⟨hw1, hw2⟩ := hw; have y2 := (head5 hw1).2.2.1; clear hw1; go_simp; try with_reducible rfl)
    try go_frame
    refine takeT (i := 4) (v := ?_) rfl (by kernel_rfl) (by kernel_rfl) (by kernel_rfl) (by kernel_rfl) (fun _ _ _ h => h) (⟨HCL.out, HEC.out⟩) (.inl ⟨by rfl, fun w => .inl ?hy4⟩) ?_; case hy4 => (go_simp; try with_reducible rfl)
    try go_frame
    refine takeT (i := 5) (v := ?_) rfl (by kernel_rfl) (by kernel_rfl) (by kernel_rfl) (by kernel_rfl) (fun _ _ _ h => h) (⟨HCL.out, HEC.out⟩) (.inl ⟨by rfl, fun w => .inl ?hy5⟩) ?_; case hy5 => (go_simp; try with_reducible rfl)
    try go_frame
    refine takeT (i := 6) (v := ?_) rfl (by kernel_rfl) (by kernel_rfl) (by kernel_rfl) (by kernel_rfl) (fun _ _ _ h => h) (⟨HCL.out, HEC.out⟩) (.inl ⟨by rfl, fun w => .inl ?hy6⟩) ?_; case hy6 => (go_simp; try with_reducible rfl)
    try go_frame
    refine takeT (i := 7) (v := ?_) rfl (by kernel_rfl) (by kernel_rfl) (by kernel_rfl) (by kernel_rfl) (fun _ _ _ h => h) (⟨HCL.out, HEC.out⟩) (.inl ⟨by rfl, fun w => .inl ?hy7⟩) ?_; case hy7 => (go_simp; try with_reducible rfl)
    try go_frame
    refine takePT 8 (i := 8) (v := ?_) rfl (by kernel_rfl) (by kernel_rfl) (by kernel_rfl) (by kernel_rfl) (by kernel_rfl) (by kernel_rfl) (fun _ _ _ h => h) (⟨HCL.out, HEC.out⟩) (.inl ⟨by rfl, fun w hw => .inl ?hy8⟩) ?_; case hy8 => (obtain ⟨hw1, hw2⟩ := hw; have y2 := (head5 hw1).2.2.1; clear hw1; go_simp; try with_reducible rfl)
    try go_frame
    refine takeT (i := 9) (v := ?_) rfl (by kernel_rfl) (by kernel_rfl) (by kernel_rfl) (by kernel_rfl) (fun _ _ _ h => h) (⟨HCL.out, HEC.out⟩) (.inl ⟨by rfl, fun w => .inl ?hy9⟩) ?_; case hy9 => (go_simp; try with_reducible rfl)
    try go_frame
    refine takeT (i := 10) (v := ?_) rfl (by kernel_rfl) (by kernel_rfl) (by kernel_rfl) (by kernel_rfl) (fun _ _ _ h => h) (⟨HCL.out, HEC.out⟩) (.inl ⟨by rfl, fun w => .inl ?hy10⟩) ?_; case hy10 => (go_simp; try with_reducible rfl)
    try go_frame
    refine takePT 8 (i := 11) (v := ?_) rfl (by kernel_rfl) (by kernel_rfl) (by kernel_rfl) (by kernel_rfl) (by kernel_rfl) (by kernel_rfl) (fun _ _ _ h => h) (⟨HCL.out, HEC.out⟩) (.inl ⟨by rfl, fun w hw => .inl ?hy11⟩) ?_; case hy11 => (obtain ⟨hw1, hw2⟩ := hw; have y2 := (head5 hw1).2.2.1; clear hw1; go_simp; try with_reducible rfl)
    try go_frame
    refine takeT (i := 12) (v := ?_) rfl (by kernel_rfl) (by kernel_rfl) (by kernel_rfl) (by kernel_rfl) (fun _ _ _ h => h) (⟨HCL.out, HEC.out⟩) (.inl ⟨by rfl, fun w => .inl ?hy12⟩) ?_; case hy12 => (go_simp; try with_reducible rfl)
    try go_frame
    refine forcedP (i := 13) rfl rfl (by kernel_rfl) (fun K hK => ?_)
    go_simp
    refine hK _ _ (⟨(heap_alloc_old _ _ (HST2.out.low p HST2.out.inP)).trans HCL.out, (own_cell (own_alloc HE.out _) (k := q1) (by have := HFP.out.len.2.1; have := HAT.out; show q1 < u.led.length; omega) HV.out)⟩) ?_; clear hK K
    try go_frame
    refine forcedP (i := 14) rfl rfl (by kernel_rfl) (fun K hK => ?_)
    refine wp_append_keeps _ (.tmp 30) (.tmp 32) 27 rfl 0 tIntE i0 (.int .i64 0) 1 8 Try.underlying27 hi0 hz0 hz1 hz2 rfl (by decide) (.slice Av l.length cv) l.length (cNat l) rfl (own_alloc HROW.out _) ⟨wa.heap.size, 0, none⟩ 1 1 [.int .i64 (b : Int)] rfl rfl (cell_one_new _ _ _) (by simp [Value.oneCell']) (by omega) (by unfold maxLen; omega) (by omega) (Nat.zero_le _) ?_
    intro g2 cap2 w3 hg hgr hat2 hlt2 _
    have hgw := grown_after ((Below.refl wa.heap.size wa).alloc (Nat.le_refl _) (.cells #[.int .i64 (b : Int)] tIntE)).drew hgr
    have hd3 := (hgw.block p (HST2.out.low p HST2.out.inP) (fun e => HST2.out.not_p HI5.out e.symm)).trans HCL.out
    have hne : some ge ≠ (Value.slice Av l.length cv).ownBlock := fun e => (by have := HST2.out.pcs.own 2 (5 + q1) _ _ ge rfl HI5.out rfl e.symm; omega)
    have hgl : ge < wa.heap.size := HST2.out.low ge (HST2.out.pcs.in_ 2 _ ge rfl rfl)
    have he3 : w3.cell? ⟨ge, q1, none⟩ = some (.slice Av l.length cv) := (World.cell?_of_block (a := ⟨ge, q1, none⟩) (hgw.block ge hgl hne)).trans HEC.out
    have fe3 : w3.frozen? ⟨ge, q1, none⟩ = false := (World.frozen?_of_block (a := ⟨ge, q1, none⟩) (hgw.block ge hgl hne)).trans (HE.out.frozenAt q1)
    go_simp
    refine hK _ _ (⟨hd3, he3⟩) ?_; clear hK K
    try go_frame
    refine takeT (i := 15) (v := ?_) rfl (by kernel_rfl) (by kernel_rfl) (by kernel_rfl) (by kernel_rfl) (fun _ _ _ h => h) (⟨hd3, he3⟩) (.inl ⟨by rfl, fun w => .inl ?hy15⟩) ?_; case hy15 => (go_simp; try with_reducible rfl)
    try go_frame
    refine lateP (i := 16) rfl rfl (by kernel_rfl) (by kernel_rfl) (fun K hK => ?_)
    go_simp
    refine hK _ _ ?_; clear hK K
    try go_frame
    refine wpAny_done (by kernel_rfl) ?_ _
    have hS := HST2.out.ledSet (v' := .slice (some ⟨g2, 0, none⟩) (l.length + 1) cap2) (l' := l ++ [b]) HV.out HL.out hgw (by simpa using hg) (fun k hk => (by
      obtain rfl : g2 = k := by simpa [Value.ownBlock] using hk
      rcases hat2 with h | h
      · exact .inl h
      · exact .inr (by rw [h]; show wa.heap.size ≤ (wa.alloc _).heap.size; simp)))
    obtain ⟨T3, hst3, hk3, hs3⟩ := Sturn.join HK2.out HS2.out hS
    have HST3 := Lib.hid hst3
    have HK3 := Lib.hid hk3
    have HS3 := Lib.hid hs3
    have HLL := HL.out
    clear hS hst3 hk3 hs3
    go_end0
    refine ⟨rfl, T3, ?_, HK3.out, HS3.out⟩
    have em : u.led.modify q1 (· ++ [b]) = u.led.set q1 (l ++ [b]) := modify_set HLL
    unfold Tr.leadAt
    dsimp only
    rw [em]
    exact ⟨_, _, _, _, _, _, by have := HRL.out; simp; omega, HST3.out⟩
end
end Go.Proofs.Ytelgcmcnebncmaa.Dr
