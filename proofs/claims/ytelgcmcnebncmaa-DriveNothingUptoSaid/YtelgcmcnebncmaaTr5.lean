/- The law's own trace: has. -/
import Derived.Test.YtelgcmcnebncmaaTr4
namespace Go.Proofs.Ytelgcmcnebncmaa.Dr
open Go.RowKit Go.Proofs Go.Proofs.Ytelgcmcnebncmaa.Ring

theorem cut_text (X : Bs) (n : Nat) : ((⟨X.toArray⟩ : ByteArray).extract 0 n).toList = X.take n := by
  rw [ByteArray.toList_eq, ByteArray.data_extract]
  simp
section
variable {w : World} {T S : Nat → Prop} {p q d m N : Nat} {t : Tr} {D : Dr.D}
set_option maxRecDepth 100000 in
set_option maxHeartbeats 8000000 in
theorem has_any (h : TrA w T p t) (hf : Fit t q) (hq2 : q ≤ 1099511627775) {n x : Bs} (hh : t.has n x) :
    Calls Try.prog 36 #[.pointer (some ⟨p, 0, none⟩), encStr n, encStr x] w fun y w' => y = .returned (.bool true) ∧ TrT w w' T p t := by
  obtain ⟨i, b, hat, hb, hb1, hb2⟩ := hh
  have hpl : t.place n = (t, i) := by unfold Tr.place; rw [hat]
  have hin := (List.getElem?_eq_some_iff.1 ((place_at hf.len.1 n).1)).1
  rw [hpl] at hin
  dsimp only at hin
  have HH := Lib.hid h
  have HF := Lib.hid hf
  have HPL := Lib.hid hpl
  have HB := Lib.hid hb
  have HB1 := Lib.hid hb1
  have HB2 := Lib.hid hb2
  have HIN := Lib.hid hin
  clear h hf hpl hat hb hb1 hb2 hin
  go_enter Try.func36, Try.ntmps36
  go_upto_region 2 with (go_at_call 93; refine (place_any HH.out HF.out.small ⟨HF.out.len.1, HF.out.len.2.1⟩ (by omega) n).mono ?_; rw [HPL.out]; rintro y w1 ⟨rfl, h⟩; have H1 := Lib.hid h; clear h)
  obtain ⟨T1, hA, hk1, hs1⟩ := H1.out
  obtain ⟨An, cn, Al, cl, Ae, ce, Ad, cd, As, cs, rs, hrl, hst⟩ := St.open hA
  obtain ⟨_, _, he, hd, hs⟩ := hst.rows hrl
  obtain ⟨_, _, x2, x3, x4⟩ := head5 hst.cells
  have hil : i < t.led.length := by have := HIN.out; have := HF.out.len.2.1; omega
  obtain ⟨ge, rfl⟩ := own_some he (by omega)
  obtain ⟨l, hl⟩ : ∃ l, t.led[i]? = some l := ⟨_, List.getElem?_eq_getElem hil⟩
  obtain ⟨v, hv⟩ : ∃ v, rs[i]? = some v := ⟨_, List.getElem?_eq_getElem (by omega)⟩
  obtain ⟨_, hrow⟩ := hst.ledRow hv hl
  obtain ⟨Av, cv, rfl, _, _⟩ := own_form hrow
  have e2 : w1.cell? ⟨ge, i, none⟩ = some (.slice Av l.length cv) := own_cell he (k := i) hil hv
  have hil2 : (i : Int) < (t.led.length : Int) := by omega
  have hbl : b ∈ l := by have := HB.out; rw [List.getD_eq_getElem?_getD, hl] at this; exact this
  have hls : l.length ≤ q := HF.out.small.led l (List.mem_of_getElem? hl)
  have hin2 : ∀ c ∈ l, c < t.data.length := fun c hc => HF.out.ledIn i l c hl hc
  have HA := Lib.hid hA
  have HK1 := Lib.hid hk1
  have HS1 := Lib.hid hs1
  have HROW := Lib.hid hrow
  have HD := Lib.hid hd
  have HSF := Lib.hid hs
  have HBL := Lib.hid hbl
  have HI2 := Lib.hid hin2
  clear hA hk1 hs1 hrow hd hs hbl hin2 H1 hst hrl he hl hv HB HH HPL HIN hil
  go_upto_region 3 with (fail)
  go_loopw [8] (fun iv wr => ∃ k : Nat, iv = .int .i64 (k : Int) ∧ w1 = wr ∧ k ≤ l.length ∧ ∀ (j : Nat) c, j < k → l[j]? = some c → ¬ (t.safe.getD c 0 ≤ x.length ∧ x <+: t.data.getD c [])) (fun iv _ => l.length - (intOf iv).toNat)
  case atStart => exact ⟨0, rfl, rfl, by omega, fun j c hj => by omega⟩
  case round =>
    obtain ⟨k, rfl, rfl, hk, hno⟩ := hrel
    by_cases hlt : k < l.length
    · obtain ⟨gv, rfl⟩ := own_some HROW.out (by omega)
      obtain ⟨c, hc⟩ : ∃ c, l[k]? = some c := ⟨_, List.getElem?_eq_getElem hlt⟩
      have hcl := HI2.out c (List.mem_of_getElem? hc)
      obtain ⟨gd, rfl⟩ := own_some HD.out (by omega)
      obtain ⟨gs, rfl⟩ := own_some HSF.out (by have := HF.out.len.2.2; omega)
      obtain ⟨X, hX⟩ : ∃ X, t.data[c]? = some X := ⟨_, List.getElem?_eq_getElem hcl⟩
      obtain ⟨Y, hY⟩ : ∃ Y, t.safe[c]? = some Y := ⟨_, List.getElem?_eq_getElem (by have := HF.out.len.2.2; omega)⟩
      have e3 : w1.cell? ⟨gv, k, none⟩ = some (.int .i64 (c : Int)) := own_cell HROW.out (k := k) hlt (by simp [hc])
      have e4 : w1.cell? ⟨gs, c, none⟩ = some (.int .i64 (Y : Int)) := own_cell HSF.out (k := c) (by have := HF.out.len.2.2; omega) (by simp [hY])
      have e5 : w1.cell? ⟨gd, c, none⟩ = some (encStr X) := own_cell HD.out (k := c) hcl (by simp [hX])
      have hlt2 : (k : Int) < (l.length : Int) := by omega
      have hcl2 : (c : Int) < (t.data.length : Int) := by omega
      have hcl3 : (c : Int) < (t.safe.length : Int) := by have := HF.out.len.2.2; omega
      have hgood : (t.safe.getD c 0 ≤ x.length ∧ x <+: t.data.getD c []) ↔ (Y ≤ x.length ∧ x <+: X) := by
        rw [List.getD_eq_getElem?_getD, List.getD_eq_getElem?_getD, hX, hY]; rfl
      have HG := Lib.hid hgood
      have HC := Lib.hid hc
      have HNO := Lib.hid hno
      clear hgood hc hno hX hY
      have bad : ¬ (Y ≤ x.length ∧ x <+: X) → ∀ (j : Nat) c', j < k + 1 → l[j]? = some c' → ¬ (t.safe.getD c' 0 ≤ x.length ∧ x <+: t.data.getD c' []) := by
        intro hb j c' hj hjc
        rcases Nat.lt_or_ge j k with h1 | h1
        · exact HNO.out j c' h1 hjc
        · obtain rfl : j = k := by omega
          rw [HC.out] at hjc
          injection hjc with hjc
          subst hjc
          rw [HG.out]; exact hb
      have BAD := Lib.hid bad
      clear bad
      by_cases hY1 : Y ≤ x.length
      · have hY2 : (Y : Int) ≤ (x.length : Int) := by omega
        by_cases hX1 : x.length ≤ X.length
        · have hX2 : (x.length : Int) ≤ (X.length : Int) := by omega
          have ec := cut_text X x.length
          by_cases hpre : X.take x.length = x
          · have et : (((⟨X.toArray⟩ : ByteArray).extract 0 x.length).toList == x) = true := by rw [ec, hpre]; simp
            clear ec hpre
            go_wp2
            go_ret
            exact ⟨rfl, T1, HA.out, HK1.out, HS1.out⟩
          · have et : (((⟨X.toArray⟩ : ByteArray).extract 0 x.length).toList == x) = false := by rw [ec]; simpa using hpre
            have hb := BAD.out fun h => hpre (by rw [List.prefix_iff_eq_take] at h; exact h.2.symm)
            have HBD := Lib.hid hb
            clear ec hpre hb
            go_wp2
            go_roundw
            case rel => exact ⟨k + 1, by go_num, trivial, by omega, HBD.out⟩
            case measure => simp [intOf]; omega
        · have hX2 : ¬ (x.length : Int) ≤ (X.length : Int) := by omega
          have hb := BAD.out fun h => hX1 h.2.length_le
          have HBD := Lib.hid hb
          clear hb
          go_wp2
          go_roundw
          case rel => exact ⟨k + 1, by go_num, trivial, by omega, HBD.out⟩
          case measure => simp [intOf]; omega
      · have hY2 : ¬ (Y : Int) ≤ (x.length : Int) := by omega
        have hb := BAD.out fun h => hY1 h.1
        have HBD := Lib.hid hb
        clear hb
        go_wp2
        go_roundw
        case rel => exact ⟨k + 1, by go_num, trivial, by omega, HBD.out⟩
        case measure => simp [intOf]; omega
    · obtain rfl : k = l.length := by omega
      obtain ⟨j, hj, hjb⟩ := List.getElem_of_mem HBL.out
      exact absurd ⟨HB1.out, HB2.out⟩ (hno j b hj (by rw [List.getElem?_eq_getElem hj, hjb]))
end
end Go.Proofs.Ytelgcmcnebncmaa.Dr
