/- The law's own trace: see. -/
import Derived.Test.YtelgcmcnebncmaaTr3
namespace Go.Proofs.Ytelgcmcnebncmaa.Dr
open Go.RowKit Go.Proofs Go.Proofs.Ytelgcmcnebncmaa.Ring

def Tr.seenTo (t : Tr) (D : Dr.D) (i : Nat) : Tr := { t with data := t.seen D i }
section
variable {w : World} {T S : Nat → Prop} {p q d m N : Nat} {t : Tr} {D : Dr.D}
set_option maxRecDepth 100000 in
set_option maxHeartbeats 8000000 in
theorem see_any (h : TrA w T p t) (hf : Fit t q) (hq2 : q ≤ 1099511627775) (hD : Dv w S d D m N) (hm : m ≤ 140737488355328) (hST : ∀ k, S k → ¬ T k)
    (hlook : ∀ (k : Nat) n, t.names[k]? = some n → (t.leads[k]? = some none → ∃ e, D.look n = .error e ∧ e ≠ 0) ∧ ∀ i, t.leads[k]? = some (some i) → ∃ j, D.look n = .ok j ∧ i < t.data.length) :
    Calls Try.prog 38 #[.pointer (some ⟨p, 0, none⟩), .pointer (some ⟨d, 0, none⟩)] w fun y w' => y = .returned (.bool true) ∧ TrT w w' T p (t.see D) := by
  obtain ⟨l1, l2, _⟩ := hf.len
  have hsm := hf.small.names
  have HH := Lib.hid h
  have HF := Lib.hid hf
  have HL1 := Lib.hid l1
  have HL2 := Lib.hid l2
  have HD := Lib.hid hD
  have HST := Lib.hid hST
  have HLK := Lib.hid hlook
  have HM := Lib.hid hm
  clear h hf l1 l2 hD hST hlook hm
  go_enter Try.func38, Try.ntmps38
  go_upto_region 2 with (fail)
  go_loopw [5] (fun iv wr => ∃ i : Nat, iv = .int .i64 (i : Int) ∧ i ≤ t.names.length ∧ TrT w wr T p (t.seenTo D i)) (fun iv _ => t.names.length - (intOf iv).toNat)
  case atStart => exact ⟨0, rfl, by omega, by exact HH.out.refl⟩
  case round =>
    obtain ⟨i, rfl, hi, T1, hA, hk1, hs1⟩ := hrel
    have hdl : (t.seenTo D i).data.length = t.data.length := seen_len i
    obtain ⟨An, cn, Al, cl, Ae, ce, Ad, cd, As, cs, rs, hrl, hst⟩ := St.open hA
    obtain ⟨hn, hl, _, hd, _⟩ := hst.rows hrl
    obtain ⟨x0, x1, _, x3, _⟩ := head5 hst.cells
    rw [show (t.seenTo D i).names.length = t.names.length from rfl] at x0
    rw [show (t.seenTo D i).leads.length = t.names.length from HL1.out] at x1
    rw [hdl] at x3
    by_cases hlt : i < t.names.length
    · obtain ⟨gn, rfl⟩ := own_some hn (by show 0 < t.names.length; omega)
      obtain ⟨gl, rfl⟩ := own_some hl (by show 0 < t.leads.length; have := HL1.out; omega)
      obtain ⟨n, hnn⟩ : ∃ n, t.names[i]? = some n := ⟨_, List.getElem?_eq_getElem hlt⟩
      obtain ⟨b, hb⟩ : ∃ b, t.leads[i]? = some b := ⟨_, List.getElem?_eq_getElem (by have := HL1.out; omega)⟩
      have e0 : wr.cell? ⟨gn, i, none⟩ = some (encStr n) := own_cell hn (k := i) hlt (by show (cStr t.names)[i]? = _; simp [hnn])
      have e1 : wr.cell? ⟨gl, i, none⟩ = some (.int .i64 (leadZ b)) := own_cell hl (k := i) (by show i < t.leads.length; have := HL1.out; omega) (by show (cLead t.leads)[i]? = _; simp [hb])
      have hlt2 : (i : Int) < (t.names.length : Int) := by omega
      have hDr : Dv wr S d D m N := HD.out.kept hk1 fun k hs => HST.out k hs
      obtain ⟨g1, g2⟩ := HLK.out i n hnn
      have hnx := seen_next (t := t) (d := D) hnn hb
      have HNX := Lib.hid hnx
      have HDR := Lib.hid hDr
      have HA := Lib.hid hA
      have HK1 := Lib.hid hk1
      have HS1 := Lib.hid hs1
      have HSM := Lib.hid hst
      have HRL := Lib.hid hrl
      have HDD := Lib.hid hd
      have HDL := Lib.hid hdl
      cases b with
      | none =>
        obtain ⟨e, he, hne⟩ := g1 hb
        obtain ⟨z, hz⟩ : ∃ z, leadZ none = z := ⟨_, rfl⟩
        rw [hz] at e1
        have hz1 : z < 0 := by rw [← hz]; decide
        have HE := Lib.hid he
        have E1 := Lib.hid e1
        have X1 := Lib.hid x1
        have HGL := Lib.hid (show gl < wr.heap.size from hst.low gl (hst.pcs.in_ 1 _ gl rfl rfl))
        have HPL := Lib.hid (show p < wr.heap.size from hst.low p hst.inP)
        clear hnn hb hDr g1 g2 hnx hA hk1 hs1 hst hrl hd hdl hz he hl hn
        go_upto_region 5 with (go_at_call 77; refine (read_no HDR.out HM.out HE.out).mono ?_; rintro y w2 ⟨hb2, rfl⟩; have HB2 := Lib.hid hb2; clear hb2)
        have y1 : w2.cell? ⟨p, 1, none⟩ = some (.slice (some ⟨gl, 0, none⟩) t.names.length cl) := (HB2.out.cell (p := ⟨p, 1, none⟩) HPL.out).trans X1.out
        have y2 : w2.cell? ⟨gl, i, none⟩ = some (.int .i64 z) := (HB2.out.cell (p := ⟨gl, i, none⟩) HGL.out).trans E1.out
        go_wp2_with (go_at_call 18; refine (num_any e _).mono ?_; rintro y w3 ⟨rfl, rfl⟩)
        go_roundw
        case rel =>
          refine ⟨i + 1, by go_num, by omega, T1, ?_, HK1.out.below HB2.out, HS1.out⟩
          have hA := HA.out.below HB2.out
          unfold Tr.seenTo at hA ⊢
          rw [HNX.out]
          exact hA
        case measure => simp [intOf]; omega
      | some j =>
        obtain ⟨k, hlk, hjl⟩ := g2 j hb
        change wr.cell? ⟨gl, i, none⟩ = some (.int .i64 (j : Int)) at e1
        obtain ⟨gd, rfl⟩ := own_some hd (by rw [hdl]; omega)
        rw [hdl] at hd
        obtain ⟨X, hX⟩ : ∃ X, (t.seenTo D i).data[j]? = some X := ⟨_, List.getElem?_eq_getElem (by rw [hdl]; exact hjl)⟩
        have HLKK := Lib.hid hlk
        have E1 := Lib.hid e1
        have X1 := Lib.hid x1
        have X3 := Lib.hid x3
        have HHD := Lib.hid hd
        have HX := Lib.hid hX
        have HGL := Lib.hid (show gl < wr.heap.size from hst.low gl (hst.pcs.in_ 1 _ gl rfl rfl))
        have HGD := Lib.hid (show gd < wr.heap.size from hst.low gd (hst.pcs.in_ 3 _ gd rfl rfl))
        have HPL := Lib.hid (show p < wr.heap.size from hst.low p hst.inP)
        have hj2 : (j : Int) < (t.data.length : Int) := by omega
        clear hnn hb hDr g1 g2 hnx hA hk1 hs1 hst hrl hd hdl hlk hl hn hX HDD
        go_upto_region 5 with (go_at_call 77; refine (read_ok HDR.out HM.out HLKK.out).mono ?_; rintro y w2 ⟨hb2, A, c, rfl, ho⟩; have HB2 := Lib.hid hb2; have HO := Lib.hid ho; clear hb2 ho)
        have y1 : w2.cell? ⟨p, 1, none⟩ = some (.slice (some ⟨gl, 0, none⟩) t.names.length cl) := (HB2.out.cell (p := ⟨p, 1, none⟩) HPL.out).trans X1.out
        have y2 : w2.cell? ⟨gl, i, none⟩ = some (.int .i64 (j : Int)) := (HB2.out.cell (p := ⟨gl, i, none⟩) HGL.out).trans E1.out
        have y3 : w2.cell? ⟨p, 3, none⟩ = some (.slice (some ⟨gd, 0, none⟩) t.data.length cd) := (HB2.out.cell (p := ⟨p, 3, none⟩) HPL.out).trans X3.out
        have y4 : w2.cell? ⟨gd, j, none⟩ = some (encStr X) := (HB2.out.cell (p := ⟨gd, j, none⟩) HGD.out).trans (own_cell HHD.out (k := j) hjl (by simp [HX.out]))
        have y5 : w2.frozen? ⟨gd, j, none⟩ = false := (World.frozen?_of_block (a := ⟨gd, j, none⟩) (HB2.out.block gd HGD.out)).trans (HHD.out.frozenAt j)
        go_upto_region 10 with (go_at_call 18; refine (num_any 0 _).mono ?_; rintro y w3 ⟨rfl, rfl⟩)
        have t1 := run_text (P := Try.prog) w2.drew 35 9 5 Try.underlying35 Try.underlying5 Try.underlying9 c (Rd.of_own HO.out).drew
        go_region
        have hS := (HSM.out.turned.below HB2.out).then fun T' h => h.dataSet j (D.at k).data
        have hS2 := hS.below (w2 := (w2.setCell ⟨gd, j, none⟩ (.string ⟨(D.at k).data.toArray⟩)).drew) (Below.refl _ _).drew
        obtain ⟨T2, hst2, hk2, hs2⟩ := Sturn.join HK1.out HS1.out hS2
        have HST2 := Lib.hid hst2
        have HK2 := Lib.hid hk2
        have HS2 := Lib.hid hs2
        clear hS hS2 hst2 hk2 hs2 t1 y1 y2 y3 y4 y5
        go_wp2
        go_roundw
        case rel =>
          refine ⟨i + 1, by go_num, by omega, T2, ?_, HK2.out, HS2.out⟩
          unfold Tr.seenTo
          rw [HNX.out]
          unfold seeOne
          dsimp only
          rw [HLKK.out]
          exact ⟨_, _, _, _, _, _, HRL.out, HST2.out⟩
        case measure => simp [intOf]; omega
    · obtain rfl : i = t.names.length := by omega
      have HA := Lib.hid hA
      have HK1 := Lib.hid hk1
      have HS1 := Lib.hid hs1
      clear hA hk1 hs1 hst hd hl hn hdl
      go_wp2
      go_ret
      exact ⟨rfl, T1, HA.out, HK1.out, HS1.out⟩
end
end Go.Proofs.Ytelgcmcnebncmaa.Dr
