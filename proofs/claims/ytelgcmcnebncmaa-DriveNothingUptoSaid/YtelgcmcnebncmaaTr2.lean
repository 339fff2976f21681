/- The law's own trace: fresh. -/
import Derived.Test.YtelgcmcnebncmaaTr1
namespace Go.Proofs.Ytelgcmcnebncmaa.Dr
open Go.RowKit Go.Proofs Go.Proofs.Ytelgcmcnebncmaa.Ring

def Tr.freshTo (t : Tr) (i : Nat) : Tr := { t with led := (t.leads.take i).map (fun b => b.toList) ++ t.led.drop i }
section
variable {t : Tr} {i : Nat}
theorem freshTo_zero : t.freshTo 0 = t := by simp [Tr.freshTo]
theorem freshTo_all (h : t.leads.length = t.names.length) (h2 : t.led.length = t.names.length) : t.freshTo t.names.length = t.fresh := by
  unfold Tr.freshTo Tr.fresh
  rw [List.take_of_length_le (by omega), List.drop_of_length_le (by omega), List.append_nil]
theorem freshTo_len (h : t.leads.length = t.names.length) (h2 : t.led.length = t.names.length) (hi : i ≤ t.names.length) : (t.freshTo i).led.length = t.names.length := by
  simp [Tr.freshTo]; omega
theorem freshTo_next (h : t.leads.length = t.names.length) (h2 : t.led.length = t.names.length) {b : Option Nat} (hb : t.leads[i]? = some b) : { t.freshTo i with led := (t.freshTo i).led.set i b.toList } = t.freshTo (i + 1) := by
  have hi : i < t.leads.length := (List.getElem?_eq_some_iff.1 hb).1
  have hl : ((t.leads.take i).map (fun b => b.toList)).length = i := by simp; omega
  unfold Tr.freshTo
  dsimp only
  congr 1
  rw [List.take_add_one, hb]
  have hd : t.led.drop i = t.led[i]'(by omega) :: t.led.drop (i + 1) := List.drop_eq_getElem_cons (by omega)
  rw [hd, List.set_append_right _ _ (by omega), hl, Nat.sub_self, List.set_cons_zero]
  simp
end
section
variable {w : World} {T : Nat → Prop} {p q : Nat} {t : Tr}
set_option maxRecDepth 100000 in
set_option maxHeartbeats 4000000 in
theorem fresh_any (h : TrA w T p t) (hf : Fit t q) (hq2 : q ≤ 1099511627775) : Calls Try.prog 95 #[.pointer (some ⟨p, 0, none⟩)] w fun y w' => y = .returned (.tuple #[]) ∧ TrT w w' T p t.fresh := by
  obtain ⟨l1, l2, _⟩ := hf.len
  obtain ⟨r, hr⟩ : ∃ r, t.fresh = r := ⟨_, rfl⟩
  rw [hr]
  have HR := Lib.hid hr
  have HH := Lib.hid h
  have HF := Lib.hid hf
  have HL1 := Lib.hid l1
  have HL2 := Lib.hid l2
  have hsm := hf.small.names
  clear h hf l1 l2 hr
  go_enter Try.func95, Try.ntmps95
  go_upto_region 1 with (fail)
  go_loopw [2] (fun iv wr => ∃ i : Nat, iv = .int .i64 (i : Int) ∧ i ≤ t.names.length ∧ TrT w wr T p (t.freshTo i)) (fun iv _ => t.names.length - (intOf iv).toNat)
  case atStart => exact ⟨0, rfl, by omega, by rw [freshTo_zero]; exact HH.out.refl⟩
  case round =>
    obtain ⟨i, rfl, hi, T1, hA, hk1, hs1⟩ := hrel
    have hul : (t.freshTo i).leads = t.leads := rfl
    have hue := freshTo_len HL1.out HL2.out hi
    have hun : (t.freshTo i).names = t.names := rfl
    obtain ⟨An, cn, Al, cl, Ae, ce, Ad, cd, As, cs, rs, hrl, hst⟩ := St.open hA
    obtain ⟨_, hl, he, _, _⟩ := hst.rows hrl
    obtain ⟨x0, x1, x2, _, _⟩ := head5 hst.cells
    rw [hun] at x0
    rw [hul, HL1.out] at x1
    rw [hue] at x2
    by_cases hlt : i < t.names.length
    · obtain ⟨ge, rfl⟩ := own_some he (by omega)
      obtain ⟨gl, rfl⟩ := own_some hl (by rw [hul, HL1.out]; omega)
      obtain ⟨b, hb⟩ : ∃ b, t.leads[i]? = some b := ⟨_, List.getElem?_eq_getElem (by have := HL1.out; omega)⟩
      obtain ⟨l0, hl0⟩ : ∃ l0, (t.freshTo i).led[i]? = some l0 := ⟨_, List.getElem?_eq_getElem (by omega)⟩
      obtain ⟨v0, hv0⟩ : ∃ v0, rs[i]? = some v0 := ⟨_, List.getElem?_eq_getElem (by omega)⟩
      have e1 : wr.cell? ⟨ge, i, none⟩ = some v0 := own_cell he (k := i) (by omega) hv0
      have f1 : wr.frozen? ⟨ge, i, none⟩ = false := he.frozenAt i
      have hlt2 : (i : Int) < (t.names.length : Int) := by omega
      have hS := hst.ledSet (w3 := wr) (v' := .slice none 0 0) (l' := []) hv0 hl0 (World.grownBy.refl _ _) (World.ownsRow_nil _ _ _ _) (fun g hg => by cases hg)
      have HS := Lib.hid hS
      have HB := Lib.hid hb
      have HL0 := Lib.hid hl0
      have HV0 := Lib.hid hv0
      have HK1 := Lib.hid hk1
      have HS1 := Lib.hid hs1
      have HRL := Lib.hid hrl
      have HUE := Lib.hid hue
      clear hst hl he hb hl0 hv0 hA hk1 hs1 hS hrl hun hul hue
      go_upto_region 4 with (fail)
      obtain ⟨wa, hwa⟩ : ∃ wa, wr.setCell ⟨ge, i, none⟩ (.slice none 0 0) = wa := ⟨_, rfl⟩
      have hS := HS.out
      rw [hwa] at hS ⊢
      clear hwa x0 x1 x2 e1 f1 HS
      obtain ⟨T2, hst2, hk2, hs2⟩ := Sturn.join HK1.out HS1.out hS
      have hrl2 : (rs.set i (.slice none 0 0)).length = ((t.freshTo i).led.set i []).length := by have := HRL.out; simp; omega
      obtain ⟨_, hl2, he2, _, _⟩ := hst2.rows hrl2
      dsimp only at he2
      rw [List.length_set] at he2
      obtain ⟨x0, x1, x2, _, _⟩ := head5 hst2.cells
      rw [show (t.freshTo i).names.length = t.names.length from rfl] at x0
      rw [show (t.freshTo i).leads.length = t.names.length from HL1.out] at x1
      rw [HUE.out] at x2
      have e1 : wa.cell? ⟨gl, i, none⟩ = some (.int .i64 (leadZ b)) := own_cell hl2 (k := i) (by show i < t.leads.length; have := HL1.out; omega) (by show (cLead t.leads)[i]? = _; simp [HB.out])
      cases b with
      | none =>
        obtain ⟨z, hz⟩ : ∃ z, leadZ none = z := ⟨_, rfl⟩
        rw [hz] at e1
        have hz1 : z < 0 := by rw [← hz]; decide
        have HST2 := Lib.hid hst2
        have HK2 := Lib.hid hk2
        have HS2 := Lib.hid hs2
        have HRL2 := Lib.hid hrl2
        clear hst2 hk2 hs2 hS hz hrl2 hl2 he2
        go_wp2
        go_roundw
        case rel =>
          refine ⟨i + 1, by go_num, by omega, T2, ?_, HK2.out, HS2.out⟩
          rw [← freshTo_next HL1.out HL2.out HB.out]
          exact ⟨_, _, _, _, _, _, HRL2.out, HST2.out⟩
        case measure => simp [intOf]; omega
      | some x =>
        have e2 : wa.cell? ⟨ge, i, none⟩ = some (.slice none 0 0) := own_cell he2 (k := i) (by rw [HUE.out]; exact hlt) (by have h1 := HRL.out; have h2 := HUE.out; show (rs.set i (Value.slice none 0 0))[i]? = _; exact List.getElem?_set_self (by omega))
        have f2 : wa.frozen? ⟨ge, i, none⟩ = false := he2.frozenAt i
        change wa.cell? ⟨gl, i, none⟩ = some (.int .i64 (x : Int)) at e1
        have hgs : ge < wa.heap.size := hst2.low ge (hst2.pcs.in_ 2 _ ge rfl rfl)
        have hps : p < wa.heap.size := hst2.low p hst2.inP
        have e3 : (wa.alloc (.cells #[.int .i64 (x : Int)] tIntE)).cell? ⟨ge, i, none⟩ = some (.slice none 0 0) := (World.cell?_alloc_lt wa _ _ hgs).trans e2
        have f3 : (wa.alloc (.cells #[.int .i64 (x : Int)] tIntE)).frozen? ⟨ge, i, none⟩ = false := (World.frozen?_of_block (a := ⟨ge, i, none⟩) (heap_alloc_old _ _ hgs)).trans f2
        have e4 : (wa.alloc (.cells #[.int .i64 (x : Int)] tIntE)).cell? ⟨p, 2, none⟩ = some (.slice (some ⟨ge, 0, none⟩) t.names.length ce) := (World.cell?_alloc_lt wa _ _ hps).trans x2
        have e5 : (wa.alloc (.cells #[.int .i64 (x : Int)] tIntE)).cell? ⟨p, 1, none⟩ = some (.slice (some ⟨gl, 0, none⟩) t.names.length cl) := (World.cell?_alloc_lt wa _ _ hps).trans x1
        have HST2 := Lib.hid hst2
        have HK2 := Lib.hid hk2
        have HS2 := Lib.hid hs2
        have HRL2 := Lib.hid hrl2
        clear hst2 hk2 hs2 hS hrl2 hl2 he2 hgs hps
        go_upto_region 5 with (fail)
        go_region
        have hS3 := HST2.out.ledSet (w3 := wa.alloc (.cells #[.int .i64 (x : Int)] tIntE)) (v := .slice none 0 0) (v' := .slice (some ⟨wa.heap.size, 0, none⟩) 1 1) (l := []) (l' := [x])
          (by have h1 := HRL.out; have h2 := HUE.out; show (rs.set i (Value.slice none 0 0))[i]? = _; exact List.getElem?_set_self (by omega)) (by have h2 := HUE.out; show ((t.freshTo i).led.set i [])[i]? = _; exact List.getElem?_set_self (by omega))
          (grown_of_below ((Below.refl _ _).alloc (Nat.le_refl _) _) _) (World.ownsRow_lit wa #[.int .i64 (x : Int)] 1 (Nat.zero_le _) (by unfold maxLen; decide) rfl) (fun g hg => .inr (by simp [Value.ownBlock] at hg; omega))
        have hS4 := hS3.below (w2 := ((wa.alloc (.cells #[.int .i64 (x : Int)] tIntE)).setCell ⟨ge, i, none⟩ (.slice (some ⟨wa.heap.size, 0, none⟩) 1 1)).drew) ((Below.refl _ _).drew)
        obtain ⟨T3, hst3, hk3, hs3⟩ := Sturn.join HK2.out HS2.out hS4
        have HST3 := Lib.hid hst3
        have HK3 := Lib.hid hk3
        have HS3 := Lib.hid hs3
        clear hS3 hS4 hst3 hk3 hs3
        go_wp2
        go_roundw
        case rel =>
          refine ⟨i + 1, by go_num, by omega, T3, ?_, HK3.out, HS3.out⟩
          rw [← freshTo_next HL1.out HL2.out HB.out]
          have h3 := HST3.out
          dsimp only at h3
          rw [List.set_set, List.set_set] at h3
          exact ⟨_, _, _, _, _, _, by have h1 := HRL.out; simp; omega, h3⟩
        case measure => simp [intOf]; omega
    · obtain rfl : i = t.names.length := by omega
      rw [freshTo_all HL1.out HL2.out, HR.out] at hA
      have HA := Lib.hid hA
      have HK1 := Lib.hid hk1
      have HS1 := Lib.hid hs1
      clear hA hk1 hs1 hst he hl hrl hue hul hun
      go_wp2
      go_end0
      exact ⟨rfl, T1, HA.out, HK1.out, HS1.out⟩
end
end Go.Proofs.Ytelgcmcnebncmaa.Dr
