/- The law's own functions of bytes that are lent: num, lent, kept, spoil. -/
import Derived.Test.YtelgcmcnebncmaaD13
namespace Go.Proofs.Ytelgcmcnebncmaa.Dr
open Go.RowKit Go.Proofs Go.Proofs.Ytelgcmcnebncmaa.Ring

def marks : Bs := (List.range 66).map fun k => UInt8.ofNat (150 + k)
theorem marks_len : marks.length = 66 := by simp [marks]
theorem marks_at {k : Nat} (h : k < 66) : marks[k]? = some (UInt8.ofNat (150 + k)) := by
  unfold marks
  rw [List.getElem?_map, List.getElem?_range h]
  rfl
theorem mark_nat {k : Nat} (h : k < 66) : ((UInt8.ofNat (150 + k)).toNat : Int) = 150 + (k : Int) := by
  rw [UInt8.toNat_ofNat']; omega
theorem marks_take {k : Nat} (h : k < 66) : marks.take (k + 1) = marks.take k ++ [UInt8.ofNat (150 + k)] := by
  rw [List.take_add_one, marks_at h]; rfl
/-- Bytes in memory of their own, the marks behind them. -/
def Lent (w : World) (B g cap : Nat) (b : Bs) : Prop := w.ownsRow B tU8 1 (.slice (some ⟨g, 0, none⟩) (b.length + 66) cap) (b.length + 66) (cU8 (b ++ marks))
theorem own_some {w : World} {base : Nat} {e : TypeId} {size n c : Nat} {A : Option Addr} {xs : List Value} (h : w.ownsRow base e size (.slice A n c) n xs) (hn : 0 < n) : ∃ g, A = some ⟨g, 0, none⟩ := by
  rcases h.2 with ⟨hv, _⟩ | ⟨g, cap, cur, hv, _⟩
  · injection hv with _ hv _; omega
  · injection hv with hv _ _; exact ⟨g, hv⟩
theorem at_zero (g i : Nat) : (⟨g, 0, none⟩ : Addr).add i = ⟨g, i, none⟩ := by unfold Addr.add; split <;> simp <;> omega
set_option maxRecDepth 100000 in
theorem num_any (k : Int) (w : World) : Calls Try.prog 18 #[.int .i64 k] w fun x w' => x = .returned (.int .i64 k) ∧ w = w' := by
  go_enter Try.func18, Try.ntmps18
  go_wp2
  go_ret
  exact ⟨rfl, rfl⟩
set_option maxRecDepth 100000 in
theorem lent_any {w : World} {A : Option Addr} {n c B : Nat} {b : Bs} (h : Rd w B 1 A n (cU8 b)) (hB : B ≤ w.heap.size) (hc : A = none → c = 0) (hn : n ≤ 17592186044416) :
    Calls Try.prog 58 #[.slice A n c] w fun x w' => ∃ g cap, x = .returned (.slice (some ⟨g, 0, none⟩) n cap) ∧ Lent w' w.heap.size g cap b ∧ b.length = n ∧ Below w.heap.size w w' := by
  obtain ⟨i0, hi, hz0, hz1, hz2⟩ := info_parts infoU8
  have hbl : b.length = n := by simpa using h.1
  have H := Lib.hid h
  have HBL := Lib.hid hbl
  have HC := Lib.hid hc
  clear h hbl hc
  go_enter Try.func58, Try.ntmps58
  have hrd : Rd (w.alloc (.cells #[] tU8)) B 1 A n (cU8 b) := H.out.below ((Below.refl B w).alloc hB _)
  have HRD := Lib.hid hrd
  clear hrd
  go_wp2_with (first
    | (at_builtin; refine wpList_append_rd _ rfl (.tmp 5) (.tmp 6) 35 rfl w.heap.size tU8 i0 (.int .u8 0) 1 1 Try.underlying35 hi hz0 hz1 hz2 rfl (by decide) (.slice (some ⟨w.heap.size, 0, none⟩) 0 0) 0 [] rfl (own_new w (Nat.le_refl _) tU8 1 0 [] rfl (Nat.zero_le _)) B A n c (cU8 b) rfl HRD.out HC.out (cU8_one b) (by unfold maxLen; omega) (by omega) (by simp) ?_; intro v1 w1 hrow1 hg1; have HROW1 := Lib.hid hrow1; have HB1 := Lib.hid ((((Below.refl w.heap.size w).alloc (Nat.le_refl _) (.cells #[] tU8)).grown hg1 (by simp) (fun j hj => (by simp [Value.ownBlock] at hj; omega)))); clear hrow1 hg1))
  have hrow1 := HROW1.out
  rw [Nat.zero_add, List.nil_append] at hrow1
  have hb1 := HB1.out
  go_loopg [3, 4] 66 (fun m v iv wr => ∃ k : Nat, iv = .int .i64 (k : Int) ∧ k + m = 66 ∧ wr.ownsRow w.heap.size tU8 1 v (n + k) (cU8 (b ++ marks.take k)) ∧ Below w.heap.size w wr)
  case atStart => exact ⟨0, rfl, rfl, by rw [List.take_zero, List.append_nil]; exact hrow1, hb1⟩
  case round =>
    obtain ⟨k, rfl, hm, hown, hb⟩ := hrel
    by_cases hlt : k < 66
    · have h2 : ((150 + (k : Int)) % 256) = 150 + (k : Int) := by omega
      go_wp2_with (first
        | (at_builtin; refine wpList_append_own _ rfl (.tmp 12) (.tmp 16) 35 rfl w.heap.size 5 i0 (.int .u8 0) 1 1 Try.underlying35 hi hz0 hz1 hz2 rfl (by decide) _ _ _ rfl (hown.alloc _) ⟨wr.heap.size, 0, none⟩ 1 1 [.int .u8 (150 + (k : Int))] rfl rfl (cell_one_new _ _ _) (by simp [Value.oneCell']) (by unfold maxLen; omega) (by omega) (by have := hb.size; simp; omega) ?_; intro v2 w2 hrow2 hg2 _; have hb2 := (hb.alloc hb.size (.cells #[.int .u8 (150 + (k : Int))] 5)).grown hg2 (by have := hb.size; simp; omega) (fun j hj => (hown.lt j hj).1)))
      go_roundg (65 - k)
      case measure => omega
      case rel =>
        refine ⟨k + 1, by go_num, by omega, ?_, hb2⟩
        rw [marks_take hlt, ← List.append_assoc, show cU8 ((b ++ marks.take k) ++ [UInt8.ofNat (150 + k)]) = cU8 (b ++ marks.take k) ++ [.int .u8 (150 + (k : Int))] by simp only [cU8, List.map_append, List.map_cons, List.map_nil, mark_nat hlt]]
        exact hrow2
    · obtain rfl : k = 66 := by omega
      rw [List.take_of_length_le (by rw [marks_len]; omega)] at hown
      obtain ⟨A2, cap, rfl, hnc, hcm⟩ := own_form hown
      obtain ⟨g, rfl⟩ := own_some hown (by omega)
      have h3 : (n : Int) ≤ (cap : Int) := by omega
      have h4 : (cap : Int) ≤ 9223372036854775807 := by unfold maxLen at hcm; omega
      have HOWN := Lib.hid hown
      have HB := Lib.hid hb
      clear hown hb
      go_wp2
      go_ret
      exact ⟨g, cap, rfl, by unfold Lent; rw [HBL.out]; exact HOWN.out, HBL.out, HB.out⟩
set_option maxRecDepth 100000 in
theorem kept_any {w : World} {A : Option Addr} {n c B B' g cap : Nat} {b : Bs} (h : Rd w B 1 A n (cU8 b)) (hl : Lent w B' g cap b) (hn : n ≤ 17592186044416) :
    Calls Try.prog 59 #[.slice (some ⟨g, 0, none⟩) n cap, .slice A n c] w fun x w' => x = .returned (.bool true) ∧ Below w.heap.size w w' := by
  have hbl : b.length = n := by simpa using h.1
  have hl2 := hl
  unfold Lent at hl2
  rw [hbl] at hl2
  obtain ⟨A', c', hv, hcap, hcm⟩ := own_form hl2
  have hcc : cap = c' := by injection hv
  rw [← hcc] at hcap hcm
  clear hv hcc
  have hfront : w.ownsRow B' tU8 1 (.slice (some ⟨g, 0, none⟩) n cap) n (cU8 b) := by
    have := own_front hl2 (q := n) (by omega)
    rwa [show (cU8 (b ++ marks)).take n = cU8 b by simp [cU8, ← hbl]] at this
  have t1 := run_text (P := Try.prog) w 35 9 5 Try.underlying35 Try.underlying5 Try.underlying9 c h
  have t2 := run_text (P := Try.prog) w 35 9 5 Try.underlying35 Try.underlying5 Try.underlying9 cap (Rd.of_own hfront)
  have hcell : ∀ k, k < 66 → w.cell? ⟨g, n + k, none⟩ = some (.int .u8 (150 + (k : Int))) := by
    intro k hk
    have h1 := (Rd.of_own hl2).cell rfl (k := n + k) (u := .int .u8 (150 + (k : Int))) (by omega) (by
      unfold cU8
      rw [List.getElem?_map, List.getElem?_append_right (by omega), hbl, show n + k - n = k by omega, marks_at hk, Option.map_some, mark_nat hk])
    rwa [at_zero] at h1
  have h3 : (n : Int) + 66 ≤ (cap : Int) := by omega
  have h4 : (cap : Int) ≤ 9223372036854775807 := by unfold maxLen at hcm; omega
  have HCELL := Lib.hid hcell
  clear h hl hl2 hfront hcell hcm hcap
  go_enter Try.func59, Try.ntmps59
  go_wp2
  go_loopw [6] (fun iv wr => ∃ k : Nat, iv = .int .i64 (k : Int) ∧ k ≤ 66 ∧ wr = w) (fun iv _ => 66 - (intOf iv).toNat)
  case atStart => exact ⟨0, rfl, by omega, by first | rfl | trivial⟩
  case round =>
    obtain ⟨k, rfl, hk, rfl⟩ := hrel
    by_cases hlt : k < 66
    · have e0 := HCELL.out k hlt
      have h5 : ((150 + (k : Int)) % 256) = 150 + (k : Int) := by omega
      go_wp2
      go_roundw
      case rel => exact ⟨k + 1, by go_num, by omega, by first | rfl | trivial⟩
      case measure => simp [intOf]; omega
    · obtain rfl : k = 66 := by omega
      go_wp2
      go_ret
      exact ⟨rfl, Below.refl _ _⟩
set_option maxRecDepth 100000 in
set_option maxHeartbeats 4000000 in
theorem spoil_any {w : World} {B g cap : Nat} {b : Bs} (hl : Lent w B g cap b) (hn : b.length ≤ 17592186044416) :
    Calls Try.prog 60 #[.slice (some ⟨g, 0, none⟩) b.length cap] w fun x w' => x = .returned (.tuple #[]) ∧ Kept w w' (fun k => k = g) := by
  obtain ⟨n, hbl⟩ : ∃ n, b.length = n := ⟨_, rfl⟩
  have hl2 := hl
  unfold Lent at hl2
  rw [hbl] at hl2 hn ⊢
  obtain ⟨A', c', hv, hcap, hcm⟩ := own_form hl2
  have hcc : cap = c' := by injection hv
  rw [← hcc] at hcap hcm
  clear hv hcc
  have h3 : (n : Int) + 66 ≤ (cap : Int) := by omega
  have h4 : (cap : Int) ≤ 9223372036854775807 := by unfold maxLen at hcm; omega
  have HL := Lib.hid hl2
  clear hl hl2 hcm hcap
  go_enter Try.func60, Try.ntmps60
  go_wp2
  go_loopw [3] (fun iv wr => ∃ (k : Nat) (l : Bs), iv = .int .i64 (k : Int) ∧ k ≤ n + 66 ∧ wr.ownsRow B tU8 1 (.slice (some ⟨g, 0, none⟩) (n + 66) cap) (n + 66) (cU8 l) ∧ Kept w wr (fun k => k = g)) (fun iv _ => n + 66 - (intOf iv).toNat)
  case atStart => exact ⟨0, _, rfl, by omega, HL.out, Kept.refl _ _⟩
  case round =>
    obtain ⟨k, l, rfl, hk, hrow, hkp⟩ := hrel
    by_cases hlt : k < n + 66
    · have hll : l.length = n + 66 := by simpa using hrow.1
      obtain ⟨x, hx⟩ : ∃ x, l[k]? = some x := ⟨_, List.getElem?_eq_getElem (by omega)⟩
      have e0 : wr.cell? ⟨g, k, none⟩ = some (.int .u8 (x.toNat : Int)) := by
        have h1 := (Rd.of_own hrow).cell rfl (k := k) (u := .int .u8 (x.toNat : Int)) hlt (by simp [cU8, hx])
        rwa [at_zero] at h1
      have e1 : wr.frozen? ⟨g, k, none⟩ = false := by
        obtain ⟨cur, h3⟩ := own_lt hrow rfl
        unfold World.frozen?
        rw [show wr.heap[(⟨g, k, none⟩ : Addr).block]? = _ from h3]
        simp
      have hxx : (((x.toNat : Int) + 77) % 256) = ((x + 77).toNat : Int) := by
        rw [UInt8.toNat_add]; simp
      have hlt2 : (k : Int) < (n : Int) + 66 := by omega
      have HROW := Lib.hid hrow
      have HKP := Lib.hid hkp
      have HXX := Lib.hid hxx
      clear hrow hkp hxx
      go_wp2
      rw [HXX.out]
      have hnew := own_store HROW.out hlt (.int .u8 ((x + 77).toNat : Int))
      rw [show (cU8 l).set k (.int .u8 ((x + 77).toNat : Int)) = cU8 (l.set k (x + 77)) by simp [cU8, List.map_set]] at hnew
      have HN := Lib.hid hnew
      have HK2 := Lib.hid (HKP.out.set (p := ⟨g, k, none⟩) rfl (.int .u8 ((x + 77).toNat : Int)))
      clear hnew e0 e1 HXX
      go_roundw
      case rel => exact ⟨k + 1, _, by go_num, by omega, HN.out, HK2.out⟩
      case measure => simp [intOf]; omega
    · obtain rfl : n + 66 = k := by omega
      have HKP := Lib.hid hkp
      clear hrow hkp
      go_wp2
      go_end0
      exact ⟨rfl, HKP.out⟩
end Go.Proofs.Ytelgcmcnebncmaa.Dr
