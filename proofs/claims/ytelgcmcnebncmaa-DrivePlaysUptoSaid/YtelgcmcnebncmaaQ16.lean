/- XL1, XL2: merged by tools/merge.py. -/
import Derived.Test.YtelgcmcnebncmaaQ15
namespace Go.Proofs.Ytelgcmcnebncmaa.Dr
open Go.RowKit Go.Proofs Go.Proofs.Ytelgcmcnebncmaa.Ring

def marks : Bs := (List.range 66).map fun k => UInt8.ofNat (150 + k)
theorem marks_len : marks.length = 66 := by simp [marks]
theorem marks_at {k : Nat} (h : k < 66) : marks[k]? = some (UInt8.ofNat (150 + k)) := by
  unfold marks
  rw [List.getElem?_map, List.getElem?_range h]
  rfl
theorem mark_nat {k : Nat} (h : k < 66) : ((UInt8.ofNat (150 + k)).toNat : Int) = 150 + (k : Int) := by
  rw [UInt8.toNat_ofNat']; omega
theorem marks_take {k : Nat} (h : k < 66) : marks.take (k + 1) = marks.take k ++ [UInt8.ofNat (150 + k)] := by
  rw [List.take_add_one, marks_at h]; rfl
/-- Bytes in memory of their own, the marks behind them. -/
def Lent (w : World) (B g cap : Nat) (b : Bs) : Prop := w.ownsRow B tU8 1 (.slice (some ⟨g, 0, none⟩) (b.length + 66) cap) (b.length + 66) (cU8 (b ++ marks))
theorem own_some {w : World} {base : Nat} {e : TypeId} {size n c : Nat} {A : Option Addr} {xs : List Value} (h : w.ownsRow base e size (.slice A n c) n xs) (hn : 0 < n) : ∃ g, A = some ⟨g, 0, none⟩ := by
  rcases h.2 with ⟨hv, _⟩ | ⟨g, cap, cur, hv, _⟩
  · injection hv with _ hv _; omega
  · injection hv with hv _ _; exact ⟨g, hv⟩
theorem at_zero (g i : Nat) : (⟨g, 0, none⟩ : Addr).add i = ⟨g, i, none⟩ := by unfold Addr.add; split <;> simp <;> omega
set_option maxRecDepth 100000 in
theorem num_any (k : Int) (w : World) : Calls Try.prog 18 #[.int .i64 k] w fun x w' => x = .returned (.int .i64 k) ∧ w = w' := by
  go_enter Try.func18, Try.ntmps18
  go_wp2
  go_ret
  exact ⟨rfl, rfl⟩
set_option maxRecDepth 100000 in
theorem lent_any {w : World} {A : Option Addr} {n c B : Nat} {b : Bs} (h : Rd w B 1 A n (cU8 b)) (hB : B ≤ w.heap.size) (hc : A = none → c = 0) (hn : n ≤ 17592186044416) :
    Calls Try.prog 58 #[.slice A n c] w fun x w' => ∃ g cap, x = .returned (.slice (some ⟨g, 0, none⟩) n cap) ∧ Lent w' w.heap.size g cap b ∧ b.length = n ∧ Below w.heap.size w w' := by
  obtain ⟨i0, hi, hz0, hz1, hz2⟩ := info_parts infoU8
  have hbl : b.length = n := by simpa using h.1
  have H := Lib.hid h
  have HBL := Lib.hid hbl
  have HC := Lib.hid hc
  clear h hbl hc
  go_enter Try.func58, Try.ntmps58
  have hrd : Rd (w.alloc (.cells #[] tU8)) B 1 A n (cU8 b) := H.out.below ((Below.refl B w).alloc hB _)
  have HRD := Lib.hid hrd
  clear hrd
  go_wp2_with (first
    | (at_builtin; refine wpList_append_rd _ rfl (.tmp 5) (.tmp 6) 35 rfl w.heap.size tU8 i0 (.int .u8 0) 1 1 Try.underlying35 hi hz0 hz1 hz2 rfl (by decide) (.slice (some ⟨w.heap.size, 0, none⟩) 0 0) 0 [] rfl (own_new w (Nat.le_refl _) tU8 1 0 [] rfl (Nat.zero_le _)) B A n c (cU8 b) rfl HRD.out HC.out (cU8_one b) (by unfold maxLen; omega) (by omega) (by simp) ?_; intro v1 w1 hrow1 hg1; have HROW1 := Lib.hid hrow1; have HB1 := Lib.hid ((((Below.refl w.heap.size w).alloc (Nat.le_refl _) (.cells #[] tU8)).grown hg1 (by simp) (fun j hj => (by simp [Value.ownBlock] at hj; omega)))); clear hrow1 hg1))
  have hrow1 := HROW1.out
  rw [Nat.zero_add, List.nil_append] at hrow1
  have hb1 := HB1.out
  go_loopg [3, 4] 66 (fun m v iv wr => ∃ k : Nat, iv = .int .i64 (k : Int) ∧ k + m = 66 ∧ wr.ownsRow w.heap.size tU8 1 v (n + k) (cU8 (b ++ marks.take k)) ∧ Below w.heap.size w wr)
  case atStart => exact ⟨0, rfl, rfl, by rw [List.take_zero, List.append_nil]; exact hrow1, hb1⟩
  case round =>
    obtain ⟨k, rfl, hm, hown, hb⟩ := hrel
    by_cases hlt : k < 66
    · have h2 : ((150 + (k : Int)) % 256) = 150 + (k : Int) := by omega
      go_wp2_with (first
        | (at_builtin; refine wpList_append_own _ rfl (.tmp 12) (.tmp 16) 35 rfl w.heap.size 5 i0 (.int .u8 0) 1 1 Try.underlying35 hi hz0 hz1 hz2 rfl (by decide) _ _ _ rfl (hown.alloc _) ⟨wr.heap.size, 0, none⟩ 1 1 [.int .u8 (150 + (k : Int))] rfl rfl (cell_one_new _ _ _) (by simp [Value.oneCell']) (by unfold maxLen; omega) (by omega) (by have := hb.size; simp; omega) ?_; intro v2 w2 hrow2 hg2 _; have hb2 := (hb.alloc hb.size (.cells #[.int .u8 (150 + (k : Int))] 5)).grown hg2 (by have := hb.size; simp; omega) (fun j hj => (hown.lt j hj).1)))
      go_roundg (65 - k)
      case measure => omega
      case rel =>
        refine ⟨k + 1, by go_num, by omega, ?_, hb2⟩
        rw [marks_take hlt, ← List.append_assoc, show cU8 ((b ++ marks.take k) ++ [UInt8.ofNat (150 + k)]) = cU8 (b ++ marks.take k) ++ [.int .u8 (150 + (k : Int))] by simp only [cU8, List.map_append, List.map_cons, List.map_nil, mark_nat hlt]]
        exact hrow2
    · obtain rfl : k = 66 := by omega
      rw [List.take_of_length_le (by rw [marks_len]; omega)] at hown
      obtain ⟨A2, cap, rfl, hnc, hcm⟩ := own_form hown
      obtain ⟨g, rfl⟩ := own_some hown (by omega)
      have h3 : (n : Int) ≤ (cap : Int) := by omega
      have h4 : (cap : Int) ≤ 9223372036854775807 := by unfold maxLen at hcm; omega
      have HOWN := Lib.hid hown
      have HB := Lib.hid hb
      clear hown hb
      go_wp2
      go_ret
      exact ⟨g, cap, rfl, by unfold Lent; rw [HBL.out]; exact HOWN.out, HBL.out, HB.out⟩
set_option maxRecDepth 100000 in
theorem kept_any {w : World} {A : Option Addr} {n c B B' g cap : Nat} {b : Bs} (h : Rd w B 1 A n (cU8 b)) (hl : Lent w B' g cap b) (hn : n ≤ 17592186044416) :
    Calls Try.prog 59 #[.slice (some ⟨g, 0, none⟩) n cap, .slice A n c] w fun x w' => x = .returned (.bool true) ∧ Below w.heap.size w w' := by
  have hbl : b.length = n := by simpa using h.1
  have hl2 := hl
  unfold Lent at hl2
  rw [hbl] at hl2
  obtain ⟨A', c', hv, hcap, hcm⟩ := own_form hl2
  have hcc : cap = c' := by injection hv
  rw [← hcc] at hcap hcm
  clear hv hcc
  have hfront : w.ownsRow B' tU8 1 (.slice (some ⟨g, 0, none⟩) n cap) n (cU8 b) := by
    have := own_front hl2 (q := n) (by omega)
    rwa [show (cU8 (b ++ marks)).take n = cU8 b by simp [cU8, ← hbl]] at this
  have t1 := run_text (P := Try.prog) w 35 9 5 Try.underlying35 Try.underlying5 Try.underlying9 c h
  have t2 := run_text (P := Try.prog) w 35 9 5 Try.underlying35 Try.underlying5 Try.underlying9 cap (Rd.of_own hfront)
  have hcell : ∀ k, k < 66 → w.cell? ⟨g, n + k, none⟩ = some (.int .u8 (150 + (k : Int))) := by
    intro k hk
    have h1 := (Rd.of_own hl2).cell rfl (k := n + k) (u := .int .u8 (150 + (k : Int))) (by omega) (by
      unfold cU8
      rw [List.getElem?_map, List.getElem?_append_right (by omega), hbl, show n + k - n = k by omega, marks_at hk, Option.map_some, mark_nat hk])
    rwa [at_zero] at h1
  have h3 : (n : Int) + 66 ≤ (cap : Int) := by omega
  have h4 : (cap : Int) ≤ 9223372036854775807 := by unfold maxLen at hcm; omega
  have HCELL := Lib.hid hcell
  clear h hl hl2 hfront hcell hcm hcap
  go_enter Try.func59, Try.ntmps59
  go_wp2
  go_loopw [6] (fun iv wr => ∃ k : Nat, iv = .int .i64 (k : Int) ∧ k ≤ 66 ∧ wr = w) (fun iv _ => 66 - (intOf iv).toNat)
  case atStart => exact ⟨0, rfl, by omega, by first | rfl | trivial⟩
  case round =>
    obtain ⟨k, rfl, hk, rfl⟩ := hrel
    by_cases hlt : k < 66
    · have e0 := HCELL.out k hlt
      have h5 : ((150 + (k : Int)) % 256) = 150 + (k : Int) := by omega
      go_wp2
      go_roundw
      case rel => exact ⟨k + 1, by go_num, by omega, by first | rfl | trivial⟩
      case measure => simp [intOf]; omega
    · obtain rfl : k = 66 := by omega
      go_wp2
      go_ret
      exact ⟨rfl, Below.refl _ _⟩
set_option maxRecDepth 100000 in
set_option maxHeartbeats 4000000 in
theorem spoil_any {w : World} {B g cap : Nat} {b : Bs} (hl : Lent w B g cap b) (hn : b.length ≤ 17592186044416) :
    Calls Try.prog 60 #[.slice (some ⟨g, 0, none⟩) b.length cap] w fun x w' => x = .returned (.tuple #[]) ∧ Kept w w' (fun k => k = g) := by
  obtain ⟨n, hbl⟩ : ∃ n, b.length = n := ⟨_, rfl⟩
  have hl2 := hl
  unfold Lent at hl2
  rw [hbl] at hl2 hn ⊢
  obtain ⟨A', c', hv, hcap, hcm⟩ := own_form hl2
  have hcc : cap = c' := by injection hv
  rw [← hcc] at hcap hcm
  clear hv hcc
  have h3 : (n : Int) + 66 ≤ (cap : Int) := by omega
  have h4 : (cap : Int) ≤ 9223372036854775807 := by unfold maxLen at hcm; omega
  have HL := Lib.hid hl2
  clear hl hl2 hcm hcap
  go_enter Try.func60, Try.ntmps60
  go_wp2
  go_loopw [3] (fun iv wr => ∃ (k : Nat) (l : Bs), iv = .int .i64 (k : Int) ∧ k ≤ n + 66 ∧ wr.ownsRow B tU8 1 (.slice (some ⟨g, 0, none⟩) (n + 66) cap) (n + 66) (cU8 l) ∧ Kept w wr (fun k => k = g)) (fun iv _ => n + 66 - (intOf iv).toNat)
  case atStart => exact ⟨0, _, rfl, by omega, HL.out, Kept.refl _ _⟩
  case round =>
    obtain ⟨k, l, rfl, hk, hrow, hkp⟩ := hrel
    by_cases hlt : k < n + 66
    · have hll : l.length = n + 66 := by simpa using hrow.1
      obtain ⟨x, hx⟩ : ∃ x, l[k]? = some x := ⟨_, List.getElem?_eq_getElem (by omega)⟩
      have e0 : wr.cell? ⟨g, k, none⟩ = some (.int .u8 (x.toNat : Int)) := by
        have h1 := (Rd.of_own hrow).cell rfl (k := k) (u := .int .u8 (x.toNat : Int)) hlt (by simp [cU8, hx])
        rwa [at_zero] at h1
      have e1 : wr.frozen? ⟨g, k, none⟩ = false := by
        obtain ⟨cur, h3⟩ := own_lt hrow rfl
        unfold World.frozen?
        rw [show wr.heap[(⟨g, k, none⟩ : Addr).block]? = _ from h3]
        simp
      have hxx : (((x.toNat : Int) + 77) % 256) = ((x + 77).toNat : Int) := by
        rw [UInt8.toNat_add]; simp
      have hlt2 : (k : Int) < (n : Int) + 66 := by omega
      have HROW := Lib.hid hrow
      have HKP := Lib.hid hkp
      have HXX := Lib.hid hxx
      clear hrow hkp hxx
      go_wp2
      rw [HXX.out]
      have hnew := own_store HROW.out hlt (.int .u8 ((x + 77).toNat : Int))
      rw [show (cU8 l).set k (.int .u8 ((x + 77).toNat : Int)) = cU8 (l.set k (x + 77)) by simp [cU8, List.map_set]] at hnew
      have HN := Lib.hid hnew
      have HK2 := Lib.hid (HKP.out.set (p := ⟨g, k, none⟩) rfl (.int .u8 ((x + 77).toNat : Int)))
      clear hnew e0 e1 HXX
      go_roundw
      case rel => exact ⟨k + 1, _, by go_num, by omega, HN.out, HK2.out⟩
      case measure => simp [intOf]; omega
    · obtain rfl : n + 66 = k := by omega
      have HKP := Lib.hid hkp
      clear hrow hkp
      go_wp2
      go_end0
      exact ⟨rfl, HKP.out⟩
end Go.Proofs.Ytelgcmcnebncmaa.Dr
namespace Go.Proofs.Ytelgcmcnebncmaa.Dr
open Go.RowKit Go.Proofs Go.Proofs.Ytelgcmcnebncmaa.Ring

abbrev tBool := 4
abbrev tInt := 3
abbrev cB4 : List Bool := [true, false, true, true]
abbrev cI4 : List Int := [5, 6, 7, 8]
/-- A fate in memory of its own, the marks behind its lists. -/
def LentF (w : World) (B gd cd gc cc : Nat) (dirs : List Bool) (cuts : List Int) : Prop :=
  w.ownsRow B tBool 1 (.slice (some ⟨gd, 0, none⟩) (dirs.length + 4) cd) (dirs.length + 4) (cBool (dirs ++ cB4)) ∧
  w.ownsRow B tInt 1 (.slice (some ⟨gc, 0, none⟩) (cuts.length + 4) cc) (cuts.length + 4) (cInt (cuts ++ cI4))
theorem infoBool : (Try.prog.info? tBool).map (fun i => (i.zero, i.size, i.bytes)) = some (some (.bool false), 1, 1) := by kernel_rfl
theorem infoInt : (Try.prog.info? tInt).map (fun i => (i.zero, i.size, i.bytes)) = some (some (.int .i64 0), 1, 8) := by kernel_rfl
theorem cBool_one (l : List Bool) : ∀ u ∈ cBool l, u.oneCell' = true := by
  intro u hu; obtain ⟨b, _, rfl⟩ := List.mem_map.1 hu; rfl
theorem cInt_one (l : List Int) : ∀ u ∈ cInt l, u.oneCell' = true := by
  intro u hu; obtain ⟨b, _, rfl⟩ := List.mem_map.1 hu; rfl
set_option maxRecDepth 100000 in
theorem lentFate_any {w : World} {Ad Ac : Option Addr} {nd cd nc cc B : Nat} {dirs : List Bool} {cuts : List Int} (hd : Rd w B 1 Ad nd (cBool dirs)) (hc : Rd w B 1 Ac nc (cInt cuts)) (hB : B ≤ w.heap.size) (hzd : Ad = none → cd = 0) (hzc : Ac = none → cc = 0) (hnd : nd ≤ 1048576) (hnc : nc ≤ 1048576) :
    Calls Try.prog 74 #[.agg #[.slice Ad nd cd, .slice Ac nc cc]] w fun x w' => ∃ gd cd' gc cc', x = .returned (.agg #[.slice (some ⟨gd, 0, none⟩) nd cd', .slice (some ⟨gc, 0, none⟩) nc cc']) ∧ LentF w' w.heap.size gd cd' gc cc' dirs cuts ∧ Below w.heap.size w w' := by
  obtain ⟨i0, hi, hz0, hz1, hz2⟩ := info_parts infoBool
  obtain ⟨j0, hj, hy0, hy1, hy2⟩ := info_parts infoInt
  go_enter Try.func74, Try.ntmps74
  have HD := Lib.hid hd
  have HC := Lib.hid hc
  have HZD := Lib.hid hzd
  have HZC := Lib.hid hzc
  clear hd hc hzd hzc
  go_upto_region 1 with (fail)
  obtain ⟨V, hV⟩ : ∃ V, w.heap.size = V := ⟨_, rfl⟩
  obtain ⟨w1, hw1⟩ : ∃ w1, (w.alloc (.cells #[.slice Ad nd cd, .slice Ac nc cc] tFate)).alloc (.cells #[.slice none 0 0, .slice none 0 0] tFate) = w1 := ⟨_, rfl⟩
  have hs1 : w1.heap.size = V + 2 := by rw [← hw1, ← hV]; simp
  have hA1 : w1.heap[V]? = some (.cells #[.slice Ad nd cd, .slice Ac nc cc] tFate (0, 0)) := by
    rw [← hw1, ← hV]
    exact (heap_alloc_old _ _ (by simp)).trans (heap_alloc_new _ _)
  have hR1 : w1.heap[V + 1]? = some (.cells #[.slice none 0 0, .slice none 0 0] tFate (0, 0)) := by
    rw [← hw1, ← hV]
    have := heap_alloc_new (w.alloc (.cells #[.slice Ad nd cd, .slice Ac nc cc] tFate)) (.cells #[.slice none 0 0, .slice none 0 0] tFate)
    rwa [show (w.alloc (.cells #[.slice Ad nd cd, .slice Ac nc cc] tFate)).heap.size = w.heap.size + 1 by simp] at this
  have hb1 : Below V w w1 := by
    rw [← hw1, ← hV]
    exact ((Below.refl _ _).alloc (Nat.le_refl _) _).alloc (by simp) _
  rw [hw1, hV]
  rw [hV] at hB
  have hd1 : Rd w1 B 1 Ad nd (cBool dirs) := HD.out.below (hb1.mono hB)
  have hc1 : Rd w1 B 1 Ac nc (cInt cuts) := HC.out.below (hb1.mono hB)
  have f0 : (w1.alloc (.cells #[] tBool)).cell? ⟨V, 0, none⟩ = some (.slice Ad nd cd) := (World.cell?_alloc_lt w1 _ _ (by show V < _; omega)).trans (c_fate hA1).1
  have HD1 := Lib.hid hd1
  have HC1 := Lib.hid hc1
  have HS1 := Lib.hid hs1
  have HA1 := Lib.hid hA1
  have HR1 := Lib.hid hR1
  have HB1 := Lib.hid hb1
  have HV := Lib.hid hV
  clear hd1 hc1 hs1 hA1 hR1 hb1 hw1 hV HD HC
  go_upto_region 2 with (first
    | (at_builtin; refine wpList_append_rd _ rfl (.tmp 5) (.tmp 7) 26 rfl (V + 2) tBool i0 (.bool false) 1 1 Try.underlying26 hi hz0 hz1 hz2 rfl (by decide) (.slice (some ⟨w1.heap.size, 0, none⟩) 0 0) 0 [] rfl (own_new w1 (by have := HS1.out; omega) tBool 1 0 [] rfl (Nat.zero_le _)) B Ad nd cd (cBool dirs) rfl (HD1.out.alloc (by have := HS1.out; omega) _) HZD.out (cBool_one dirs) (by unfold maxLen; omega) (by omega) (by have := HS1.out; simp; omega) ?_; intro v2 w2 hrow2 hg2; have HROW2 := Lib.hid hrow2; have HG2 := Lib.hid hg2; clear hrow2 hg2))
  have hb2 : Below (V + 2) w1 w2 := ((Below.refl (V + 2) w1).alloc (by have := HS1.out; omega) _).grown HG2.out (by have := HS1.out; simp; omega) (fun j hj => by have := HS1.out; simp [Value.ownBlock] at hj; omega)
  have HB2 := Lib.hid hb2
  clear hb2 HG2 f0
  have hrow2 := HROW2.out
  rw [Nat.zero_add, List.nil_append] at hrow2
  have HRW2 := Lib.hid hrow2
  clear HROW2 hrow2
  go_upto_region 3 with (first
    | (at_builtin; refine wpList_append_own _ rfl (.tmp 9) (.tmp 10) 26 rfl (V + 2) tBool i0 (.bool false) 1 1 Try.underlying26 hi hz0 hz1 hz2 rfl (by decide) v2 nd (cBool dirs) rfl (own_alloc HRW2.out _) ⟨w2.heap.size, 0, none⟩ 4 4 (cBool cB4) rfl rfl (new_cells w2 (cBool cB4) tBool) (cBool_one _) (by unfold maxLen; omega) (by omega) (by have := HS1.out; have := HB2.out.size; simp; omega) ?_; intro v3 w3 hrow3 hg3 _; have HROW3 := Lib.hid hrow3; have HG3 := Lib.hid hg3; clear hrow3 hg3))
  have hb3 : Below (V + 2) w1 w3 := (HB2.out.alloc (by have := HS1.out; have := HB2.out.size; omega) _).grown HG3.out (by have := HS1.out; have := HB2.out.size; simp; omega) (fun j hj => own_ge HRW2.out hj)
  have HB3 := Lib.hid hb3
  clear hb3 HG3 HRW2 HB2
  have hA3 : w3.heap[V]? = some (.cells #[.slice Ad nd cd, .slice Ac nc cc] tFate (0, 0)) := (HB3.out.block V (by omega)).trans HA1.out
  have hc3 : Rd w3 B 1 Ac nc (cInt cuts) := HC1.out.below (HB3.out.mono (by omega))
  have HC3 := Lib.hid hc3
  clear hc3
  have f0 : (w3.alloc (.cells #[] tInt)).cell? ⟨V, 1, none⟩ = some (.slice Ac nc cc) := (World.cell?_alloc_lt w3 _ _ (by show V < _; have := HS1.out; have := HB3.out.size; omega)).trans (c_fate hA3).2
  clear hA3
  go_upto_region 4 with (first
    | (at_builtin; refine wpList_append_rd _ rfl (.tmp 12) (.tmp 14) 27 rfl (V + 2) tInt j0 (.int .i64 0) 1 8 Try.underlying27 hj hy0 hy1 hy2 rfl (by decide) (.slice (some ⟨w3.heap.size, 0, none⟩) 0 0) 0 [] rfl (own_new w3 (by have := HS1.out; have := HB3.out.size; omega) tInt 1 0 [] rfl (Nat.zero_le _)) B Ac nc cc (cInt cuts) rfl (HC3.out.alloc (by have := HS1.out; have := HB3.out.size; omega) _) HZC.out (cInt_one cuts) (by unfold maxLen; omega) (by omega) (by have := HS1.out; have := HB3.out.size; simp; omega) ?_; intro v4 w4 hrow4 hg4; have HROW4 := Lib.hid hrow4; have HG4 := Lib.hid hg4; clear hrow4 hg4))
  have hb4 : Below (V + 2) w1 w4 := (HB3.out.alloc (by have := HS1.out; have := HB3.out.size; omega) _).grown HG4.out (by have := HS1.out; have := HB3.out.size; simp; omega) (fun j hj => by have := HS1.out; have := HB3.out.size; simp [Value.ownBlock] at hj; omega)
  have hbd4 : Below w3.heap.size w3 w4 := ((Below.refl _ w3).alloc (Nat.le_refl _) _).grown HG4.out (by simp) (fun j hj => by simp [Value.ownBlock] at hj; omega)
  have hd4 := own_below HROW3.out hbd4
  have HD4 := Lib.hid hd4
  have HB4 := Lib.hid hb4
  clear hb4 HG4 f0 HC3 hbd4 hd4
  have hrow4 := HROW4.out
  rw [Nat.zero_add, List.nil_append] at hrow4
  have HRW4 := Lib.hid hrow4
  clear HROW4 hrow4
  go_upto_region 5 with (first
    | (at_builtin; refine wpList_append_own _ rfl (.tmp 16) (.tmp 17) 27 rfl (V + 2) tInt j0 (.int .i64 0) 1 8 Try.underlying27 hj hy0 hy1 hy2 rfl (by decide) v4 nc (cInt cuts) rfl (own_alloc HRW4.out _) ⟨w4.heap.size, 0, none⟩ 4 4 (cInt cI4) rfl rfl (new_cells w4 (cInt cI4) tInt) (cInt_one _) (by unfold maxLen; omega) (by omega) (by have := HS1.out; have := HB4.out.size; simp; omega) ?_; intro v5 w5 hrow5 hg5 _; have HROW5 := Lib.hid hrow5; have HG5 := Lib.hid hg5; clear hrow5 hg5))
  have hd5 : w5.ownsRow (V + 2) tBool 1 v3 (nd + 4) (cBool (dirs ++ cB4)) := by
    rw [cBool, List.map_append]
    refine own_same HD4.out fun g hg => ?_
    obtain ⟨cur, hcur⟩ := own_lt HD4.out hg
    have hlt := (Array.getElem?_eq_some_iff.1 hcur).1
    exact (HG5.out.block g (by simp; omega) (fun e => own_types HD4.out HRW4.out (by decide) hg e.symm)).trans (heap_alloc_old _ _ hlt)
  have hc5 : w5.ownsRow (V + 2) tInt 1 v5 (nc + 4) (cInt (cuts ++ cI4)) := by
    rw [cInt, List.map_append]
    exact HROW5.out
  have hb5 : Below (V + 2) w1 w5 := (HB4.out.alloc (by have := HS1.out; have := HB4.out.size; omega) _).grown HG5.out (by have := HS1.out; have := HB4.out.size; simp; omega) (fun j hj => own_ge HRW4.out hj)
  obtain ⟨A3, c3, hv3, hc3, hm3⟩ := own_form hd5
  subst hv3
  obtain ⟨gd, rfl⟩ := own_some hd5 (by omega)
  obtain ⟨A5, c5, hv5, hc5', hm5⟩ := own_form hc5
  subst hv5
  obtain ⟨gc, rfl⟩ := own_some hc5 (by omega)
  have hA5 : w5.heap[V]? = some (.cells #[.slice Ad nd cd, .slice Ac nc cc] tFate (0, 0)) := (hb5.block V (by omega)).trans HA1.out
  have hR5 : w5.heap[V + 1]? = some (.cells #[.slice none 0 0, .slice none 0 0] tFate (0, 0)) := (hb5.block (V + 1) (by omega)).trans HR1.out
  have f0 := (c_fate hA5).1
  have f1 := (c_fate hA5).2
  have f2 := (c_fate hR5).1
  have f3 := (c_fate hR5).2
  have f4 : w5.frozen? ⟨V + 1, 0, none⟩ = false := by unfold World.frozen?; rw [show w5.heap[(⟨V + 1, 0, none⟩ : Addr).block]? = _ from hR5]; simp
  have f5 : w5.frozen? ⟨V + 1, 1, none⟩ = false := by unfold World.frozen?; rw [show w5.heap[(⟨V + 1, 1, none⟩ : Addr).block]? = _ from hR5]; simp
  have g1 : (nd : Int) ≤ (c3 : Int) := by omega
  have g2 : (nc : Int) ≤ (c5 : Int) := by omega
  have g3 : (c3 : Int) ≤ 9223372036854775807 := by unfold maxLen at hm3; omega
  have g4 : (c5 : Int) ≤ 9223372036854775807 := by unfold maxLen at hm5; omega
  have HD5 := Lib.hid hd5
  have HC5 := Lib.hid hc5
  have HB5 := Lib.hid hb5
  clear hd5 hc5 hb5 hA5 hR5 hc3 hm3 hc5' hm5 HD4 HB4 HRW4 HROW5 HG5 HROW3 HB3 HC1 HD1
  go_region
  all_goals (
    go_wp2
    try simp only [Exit.inBlock, Exit.then]
    have hR5 : w5.heap[V + 1]? = some (.cells #[.slice none 0 0, .slice none 0 0] tFate (0, 0)) := (HB5.out.block (V + 1) (by omega)).trans HR1.out
    have hR6 := heap_same (heap_same hR5 (i := 0) (.slice (some ⟨gd, 0, none⟩) nd c3)) (i := 1) (.slice (some ⟨gc, 0, none⟩) nc c5)
    refine bodyPost_ret (results_cell_row Try.results74 _ _ (V + 1) tFate _ _ _ rfl hR6 Try.underlying29 rfl (by kernel_rfl)) rfl ?_
    have hk : ∀ (v : Value) (w6 : World), (w6 = ((w5.setCell ⟨V + 1, 0, none⟩ (.slice (some ⟨gd, 0, none⟩) nd c3)).setCell ⟨V + 1, 1, none⟩ (.slice (some ⟨gc, 0, none⟩) nc c5)).drew) → (∀ g, v.ownBlock = some g → V + 2 ≤ g) → ∀ g, v.ownBlock = some g → w6.heap[g]? = w5.heap[g]? := by
      rintro v w6 rfl hv g hg
      have := hv g hg
      exact (Below.heap_setCell _ _ _ g (by show g ≠ V + 1; omega)).trans (Below.heap_setCell _ _ _ g (by show g ≠ V + 1; omega))
    have hdl : dirs.length = nd := by simpa using HD5.out.1
    have hcl : cuts.length = nc := by simpa using HC5.out.1
    refine ⟨gd, c3, gc, c5, rfl, ⟨?_, ?_⟩, ?_⟩
    · rw [hdl, HV.out]
      exact own_base (own_same HD5.out (hk _ _ rfl fun g hg => own_ge HD5.out hg)) (by omega)
    · rw [hcl, HV.out]
      exact own_base (own_same HC5.out (hk _ _ rfl fun g hg => own_ge HC5.out hg)) (by omega)
    · rw [HV.out]
      exact (((HB1.out.trans (HB5.out.mono (by omega))).setCell (by show V ≤ V + 1; omega) _).setCell (by show V ≤ V + 1; omega) _).drew)
theorem own_cell {w : World} {B g cap n k : Nat} {e : TypeId} {xs : List Value} {u : Value} (h : w.ownsRow B e 1 (.slice (some ⟨g, 0, none⟩) n cap) n xs) (hk : k < n) (hu : xs[k]? = some u) : w.cell? ⟨g, k, none⟩ = some u := by
  have h1 := (Rd.of_own h).cell rfl hk hu
  rwa [at_zero] at h1
theorem own_free {w : World} {B g cap n k : Nat} {e : TypeId} {xs : List Value} (h : w.ownsRow B e 1 (.slice (some ⟨g, 0, none⟩) n cap) n xs) : w.frozen? ⟨g, k, none⟩ = false := by
  obtain ⟨cur, h3⟩ := own_lt h rfl
  unfold World.frozen?
  rw [show w.heap[(⟨g, k, none⟩ : Addr).block]? = _ from h3]
  simp
set_option maxRecDepth 100000 in
set_option maxHeartbeats 4000000 in
theorem keptFate_any {w : World} {Ad Ac : Option Addr} {nd cd nc cc B B' gd c1 gc c2 : Nat} {dirs : List Bool} {cuts : List Int} (hd : Rd w B 1 Ad nd (cBool dirs)) (hc : Rd w B 1 Ac nc (cInt cuts)) (hl : LentF w B' gd c1 gc c2 dirs cuts) (hB : B ≤ w.heap.size) (hnd : nd ≤ 1048576) (hnc : nc ≤ 1048576) :
    Calls Try.prog 82 #[.agg #[.slice (some ⟨gd, 0, none⟩) nd c1, .slice (some ⟨gc, 0, none⟩) nc c2], .agg #[.slice Ad nd cd, .slice Ac nc cc]] w fun x w' => x = .returned (.bool true) ∧ Kept w w' (fun k => k = gd ∨ k = gc) := by
  have hdl : dirs.length = nd := by simpa using hd.1
  have hcl : cuts.length = nc := by simpa using hc.1
  obtain ⟨hl1, hl2⟩ := hl
  rw [hdl] at hl1
  rw [hcl] at hl2
  obtain ⟨_, c', hv, hcap1, hcm1⟩ := own_form hl1
  have hcc : c1 = c' := by injection hv
  subst hcc
  obtain ⟨_, c', hv', hcap2, hcm2⟩ := own_form hl2
  have hcc : c2 = c' := by injection hv'
  subst hcc
  clear hv hv'
  have g1 : (nd : Int) + 4 ≤ (c1 : Int) := by omega
  have g2 : (nc : Int) + 4 ≤ (c2 : Int) := by omega
  have g3 : (c1 : Int) ≤ 9223372036854775807 := by unfold maxLen at hcm1; omega
  have g4 : (c2 : Int) ≤ 9223372036854775807 := by unfold maxLen at hcm2; omega
  clear hcap1 hcap2 hcm1 hcm2
  have hgd : gd < w.heap.size := by
    obtain ⟨cur, h⟩ := own_lt hl1 rfl
    exact (Array.getElem?_eq_some_iff.1 h).1
  have hgc : gc < w.heap.size := by
    obtain ⟨cur, h⟩ := own_lt hl2 rfl
    exact (Array.getElem?_eq_some_iff.1 h).1
  have hne : gd ≠ gc := fun e => own_types hl1 hl2 (by decide) (g := gd) rfl (by rw [e]; rfl)
  obtain ⟨V, hV⟩ : ∃ V, w.heap.size = V := ⟨_, rfl⟩
  rw [hV] at hgd hgc hB
  have HD := Lib.hid hd
  have HC := Lib.hid hc
  have HDL := Lib.hid hdl
  have HCL := Lib.hid hcl
  have HL1 := Lib.hid hl1
  have HL2 := Lib.hid hl2
  have HV := Lib.hid hV
  have HNE := Lib.hid hne
  clear hd hc hl1 hl2 hV hdl hcl hne
  go_enter Try.func82, Try.ntmps82
  go_upto_region 1 with (fail)
  obtain ⟨w1, hw1⟩ : ∃ w1, (w.alloc (.cells #[.slice (some ⟨gd, 0, none⟩) nd c1, .slice (some ⟨gc, 0, none⟩) nc c2] tFate)).alloc (.cells #[.slice Ad nd cd, .slice Ac nc cc] tFate) = w1 := ⟨_, rfl⟩
  have hs1 : w1.heap.size = V + 2 := by rw [← hw1, ← HV.out]; simp
  have hA1 : w1.heap[V]? = some (.cells #[.slice (some ⟨gd, 0, none⟩) nd c1, .slice (some ⟨gc, 0, none⟩) nc c2] tFate (0, 0)) := by
    rw [← hw1, ← HV.out]
    exact (heap_alloc_old _ _ (by simp)).trans (heap_alloc_new _ _)
  have hR1 : w1.heap[V + 1]? = some (.cells #[.slice Ad nd cd, .slice Ac nc cc] tFate (0, 0)) := by
    rw [← hw1, ← HV.out]
    exact heap_alloc2_new _ _ _
  have hb1 : Below V w w1 := by
    rw [← hw1, ← HV.out]
    exact ((Below.refl _ _).alloc (Nat.le_refl _) _).alloc (by simp) _
  rw [hw1, HV.out]
  have f0 : w1.cell? ⟨V, 0, none⟩ = some (.slice (some ⟨gd, 0, none⟩) nd c1) := (c_fate hA1).1
  have f1 : w1.cell? ⟨V, 1, none⟩ = some (.slice (some ⟨gc, 0, none⟩) nc c2) := (c_fate hA1).2
  have f2 : w1.cell? ⟨V + 1, 0, none⟩ = some (.slice Ad nd cd) := (c_fate hR1).1
  have f3 : w1.cell? ⟨V + 1, 1, none⟩ = some (.slice Ac nc cc) := (c_fate hR1).2
  have hd1 : Rd w1 B 1 Ad nd (cBool dirs) := HD.out.below (hb1.mono hB)
  have hc1 : Rd w1 B 1 Ac nc (cInt cuts) := HC.out.below (hb1.mono hB)
  have hl1 := own_same (w' := w1) HL1.out (fun g hg => by cases hg; exact hb1.block _ hgd)
  have hl2 := own_same (w' := w1) HL2.out (fun g hg => by cases hg; exact hb1.block _ hgc)
  have HD1 := Lib.hid hd1
  have HC1 := Lib.hid hc1
  have HM1 := Lib.hid hl1
  have HM2 := Lib.hid hl2
  have HS1 := Lib.hid hs1
  have HB1 := Lib.hid hb1
  clear hd1 hc1 hs1 hA1 hR1 hb1 hw1 hl1 hl2 HL1 HL2 HD HC
  go_upto_region 5 with (fail)
  go_wp2
  go_loopw [7] (fun iv wr => ∃ i q : Nat, iv = .int .i64 (i : Int) ∧ i ≤ nd ∧ wr = w1.drewN q) (fun iv _ => nd - (intOf iv).toNat)
  case atStart => exact ⟨0, 0, rfl, by omega, rfl⟩
  case round =>
    obtain ⟨i, q, rfl, hi, rfl⟩ := hrel
    by_cases hlt : i < nd
    · obtain ⟨ad, rfl, _, hadc⟩ := HD1.out.2 (by omega)
      obtain ⟨b, hb⟩ : ∃ b, dirs[i]? = some b := ⟨_, List.getElem?_eq_getElem (by have := HDL.out; omega)⟩
      have e0 : (w1.drewN q).cell? (ad.add i) = some (.bool b) := hadc i _ (by simp [cBool, hb])
      have e1 : (w1.drewN q).cell? ⟨gd, i, none⟩ = some (.bool b) := own_cell HM1.out (k := i) (by omega) (by
        rw [cBool, List.getElem?_map, List.getElem?_append_left (by have := HDL.out; omega), hb]; rfl)
      have hlt2 : (i : Int) < (nd : Int) := by omega
      have hlt3 : (i : Int) < (nd : Int) + 4 := by omega
      have e2 : w1.cell? (ad.add i) = some (.bool b) := e0
      have e3 : w1.cell? ⟨gd, i, none⟩ = some (.bool b) := e1
      clear hadc hb
      cases b <;> (
        go_wp2
        go_quiet (fail)
        go_wp2
        go_roundw
        case rel => exact ⟨i + 1, _, by go_num, by omega, rfl⟩
        case measure => simp [intOf]; omega)
    · obtain rfl : nd = i := by omega
      go_wp2
      go_loopw [8] (fun iv wr => ∃ i q : Nat, iv = .int .i64 (i : Int) ∧ i ≤ nc ∧ wr = w1.drewN q) (fun iv _ => nc - (intOf iv).toNat)
      case atStart => exact ⟨0, q, rfl, by omega, rfl⟩
      case round =>
        obtain ⟨i, q, rfl, hi, rfl⟩ := hrel
        by_cases hlt : i < nc
        · obtain ⟨ad, rfl, _, hadc⟩ := HC1.out.2 (by omega)
          obtain ⟨b, hb⟩ : ∃ b, cuts[i]? = some b := ⟨_, List.getElem?_eq_getElem (by have := HCL.out; omega)⟩
          have e0 : (w1.drewN q).cell? (ad.add i) = some (.int .i64 b) := hadc i _ (by simp [cInt, hb])
          have e1 : (w1.drewN q).cell? ⟨gc, i, none⟩ = some (.int .i64 b) := own_cell HM2.out (k := i) (by omega) (by
            rw [cInt, List.getElem?_map, List.getElem?_append_left (by have := HCL.out; omega), hb]; rfl)
          have hlt2 : (i : Int) < (nc : Int) := by omega
          have hlt3 : (i : Int) < (nc : Int) + 4 := by omega
          have e2 : w1.cell? (ad.add i) = some (.int .i64 b) := e0
          have e3 : w1.cell? ⟨gc, i, none⟩ = some (.int .i64 b) := e1
          clear hadc hb
          go_wp2
          go_quiet (fail)
          go_wp2
          go_roundw
          case rel => exact ⟨i + 1, _, by go_num, by omega, rfl⟩
          case measure => simp [intOf]; omega
        · obtain rfl : nc = i := by omega
          have mk1 : ∀ (k : Nat) (b : Bool), cB4[k]? = some b → w1.cell? ⟨gd, nd + k, none⟩ = some (.bool b) := fun k b hk => by
            have hk4 : k < 4 := by have := (List.getElem?_eq_some_iff.1 hk).1; simpa using this
            exact own_cell HM1.out (k := nd + k) (by omega) (by
              rw [cBool, List.getElem?_map, List.getElem?_append_right (by have := HDL.out; omega), show nd + k - dirs.length = k by have := HDL.out; omega, hk]; rfl)
          have mk2 : ∀ (k : Nat) (b : Int), cI4[k]? = some b → w1.cell? ⟨gc, nc + k, none⟩ = some (.int .i64 b) := fun k b hk => by
            have hk4 : k < 4 := by have := (List.getElem?_eq_some_iff.1 hk).1; simpa using this
            exact own_cell HM2.out (k := nc + k) (by omega) (by
              rw [cInt, List.getElem?_map, List.getElem?_append_right (by have := HCL.out; omega), show nc + k - cuts.length = k by have := HCL.out; omega, hk]; rfl)
          have d0 : w1.cell? ⟨gd, nd, none⟩ = some (.bool true) := mk1 0 true rfl
          have d1 : w1.cell? ⟨gd, nd + 1, none⟩ = some (.bool false) := mk1 1 false rfl
          have d2 : w1.cell? ⟨gd, nd + 2, none⟩ = some (.bool true) := mk1 2 true rfl
          have d3 : w1.cell? ⟨gd, nd + 3, none⟩ = some (.bool true) := mk1 3 true rfl
          have e0 : w1.cell? ⟨gc, nc, none⟩ = some (.int .i64 5) := mk2 0 5 rfl
          have e1 : w1.cell? ⟨gc, nc + 1, none⟩ = some (.int .i64 6) := mk2 1 6 rfl
          have e2 : w1.cell? ⟨gc, nc + 2, none⟩ = some (.int .i64 7) := mk2 2 7 rfl
          have e3 : w1.cell? ⟨gc, nc + 3, none⟩ = some (.int .i64 8) := mk2 3 8 rfl
          have b0 : (nd : Int) < (nd : Int) + 4 := by omega
          have b1 : (nd : Int) + 1 < (nd : Int) + 4 := by omega
          have b2 : (nd : Int) + 2 < (nd : Int) + 4 := by omega
          have b3 : (nd : Int) + 3 < (nd : Int) + 4 := by omega
          have y0 : (nc : Int) < (nc : Int) + 4 := by omega
          have y1 : (nc : Int) + 1 < (nc : Int) + 4 := by omega
          have y2 : (nc : Int) + 2 < (nc : Int) + 4 := by omega
          have y3 : (nc : Int) + 3 < (nc : Int) + 4 := by omega
          clear mk1 mk2
          go_upto_region 19 with (fail)
          clear d0 d1 d2 d3 e0 e1 e2 e3 b0 b1 b2 b3 y0 y1 y2 y3
          go_wp2
          go_loopw [11] (fun iv wr => ∃ (i : Nat) (l : List Bool), iv = .int .i64 (i : Int) ∧ i ≤ nd + 4 ∧ wr.ownsRow B' tBool 1 (.slice (some ⟨gd, 0, none⟩) (nd + 4) c1) (nd + 4) (cBool l) ∧ Kept w1 wr (fun k => k = gd)) (fun iv _ => nd + 4 - (intOf iv).toNat)
          case atStart => exact ⟨0, _, rfl, by omega, HM1.out, ⟨rfl, rfl, rfl, Nat.le_refl _, fun _ _ _ => rfl⟩⟩
          case round =>
            obtain ⟨i, l, rfl, hi, hrow, hkp⟩ := hrel
            by_cases hlt : i < nd + 4
            · have hll : l.length = nd + 4 := by simpa using hrow.1
              obtain ⟨b, hb⟩ : ∃ b, l[i]? = some b := ⟨_, List.getElem?_eq_getElem (by omega)⟩
              have e0 : wr.cell? ⟨gd, i, none⟩ = some (.bool b) := own_cell hrow hlt (by simp [cBool, hb])
              have e1 : wr.frozen? ⟨gd, i, none⟩ = false := own_free hrow
              have hlt2 : (i : Int) < (nd : Int) + 4 := by omega
              have HROW := Lib.hid hrow
              have HKP := Lib.hid hkp
              clear hrow hkp hb hll
              go_wp2
              have hnew := own_store HROW.out hlt (.bool !b)
              rw [show (cBool l).set i (.bool !b) = cBool (l.set i !b) by simp [cBool, List.map_set]] at hnew
              have HN := Lib.hid hnew
              have HK2 := Lib.hid (HKP.out.set (p := ⟨gd, i, none⟩) rfl (.bool !b))
              clear hnew e0 e1
              go_roundw
              case rel => exact ⟨i + 1, _, by go_num, by omega, HN.out, HK2.out⟩
              case measure => simp [intOf]; omega
            · obtain rfl : nd + 4 = i := by omega
              obtain ⟨w3, rfl⟩ : ∃ w3, w3 = wr := ⟨_, rfl⟩
              have hl3 : w3.ownsRow B' tInt 1 (.slice (some ⟨gc, 0, none⟩) (nc + 4) c2) (nc + 4) (cInt (cuts ++ cI4)) := own_same HM2.out (fun g hg => by
                have hg' : gc = g := by simpa [Value.ownBlock] using hg
                subst hg'
                exact hkp.block gc (by rw [HS1.out]; omega) (fun e => HNE.out e.symm))
              have HL3 := Lib.hid hl3
              have HKP := Lib.hid hkp
              clear hrow hkp hl3
              go_wp2
              go_loopw [12] (fun iv wr => ∃ (i : Nat) (l : List Int), iv = .int .i64 (i : Int) ∧ i ≤ nc + 4 ∧ wr.ownsRow B' tInt 1 (.slice (some ⟨gc, 0, none⟩) (nc + 4) c2) (nc + 4) (cInt l) ∧ Kept w3 wr (fun k => k = gc)) (fun iv _ => nc + 4 - (intOf iv).toNat)
              case atStart => exact ⟨0, _, rfl, by omega, HL3.out, Kept.refl _ _⟩
              case round =>
                obtain ⟨i, l, rfl, hi, hrow, hkp⟩ := hrel
                by_cases hlt : i < nc + 4
                · have hll : l.length = nc + 4 := by simpa using hrow.1
                  obtain ⟨b, hb⟩ : ∃ b, l[i]? = some b := ⟨_, List.getElem?_eq_getElem (by omega)⟩
                  have e0 : wr.cell? ⟨gc, i, none⟩ = some (.int .i64 b) := own_cell hrow hlt (by simp [cInt, hb])
                  have e1 : wr.frozen? ⟨gc, i, none⟩ = false := own_free hrow
                  have hlt2 : (i : Int) < (nc : Int) + 4 := by omega
                  have HROW := Lib.hid hrow
                  have HKP3 := Lib.hid hkp
                  clear hrow hkp hb hll
                  go_wp2
                  have hnew := own_store HROW.out hlt (.int .i64 (wrap64 (b + 1000)))
                  rw [show (cInt l).set i (.int .i64 (wrap64 (b + 1000))) = cInt (l.set i (wrap64 (b + 1000))) by simp [cInt, List.map_set]] at hnew
                  exact ⟨⟨i + 1, _, by go_num, by omega, hnew, HKP3.out.set (p := ⟨gc, i, none⟩) rfl (.int .i64 (wrap64 (b + 1000)))⟩, by simp [intOf]; omega⟩
                · obtain rfl : nc + 4 = i := by omega
                  have HKP3 := Lib.hid hkp
                  clear hrow hkp
                  go_wp2
                  go_ret
                  refine ⟨rfl, ?_⟩
                  have h1 : Kept w w1 (fun k => k = gd ∨ k = gc) := ⟨HB1.out.os, HB1.out.tape, HB1.out.output, HB1.out.size, fun k hk _ => HB1.out.block k (by have := HV.out; omega)⟩
                  exact (h1.trans (HKP.out.mono fun k hk => .inl hk) (fun k hk => .inl hk)).trans (HKP3.out.mono fun k hk => .inr hk) (fun k hk => .inl hk)
end Go.Proofs.Ytelgcmcnebncmaa.Dr
