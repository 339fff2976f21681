/- The walk of apartBytes: rows of bytes, each in a block of its own, are apart. -/
import Derived.Test.YtelgcmcnebncmaaApart
namespace Go.Proofs.Ytelgcmcnebncmaa.Ap
set_option linter.unusedVariables false
open Go.RowKit Go.Proofs Go.Proofs.Ytelgcmcnebncmaa.Dr

theorem infoRow8 : (Try.prog.info? 35).map (fun i => (i.zero, i.size, i.bytes)) = some (some (.slice none 0 0), 1, 24) := by kernel_rfl
def mkB (i : Nat) (b : Bool) : Value := .int .u8 (if b then ((i % 125 : Nat) : Int) else 128 + ((i % 125 : Nat) : Int))
set_option maxRecDepth 100000 in
set_option maxHeartbeats 4000000 in
theorem bytes_any (A : Option Addr) (k c : Nat) (ls : List Row) (hk : ls.length = k) (hk3 : k ≤ 4294967296) (hn : ∀ (i : Nat) (r : Row), ls[i]? = some r → r.2.1 ≤ 8796093021952) (base : Nat) (w : World) (hB : base ≤ w.heap.size)
    (hL : Rd w w.heap.size 1 A k (ls.map rv)) (hS : ∀ ad, A = some ad → ¬ Sb ls ad.block) (hA : Apart ls) (hH : ∀ (i : Nat) (r : Row), ls[i]? = some r → ∃ xs, w.ownsRow base tU8 1 (rv r) r.2.1 xs) :
    Calls Try.prog 45 #[.slice A k c] w fun e w' => e = .returned (.bool true) ∧ Kept w w' (Sb ls) := by
  obtain ⟨i0, hi, hz0, hz1, hz2⟩ := info_parts infoU8
  obtain ⟨i1, hi', hy0, hy1, hy2⟩ := info_parts infoRow8
  obtain ⟨i2, hi'', hx0, hx1, hx2⟩ := info_parts infoInt
  obtain ⟨o, ho⟩ := owner_of hA
  have HP0 := Lib.hid (Part.start (mk := mkB) hH ho)
  have HL := Lib.hid hL
  have HS := Lib.hid hS
  have HN := Lib.hid hn
  have HK := Lib.hid hk
  clear hL hS hn hk hA hH ho
  go_enter Try.func45, Try.ntmps45
  go_wp2
  go_loopw [3] (fun iv wr => ∃ i : Nat, iv = .int .i64 (i : Int) ∧ i ≤ k ∧ Part tU8 1 mkB w wr base o ls i 0) (fun iv _ => k - (intOf iv).toNat)
  case atStart => exact ⟨0, rfl, by omega, HP0.out⟩
  case round =>
    clear HP0
    obtain ⟨i, rfl, hik, hP⟩ := hrel
    by_cases hlt : i < k
    · obtain ⟨ad, a, n, ca, rfl, hc, hx⟩ := row_at (kept_rd hP.kept HL.out (Nat.le_refl _) HS.out) hlt
      have HX := Lib.hid hx
      have hnb := HN.out i _ hx
      simp only at hnb
      have hlt2 : (i : Int) < (k : Int) := by omega
      obtain ⟨q, hq⟩ : ∃ q, i % 125 = q := ⟨_, rfl⟩
      have hq1 : (i : Int) % 125 = (q : Int) := by omega
      have hq2 : (q : Int) % 256 = (q : Int) := by omega
      have hmk : mkB i true = .int .u8 (q : Int) := by unfold mkB; rw [hq]; rfl
      have HMK := Lib.hid hmk
      have HP := Lib.hid hP
      clear hx hc hq hmk hP
      obtain ⟨wo, rfl⟩ : ∃ wo : World, wo = wr := ⟨_, rfl⟩
      go_wp2
      go_loopw [4] (fun jv wr' => ∃ j : Nat, jv = .int .i64 (j : Int) ∧ j ≤ n ∧ Part tU8 1 mkB w wr' base o ls i j) (fun jv _ => n - (intOf jv).toNat)
      case atStart => exact ⟨0, rfl, by omega, HP.out⟩
      case round =>
        clear HP
        obtain ⟨j, rfl, hjn, hP⟩ := hrel
        have hc := row_cell (kept_rd hP.kept HL.out (Nat.le_refl _) HS.out) HK.out HX.out
        by_cases hjl : j < n
        · obtain ⟨g, u0, hg, c1, c2, hP2⟩ := hP.place (by decide) HX.out hjl
          simp only at hg
          subst hg
          rw [Nat.mul_one] at c1 c2 hP2
          rw [HMK.out] at hP2
          have hjl2 : (j : Int) < (n : Int) := by omega
          have HP2 := Lib.hid hP2
          clear hP2 hP
          go_wp2
          go_roundw
          case rel => exact ⟨j + 1, by go_num, by omega, HP2.out⟩
          case measure => simp [intOf]; omega
        · obtain rfl : j = n := by omega
          have HP2 := Lib.hid (hP.next HX.out rfl)
          clear hP
          go_wp2
          go_roundw
          case rel => exact ⟨i + 1, by go_num, by omega, HP2.out⟩
          case measure => simp [intOf]; omega
    · obtain rfl : i = k := by omega
      have hG0 : Grew tU8 1 mkB 35 w wr base ls o [] (.slice none 0 0) := hP.done (Nat.le_of_eq HK.out)
      obtain ⟨wo, rfl⟩ : ∃ wo : World, wo = wr := ⟨_, rfl⟩
      clear hP
      go_wp2
      go_loopw [5, 6, 7] (fun vm vw iv wr => ∃ (p : Nat) (o' : Nat → Nat) (sn : List Snap), iv = .int .i64 (p : Int) ∧ p ≤ i ∧ Grew tU8 1 mkB 35 w wr base ls o' sn vm ∧ wr.ownsRow w.heap.size 3 1 vw sn.length (sn.map fun s => .int .i64 (s.i : Int)) ∧ (∀ s ∈ sn, s.i < p) ∧ sn.length ≤ 66 * p) (fun _ _ iv _ => i - (intOf iv).toNat)
      case atStart => exact ⟨0, o, [], rfl, by omega, hG0, World.ownsRow_nil _ _ _ _, by simp, by simp⟩
      case round =>
        clear hG0
        obtain ⟨p, o1, sn, rfl, hpi, hgrew, hwho, hsi, hsl⟩ := hrel
        by_cases hlt2 : p < i
        · obtain ⟨ad, a, n, ca, rfl, hc, hx⟩ := row_at (kept_rd hgrew.kept HL.out (Nat.le_refl _) HS.out) hlt2
          have HX := Lib.hid hx
          have hnb := HN.out p _ hx
          simp only at hnb
          have hlt3 : (p : Int) < (i : Int) := by omega
          obtain ⟨xs0, hN0⟩ := hgrew.now hx hsi
          obtain ⟨q, hq⟩ : ∃ q, p % 125 = q := ⟨_, rfl⟩
          have hq1 : (p : Int) % 125 = (q : Int) := by omega
          have hq2 : (128 + (q : Int)) % 256 = 128 + (q : Int) := by omega
          have hmk : mkB p false = .int .u8 (128 + (q : Int)) := by unfold mkB; rw [hq]; rfl
          have HMK := Lib.hid hmk
          have HSI := Lib.hid hsi
          have HG := Lib.hid hgrew
          have HW := Lib.hid hwho
          have HN0 := Lib.hid hN0
          clear hx hsi hq hmk hgrew hwho hN0
          obtain ⟨wp, rfl⟩ : ∃ wp : World, wp = wr := ⟨_, rfl⟩
          go_wp2
          go_loopw [5, 6, 8, 9] (fun vm vw gv jv wr => ∃ (j : Nat) (o' : Nat → Nat) (sn' : List Snap) (ga : Option Addr) (gn gc : Nat) (xs : List Value), jv = .int .i64 (j : Int) ∧ gv = .slice ga gn gc ∧ j ≤ 66 ∧ Grew tU8 1 mkB 35 w wr base ls o' sn' vm ∧ Now tU8 1 mkB w wr base ls o' sn' p j (a, n, ca) (ga, gn, gc) xs ∧
            wr.ownsRow w.heap.size 3 1 vw sn'.length (sn'.map fun s => .int .i64 (s.i : Int)) ∧ (∀ s ∈ sn', s.i ≤ p) ∧ sn'.length ≤ 66 * p + j) (fun _ _ _ jv _ => 66 - (intOf jv).toNat)
          case atStart => exact ⟨0, o1, sn, a, n, ca, xs0, rfl, rfl, by omega, HG.out, HN0.out, HW.out, fun s hs => Nat.le_of_lt (HSI.out s hs), by omega⟩
          case round =>
            clear HG HW HN0
            obtain ⟨j, o2, sn2, ga, gn, gc, xs, rfl, rfl, hj66, hgrew2, hnow, hwho2, hsi2, hsl2⟩ := hrel
            have HSI2 := Lib.hid hsi2
            have hgn : gn = n + j := hnow.len
            have HGN := Lib.hid hgn
            have hgb : gn ≤ 8796093022018 := by omega
            have HG2 := Lib.hid hgrew2
            have HNW := Lib.hid hnow
            have HW2 := Lib.hid hwho2
            clear hsi2 hgn hgrew2 hnow hwho2
            by_cases hjl : j < 66
            · have hgb2 : gn ≤ 8796093022017 := by have := HGN.out; omega
              have hjl2 : (j : Int) < 66 := by omega
              have ha1 := (Below.refl wr.heap.size wr).alloc (Nat.le_refl _) (.cells #[.int .u8 (128 + (q : Int))] 5)
              have HG1 := Lib.hid (HG2.out.below ha1)
              have HN1 := Lib.hid (HNW.out.below ha1)
              have HW1 := Lib.hid (own_below HW2.out ha1)
              have hbs : base ≤ (wr.alloc (.cells #[.int .u8 (128 + (q : Int))] 5)).heap.size := Nat.le_trans hB HG1.out.kept.size
              have HBS := Lib.hid hbs
              clear ha1 HG2 HNW HW2 hbs
              have hst : ((j : Int) < 16 ∨ (¬ (j : Int) < 16 ∧ ((j : Int) == 65) = true)) ∨ (¬ (j : Int) < 16 ∧ ((j : Int) == 65) = false) := by
                by_cases h1 : (j : Int) < 16
                · exact .inl (.inl h1)
                · by_cases h2 : (j : Int) = 65
                  · exact .inl (.inr ⟨h1, by simpa using h2⟩)
                  · exact .inr ⟨h1, by simpa using h2⟩
              rcases hst with (h1 | ⟨h1, h2⟩) | ⟨h1, h2⟩
              rotate_left 2
              · go_wp2_with (first
                  | (at_builtin; refine wpList_append_keeps _ rfl (.tmp 52) (.tmp 57) 35 rfl base 5 i0 (.int .u8 0) 1 1 Try.underlying35 hi hz0 hz1 hz2 rfl (by decide) (.slice ga gn gc) gn _ rfl HN1.out.held.1 ⟨wr.heap.size, 0, none⟩ 1 1 [.int .u8 (128 + (q : Int))] rfl rfl (cell_one_new _ _ _) (by simp [Value.oneCell']) (by decide) (by unfold maxLen; omega) (by omega) HBS.out ?_; intro gb cap w2 hown2 hg2 hat2 hlt2 hkeep2; obtain ⟨o3, hG2, hN2⟩ := HN1.out.grow HG1.out (by decide) (by decide) (cs := [.int .u8 (128 + (q : Int))]) rfl (by rw [HMK.out]; rfl) hown2 hg2 hat2 hkeep2; have HG2 := Lib.hid hG2; have HN2 := Lib.hid hN2; have HW2 := Lib.hid (row_other HW1.out HN1.out.held.1 (by decide) hg2); clear hG2 hN2 hown2 hg2 hat2 hlt2 hkeep2))
                go_roundw
                case rel => exact ⟨j + 1, o3, sn2, some ⟨gb, 0, none⟩, gn + 1, cap, _, by go_num, rfl, by omega, HG2.out, HN2.out, HW2.out, HSI2.out, by omega⟩
                case measure => simp [intOf]; omega
              all_goals
                go_wp2_with (first
                  | (at_builtin; refine wpList_append_keeps _ rfl (.tmp 52) (.tmp 57) 35 rfl base 5 i0 (.int .u8 0) 1 1 Try.underlying35 hi hz0 hz1 hz2 rfl (by decide) (.slice ga gn gc) gn _ rfl HN1.out.held.1 ⟨wr.heap.size, 0, none⟩ 1 1 [.int .u8 (128 + (q : Int))] rfl rfl (cell_one_new _ _ _) (by simp [Value.oneCell']) (by decide) (by unfold maxLen; omega) (by omega) HBS.out ?_; intro gb cap w2 hown2 hg2 hat2 hlt2 hkeep2; obtain ⟨o3, hG2, hN2⟩ := HN1.out.grow HG1.out (by decide) (by decide) (cs := [.int .u8 (128 + (q : Int))]) rfl (by rw [HMK.out]; rfl) hown2 hg2 hat2 hkeep2; have ha2 := (Below.refl w2.heap.size w2).alloc (Nat.le_refl _) (.cells #[.slice (some ⟨gb, 0, none⟩) (gn + 1) cap] 35); have HG2 := Lib.hid (hG2.below ha2); have HN2 := Lib.hid (hN2.below ha2); have HW2 := Lib.hid (own_below (row_other HW1.out HN1.out.held.1 (by decide) hg2) ha2); clear hG2 hN2 hown2 hg2 hat2 hlt2 hkeep2 ha2)
                  | (at_builtin; refine wpList_append_own _ rfl (.tmp 65) (.tmp 67) 85 rfl w.heap.size 35 i1 (.slice none 0 0) 1 24 Try.underlying85 hi' hy0 hy1 hy2 rfl (by decide) _ _ _ rfl HG2.out.more ⟨w2.heap.size, 0, none⟩ 1 1 [rv (some ⟨gb, 0, none⟩, gn + 1, cap)] rfl rfl (cell_one_new _ _ _) (by simp [rv, Value.oneCell']) (by unfold maxLen; omega) (by omega) HG2.out.kept.size ?_; intro vm3 w3 hown3 hg3 _; obtain ⟨hG3, hN3⟩ := HN2.out.snap HG2.out (by decide) hown3 hg3; have ha3 := (Below.refl w3.heap.size w3).alloc (Nat.le_refl _) (.cells #[.int .i64 (p : Int)] 3); have HG3 := Lib.hid (hG3.below ha3); have HN3 := Lib.hid (hN3.below ha3); have HW3 := Lib.hid (own_below (row_other HW2.out HG2.out.more (by decide) hg3) ha3); clear hG3 hN3 hown3 hg3 ha3)
                  | (at_builtin; refine wpList_append_own _ rfl (.tmp 69) (.tmp 71) 27 rfl w.heap.size 3 i2 (.int .i64 0) 1 8 Try.underlying27 hi'' hx0 hx1 hx2 rfl (by decide) _ _ _ rfl HW3.out ⟨w3.heap.size, 0, none⟩ 1 1 [.int .i64 (p : Int)] rfl rfl (cell_one_new _ _ _) (by simp [Value.oneCell']) (by unfold maxLen; omega) (by omega) HG3.out.kept.size ?_; intro vw4 w4 hown4 hg4 _; have HG4 := Lib.hid (HG3.out.other HW3.out (by decide) (by decide) hg4); have HN4 := Lib.hid (HN3.out.other HW3.out (by decide) hg4); have HW4 := Lib.hid hown4; clear hown4 hg4))
                go_roundw
                case rel =>
                  refine ⟨j + 1, o3, sn2 ++ [⟨p, j + 1, (some ⟨gb, 0, none⟩, gn + 1, cap)⟩], some ⟨gb, 0, none⟩, gn + 1, cap, _, by go_num, rfl, by omega, HG4.out, HN4.out, by simpa using HW4.out, ?_, ?_⟩
                  · intro s hs
                    rcases List.mem_append.1 hs with h | h
                    · exact HSI2.out s h
                    · obtain rfl := List.mem_singleton.1 h; exact Nat.le_refl _
                  · simp; omega
                case measure => simp [intOf]; omega
            · obtain rfl : j = 66 := by omega
              go_wp2
              go_roundw
              case rel => exact ⟨p + 1, o2, sn2, by go_num, by omega, HG2.out, HW2.out, fun s hs => Nat.lt_succ_of_le (HSI2.out s hs), by omega⟩
              case measure => simp [intOf]; omega
        · obtain ⟨Am, cm, rfl, _, _⟩ := own_form hgrew.more
          obtain ⟨Aw, cw, rfl, _, _⟩ := own_form hwho
          obtain ⟨wf, rfl⟩ : ∃ wf : World, wf = wr := ⟨_, rfl⟩
          obtain ⟨nm, hnm⟩ : ∃ nm, sn.length = nm := ⟨_, rfl⟩
          have hmr := Rd.of_own hgrew.more
          have hwr := Rd.of_own hwho
          rw [hnm] at hmr hwr hsl
          have HM := Lib.hid hmr
          have HW := Lib.hid hwr
          have HG := Lib.hid hgrew
          have HNM := Lib.hid hnm
          have HSI := Lib.hid hsi
          rw [hnm]
          clear hmr hwr hgrew hnm hsi hwho
          go_wp2
          go_loopw [10] (fun iv wr => ∃ (q : Nat), iv = .int .i64 (q : Int) ∧ q ≤ nm ∧ wf = wr) (fun iv _ => nm - (intOf iv).toNat)
          case atStart => exact ⟨0, rfl, by omega, rfl⟩
          case round =>
            obtain ⟨y, rfl, hqn, rfl⟩ := hrel
            by_cases hql : y < nm
            · obtain ⟨s, hs⟩ : ∃ s, sn[y]? = some s := ⟨_, List.getElem?_eq_getElem (by have := HNM.out; omega)⟩
              obtain ⟨⟨a, n, ca⟩, hr, hlen, xs, hheld, hgood⟩ := HG.out.snaps s (List.mem_of_getElem? hs)
              obtain ⟨xl, hli, hlg⟩ := HG.out.lists s.i _ hr
              have hsi3 := HSI.out s (List.mem_of_getElem? hs)
              obtain ⟨adm, u, rfl, _, hu, hcm⟩ := HM.out.at_ hql
              rw [List.getElem?_map, hs] at hu
              injection hu with hu
              subst hu
              obtain ⟨adw, u, rfl, _, hu, hcw⟩ := HW.out.at_ hql
              rw [List.getElem?_map, hs] at hu
              injection hu with hu
              subst hu
              obtain ⟨ad, u, rfl, _, hu, hcl⟩ := (kept_rd HG.out.kept HL.out (Nat.le_refl _) HS.out).at_ (show s.i < i by omega)
              rw [List.getElem?_map, hr] at hu
              injection hu with hu
              subst hu
              obtain ⟨si, m, sa, sl, sc⟩ := s
              simp only at hlen hheld hgood hli hlg hcw hcl hcm hsi3 hr
              have hnb := HN.out si _ hr
              simp only at hnb
              change wf.cell? (adm.add y) = some (.slice sa sl sc) at hcm
              change wf.cell? (ad.add si) = some (.slice a n ca) at hcl
              obtain ⟨q, hq⟩ : ∃ q, si % 125 = q := ⟨_, rfl⟩
              have hq1 : (si : Int) % 125 = (q : Int) := by omega
              have hq2 : (q : Int) % 256 = (q : Int) := by omega
              have hq3 : (128 + (q : Int)) % 256 = 128 + (q : Int) := by omega
              have hmt : mkB si true = .int .u8 (q : Int) := by unfold mkB; rw [hq]; rfl
              have hmf : mkB si false = .int .u8 (128 + (q : Int)) := by unfold mkB; rw [hq]; rfl
              have HMT := Lib.hid hmt
              have HMF := Lib.hid hmf
              have HH := Lib.hid hheld
              have HGD := Lib.hid hgood
              have HLI := Lib.hid hli
              have HLG := Lib.hid hlg
              have HLEN := Lib.hid hlen
              have hslm : sl ≤ 9223372036854775807 := by
                obtain ⟨_, c9, _, h9, h10⟩ := own_form HH.out.1
                unfold maxLen at h10; simp only at h9; omega
              have hqn2 : (y : Int) < (nm : Int) := by omega
              have hsi4 : (si : Int) < (i : Int) := by omega
              clear hs hr hlen hheld hgood hli hlg hq hmt hmf
              go_wp2
              go_loopw [12] (fun iv wr => ∃ (kk : Nat), iv = .int .i64 (kk : Int) ∧ kk ≤ sl ∧ wf = wr) (fun iv _ => sl - (intOf iv).toNat)
              case atStart => exact ⟨0, rfl, by omega, rfl⟩
              case round =>
                obtain ⟨kk, rfl, hks, rfl⟩ := hrel
                by_cases hkl : kk < sl
                · obtain ⟨gs, hgs, hcs⟩ := HH.out.mark (by decide) HGD.out HLEN.out (show kk < n + m from HLEN.out ▸ hkl)
                  simp only at hgs
                  subst hgs
                  rw [Nat.mul_one] at hcs
                  have hks2 : (kk : Int) < (sl : Int) := by omega
                  by_cases hkn : kk < n
                  · obtain ⟨gl, hgl, hcr⟩ := HLI.out.mark (by decide) HLG.out rfl (show kk < n + 0 from hkn)
                    simp only at hgl
                    subst hgl
                    rw [Nat.mul_one] at hcr
                    have hkn2 : (kk : Int) < (n : Int) := by omega
                    rw [show decide (kk < n) = true by simpa using hkn, HMT.out] at hcs hcr
                    go_wp2
                    go_roundw
                    case rel => exact ⟨kk + 1, by go_num, by omega, by trivial⟩
                    case measure => simp [intOf]; omega
                  · have hkn2 : ¬ (kk : Int) < (n : Int) := by omega
                    rw [show decide (kk < n) = false by simpa using hkn, HMF.out] at hcs
                    go_wp2
                    go_roundw
                    case rel => exact ⟨kk + 1, by go_num, by omega, by trivial⟩
                    case measure => simp [intOf]; omega
                · obtain rfl : kk = sl := by omega
                  go_wp2
                  go_roundw
                  case rel => exact ⟨y + 1, by go_num, by omega, by trivial⟩
                  case measure => simp [intOf]; omega
            · go_wp2
              go_ret
              exact ⟨rfl, HG.out.kept⟩
end Go.Proofs.Ytelgcmcnebncmaa.Ap
