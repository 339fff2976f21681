/- The walk of apartNames: lists of texts, each in a block of its own, are apart. -/
import Derived.Test.YtelgcmcnebncmaaApart
namespace Go.Proofs.Ytelgcmcnebncmaa.Ap
set_option linter.unusedVariables false
open Go.RowKit Go.Proofs Go.Proofs.Ytelgcmcnebncmaa.Dr

theorem infoRownames : (Try.prog.info? 36).map (fun i => (i.zero, i.size, i.bytes)) = some (some (.slice none 0 0), 1, 24) := by kernel_rfl
set_option maxRecDepth 100000 in
set_option maxHeartbeats 4000000 in
theorem names_any (A : Option Addr) (k c : Nat) (ls : List Row) (hk : ls.length = k) (hk6 : k ≤ 6) (hn : ∀ (i : Nat) (r : Row), ls[i]? = some r → r.2.1 ≤ 17592186044) (base : Nat) (w : World) (hB : base ≤ w.heap.size)
    (hL : Rd w w.heap.size 1 A k (ls.map rv)) (hS : ∀ ad, A = some ad → ¬ Sb ls ad.block) (hA : Apart ls) (hH : ∀ (i : Nat) (r : Row), ls[i]? = some r → ∃ xs, w.ownsRow base 9 1 (rv r) r.2.1 xs) :
    Calls Try.prog 46 #[.slice A k c] w fun e w' => e = .returned (.bool true) ∧ Kept w w' (Sb ls) := by
  obtain ⟨i0, hi, hz0, hz1, hz2⟩ := info_parts infoStr
  obtain ⟨i1, hi', hy0, hy1, hy2⟩ := info_parts infoRownames
  obtain ⟨o, ho⟩ := owner_of hA
  obtain ⟨V, hV⟩ : ∃ V, w.heap.size = V := ⟨_, rfl⟩
  have hSV : ∀ b, Sb ls b → b < V := by
    rintro b ⟨i, r, hr, hb⟩
    obtain ⟨xs, hx⟩ := hH i r hr
    rw [← hV]
    exact (hx.lt b hb).2
  obtain ⟨w1, hw1⟩ : ∃ w1, (w.alloc (.cells tabM 9)).alloc (.cells tabG 9) = w1 := ⟨_, rfl⟩
  have hb1 : Below w.heap.size w w1 := by rw [← hw1]; exact ((Below.refl _ _).alloc (Nat.le_refl _) _).alloc (by simp) _
  have hs1 : w1.heap.size = V + 2 := by rw [← hw1, ← hV]; simp
  have htM : w1.heap[V]? = some (.cells tabM 9 (0, 0)) := by
    rw [← hw1, ← hV]
    exact (heap_alloc_old _ _ (by simp)).trans (heap_alloc_new _ _)
  have htG : w1.heap[V + 1]? = some (.cells tabG 9 (0, 0)) := by
    have := heap_alloc_new (w.alloc (.cells tabM 9)) (.cells tabG 9)
    rw [← hw1, ← hV]
    simpa using this
  have hL1 : Rd w1 w1.heap.size 1 A k (ls.map rv) := hL.next hb1
  have HP0 := Lib.hid (Part.start (mk := mkS) (fun i r hr => by
    obtain ⟨xs, hx⟩ := hH i r hr
    exact ⟨xs, own_below hx hb1⟩) ho)
  have hTM : ∀ wr, Kept w1 wr (Sb ls) → ∀ i, i < 6 → wr.cell? ⟨V, i, none⟩ = some (mkS i true) := fun wr hk i hi => by
    rw [kept_cell hk (by simp only; omega) (fun h => by have := hSV _ h; simp only at this; omega), cell_of_row w1 V i _ _ _ htM]
    exact tabM_at hi
  have hTG : ∀ wr, Kept w1 wr (Sb ls) → ∀ i, i < 6 → wr.cell? ⟨V + 1, i, none⟩ = some (mkS i false) := fun wr hk i hi => by
    rw [kept_cell hk (by simp only; omega) (fun h => by have := hSV _ h; simp only at this; omega), cell_of_row w1 (V + 1) i _ _ _ htG]
    exact tabG_at hi
  have HL := Lib.hid hL1
  have HS := Lib.hid hS
  have HN := Lib.hid hn
  have HK := Lib.hid hk
  have HB1 := Lib.hid hb1
  have HBB := Lib.hid (Nat.le_trans hB hb1.size)
  have HTM := Lib.hid hTM
  have HTG := Lib.hid hTG
  clear hL hL1 hS hn hk hA hH ho hSV htM htG hb1 hs1 hTM hTG
  unfold tabM tabG at hw1
  go_enter Try.func46, Try.ntmps46
  go_upto_region 3 with (fail)
  clear hw1
  go_upto_region 4 with (fail)
  go_loopw [5] (fun iv wr => ∃ i : Nat, iv = .int .i64 (i : Int) ∧ i ≤ k ∧ Part 9 1 mkS w1 wr base o ls i 0) (fun iv _ => k - (intOf iv).toNat)
  case atStart => exact ⟨0, rfl, by omega, HP0.out⟩
  case round =>
    clear HP0
    obtain ⟨i, rfl, hik, hP⟩ := hrel
    by_cases hlt : i < k
    · obtain ⟨ad, a, n, ca, rfl, hc, hx⟩ := row_at (kept_rd hP.kept HL.out (Nat.le_refl _) HS.out) hlt
      have HX := Lib.hid hx
      have hnb := HN.out i _ hx
      simp only at hnb
      have hlt2 : (i : Int) < (k : Int) := by omega
      have hi6 : (i : Int) < 6 := by omega
      obtain ⟨X, hX⟩ : ∃ X : ByteArray, mkS i true = .string X := ⟨_, rfl⟩
      have HXX := Lib.hid hX
      have HP := Lib.hid hP
      clear hx hc hP hX
      obtain ⟨wo, rfl⟩ : ∃ wo : World, wo = wr := ⟨_, rfl⟩
      go_upto_region 7 with (fail)
      go_loopw [6] (fun jv wr' => ∃ j : Nat, jv = .int .i64 (j : Int) ∧ j ≤ n ∧ Part 9 1 mkS w1 wr' base o ls i j) (fun jv _ => n - (intOf jv).toNat)
      case atStart => exact ⟨0, rfl, by omega, HP.out⟩
      case round =>
        clear HP
        obtain ⟨j, rfl, hjn, hP⟩ := hrel
        have hc := row_cell (kept_rd hP.kept HL.out (Nat.le_refl _) HS.out) HK.out HX.out
        by_cases hjl : j < n
        · obtain ⟨g, u0, hg, c1, c2, hP2⟩ := hP.place (by decide) HX.out hjl
          simp only at hg
          subst hg
          rw [Nat.mul_one] at c1 c2 hP2
          have ht := HTM.out wr hP.kept i (by omega)
          rw [HXX.out] at hP2 ht
          have hjl2 : (j : Int) < (n : Int) := by omega
          have d1 : wr.drew.cell? _ = _ := c1
          have d2 : wr.drew.frozen? _ = _ := c2
          have d3 : wr.drew.cell? _ = _ := ht
          have d4 : wr.drew.cell? _ = _ := hc
          have HP2 := Lib.hid hP2
          clear hP2 hP
          go_upto_region 9 with (fail)
          go_region
          all_goals (
            go_wp2
            go_roundw
            case rel => exact ⟨j + 1, by go_num, by omega, by first | exact HP2.out | exact HP2.out.below (Below.refl _ _).drew⟩
            case measure => simp [intOf]; omega)
        · obtain rfl : j = n := by omega
          have HP2 := Lib.hid (hP.next HX.out rfl)
          clear hP
          go_wp2
          go_roundw
          case rel => exact ⟨i + 1, by go_num, by omega, HP2.out⟩
          case measure => simp [intOf]; omega
    · obtain rfl : i = k := by omega
      have hG0 : Grew 9 1 mkS 36 w1 wr base ls o [] (.slice none 0 0) := hP.done (Nat.le_of_eq HK.out)
      obtain ⟨wo, rfl⟩ : ∃ wo : World, wo = wr := ⟨_, rfl⟩
      clear hP
      go_upto_region 12 with (fail)
      go_loopw [7, 8] (fun vm iv wr => ∃ (p : Nat) (o' : Nat → Nat) (sn : List Snap), iv = .int .i64 (p : Int) ∧ p ≤ i ∧ Grew 9 1 mkS 36 w1 wr base ls o' sn vm ∧ (∀ s ∈ sn, s.i < p) ∧ sn.length = 66 * p ∧ Rise sn) (fun _ iv _ => i - (intOf iv).toNat)
      case atStart => exact ⟨0, o, [], rfl, by omega, hG0, by simp, by simp, fun y s h => by cases h⟩
      case round =>
        clear hG0
        obtain ⟨p, o1, sn, rfl, hpi, hgrew, hsi, hsl, hrise⟩ := hrel
        by_cases hlt2 : p < i
        · obtain ⟨ad, a, n, ca, rfl, hc, hx⟩ := row_at (kept_rd hgrew.kept HL.out (Nat.le_refl _) HS.out) hlt2
          have HX := Lib.hid hx
          have hnb := HN.out p _ hx
          simp only at hnb
          have hlt3 : (p : Int) < (i : Int) := by omega
          have hp6 : (p : Int) < 6 := by omega
          obtain ⟨xs0, hN0⟩ := hgrew.now hx hsi
          obtain ⟨X, hX⟩ : ∃ X : ByteArray, mkS p false = .string X := ⟨_, rfl⟩
          have HXX := Lib.hid hX
          have HSI := Lib.hid hsi
          have HG := Lib.hid hgrew
          have HN0 := Lib.hid hN0
          have HR := Lib.hid hrise
          clear hx hsi hgrew hN0 hX hrise
          obtain ⟨wp, rfl⟩ : ∃ wp : World, wp = wr := ⟨_, rfl⟩
          go_upto_region 16 with (fail)
          go_loopw [7, 9, 10] (fun vm gv jv wr => ∃ (j : Nat) (o' : Nat → Nat) (sn' : List Snap) (ga : Option Addr) (gn gc : Nat) (xs : List Value), jv = .int .i64 (j : Int) ∧ gv = .slice ga gn gc ∧ j ≤ 66 ∧ Grew 9 1 mkS 36 w1 wr base ls o' sn' vm ∧ Now 9 1 mkS w1 wr base ls o' sn' p j (a, n, ca) (ga, gn, gc) xs ∧
            (∀ s ∈ sn', s.i ≤ p) ∧ sn'.length = 66 * p + j ∧ Rise sn') (fun _ _ jv _ => 66 - (intOf jv).toNat)
          case atStart => exact ⟨0, o1, sn, a, n, ca, xs0, rfl, rfl, by omega, HG.out, HN0.out, fun s hs => Nat.le_of_lt (HSI.out s hs), by omega, HR.out⟩
          case round =>
            clear HG HN0 HR
            obtain ⟨j, o2, sn2, ga, gn, gc, xs, rfl, rfl, hj66, hgrew2, hnow, hsi2, hsl2, hrise2⟩ := hrel
            have HSI2 := Lib.hid hsi2
            have hgn : gn = n + j := hnow.len
            have hgb : gn ≤ 17592186110 := by omega
            have ht := HTG.out wr hgrew2.kept p (by omega)
            rw [HXX.out] at ht
            have HG2 := Lib.hid hgrew2
            have HNW := Lib.hid hnow
            have HR2 := Lib.hid hrise2
            clear hsi2 hgn hgrew2 hnow hrise2
            by_cases hjl : j < 66
            · have hjl2 : (j : Int) < 66 := by omega
              have ha1 := (Below.refl wr.heap.size wr).alloc (Nat.le_refl _) (.cells #[.string X] 9)
              have HG1 := Lib.hid (HG2.out.below ha1)
              have HN1 := Lib.hid (HNW.out.below ha1)
              have hbs : base ≤ (wr.alloc (.cells #[.string X] 9)).heap.size := Nat.le_trans HBB.out HG1.out.kept.size
              have HBS := Lib.hid hbs
              clear ha1 HG2 HNW hbs
              go_wp2_with (first
                | (at_builtin; refine wpList_append_keeps _ rfl (.tmp 68) (.tmp 73) 36 rfl base 9 i0 (.string ⟨#[]⟩) 1 16 Try.underlying36 hi hz0 hz1 hz2 rfl (by decide) (.slice ga gn gc) gn _ rfl HN1.out.held.1 ⟨wr.heap.size, 0, none⟩ 1 1 [.string X] rfl rfl (new_cells wr [.string X] 9) (by simp [Value.oneCell']) (by decide) (by unfold maxLen; omega) (by omega) HBS.out ?_; intro gb cap w2 hown2 hg2 hat2 hlt2 hkeep2; obtain ⟨o3, hG2, hN2⟩ := HN1.out.grow HG1.out (by decide) (by decide) (cs := [.string X]) rfl (by rw [HXX.out]; rfl) hown2 hg2 hat2 hkeep2; have ha2 := (Below.refl w2.heap.size w2).alloc (Nat.le_refl _) (.cells #[.slice (some ⟨gb, 0, none⟩) (gn + 1) cap] 36); have HG2 := Lib.hid (hG2.below ha2); have HN2 := Lib.hid (hN2.below ha2); clear hG2 hN2 hown2 hg2 hat2 hlt2 hkeep2 ha2)
                | (at_builtin; refine wpList_append_own _ rfl (.tmp 75) (.tmp 77) 89 rfl w1.heap.size 36 i1 (.slice none 0 0) 1 24 Try.underlying89 hi' hy0 hy1 hy2 rfl (by decide) _ _ _ rfl HG2.out.more ⟨w2.heap.size, 0, none⟩ 1 1 [rv (some ⟨gb, 0, none⟩, gn + 1, cap)] rfl rfl (cell_one_new _ _ _) (by simp [rv, Value.oneCell']) (by unfold maxLen; omega) (by omega) HG2.out.kept.size ?_; intro vm3 w3 hown3 hg3 _; obtain ⟨hG3, hN3⟩ := HN2.out.snap HG2.out (by decide) hown3 hg3; have HG3 := Lib.hid hG3; have HN3 := Lib.hid hN3; clear hG3 hN3 hown3 hg3))
              go_roundw
              case rel =>
                refine ⟨j + 1, o3, sn2 ++ [⟨p, j + 1, (some ⟨gb, 0, none⟩, gn + 1, cap)⟩], some ⟨gb, 0, none⟩, gn + 1, cap, _, by go_num, rfl, by omega, HG3.out, HN3.out, ?_, ?_, HR2.out.snoc (by simp only; omega)⟩
                · intro s hs
                  rcases List.mem_append.1 hs with h | h
                  · exact HSI2.out s h
                  · obtain rfl := List.mem_singleton.1 h; exact Nat.le_refl _
                · simp; omega
              case measure => simp [intOf]; omega
            · obtain rfl : j = 66 := by omega
              go_wp2
              go_roundw
              case rel => exact ⟨p + 1, o2, sn2, by go_num, by omega, HG2.out, fun s hs => Nat.lt_succ_of_le (HSI2.out s hs), by omega, HR2.out⟩
              case measure => simp [intOf]; omega
        · obtain ⟨Am, cm, rfl, _, _⟩ := own_form hgrew.more
          obtain ⟨wf, rfl⟩ : ∃ wf : World, wf = wr := ⟨_, rfl⟩
          obtain ⟨nm, hnm⟩ : ∃ nm, sn.length = nm := ⟨_, rfl⟩
          have hmr := Rd.of_own hgrew.more
          rw [hnm] at hmr hsl
          have HM := Lib.hid hmr
          have HG := Lib.hid hgrew
          have HNM := Lib.hid hnm
          have HSI := Lib.hid hsi
          have HR := Lib.hid hrise
          rw [hnm]
          clear hmr hgrew hnm hsi hrise
          go_upto_region 21 with (fail)
          go_loopw [11] (fun iv wr => ∃ (q : Nat), iv = .int .i64 (q : Int) ∧ q ≤ nm ∧ wf = wr) (fun iv _ => nm - (intOf iv).toNat)
          case atStart => exact ⟨0, rfl, by omega, rfl⟩
          case round =>
            obtain ⟨y, rfl, hqn, rfl⟩ := hrel
            by_cases hql : y < nm
            · obtain ⟨s, hs⟩ : ∃ s, sn[y]? = some s := ⟨_, List.getElem?_eq_getElem (by have := HNM.out; omega)⟩
              obtain ⟨⟨a, n, ca⟩, hr, hlen, xs, hheld, hgood⟩ := HG.out.snaps s (List.mem_of_getElem? hs)
              obtain ⟨xl, hli, hlg⟩ := HG.out.lists s.i _ hr
              have hsi3 := HSI.out s (List.mem_of_getElem? hs)
              have hsy := HR.out y s hs
              obtain ⟨adm, u, rfl, _, hu, hcm⟩ := HM.out.at_ hql
              rw [List.getElem?_map, hs] at hu
              injection hu with hu
              subst hu
              obtain ⟨ad, u, rfl, _, hu, hcl⟩ := (kept_rd HG.out.kept HL.out (Nat.le_refl _) HS.out).at_ (show s.i < i by omega)
              rw [List.getElem?_map, hr] at hu
              injection hu with hu
              subst hu
              obtain ⟨si, m, sa, sl, sc⟩ := s
              simp only at hlen hheld hgood hli hlg hcl hcm hsi3 hr hsy
              have hnb := HN.out si _ hr
              simp only at hnb
              change wf.cell? (adm.add y) = some (.slice sa sl sc) at hcm
              change wf.cell? (ad.add si) = some (.slice a n ca) at hcl
              have t1 := HTM.out wf HG.out.kept si (by omega)
              have t2 := HTG.out wf HG.out.kept si (by omega)
              obtain ⟨X, hX⟩ : ∃ X : ByteArray, mkS si true = .string X := ⟨_, rfl⟩
              obtain ⟨Y, hY⟩ : ∃ Y : ByteArray, mkS si false = .string Y := ⟨_, rfl⟩
              rw [hX] at t1
              rw [hY] at t2
              have HMT := Lib.hid hX
              have HMF := Lib.hid hY
              have HH := Lib.hid hheld
              have HGD := Lib.hid hgood
              have HLI := Lib.hid hli
              have HLG := Lib.hid hlg
              have HLEN := Lib.hid hlen
              have hslm : sl ≤ 9223372036854775807 := by
                obtain ⟨_, c9, _, h9, h10⟩ := own_form HH.out.1
                unfold maxLen at h10; simp only at h9; omega
              have hqn2 : (y : Int) < (nm : Int) := by omega
              have hsi4 : (si : Int) < (i : Int) := by omega
              have hsi6 : (si : Int) < 6 := by omega
              clear hs hr hlen hheld hgood hli hlg hX hY
              go_upto_region 25 with (fail)
              rw [show (y : Int) / 66 = (si : Int) by omega]
              clear hsy
              go_loopw [13] (fun iv wr => ∃ (kk : Nat), iv = .int .i64 (kk : Int) ∧ kk ≤ sl ∧ wf = wr) (fun iv _ => sl - (intOf iv).toNat)
              case atStart => exact ⟨0, rfl, by omega, rfl⟩
              case round =>
                obtain ⟨kk, rfl, hks, rfl⟩ := hrel
                by_cases hkl : kk < sl
                · obtain ⟨gs, hgs, hcs⟩ := HH.out.mark (by decide) HGD.out HLEN.out (show kk < n + m from HLEN.out ▸ hkl)
                  simp only at hgs
                  subst hgs
                  rw [Nat.mul_one] at hcs
                  have hks2 : (kk : Int) < (sl : Int) := by omega
                  by_cases hkn : kk < n
                  · obtain ⟨gl, hgl, hcr⟩ := HLI.out.mark (by decide) HLG.out rfl (show kk < n + 0 from hkn)
                    simp only at hgl
                    subst hgl
                    rw [Nat.mul_one] at hcr
                    have hkn2 : (kk : Int) < (n : Int) := by omega
                    rw [show decide (kk < n) = true by simpa using hkn, HMT.out] at hcs hcr
                    go_wp2
                    go_roundw
                    case rel => exact ⟨kk + 1, by go_num, by omega, by trivial⟩
                    case measure => simp [intOf]; omega
                  · have hkn2 : ¬ (kk : Int) < (n : Int) := by omega
                    rw [show decide (kk < n) = false by simpa using hkn, HMF.out] at hcs
                    go_wp2
                    go_roundw
                    case rel => exact ⟨kk + 1, by go_num, by omega, by trivial⟩
                    case measure => simp [intOf]; omega
                · obtain rfl : kk = sl := by omega
                  go_wp2
                  go_roundw
                  case rel => exact ⟨y + 1, by go_num, by omega, by trivial⟩
                  case measure => simp [intOf]; omega
            · go_wp2
              go_ret
              exact ⟨rfl, (Kept.of_below _ HB1.out).trans HG.out.kept fun k hk => .inl hk⟩
end Go.Proofs.Ytelgcmcnebncmaa.Ap
namespace Go.Proofs.Ytelgcmcnebncmaa.Ap
set_option linter.unusedVariables false
open Go.RowKit Go.Proofs Go.Proofs.Ytelgcmcnebncmaa.Dr

theorem infoRowfiles : (Try.prog.info? 22).map (fun i => (i.zero, i.size, i.bytes)) = some (some (.slice none 0 0), 1, 24) := by kernel_rfl
set_option maxRecDepth 100000 in
set_option maxHeartbeats 4000000 in
theorem files_any (A : Option Addr) (k c : Nat) (ls : List Row) (hk : ls.length = k) (hk6 : k ≤ 6) (hn : ∀ (i : Nat) (r : Row), ls[i]? = some r → r.2.1 ≤ 17592186044) (base : Nat) (w : World) (hB : base ≤ w.heap.size)
    (hL : Rd w w.heap.size 1 A k (ls.map rv)) (hS : ∀ ad, A = some ad → ¬ Sb ls ad.block) (hA : Apart ls) (hH : ∀ (i : Nat) (r : Row), ls[i]? = some r → ∃ xs, w.ownsRow base 69 2 (rv r) r.2.1 xs) :
    Calls Try.prog 47 #[.slice A k c] w fun e w' => e = .returned (.bool true) ∧ Kept w w' (Sb ls) := by
  obtain ⟨i0, hi, hz0, hz1, hz2⟩ := info_parts infoFile
  obtain ⟨i1, hi', hy0, hy1, hy2⟩ := info_parts infoRowfiles
  obtain ⟨o, ho⟩ := owner_of hA
  obtain ⟨V, hV⟩ : ∃ V, w.heap.size = V := ⟨_, rfl⟩
  have hSV : ∀ b, Sb ls b → b < V := by
    rintro b ⟨i, r, hr, hb⟩
    obtain ⟨xs, hx⟩ := hH i r hr
    rw [← hV]
    exact (hx.lt b hb).2
  obtain ⟨w1, hw1⟩ : ∃ w1, (w.alloc (.cells tabM 9)).alloc (.cells tabG 9) = w1 := ⟨_, rfl⟩
  have hb1 : Below w.heap.size w w1 := by rw [← hw1]; exact ((Below.refl _ _).alloc (Nat.le_refl _) _).alloc (by simp) _
  have hs1 : w1.heap.size = V + 2 := by rw [← hw1, ← hV]; simp
  have htM : w1.heap[V]? = some (.cells tabM 9 (0, 0)) := by
    rw [← hw1, ← hV]
    exact (heap_alloc_old _ _ (by simp)).trans (heap_alloc_new _ _)
  have htG : w1.heap[V + 1]? = some (.cells tabG 9 (0, 0)) := by
    have := heap_alloc_new (w.alloc (.cells tabM 9)) (.cells tabG 9)
    rw [← hw1, ← hV]
    simpa using this
  have hL1 : Rd w1 w1.heap.size 1 A k (ls.map rv) := hL.next hb1
  have HP0 := Lib.hid (Part.start (mk := mkS) (fun i r hr => by
    obtain ⟨xs, hx⟩ := hH i r hr
    exact ⟨xs, own_below hx hb1⟩) ho)
  have hTM : ∀ wr, Kept w1 wr (Sb ls) → ∀ i, i < 6 → wr.cell? ⟨V, i, none⟩ = some (mkS i true) := fun wr hk i hi => by
    rw [kept_cell hk (by simp only; omega) (fun h => by have := hSV _ h; simp only at this; omega), cell_of_row w1 V i _ _ _ htM]
    exact tabM_at hi
  have hTG : ∀ wr, Kept w1 wr (Sb ls) → ∀ i, i < 6 → wr.cell? ⟨V + 1, i, none⟩ = some (mkS i false) := fun wr hk i hi => by
    rw [kept_cell hk (by simp only; omega) (fun h => by have := hSV _ h; simp only at this; omega), cell_of_row w1 (V + 1) i _ _ _ htG]
    exact tabG_at hi
  have HL := Lib.hid hL1
  have HS := Lib.hid hS
  have HN := Lib.hid hn
  have HK := Lib.hid hk
  have HB1 := Lib.hid hb1
  have HBB := Lib.hid (Nat.le_trans hB hb1.size)
  have HTM := Lib.hid hTM
  have HTG := Lib.hid hTG
  clear hL hL1 hS hn hk hA hH ho hSV htM htG hb1 hs1 hTM hTG
  unfold tabM tabG at hw1
  go_enter Try.func47, Try.ntmps47
  go_upto_region 3 with (fail)
  clear hw1
  go_upto_region 4 with (fail)
  go_loopw [5] (fun iv wr => ∃ i : Nat, iv = .int .i64 (i : Int) ∧ i ≤ k ∧ Part 69 2 mkS w1 wr base o ls i 0) (fun iv _ => k - (intOf iv).toNat)
  case atStart => exact ⟨0, rfl, by omega, HP0.out⟩
  case round =>
    clear HP0
    obtain ⟨i, rfl, hik, hP⟩ := hrel
    by_cases hlt : i < k
    · obtain ⟨ad, a, n, ca, rfl, hc, hx⟩ := row_at (kept_rd hP.kept HL.out (Nat.le_refl _) HS.out) hlt
      have HX := Lib.hid hx
      have hnb := HN.out i _ hx
      simp only at hnb
      have hlt2 : (i : Int) < (k : Int) := by omega
      have hi6 : (i : Int) < 6 := by omega
      obtain ⟨X, hX⟩ : ∃ X : ByteArray, mkS i true = .string X := ⟨_, rfl⟩
      have HXX := Lib.hid hX
      have HP := Lib.hid hP
      clear hx hc hP hX
      obtain ⟨wo, rfl⟩ : ∃ wo : World, wo = wr := ⟨_, rfl⟩
      go_upto_region 7 with (fail)
      go_loopw [6] (fun jv wr' => ∃ j : Nat, jv = .int .i64 (j : Int) ∧ j ≤ n ∧ Part 69 2 mkS w1 wr' base o ls i j) (fun jv _ => n - (intOf jv).toNat)
      case atStart => exact ⟨0, rfl, by omega, HP.out⟩
      case round =>
        clear HP
        obtain ⟨j, rfl, hjn, hP⟩ := hrel
        have hc := row_cell (kept_rd hP.kept HL.out (Nat.le_refl _) HS.out) HK.out HX.out
        by_cases hjl : j < n
        · obtain ⟨g, u0, hg, c1, c2, hP2⟩ := hP.place (by decide) HX.out hjl
          simp only at hg
          subst hg
          -- rw [Nat.mul_one] at c1 c2 hP2
          have ht := HTM.out wr hP.kept i (by omega)
          rw [HXX.out] at hP2 ht
          have hjl2 : (j : Int) < (n : Int) := by omega
          have d1 : wr.drew.cell? _ = _ := c1
          have d2 : wr.drew.frozen? _ = _ := c2
          have d3 : wr.drew.cell? _ = _ := ht
          have d4 : wr.drew.cell? _ = _ := hc
          have HP2 := Lib.hid hP2
          clear hP2 hP
          go_upto_region 9 with (fail)
          go_region
          all_goals (
            go_wp2
            go_roundw
            case rel => exact ⟨j + 1, by go_num, by omega, by first | exact HP2.out | exact HP2.out.below (Below.refl _ _).drew⟩
            case measure => simp [intOf]; omega)
        · obtain rfl : j = n := by omega
          have HP2 := Lib.hid (hP.next HX.out rfl)
          clear hP
          go_wp2
          go_roundw
          case rel => exact ⟨i + 1, by go_num, by omega, HP2.out⟩
          case measure => simp [intOf]; omega
    · obtain rfl : i = k := by omega
      have hG0 : Grew 69 2 mkS 22 w1 wr base ls o [] (.slice none 0 0) := hP.done (Nat.le_of_eq HK.out)
      obtain ⟨wo, rfl⟩ : ∃ wo : World, wo = wr := ⟨_, rfl⟩
      clear hP
      go_upto_region 12 with (fail)
      go_loopw [7, 8] (fun vm iv wr => ∃ (p : Nat) (o' : Nat → Nat) (sn : List Snap), iv = .int .i64 (p : Int) ∧ p ≤ i ∧ Grew 69 2 mkS 22 w1 wr base ls o' sn vm ∧ (∀ s ∈ sn, s.i < p) ∧ sn.length = 66 * p ∧ Rise sn) (fun _ iv _ => i - (intOf iv).toNat)
      case atStart => exact ⟨0, o, [], rfl, by omega, hG0, by simp, by simp, fun y s h => by cases h⟩
      case round =>
        clear hG0
        obtain ⟨p, o1, sn, rfl, hpi, hgrew, hsi, hsl, hrise⟩ := hrel
        by_cases hlt2 : p < i
        · obtain ⟨ad, a, n, ca, rfl, hc, hx⟩ := row_at (kept_rd hgrew.kept HL.out (Nat.le_refl _) HS.out) hlt2
          have HX := Lib.hid hx
          have hnb := HN.out p _ hx
          simp only at hnb
          have hlt3 : (p : Int) < (i : Int) := by omega
          have hp6 : (p : Int) < 6 := by omega
          obtain ⟨xs0, hN0⟩ := hgrew.now hx hsi
          obtain ⟨X, hX⟩ : ∃ X : ByteArray, mkS p false = .string X := ⟨_, rfl⟩
          have HXX := Lib.hid hX
          have HSI := Lib.hid hsi
          have HG := Lib.hid hgrew
          have HN0 := Lib.hid hN0
          have HR := Lib.hid hrise
          clear hx hsi hgrew hN0 hX hrise
          obtain ⟨wp, rfl⟩ : ∃ wp : World, wp = wr := ⟨_, rfl⟩
          go_upto_region 16 with (fail)
          go_loopw [7, 9, 10] (fun vm gv jv wr => ∃ (j : Nat) (o' : Nat → Nat) (sn' : List Snap) (ga : Option Addr) (gn gc : Nat) (xs : List Value), jv = .int .i64 (j : Int) ∧ gv = .slice ga gn gc ∧ j ≤ 66 ∧ Grew 69 2 mkS 22 w1 wr base ls o' sn' vm ∧ Now 69 2 mkS w1 wr base ls o' sn' p j (a, n, ca) (ga, gn, gc) xs ∧
            (∀ s ∈ sn', s.i ≤ p) ∧ sn'.length = 66 * p + j ∧ Rise sn') (fun _ _ jv _ => 66 - (intOf jv).toNat)
          case atStart => exact ⟨0, o1, sn, a, n, ca, xs0, rfl, rfl, by omega, HG.out, HN0.out, fun s hs => Nat.le_of_lt (HSI.out s hs), by omega, HR.out⟩
          case round =>
            clear HG HN0 HR
            obtain ⟨j, o2, sn2, ga, gn, gc, xs, rfl, rfl, hj66, hgrew2, hnow, hsi2, hsl2, hrise2⟩ := hrel
            have HSI2 := Lib.hid hsi2
            have hgn : gn = n + j := hnow.len
            have hgb : gn ≤ 17592186110 := by omega
            have ht := HTG.out wr hgrew2.kept p (by omega)
            rw [HXX.out] at ht
            have HG2 := Lib.hid hgrew2
            have HNW := Lib.hid hnow
            have HR2 := Lib.hid hrise2
            clear hsi2 hgn hgrew2 hnow hrise2
            by_cases hjl : j < 66
            · have hjl2 : (j : Int) < 66 := by omega
              have ha1 := (Below.refl wr.heap.size wr).alloc (Nat.le_refl _) (.cells #[.string X, .slice none 0 0] 69)
              have HG1 := Lib.hid (HG2.out.below ha1)
              have HN1 := Lib.hid (HNW.out.below ha1)
              have hbs : base ≤ (wr.alloc (.cells #[.string X, .slice none 0 0] 69)).heap.size := Nat.le_trans HBB.out HG1.out.kept.size
              have HBS := Lib.hid hbs
              clear ha1 HG2 HNW hbs
              go_wp2_with (first
                | (at_builtin; refine wpList_append_keeps _ rfl (.tmp 69) (.tmp 75) 22 rfl base 69 i0 (.agg #[.string ⟨#[]⟩, .slice none 0 0]) 2 40 Try.underlying22 hi hz0 hz1 hz2 rfl (by decide) (.slice ga gn gc) gn _ rfl HN1.out.held.1 ⟨wr.heap.size, 0, none⟩ 1 1 [.string X, .slice none 0 0] rfl rfl (new_cells wr [.string X, .slice none 0 0] 69) (by simp [Value.oneCell']) (by decide) (by unfold maxLen; omega) (by omega) HBS.out ?_; intro gb cap w2 hown2 hg2 hat2 hlt2 hkeep2; obtain ⟨o3, hG2, hN2⟩ := HN1.out.grow HG1.out (by decide) (by decide) (cs := [.string X, .slice none 0 0]) rfl (by rw [HXX.out]; rfl) hown2 hg2 hat2 hkeep2; have ha2 := (Below.refl w2.heap.size w2).alloc (Nat.le_refl _) (.cells #[.slice (some ⟨gb, 0, none⟩) (gn + 1) cap] 22); have HG2 := Lib.hid (hG2.below ha2); have HN2 := Lib.hid (hN2.below ha2); clear hG2 hN2 hown2 hg2 hat2 hlt2 hkeep2 ha2)
                | (at_builtin; refine wpList_append_own _ rfl (.tmp 77) (.tmp 79) 91 rfl w1.heap.size 22 i1 (.slice none 0 0) 1 24 Try.underlying91 hi' hy0 hy1 hy2 rfl (by decide) _ _ _ rfl HG2.out.more ⟨w2.heap.size, 0, none⟩ 1 1 [rv (some ⟨gb, 0, none⟩, gn + 1, cap)] rfl rfl (cell_one_new _ _ _) (by simp [rv, Value.oneCell']) (by unfold maxLen; omega) (by omega) HG2.out.kept.size ?_; intro vm3 w3 hown3 hg3 _; obtain ⟨hG3, hN3⟩ := HN2.out.snap HG2.out (by decide) hown3 hg3; have HG3 := Lib.hid hG3; have HN3 := Lib.hid hN3; clear hG3 hN3 hown3 hg3))
              go_roundw
              case rel =>
                refine ⟨j + 1, o3, sn2 ++ [⟨p, j + 1, (some ⟨gb, 0, none⟩, gn + 1, cap)⟩], some ⟨gb, 0, none⟩, gn + 1, cap, _, by go_num, rfl, by omega, HG3.out, HN3.out, ?_, ?_, HR2.out.snoc (by simp only; omega)⟩
                · intro s hs
                  rcases List.mem_append.1 hs with h | h
                  · exact HSI2.out s h
                  · obtain rfl := List.mem_singleton.1 h; exact Nat.le_refl _
                · simp; omega
              case measure => simp [intOf]; omega
            · obtain rfl : j = 66 := by omega
              go_wp2
              go_roundw
              case rel => exact ⟨p + 1, o2, sn2, by go_num, by omega, HG2.out, fun s hs => Nat.lt_succ_of_le (HSI2.out s hs), by omega, HR2.out⟩
              case measure => simp [intOf]; omega
        · obtain ⟨Am, cm, rfl, _, _⟩ := own_form hgrew.more
          obtain ⟨wf, rfl⟩ : ∃ wf : World, wf = wr := ⟨_, rfl⟩
          obtain ⟨nm, hnm⟩ : ∃ nm, sn.length = nm := ⟨_, rfl⟩
          have hmr := Rd.of_own hgrew.more
          rw [hnm] at hmr hsl
          have HM := Lib.hid hmr
          have HG := Lib.hid hgrew
          have HNM := Lib.hid hnm
          have HSI := Lib.hid hsi
          have HR := Lib.hid hrise
          rw [hnm]
          clear hmr hgrew hnm hsi hrise
          go_upto_region 21 with (fail)
          go_loopw [11] (fun iv wr => ∃ (q : Nat), iv = .int .i64 (q : Int) ∧ q ≤ nm ∧ wf = wr) (fun iv _ => nm - (intOf iv).toNat)
          case atStart => exact ⟨0, rfl, by omega, rfl⟩
          case round =>
            obtain ⟨y, rfl, hqn, rfl⟩ := hrel
            by_cases hql : y < nm
            · obtain ⟨s, hs⟩ : ∃ s, sn[y]? = some s := ⟨_, List.getElem?_eq_getElem (by have := HNM.out; omega)⟩
              obtain ⟨⟨a, n, ca⟩, hr, hlen, xs, hheld, hgood⟩ := HG.out.snaps s (List.mem_of_getElem? hs)
              obtain ⟨xl, hli, hlg⟩ := HG.out.lists s.i _ hr
              have hsi3 := HSI.out s (List.mem_of_getElem? hs)
              have hsy := HR.out y s hs
              obtain ⟨adm, u, rfl, _, hu, hcm⟩ := HM.out.at_ hql
              rw [List.getElem?_map, hs] at hu
              injection hu with hu
              subst hu
              obtain ⟨ad, u, rfl, _, hu, hcl⟩ := (kept_rd HG.out.kept HL.out (Nat.le_refl _) HS.out).at_ (show s.i < i by omega)
              rw [List.getElem?_map, hr] at hu
              injection hu with hu
              subst hu
              obtain ⟨si, m, sa, sl, sc⟩ := s
              simp only at hlen hheld hgood hli hlg hcl hcm hsi3 hr hsy
              have hnb := HN.out si _ hr
              simp only at hnb
              change wf.cell? (adm.add y) = some (.slice sa sl sc) at hcm
              change wf.cell? (ad.add si) = some (.slice a n ca) at hcl
              have t1 := HTM.out wf HG.out.kept si (by omega)
              have t2 := HTG.out wf HG.out.kept si (by omega)
              obtain ⟨X, hX⟩ : ∃ X : ByteArray, mkS si true = .string X := ⟨_, rfl⟩
              obtain ⟨Y, hY⟩ : ∃ Y : ByteArray, mkS si false = .string Y := ⟨_, rfl⟩
              rw [hX] at t1
              rw [hY] at t2
              have HMT := Lib.hid hX
              have HMF := Lib.hid hY
              have HH := Lib.hid hheld
              have HGD := Lib.hid hgood
              have HLI := Lib.hid hli
              have HLG := Lib.hid hlg
              have HLEN := Lib.hid hlen
              have hslm : sl ≤ 9223372036854775807 := by
                obtain ⟨_, c9, _, h9, h10⟩ := own_form HH.out.1
                unfold maxLen at h10; simp only at h9; omega
              have hqn2 : (y : Int) < (nm : Int) := by omega
              have hsi4 : (si : Int) < (i : Int) := by omega
              have hsi6 : (si : Int) < 6 := by omega
              clear hs hr hlen hheld hgood hli hlg hX hY
              go_upto_region 25 with (fail)
              rw [show (y : Int) / 66 = (si : Int) by omega]
              clear hsy
              go_loopw [13] (fun iv wr => ∃ (kk : Nat), iv = .int .i64 (kk : Int) ∧ kk ≤ sl ∧ wf = wr) (fun iv _ => sl - (intOf iv).toNat)
              case atStart => exact ⟨0, rfl, by omega, rfl⟩
              case round =>
                obtain ⟨kk, rfl, hks, rfl⟩ := hrel
                by_cases hkl : kk < sl
                · obtain ⟨gs, hgs, hcs⟩ := HH.out.mark (by decide) HGD.out HLEN.out (show kk < n + m from HLEN.out ▸ hkl)
                  simp only at hgs
                  subst hgs
                  -- rw [Nat.mul_one] at hcs
                  have hks2 : (kk : Int) < (sl : Int) := by omega
                  by_cases hkn : kk < n
                  · obtain ⟨gl, hgl, hcr⟩ := HLI.out.mark (by decide) HLG.out rfl (show kk < n + 0 from hkn)
                    simp only at hgl
                    subst hgl
                    -- rw [Nat.mul_one] at hcr
                    have hkn2 : (kk : Int) < (n : Int) := by omega
                    rw [show decide (kk < n) = true by simpa using hkn, HMT.out] at hcs hcr
                    go_wp2
                    go_roundw
                    case rel => exact ⟨kk + 1, by go_num, by omega, by trivial⟩
                    case measure => simp [intOf]; omega
                  · have hkn2 : ¬ (kk : Int) < (n : Int) := by omega
                    rw [show decide (kk < n) = false by simpa using hkn, HMF.out] at hcs
                    go_wp2
                    go_roundw
                    case rel => exact ⟨kk + 1, by go_num, by omega, by trivial⟩
                    case measure => simp [intOf]; omega
                · obtain rfl : kk = sl := by omega
                  go_wp2
                  go_roundw
                  case rel => exact ⟨y + 1, by go_num, by omega, by trivial⟩
                  case measure => simp [intOf]; omega
            · go_wp2
              go_ret
              exact ⟨rfl, (Kept.of_below _ HB1.out).trans HG.out.kept fun k hk => .inl hk⟩
end Go.Proofs.Ytelgcmcnebncmaa.Ap
