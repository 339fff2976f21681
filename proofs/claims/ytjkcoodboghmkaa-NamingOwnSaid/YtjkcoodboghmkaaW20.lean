/- The walk of the statement's own question whether answers share memory. -/
import Derived.Test.YtjkcoodboghmkaaW19
namespace Go.Proofs.Ytjkcoodboghmkaa.Nm
open Go.RowKit Go.Proofs

theorem infoList : (Try.prog.info? 30).map (fun i => (i.zero, i.size, i.bytes)) = some (some (.slice none 0 0), 1, 24) := by kernel_rfl
theorem infoInt : (Try.prog.info? 3).map (fun i => (i.zero, i.size, i.bytes)) = some (some (.int .i64 0), 1, 8) := by kernel_rfl

theorem row_at {w : World} {B k i : Nat} {A : Option Addr} {ls : List Row} (hr : Rd w B 1 A k (ls.map rv)) (hi : i < k) : ∃ ad a n c, A = some ad ∧ w.cell? (ad.add i) = some (.slice a n c) ∧ ls[i]? = some (a, n, c) := by
  obtain ⟨ad, u, rfl, _, hu, hc⟩ := hr.at_ hi
  rw [List.getElem?_map] at hu
  cases hx : ls[i]? with
  | none => rw [hx] at hu; cases hu
  | some r =>
    rw [hx] at hu
    injection hu with hu
    subst hu
    exact ⟨ad, r.1, r.2.1, r.2.2, rfl, hc, rfl⟩
theorem row_cell {w : World} {B k i : Nat} {ad : Addr} {ls : List Row} {a : Option Addr} {n c : Nat} (hr : Rd w B 1 (some ad) k (ls.map rv)) (hl : ls.length = k) (hx : ls[i]? = some (a, n, c)) : w.cell? (ad.add i) = some (.slice a n c) := by
  refine hr.cell rfl ?_ (by rw [List.getElem?_map, hx]; rfl)
  have := (List.getElem?_eq_some_iff.1 hx).1
  omega

theorem cell_next {w w' : World} {p : Addr} {v : Value} (h : w.cell? p = some v) (hb : Below w.heap.size w w') : w'.cell? p = some v := (hb.cell (block_lt_of_cell h)).trans h

set_option maxRecDepth 100000 in
set_option maxHeartbeats 4000000 in
theorem apart_any (A : Option Addr) (k c : Nat) (ls : List Row) (hk : ls.length = k) (hk3 : k ≤ 3) (hn : ∀ (i : Nat) (r : Row), ls[i]? = some r → r.2.1 ≤ 8796093021952) (base : Nat) (o : Nat → Nat) (f0 : Nat → List Bs) (w : World) (hB : base ≤ w.heap.size)
    (hL : Rd w w.heap.size 1 A k (ls.map rv)) (hS : ∀ ad, A = some ad → ¬ Sb ls ad.block) (hH : All w base o ls f0) :
    Calls Try.prog 28 #[.slice A k c] w fun e w' => e = .returned (.bool true) ∧ Kept w w' (Sb ls) := by
  obtain ⟨i0, hi, hz0, hz1, hz2⟩ := info_parts infoStr
  obtain ⟨i1, hi', hy0, hy1, hy2⟩ := info_parts infoList
  obtain ⟨i2, hi'', hx0, hx1, hx2⟩ := info_parts infoInt
  have HL := Lib.hid hL
  have HS := Lib.hid hS
  have HN := Lib.hid hn
  have HK := Lib.hid hk
  clear hL hS hn hk
  go_enter Try.func28, Try.ntmps28
  go_wp2
  go_loopw [3] (fun iv wr => ∃ (i : Nat) (f : Nat → List Bs), iv = .int .i64 i ∧ i ≤ k ∧ Kept w wr (Sb ls) ∧ All wr base o ls f ∧ (∀ (i' : Nat) (r : Row), i' < i → ls[i']? = some r → f i' = full i' r.2.1 0)) (fun iv _ => k - (intOf iv).toNat)
  case atStart => exact ⟨0, f0, rfl, by omega, Kept.refl _ _, hH, fun i' r h => absurd h (by omega)⟩
  case round =>
    obtain ⟨i, f, rfl, hik, hkept, hall, hfull⟩ := hrel
    have HF := Lib.hid hfull
    clear hfull
    by_cases hlt : i < k
    · obtain ⟨ad, a, n, ca, rfl, hc, hx⟩ := row_at (hkept.rd HL.out (Nat.le_refl _) HS.out) hlt
      have HX := Lib.hid hx
      have hnb := HN.out i _ hx
      simp only at hnb
      have hlt2 : (i : Int) < (k : Int) := by omega
      clear hx hc
      obtain ⟨wo, rfl⟩ : ∃ wo : World, wo = wr := ⟨_, rfl⟩
      go_wp2
      go_loopw [4] (fun jv wr' => ∃ (j : Nat) (f' : Nat → List Bs), jv = .int .i64 j ∧ j ≤ n ∧ Kept w wr' (Sb ls) ∧ All wr' base o ls f' ∧ (∀ (i' : Nat) (r : Row), i' < i → ls[i']? = some r → f' i' = full i' r.2.1 0) ∧ (∀ q, q < j → (f' i)[q]? = some (mrk i true))) (fun jv _ => n - (intOf jv).toNat)
      case atStart => exact ⟨0, f, rfl, by omega, hkept, hall, HF.out, fun q h => absurd h (by omega)⟩
      case round =>
        obtain ⟨j, f', rfl, hjn, hkept', hall', hfull', hq⟩ := hrel
        have HF' := Lib.hid hfull'
        have HQ := Lib.hid hq
        have hc := row_cell (hkept'.rd HL.out (Nat.le_refl _) HS.out) HK.out HX.out
        clear hfull' hq
        by_cases hjl : j < n
        · obtain ⟨g, hg, _, hgl⟩ := (hall' i _ HX.out).form (by simp only; omega)
          simp only at hg
          subst hg
          have hjl2 : (j : Int) < (n : Int) := by omega
          have hown := (hall' i _ HX.out).1
          have hcj : wr.cell? ⟨g, j, none⟩ = (cStr (f' i))[j]? := World.ownsRow.cellAt hown j (by simpa using hjl)
          have hfz : wr.frozen? ⟨g, j, none⟩ = false := World.ownsRow.frozenAt hown j
          obtain ⟨u0, hu0⟩ : ∃ u0, wr.cell? ⟨g, j, none⟩ = some u0 := ⟨_, hcj.trans (List.getElem?_eq_getElem (by rw [List.length_map, (hall' i _ HX.out).len]; exact hjl))⟩
          clear hcj hown
          have hal : ad.block < w.heap.size := by obtain ⟨ad2, e, hb, _⟩ := HL.out.2 (by omega); injection e with e; rw [e]; exact hb
          have halw : (ad.add i).block < wr.heap.size := by rw [add_block]; have := hkept'.size; omega
          go_wp2
          go_region_with (go_at_call 38; refine (mark_any i (by omega) true _).mono ?_; rintro e w1 ⟨rfl, hb1⟩; have hc1 := (hb1.cell halw).trans hc; have hf1 := (World.frozen?_of_block (hb1.block g hgl) : w1.frozen? ⟨g, j, none⟩ = _).trans hfz; have hu1 := (hb1.cell (p := ⟨g, j, none⟩) hgl).trans hu0)
          all_goals
            have hb2 : Below wr.heap.size wr w1 := ⟨hb1.os, hb1.tape, hb1.output, hb1.size, hb1.block⟩
            obtain ⟨hall2, hkept2⟩ := (hall'.below hb2).store (hkept'.below hb2) HX.out rfl j (mrk i true)
            have hlen := (hall' i _ HX.out).len
            simp only at hlen
            clear hc hc1 hf1 hu1 hu0 hfz
            go_wp2
            go_roundw
            case rel =>
              refine ⟨j + 1, _, by go_num, by omega, hkept2, hall2, ?_, ?_⟩
              · intro i' r hi' hr
                simp only [show i' ≠ i by omega, ↓reduceIte]
                exact HF'.out i' r hi' hr
              · intro q hqj
                simp only [↓reduceIte]
                by_cases hqe : q = j
                · subst hqe; rw [List.getElem?_set_self (by omega)]
                · rw [List.getElem?_set_ne (by omega)]; exact HQ.out q (by omega)
            case measure => simp [intOf]; omega
        · obtain rfl : j = n := by omega
          have hlen := (hall' i _ HX.out).len
          simp only at hlen
          have hfi := full_of hlen HQ.out
          have HFI := Lib.hid hfi
          clear hfi hlen
          go_wp2
          go_roundw
          case rel =>
            refine ⟨i + 1, f', by go_num, by omega, hkept', hall', ?_⟩
            intro i' r hi' hr
            by_cases he : i' = i
            · subst he
              rw [HX.out] at hr
              injection hr with hr
              subst hr
              exact HFI.out
            · exact HF'.out i' r (by omega) hr
          case measure => simp [intOf]; omega
    · obtain rfl : i = k := by omega
      have hlists : ∀ (i' : Nat) (r : Row), ls[i']? = some r → Held wr base o i' r (full i' r.2.1 0) := by
        intro i' r hr
        have hi' : i' < i := by have := (List.getElem?_eq_some_iff.1 hr).1; have := HK.out; omega
        rw [← HF.out i' r hi' hr]
        exact hall i' r hr
      obtain ⟨wo, rfl⟩ : ∃ wo : World, wo = wr := ⟨_, rfl⟩
      have hG0 : Grew w wo base ls o [] (.slice none 0 0) (.slice none 0 0) := ⟨hkept, hlists, by simp, World.ownsRow_nil _ _ _ _, World.ownsRow_nil _ _ _ _⟩
      clear hall hkept hlists HF hH
      go_wp2
      go_loopw [5, 6, 7] (fun vm vw iv wr => ∃ (p : Nat) (o' : Nat → Nat) (sn : List Snap), iv = .int .i64 p ∧ p ≤ i ∧ Grew w wr base ls o' sn vm vw ∧ (∀ s ∈ sn, s.i < p) ∧ sn.length ≤ 70 * p) (fun _ _ iv _ => i - (intOf iv).toNat)
      case atStart => exact ⟨0, o, [], rfl, by omega, hG0, by simp, by simp⟩
      case round =>
        obtain ⟨p, o1, sn, rfl, hpi, hgrew, hsi, hsl⟩ := hrel
        by_cases hlt2 : p < i
        · obtain ⟨ad, a, n, ca, rfl, hc, hx⟩ := row_at (hgrew.kept.rd HL.out (Nat.le_refl _) HS.out) hlt2
          have HX := Lib.hid hx
          have hnb := HN.out p _ hx
          simp only at hnb
          have hlt3 : (p : Int) < (i : Int) := by omega
          have hN0 : Now w wr base ls o1 sn p 0 (a, n, ca) (a, n, ca) := ⟨hx, rfl, hgrew.lists p _ hx, fun b hb => .inl ⟨p, _, hx, hb⟩, fun s hs e => absurd (hsi s hs) (by omega)⟩
          have HSI := Lib.hid hsi
          clear hx hsi
          obtain ⟨wp, rfl⟩ : ∃ wp : World, wp = wr := ⟨_, rfl⟩
          go_wp2
          go_loopw [5, 6, 8, 9] (fun vm vw gv jv wr => ∃ (j : Nat) (o' : Nat → Nat) (sn' : List Snap) (ga : Option Addr) (gn gc : Nat), jv = .int .i64 j ∧ gv = .slice ga gn gc ∧ j ≤ 70 ∧ Grew w wr base ls o' sn' vm vw ∧ Now w wr base ls o' sn' p j (a, n, ca) (ga, gn, gc) ∧ (∀ s ∈ sn', s.i ≤ p) ∧ sn'.length ≤ 70 * p + j) (fun _ _ _ jv _ => 70 - (intOf jv).toNat)
          case atStart => exact ⟨0, o1, sn, a, n, ca, rfl, rfl, by omega, hgrew, hN0, fun s hs => Nat.le_of_lt (HSI.out s hs), by omega⟩
          case round =>
            obtain ⟨j, o2, sn2, ga, gn, gc, rfl, rfl, hj70, hgrew2, hnow, hsi2, hsl2⟩ := hrel
            have HSI2 := Lib.hid hsi2
            have hgn : gn = n + j := hnow.len
            have HGN := Lib.hid hgn
            have hgb : gn ≤ 8796093022022 := by omega
            clear hsi2 hgn
            by_cases hjl : j < 70
            · have hgb2 : gn ≤ 8796093022021 := by have := HGN.out; omega
              have hjl2 : (j : Int) < 70 := by omega
              have hst : ((j : Int) < 16 ∨ (¬ (j : Int) < 16 ∧ ((j : Int) == 69) = true)) ∨ (¬ (j : Int) < 16 ∧ ((j : Int) == 69) = false) := by
                by_cases h1 : (j : Int) < 16
                · exact .inl (.inl h1)
                · by_cases h2 : (j : Int) = 69
                  · exact .inl (.inr ⟨h1, by simpa using h2⟩)
                  · exact .inr ⟨h1, by simpa using h2⟩
              rcases hst with (h1 | ⟨h1, h2⟩) | ⟨h1, h2⟩
              rotate_left 2
              · go_wp2_with (first
                  | (go_at_call 38; refine (mark_any p (by omega) false _).mono ?_; rintro e w1 ⟨rfl, hb1⟩; have ha1 := hb1.alloc hb1.size (.cells #[.string ⟨(mrk p false).toArray⟩] 9); have hG1 := hgrew2.below ha1; have hN1 := hnow.below ha1)
                  | (at_builtin; refine wpList_append_keeps _ rfl (.tmp 51) (.tmp 54) 30 rfl base 9 i0 (.string ⟨#[]⟩) 1 16 Try.underlying30 hi hz0 hz1 hz2 rfl (by decide) (.slice ga gn gc) gn _ rfl hN1.held.1 ⟨w1.heap.size, 0, none⟩ 1 1 [encStr (mrk p false)] rfl rfl (cell_one_new _ _ _) (by simp [Value.oneCell', encStr]) (by decide) (by unfold maxLen; omega) (by omega) (Nat.le_trans hB hG1.kept.size) ?_; intro gb cap w2 hown2 hg2 hat2 hlt2 hkeep2; obtain ⟨o3, hG2, hN2⟩ := hN1.grow hG1 hown2 hg2 hat2 hkeep2))
                go_roundw
                case rel => exact ⟨j + 1, o3, sn2, some ⟨gb, 0, none⟩, gn + 1, cap, by go_num, rfl, by omega, hG2, hN2, HSI2.out, by omega⟩
                case measure => simp [intOf]; omega
              all_goals
                go_wp2_with (first
                  | (go_at_call 38; refine (mark_any p (by omega) false _).mono ?_; rintro e w1 ⟨rfl, hb1⟩; have ha1 := hb1.alloc hb1.size (.cells #[.string ⟨(mrk p false).toArray⟩] 9); have hG1 := hgrew2.below ha1; have hN1 := hnow.below ha1)
                  | (at_builtin; refine wpList_append_keeps _ rfl (.tmp 51) (.tmp 54) 30 rfl base 9 i0 (.string ⟨#[]⟩) 1 16 Try.underlying30 hi hz0 hz1 hz2 rfl (by decide) (.slice ga gn gc) gn _ rfl hN1.held.1 ⟨w1.heap.size, 0, none⟩ 1 1 [encStr (mrk p false)] rfl rfl (cell_one_new _ _ _) (by simp [Value.oneCell', encStr]) (by decide) (by unfold maxLen; omega) (by omega) (Nat.le_trans hB hG1.kept.size) ?_; intro gb cap w2 hown2 hg2 hat2 hlt2 hkeep2; obtain ⟨o3, hG2, hN2⟩ := hN1.grow hG1 hown2 hg2 hat2 hkeep2)
                  | (at_builtin; refine wpList_append_own _ rfl (.tmp 62) (.tmp 64) 37 rfl w.heap.size 30 i1 (.slice none 0 0) 1 24 Try.underlying37 hi' hy0 hy1 hy2 rfl (by decide) _ _ _ rfl (hG2.more.alloc _) ⟨w2.heap.size, 0, none⟩ 1 1 [rv (some ⟨gb, 0, none⟩, gn + 1, cap)] rfl rfl (cell_one_new _ _ _) (by simp [rv, Value.oneCell']) (by unfold maxLen; omega) (by omega) (by have := hG2.kept.size; simp; omega) ?_; intro vm3 w3 hown3 hg3 _; have ha2 := (Below.refl w2.heap.size w2).alloc (Nat.le_refl _) (.cells #[.slice (some ⟨gb, 0, none⟩) (gn + 1) cap] 30); have hG2a := hG2.below ha2; have hN2a := hN2.below ha2; have hvw3 := row_other hG2a.whose hG2a.more (by decide) hg3; have hs3 := Nat.le_trans hG2a.kept.size hg3.size)
                  | (at_builtin; refine wpList_append_own _ rfl (.tmp 66) (.tmp 68) 49 rfl w.heap.size 3 i2 (.int .i64 0) 1 8 Try.underlying49 hi'' hx0 hx1 hx2 rfl (by decide) _ _ _ rfl (hvw3.alloc _) ⟨w3.heap.size, 0, none⟩ 1 1 [.int .i64 (p : Int)] rfl rfl (cell_one_new _ _ _) (by simp [Value.oneCell']) (by unfold maxLen; omega) (by omega) (by simp; omega) ?_; intro vw4 w4 hown4 hg4 _; obtain ⟨hG4, hN4⟩ := hN2a.snap hG2a hown3 hg3 ((Below.refl w3.heap.size w3).alloc (Nat.le_refl _) (.cells #[.int .i64 (p : Int)] 3)) hown4 hg4))
                go_roundw
                case rel =>
                  refine ⟨j + 1, o3, sn2 ++ [⟨p, j + 1, (some ⟨gb, 0, none⟩, gn + 1, cap)⟩], some ⟨gb, 0, none⟩, gn + 1, cap, by go_num, rfl, by omega, hG4, hN4, ?_, ?_⟩
                  · intro s hs
                    rcases List.mem_append.1 hs with h | h
                    · exact HSI2.out s h
                    · obtain rfl := List.mem_singleton.1 h; exact Nat.le_refl _
                  · simp; omega
                case measure => simp [intOf]; omega
            · obtain rfl : j = 70 := by omega
              go_wp2
              go_roundw
              case rel => exact ⟨p + 1, o2, sn2, by go_num, by omega, hgrew2, fun s hs => Nat.lt_succ_of_le (HSI2.out s hs), by omega⟩
              case measure => simp [intOf]; omega
        · obtain ⟨Am, cm, rfl, _, _⟩ := own_form hgrew.more
          obtain ⟨Aw, cw, rfl, _, _⟩ := own_form hgrew.whose
          obtain ⟨wf, rfl⟩ : ∃ wf : World, wf = wr := ⟨_, rfl⟩
          obtain ⟨nm, hnm⟩ : ∃ nm, sn.length = nm := ⟨_, rfl⟩
          have hmr := Rd.of_own hgrew.more
          have hwr := Rd.of_own hgrew.whose
          rw [hnm] at hmr hwr hsl
          have HM := Lib.hid hmr
          have HW := Lib.hid hwr
          have HSN := Lib.hid hgrew.snaps
          have HLI := Lib.hid hgrew.lists
          have hkept := hgrew.kept
          have HNM := Lib.hid hnm
          have HSI := Lib.hid hsi
          rw [hnm]
          clear hmr hwr hgrew hnm hsi
          go_wp2
          go_loopw [10] (fun iv wr => ∃ (q : Nat), iv = .int .i64 q ∧ q ≤ nm ∧ Below wf.heap.size wf wr) (fun iv _ => nm - (intOf iv).toNat)
          case atStart => exact ⟨0, rfl, by omega, Below.refl _ _⟩
          case round =>
            obtain ⟨q, rfl, hqn, hb⟩ := hrel
            by_cases hql : q < nm
            · obtain ⟨s, hs⟩ : ∃ s, sn[q]? = some s := ⟨_, List.getElem?_eq_getElem (by have := HNM.out; omega)⟩
              obtain ⟨⟨a, n, ca⟩, hr, hlen, hheld⟩ := HSN.out s (List.mem_of_getElem? hs)
              have hli := HLI.out s.i _ hr
              have hsi3 := HSI.out s (List.mem_of_getElem? hs)
              obtain ⟨adm, u, rfl, _, hu, hcm⟩ := (HM.out.below hb).at_ hql
              rw [List.getElem?_map, hs] at hu
              injection hu with hu
              subst hu
              obtain ⟨adw, u, rfl, _, hu, hcw⟩ := (HW.out.below hb).at_ hql
              rw [List.getElem?_map, hs] at hu
              injection hu with hu
              subst hu
              obtain ⟨ad, u, rfl, _, hu, hcl⟩ := ((hkept.below hb).rd HL.out (Nat.le_refl _) HS.out).at_ (show s.i < i by omega)
              rw [List.getElem?_map, hr] at hu
              injection hu with hu
              subst hu
              obtain ⟨si, m, sa, sl, sc⟩ := s
              simp only at hlen hheld hli hcw hcl hcm hsi3 hr
              have hheld2 := hheld.below hb
              have hli2 := hli.below hb
              have hnb := HN.out si _ hr
              simp only at hnb
              have HH := Lib.hid hheld2
              have HLI2 := Lib.hid hli2
              have hcm : wr.cell? (adm.add q) = some (.slice sa sl sc) := hcm
              have hcl : wr.cell? (ad.add si) = some (.slice a n ca) := hcl
              have HCM := Lib.hid hcm
              have HCL := Lib.hid hcl
              have hqn2 : (q : Int) < (nm : Int) := by omega
              have hsi4 : (si : Int) < (i : Int) := by omega
              have HLEN := Lib.hid hlen
              obtain ⟨wo2, rfl⟩ : ∃ wo2 : World, wo2 = wr := ⟨_, rfl⟩
              have hsl : sl ≤ 9223372036854775807 := by
                obtain ⟨_, c9, _, h9, h10⟩ := own_form HH.out.1
                unfold maxLen at h10; simp only at h9; omega
              clear hs hr hlen hheld hli hheld2 hli2 hcl
              go_wp2
              go_loopw [12] (fun iv wr => ∃ (kk : Nat), iv = .int .i64 kk ∧ kk ≤ sl ∧ Below wo2.heap.size wo2 wr) (fun iv _ => sl - (intOf iv).toNat)
              case atStart => exact ⟨0, rfl, by omega, Below.refl _ _⟩
              case round =>
                obtain ⟨kk, rfl, hks, hb2⟩ := hrel
                have hcm2 := cell_next HCM.out hb2
                have hcl2 := cell_next HCL.out hb2
                by_cases hkl : kk < sl
                · obtain ⟨ad2, u, rfl, _, hu, hcs⟩ := (HH.out.rd.below hb2).at_ (show kk < (sa, sl, sc).2.1 from hkl)
                  rw [List.getElem?_map, full_at (by have := HLEN.out; omega)] at hu
                  injection hu with hu
                  subst hu
                  have hks2 : (kk : Int) < (sl : Int) := by omega
                  have k0 := cell_regrown hcm2
                  have k1 := cell_regrown hcl2
                  by_cases hkn : kk < n
                  · obtain ⟨ad3, u, rfl, _, hu, hcr⟩ := (HLI2.out.rd.below hb2).at_ (show kk < (a, n, ca).2.1 from hkn)
                    rw [List.getElem?_map, full_at (by omega)] at hu
                    injection hu with hu
                    subst hu
                    have hkn2 : (kk : Int) < (n : Int) := by omega
                    simp only [hkn, decide_true] at hcs hcr
                    have cQ : ∀ d os, Calls Try.prog 38 #[.int .i64 si, .bool true] (Go.Sort.grow (redrawn wr d) os) fun e w'' => e = .returned (.string ⟨(mrk si true).toArray⟩) ∧ ∃ p : Regrown, w'' = Go.Sort.grow (redrawn wr p.d) p.os := fun d os => Calls.regrown_of (mark_any si (by omega) true _)
                    have hcs' : wr.cell? (ad2.add kk) = some (.string ⟨(mrk si true).toArray⟩) := hcs
                    have hcr' : wr.cell? (ad3.add kk) = some (.string ⟨(mrk si true).toArray⟩) := hcr
                    obtain ⟨X, hX⟩ : ∃ X : ByteArray, X = ⟨(mrk si true).toArray⟩ := ⟨_, rfl⟩
                    rw [← hX] at hcs' hcr' cQ
                    have k2 := cell_regrown hcs'
                    have k3 := cell_regrown hcr'
                    clear hcs hcr hX
                    go_wp2
                    refine wp_region_quiet_below (by kernel_rfl) (by kernel_rfl) ?_
                    repeat (quiet_step (exact cQ _ _))
                    refine wpQuiet_nil ?_
                    intro _ hw'
                    obtain ⟨⟨dq, osq⟩, hw''⟩ := hw'
                    subst hw''
                    go_wp2
                    go_roundw
                    case rel => exact ⟨kk + 1, by go_num, by omega, hb2.trans ((below_regrown wr dq osq).mono hb2.size)⟩
                    case measure => simp [intOf]; omega
                  · have hkn2 : ¬ (kk : Int) < (n : Int) := by omega
                    simp only [hkn, decide_false] at hcs
                    have cQ : ∀ d os, Calls Try.prog 38 #[.int .i64 si, .bool false] (Go.Sort.grow (redrawn wr d) os) fun e w'' => e = .returned (.string ⟨(mrk si false).toArray⟩) ∧ ∃ p : Regrown, w'' = Go.Sort.grow (redrawn wr p.d) p.os := fun d os => Calls.regrown_of (mark_any si (by omega) false _)
                    have hcs' : wr.cell? (ad2.add kk) = some (.string ⟨(mrk si false).toArray⟩) := hcs
                    obtain ⟨X, hX⟩ : ∃ X : ByteArray, X = ⟨(mrk si false).toArray⟩ := ⟨_, rfl⟩
                    rw [← hX] at hcs' cQ
                    have k2 := cell_regrown hcs'
                    clear hcs hX
                    go_wp2
                    refine wp_region_quiet_below (by kernel_rfl) (by kernel_rfl) ?_
                    iterate 13 (quiet_step (exact cQ _ _))
                    repeat (go_big_quiet_step (exact cQ _ _))
                    refine wpQuiet_nil ?_
                    intro _ hw'
                    obtain ⟨⟨dq, osq⟩, hw''⟩ := hw'
                    subst hw''
                    go_wp2
                    go_roundw
                    case rel => exact ⟨kk + 1, by go_num, by omega, hb2.trans ((below_regrown wr dq osq).mono hb2.size)⟩
                    case measure => simp [intOf]; omega
                · obtain rfl : kk = sl := by omega
                  go_wp2
                  go_roundw
                  case rel => exact ⟨q + 1, by go_num, by omega, bch hb hb2⟩
                  case measure => simp [intOf]; omega
            · go_wp2
              go_ret
              exact ⟨rfl, hkept.below hb⟩
end Go.Proofs.Ytjkcoodboghmkaa.Nm
