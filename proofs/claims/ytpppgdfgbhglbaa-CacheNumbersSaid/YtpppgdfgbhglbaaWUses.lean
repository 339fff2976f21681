/- The walk of two caches beside one another. -/
import Derived.Test.YtpppgdfgbhglbaaTwin
import Derived.Test.YtpppgdfgbhglbaaUsed0
import Derived.Test.YtpppgdfgbhglbaaUsed1
import Derived.Test.YtpppgdfgbhglbaaUsed2
import Derived.Test.YtpppgdfgbhglbaaUsed3
import Derived.Test.YtpppgdfgbhglbaaUsed4
import Derived.Test.YtpppgdfgbhglbaaUsed5
import Derived.Test.YtpppgdfgbhglbaaUsed6
import Derived.Deep.RegionHeld3
namespace Go.Proofs.Ytpppgdfgbhglbaa.CaS
open Go.RowKit Go.Proofs Go.Proofs.Ytpppgdfgbhglbaa.Ring Go.Proofs.Ytpppgdfgbhglbaa.Lru Go.Proofs.Ytpppgdfgbhglbaa.Ca

theorem used_any {w : World} {S : Nat → Prop} {c room cnt n cp : Nat} {l : List Ent} {A : Option Addr} (h : Pair w S c room l cnt A n cp) (u : U) (hu : u.ok) (hcnt : cnt ≤ 2513169434843) :
    Calls Try.prog 27 #[.pointer (some ⟨c, 0, none⟩), rv room A n cp, .agg u.cells.toArray] w fun x w' => ∃ S' l' A' n' cp', x = .returned (.tuple #[rv room A' n' cp', .bool true]) ∧ Pair w' S' c room l' (cnt + 1) A' n' cp' ∧ Kept w w' S ∧ (∀ k, S' k → S k ∨ w.heap.size ≤ k) ∧ (∀ ad, 0 < n' → A' = some ad → (A' = A ∧ 0 < n) ∨ w.heap.size ≤ ad.block) := by
  by_cases h0 : u.doo = 0
  · exact used_0 h u hu hcnt h0
  by_cases h1 : u.doo = 1
  · exact used_1 h u hu hcnt h1
  by_cases h2 : u.doo = 2
  · exact used_2 h u hu hcnt h2
  by_cases h3 : u.doo = 3
  · exact used_3 h u hu hcnt h3
  by_cases h4 : u.doo = 4
  · exact used_4 h u hu hcnt h4
  by_cases h5 : u.doo = 5
  · exact used_5 h u hu hcnt h5
  exact used_6 h u hu hcnt (by simpa using h0) (by simpa using h1) (by simpa using h2) (by simpa using h3) (by simpa using h4) (by simpa using h5)

set_option maxRecDepth 100000 in
theorem rnew_any (r : Nat) (hr : r ≤ 1073741824) (w : World) : Calls Try.prog 15 #[.int .i64 (r : Int)] w fun x w' => x = .returned (.tuple #[rv r none 0 0, .int .i64 0]) ∧ Below w.heap.size w w' := by
  have h1 : ¬ (r : Int) < 0 := by omega
  have h2 : ¬ (r : Int) > 1073741824 := by omega
  go_enter Try.func15, Try.ntmps15
  go_wp2
  refine bodyPost_ret (v := .tuple #[rv r none 0 0, .int .i64 0]) (by simp [results, Try.results15, go_sem]) rfl ?_
  exact ⟨rfl, (Below.refl _ _).alloc (Nat.le_refl _) _⟩
set_option maxRecDepth 100000 in
theorem rnew_not (r : Int) (hr : r < 0 ∨ 1073741824 < r) (w : World) : Calls Try.prog 15 #[.int .i64 r] w fun x w' => x = .returned (.tuple #[rv 0 none 0 0, .int .i64 2]) ∧ Below w.heap.size w w' := by
  rcases hr with h | h
  · go_enter Try.func15, Try.ntmps15
    go_wp2
    refine bodyPost_ret (v := .tuple #[rv 0 none 0 0, .int .i64 2]) (by simp [results, Try.results15, go_sem]) rfl ?_
    exact ⟨rfl, (Below.refl _ _).alloc (Nat.le_refl _) _⟩
  · have h0 : ¬ r < 0 := by omega
    go_enter Try.func15, Try.ntmps15
    go_wp2
    refine bodyPost_ret (v := .tuple #[rv 0 none 0 0, .int .i64 2]) (by simp [results, Try.results15, go_sem]) rfl ?_
    exact ⟨rfl, (Below.refl _ _).alloc (Nat.le_refl _) _⟩

def bad (k : Int) : Prop := k < 0 ∨ 1073741824 < k
theorem good_nat {k : Int} (h : ¬ bad k) : ∃ r : Nat, k = (r : Int) ∧ r ≤ 1073741824 := by
  unfold bad at h
  exact ⟨k.toNat, by omega, by omega⟩
theorem new_gen (k : Int) (w : World) : Calls Try.prog 9 #[.int .i64 k] w fun x w' => ∃ pv ev, x = .returned (.tuple #[pv, .int .i64 ev]) ∧ Below w.heap.size w w' ∧
    ((bad k ∧ pv = .pointer none ∧ ev = 2) ∨ ∃ r : Nat, ¬ bad k ∧ k = (r : Int) ∧ r ≤ 1073741824 ∧ pv = .pointer (some ⟨w.heap.size, 0, none⟩) ∧ ev = 0 ∧ Cs w' (fun x => x = w.heap.size) w.heap.size r [] 0) := by
  by_cases hb : bad k
  · refine (new_not k hb w).mono ?_
    rintro x w' ⟨rfl, rfl⟩
    exact ⟨_, _, rfl, Below.refl _ _, .inl ⟨hb, rfl, rfl⟩⟩
  · obtain ⟨r, rfl, hr⟩ := good_nat hb
    refine (new_cs r hr w).mono ?_
    rintro x w' ⟨rfl, h1, h2⟩
    exact ⟨_, _, rfl, h2, .inr ⟨r, hb, rfl, hr, rfl, rfl, h1⟩⟩
theorem rnew_gen (k : Int) (w : World) : Calls Try.prog 15 #[.int .i64 k] w fun x w' => ∃ q ev, x = .returned (.tuple #[rv q none 0 0, .int .i64 ev]) ∧ Below w.heap.size w w' ∧
    ((bad k ∧ ev = 2) ∨ ∃ r : Nat, ¬ bad k ∧ k = (r : Int) ∧ ev = 0 ∧ q = r) := by
  by_cases hb : bad k
  · refine (rnew_not k hb w).mono ?_
    rintro x w' ⟨rfl, h2⟩
    exact ⟨_, _, rfl, h2, .inl ⟨hb, rfl⟩⟩
  · obtain ⟨r, rfl, hr⟩ := good_nat hb
    refine (rnew_any r hr w).mono ?_
    rintro x w' ⟨rfl, h2⟩
    exact ⟨_, _, rfl, h2, .inr ⟨r, hb, rfl, rfl, rfl⟩⟩

theorem Kept.undrew {w w' : World} {S : Nat → Prop} (h : Kept w.drew w' S) : Kept w w' S := ⟨h.os, h.tape, h.output, h.size, h.block⟩
theorem twin_start {w1 w3 wy : World} {B pc r pd r1 X Y : Nat} (h0 : Cs w1 (fun x => x = pc) pc r [] 0) (h1 : Cs w3 (fun x => x = pd) pd r1 [] 0) (b1 : Below w1.heap.size w1 wy) (b3 : Below w3.heap.size w3 wy) (hB : B = pc) (hX : pc < X) (hXd : X < pd) (hYd : pd < Y)
    (hx : wy.heap[X]? = some (rvCells r none 0 0)) (hy : wy.heap[Y]? = some (rvCells r1 none 0 0)) (hw : B ≤ wy.heap.size) :
    Twin wy B X Y (fun x => x = pc) (fun x => x = pd) pc r [] none 0 0 pd r1 [] none 0 0 0 := by
  have he : ∀ w : World, Es w w.heap.size none 0 [] := fun w => Es.none_
  exact ⟨⟨h0.below b1, he _, fun _ => rfl, fun ad h0 => absurd h0 (by omega)⟩, ⟨h1.below b3, he _, fun _ => rfl, fun ad h0 => absurd h0 (by omega)⟩, fun k hk hk2 => by omega, fun ad h0 => absurd h0 (by omega), fun ad h0 => absurd h0 (by omega), fun k hk => by omega, fun k hk => by omega, hx, hy,
    by omega, by omega, by omega, by omega, by omega, by omega, by omega, fun ad h0 => absurd h0 (by omega), fun ad h0 => absurd h0 (by omega), hw⟩

set_option maxRecDepth 100000 in
set_option maxHeartbeats 2000000 in
theorem law_uses (k0 : Int) (_hk0 : -9223372036854775808 ≤ k0 ∧ k0 ≤ 9223372036854775807) (k1 : Int) (_hk1 : -9223372036854775808 ≤ k1 ∧ k1 ≤ 9223372036854775807)
    (A : Option Addr) (n c : Nat) (us : List U) (hn : n ≤ 2513169434843) (hus : ∀ u ∈ us, u.ok) (w : World) (hr : Uses w w.heap.size A n us) :
    Calls Try.prog 5 #[.int .i64 k0, .int .i64 k1, .slice A n c] w fun e w' => e = .returned (.bool true) ∧ Below w.heap.size w w' := by
  have HUS := Lib.hid hus
  have HR := Lib.hid hr
  clear hus hr
  go_enter Try.func5, Try.ntmps5
  go_upto_region 2 with (go_at_call 9; refine (new_gen k0 _).mono ?_; rintro e w1 ⟨p0, v0, rfl, b1, hp0⟩)
  go_upto_region 3 with (go_at_call 15; refine (rnew_gen k0 _).mono ?_; rintro e w2 ⟨q0, z0, rfl, b2, hz0⟩)
  have b2x := b2.alloc b2.size (.cells #[.int .i64 (q0 : Int), .slice none 0 0] 45)
  have HX0 := Lib.hid (heap_alloc_new w2 (.cells #[.int .i64 (q0 : Int), .slice none 0 0] 45))
  have hxs : (w2.alloc (.cells #[.int .i64 (q0 : Int), .slice none 0 0] 45)).heap.size = w2.heap.size + 1 := by simp
  obtain ⟨X, hX⟩ : ∃ X, w2.heap.size = X := ⟨_, rfl⟩
  obtain ⟨wx, hwx⟩ : ∃ wx, w2.alloc (.cells #[.int .i64 (q0 : Int), .slice none 0 0] 45) = wx := ⟨_, rfl⟩
  rw [hwx] at b2x HX0 hxs ⊢
  rw [hX] at HX0 hxs ⊢
  have HX := Lib.hid hX
  have HXS := Lib.hid hxs
  have HWX := Lib.hid hwx
  have HP0 := Lib.hid hp0
  have HZ0 := Lib.hid hz0
  clear hX hwx hp0 hz0 hxs
  go_upto_region 4 with (go_at_call 9; refine (new_gen k1 _).mono ?_; rintro e w3 ⟨p1, v1, rfl, b3, hp1⟩)
  go_upto_region 5 with (go_at_call 15; refine (rnew_gen k1 _).mono ?_; rintro e w4 ⟨q1, z1, rfl, b4, hz1⟩)
  have b4y := b4.alloc b4.size (.cells #[.int .i64 (q1 : Int), .slice none 0 0] 45)
  have HY0 := Lib.hid (heap_alloc_new w4 (.cells #[.int .i64 (q1 : Int), .slice none 0 0] 45))
  have hys : (w4.alloc (.cells #[.int .i64 (q1 : Int), .slice none 0 0] 45)).heap.size = w4.heap.size + 1 := by simp
  obtain ⟨Y, hY⟩ : ∃ Y, w4.heap.size = Y := ⟨_, rfl⟩
  obtain ⟨wy, hwy⟩ : ∃ wy, w4.alloc (.cells #[.int .i64 (q1 : Int), .slice none 0 0] 45) = wy := ⟨_, rfl⟩
  rw [hwy] at b4y HY0 hys ⊢
  rw [hY] at HY0 hys ⊢
  have HY := Lib.hid hY
  have HYS := Lib.hid hys
  have HWY := Lib.hid hwy
  clear hY hwy hys
  have hB : Below w.heap.size w wy := bch (bch (bch b1 b2x) b3) b4y
  obtain ⟨pd, hpd⟩ : ∃ pd, wx.heap.size = pd := ⟨_, rfl⟩
  obtain ⟨pc, hpc⟩ : ∃ pc, w.heap.size = pc := ⟨_, rfl⟩
  rw [hpd] at hp1
  have hp0 := HP0.out
  rw [hpc] at hp0
  have hz0 := HZ0.out
  have HPD := Lib.hid hpd
  have HPC := Lib.hid hpc
  clear hpd hpc HP0 HZ0
  rcases hp0 with ⟨g0, rfl, rfl⟩ | ⟨r, g0, hr, hrb, rfl, rfl, hc0⟩
  · rcases hz0 with ⟨_, rfl⟩ | ⟨r', g1, _⟩
    · rcases hp1 with ⟨g1, rfl, rfl⟩ | ⟨r1, g1, hr1, hrb1, rfl, rfl, hc1⟩
      · rcases hz1 with ⟨_, rfl⟩ | ⟨r', g2, _⟩
        · clear g0 g1
          go_wp2
          go_ret
          exact ⟨rfl, hB⟩
        · exact absurd g1 g2
      · rcases hz1 with ⟨g2, _⟩ | ⟨r', g2, hr2, rfl, rfl⟩
        · exact absurd g2 g1
        · clear g0 g1 g2 hc1 hr1 hr2
          go_wp2
          go_ret
          exact ⟨rfl, hB⟩
    · exact absurd g0 g1
  · rcases hz0 with ⟨g1, _⟩ | ⟨r', _, hr', rfl, rfl⟩
    · exact absurd g1 g0
    · obtain rfl : r = q0 := by omega
      rcases hp1 with ⟨g1, rfl, rfl⟩ | ⟨r1, g1, hr1, hrb1, rfl, rfl, hc1⟩
      · rcases hz1 with ⟨_, rfl⟩ | ⟨r', g2, _⟩
        · clear g0 g1 hr hr' hc0
          go_wp2
          go_ret
          exact ⟨rfl, hB⟩
        · exact absurd g1 g2
      · rcases hz1 with ⟨g2, _⟩ | ⟨r', g2, hr2, rfl, rfl⟩
        · exact absurd g2 g1
        · obtain rfl : r1 = q1 := by omega
          have hx1 : pc < w1.heap.size := hc0.low pc rfl
          have hx3 : pd < w3.heap.size := hc1.low pd rfl
          have HT : RowKit.Hid (Twin wy w.heap.size X Y (fun x => x = pc) (fun x => x = pd) pc r [] none 0 0 pd r1 [] none 0 0 0) := Lib.hid (twin_start hc0 hc1 (bch (bch b2x b3) b4y) b4y (HPC.out) (by have := b2.size; have := HX.out; omega) (by have := HXS.out; have := HPD.out; omega) (by have := b4.size; have := HY.out; omega) ((bch b3 b4y).at_block HX0.out) HY0.out hB.size)
          clear g0 g1 g2 hr hr' hr1 hr2 hc0 hc1
          go_wp2
          clear HY0 HX0
          go_loopw [15] (fun iv wr => ∃ (i : Nat) (S T : Nat → Prop) (l m : List Ent) (A1 : Option Addr) (n1 c1 : Nat) (A2 : Option Addr) (n2 c2 : Nat), iv = .int .i64 i ∧ i ≤ n ∧ Twin wr w.heap.size X Y S T pc r l A1 n1 c1 pd r1 m A2 n2 c2 i ∧ Below w.heap.size w wr) (fun iv _ => n - (intOf iv).toNat)
          case atStart => exact ⟨0, _, _, [], [], none, 0, 0, none, 0, 0, rfl, by omega, HT.out, hB⟩
          case round =>
            obtain ⟨i, S, T, l, m, A1, n1, c1, A2, n2, c2, rfl, hi, htw, hb⟩ := hrel
            have HTW := Lib.hid htw
            clear htw HT
            obtain ⟨x0, x1, _, _⟩ := two_cells HTW.out.x
            obtain ⟨y0, y1, _, _⟩ := two_cells HTW.out.y
            by_cases hlt : i < n
            · obtain ⟨b, o, ⟨us0, z, key, val, wt⟩, rfl, hu, e0, e1, e2, e3, e4⟩ := (HR.out.below hb).at_ hlt
              have hok := HUS.out _ (List.mem_of_getElem? hu)
              simp only at e0 e1 e2 e3 e4
              have HOK := Lib.hid hok
              have hlt2 : (i : Int) < (n : Int) := by omega
              clear hu hok
              cases us0 with
              | true =>
                go_wp2
                go_region_with (go_at_call 27; refine (used_any (HTW.out.two.drew) ⟨_, z, key, val, wt⟩ HOK.out (by omega)).mono ?_; rintro x w6 ⟨S', l', A', n', cp', rfl, hP, hk, hs, ha⟩; have hk := Kept.undrew hk; obtain ⟨y0, y1, t0, t1⟩ := two_cells ((hk.block Y (Array.getElem?_eq_some_iff.1 HTW.out.y).1 HTW.out.yT).trans HTW.out.y); have HPP := Lib.hid hP; have HKK := Lib.hid hk; have HSS := Lib.hid hs; have HAA := Lib.hid ha; clear hP hk hs ha)
                all_goals
                  obtain ⟨g1, g2⟩ := HTW.out.swap.step HPP.out HKK.out HSS.out HAA.out
                  have HG := Lib.hid g1.swap
                  clear g1 y0 y1 t0 t1 x0 x1 e0 e1 e2 e3 e4
                  go_wp2
                  go_roundw
                  case rel => exact ⟨i + 1, _, _, _, _, _, _, _, _, _, _, by go_num, by omega, HG.out, hb.trans g2⟩
                  case measure => simp [intOf]; omega
              | false =>
                go_wp2
                go_region_with (go_at_call 27; refine (used_any (HTW.out.one.drew) ⟨_, z, key, val, wt⟩ HOK.out (by omega)).mono ?_; rintro x w6 ⟨S', l', A', n', cp', rfl, hP, hk, hs, ha⟩; have hk := Kept.undrew hk; obtain ⟨y0, y1, t0, t1⟩ := two_cells ((hk.block X (Array.getElem?_eq_some_iff.1 HTW.out.x).1 HTW.out.xS).trans HTW.out.x); have HPP := Lib.hid hP; have HKK := Lib.hid hk; have HSS := Lib.hid hs; have HAA := Lib.hid ha; clear hP hk hs ha)
                all_goals
                  obtain ⟨g1, g2⟩ := HTW.out.step HPP.out HKK.out HSS.out HAA.out
                  have HG := Lib.hid g1
                  clear g1 y0 y1 t0 t1 x0 x1 e0 e1 e2 e3 e4
                  go_wp2
                  go_roundw
                  case rel => exact ⟨i + 1, _, _, _, _, _, _, _, _, _, _, by go_num, by omega, HG.out, hb.trans g2⟩
                  case measure => simp [intOf]; omega
            · have hi0 : i = n := by omega
              subst hi0
              go_wp2
              have HB10 := Lib.hid (show Below wr.heap.size wr wr.drew from (Below.refl _ _).drew)
              have hl1 : n1 ≤ i := by have h1 := HTW.out.one.1.len; have h2 := HTW.out.one.2.1.1; omega
              have hl2 : n2 ≤ i := by have h1 := HTW.out.two.1.len; have h2 := HTW.out.two.2.1.1; omega
              have d0 : wr.drew.cell? ⟨X, 0, none⟩ = some (.int .i64 (r : Int)) := x0
              have d1 : wr.drew.cell? ⟨X, 1, none⟩ = some (.slice A1 n1 c1) := x1
              have d2 : wr.drew.cell? ⟨Y, 0, none⟩ = some (.int .i64 (r1 : Int)) := y0
              have d3 : wr.drew.cell? ⟨Y, 1, none⟩ = some (.slice A2 n2 c2) := y1
              clear x0 x1 y0 y1
              go_region_held3 (fun w' => w'.cell? ⟨X, 0, none⟩ = some (.int .i64 (r : Int)) ∧ w'.cell? ⟨X, 1, none⟩ = some (.slice A1 n1 c1) ∧ w'.cell? ⟨Y, 0, none⟩ = some (.int .i64 (r1 : Int)) ∧ w'.cell? ⟨Y, 1, none⟩ = some (.slice A2 n2 c2)) ((refine ⟨?_, ?_, ?_, ?_⟩ <;> assumption))
                (first
                  | (go_at_call_of 12 pc; refine (keys_s (HTW.out.one.1.below HB10.out) (by omega) HTW.out.one.2.1.1).mono ?_; rintro x w11 ⟨A11, k11, rfl, hr11, hb11⟩; have hbN : Below wr.heap.size wr w11 := bch HB10.out hb11; have HB11 := Lib.hid hbN; have HR11 := Lib.hid hr11; obtain ⟨x0, x1, _, _⟩ := two_cells (hbN.at_block HTW.out.x); obtain ⟨y0, y1, _, _⟩ := two_cells (hbN.at_block HTW.out.y); clear hb11 hbN hr11)
                  | (go_at_call_of 24 n1; refine (rkeys_s r A1 n1 c1 w11.heap.size l (by omega) w11 (Nat.le_refl _) (HTW.out.one.2.1.next HB11.out)).mono ?_; rintro x w12 ⟨A12, k12, rfl, hr12, hb12⟩; have hbN : Below wr.heap.size wr w12 := bch HB11.out hb12; have HB12 := Lib.hid hbN; have HR12 := Lib.hid hr12; have HR11' := Lib.hid (HR11.out.next hb12); obtain ⟨x0, x1, _, _⟩ := two_cells (hbN.at_block HTW.out.x); obtain ⟨y0, y1, _, _⟩ := two_cells (hbN.at_block HTW.out.y); clear hb12 hbN hr12)
                  | (go_at_call_of 13 k11; refine (same_eq A11 n1 k11 _ A12 n1 k12 _ _ (by unfold maxLen; omega) (by unfold maxLen; omega) w12 HR11'.out HR12.out).mono ?_; rintro x w13 ⟨rfl, hb13⟩; have hbN : Below wr.heap.size wr w13 := bch HB12.out hb13; have HB13 := Lib.hid hbN; obtain ⟨x0, x1, _, _⟩ := two_cells (hbN.at_block HTW.out.x); obtain ⟨y0, y1, _, _⟩ := two_cells (hbN.at_block HTW.out.y); clear hb13 hbN)
                  | (go_at_call_of 28 pc; refine (weight_cs (HTW.out.one.1.below HB13.out)).mono ?_; rintro x wN ⟨rfl, rfl⟩)
                  | (go_at_call_of 26 n1; refine (rweight_any r A1 n1 c1 w13.heap.size l (by omega) (Nat.le_trans HTW.out.one.1.fits (Nat.le_trans HTW.out.one.1.2 (by decide))) w13 (Nat.le_refl _) (HTW.out.one.2.1.next HB13.out)).mono ?_; rintro x w14 ⟨rfl, hb14⟩; have hbN : Below wr.heap.size wr w14 := bch HB13.out hb14; have HB14 := Lib.hid hbN; obtain ⟨x0, x1, _, _⟩ := two_cells (hbN.at_block HTW.out.x); obtain ⟨y0, y1, _, _⟩ := two_cells (hbN.at_block HTW.out.y); clear hb14 hbN)
                  | (go_at_call_of 12 pd; refine (keys_s (HTW.out.two.1.below HB14.out) (by omega) HTW.out.two.2.1.1).mono ?_; rintro x w15 ⟨A15, k15, rfl, hr15, hb15⟩; have hbN : Below wr.heap.size wr w15 := bch HB14.out hb15; have HB15 := Lib.hid hbN; have HR15 := Lib.hid hr15; obtain ⟨x0, x1, _, _⟩ := two_cells (hbN.at_block HTW.out.x); obtain ⟨y0, y1, _, _⟩ := two_cells (hbN.at_block HTW.out.y); clear hb15 hbN hr15)
                  | (go_at_call_of 24 n2; refine (rkeys_s r1 A2 n2 c2 w15.heap.size m (by omega) w15 (Nat.le_refl _) (HTW.out.two.2.1.next HB15.out)).mono ?_; rintro x w16 ⟨A16, k16, rfl, hr16, hb16⟩; have hbN : Below wr.heap.size wr w16 := bch HB15.out hb16; have HB16 := Lib.hid hbN; have HR16 := Lib.hid hr16; have HR15' := Lib.hid (HR15.out.next hb16); obtain ⟨x0, x1, _, _⟩ := two_cells (hbN.at_block HTW.out.x); obtain ⟨y0, y1, _, _⟩ := two_cells (hbN.at_block HTW.out.y); clear hb16 hbN hr16)
                  | (go_at_call_of 13 k15; refine (same_eq A15 n2 k15 _ A16 n2 k16 _ _ (by unfold maxLen; omega) (by unfold maxLen; omega) w16 HR15'.out HR16.out).mono ?_; rintro x w17 ⟨rfl, hb17⟩; have hbN : Below wr.heap.size wr w17 := bch HB16.out hb17; have HB17 := Lib.hid hbN; obtain ⟨x0, x1, _, _⟩ := two_cells (hbN.at_block HTW.out.x); obtain ⟨y0, y1, _, _⟩ := two_cells (hbN.at_block HTW.out.y); clear hb17 hbN)
                  | (go_at_call_of 28 pd; refine (weight_cs (HTW.out.two.1.below HB17.out)).mono ?_; rintro x wN ⟨rfl, rfl⟩)
                  | (go_at_call_of 26 n2; refine (rweight_any r1 A2 n2 c2 w17.heap.size m (by omega) (Nat.le_trans HTW.out.two.1.fits (Nat.le_trans HTW.out.two.1.2 (by decide))) w17 (Nat.le_refl _) (HTW.out.two.2.1.next HB17.out)).mono ?_; rintro x w18 ⟨rfl, hb18⟩; have hbN : Below wr.heap.size wr w18 := bch HB17.out hb18; have HB18 := Lib.hid hbN; obtain ⟨x0, x1, _, _⟩ := two_cells (hbN.at_block HTW.out.x); obtain ⟨y0, y1, _, _⟩ := two_cells (hbN.at_block HTW.out.y); clear hb18 hbN))
              all_goals
                go_wp2
                go_ret
                exact ⟨rfl, hb.trans (HB18.out.mono hb.size)⟩
end Go.Proofs.Ytpppgdfgbhglbaa.CaS
