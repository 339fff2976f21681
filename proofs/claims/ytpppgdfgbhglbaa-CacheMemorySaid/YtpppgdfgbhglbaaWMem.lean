/- The walk of CacheMemory. -/
import Derived.Test.YtpppgdfgbhglbaaMem
import Derived.Test.YtpppgdfgbhglbaaAwake
import Derived.Test.YtpppgdfgbhglbaaDuo
import Derived.Test.YtpppgdfgbhglbaaUses
import Derived.Test.YtpppgdfgbhglbaaBase2
import Derived.Deep.RegionHeld3
namespace Go.Proofs.Ytpppgdfgbhglbaa.CaS
open Go.RowKit Go.Proofs Go.Proofs.Ytpppgdfgbhglbaa.Ring Go.Proofs.Ytpppgdfgbhglbaa.Lru Go.Proofs.Ytpppgdfgbhglbaa.Ca Go.Proofs.Ytpppgdfgbhglbaa.Mem

theorem info_of {t : TypeId} {z : Value} {s b : Nat} (h : (Try.prog.info? t).map (fun i => (i.zero, i.size, i.bytes)) = some (some z, s, b)) : ∃ i, Try.prog.info? t = some i ∧ i.zero = some z ∧ i.size = s ∧ i.bytes = b := by
  cases hi : Try.prog.info? t with
  | none => rw [hi] at h; cases h
  | some i => rw [hi] at h; simp at h; exact ⟨i, rfl, h.1, h.2.1, h.2.2⟩
theorem mInfoStr : (Try.prog.info? 9).map (fun i => (i.zero, i.size, i.bytes)) = some (some (.string ⟨#[]⟩), 1, 16) := by kernel_rfl
theorem mInfoStrs : (Try.prog.info? 32).map (fun i => (i.zero, i.size, i.bytes)) = some (some (.slice none 0 0), 1, 24) := by kernel_rfl

/-- Three lists of one's own, each in a block of its own. -/
theorem three_rows {w w1 w2 ws : World} {base L : Nat} {K : List Bs} {Aa Ab Ad : Option Addr} {ca cb cd : Nat} {b1 b2 b3 : Nat} (ha : w.ownsRow b1 9 1 (.slice Aa L ca) L (cStr K)) (hb : w.ownsRow b2 9 1 (.slice Ab L cb) L (cStr K)) (hd : w.ownsRow b3 9 1 (.slice Ad L cd) L (cStr K))
    (h0 : base ≤ b1) (h1 : ∀ g, (Value.slice Aa L ca).ownBlock = some g → g < w1.heap.size) (h2 : w1.heap.size ≤ b2) (h3 : ∀ g, (Value.slice Ab L cb).ownBlock = some g → g < w2.heap.size) (h4 : w2.heap.size ≤ b3) (h12 : w1.heap.size ≤ w2.heap.size) (_hs : ws = ws) (hb1 : base ≤ b2) (hb3 : base ≤ b3) :
    All w base (fun k => if k < w1.heap.size then 0 else if k < w2.heap.size then 1 else 2) [(Aa, L, ca), (Ab, L, cb), (Ad, L, cd)] (fun _ => K) := by
  intro i r hr
  match i, hr with
  | 0, hr =>
    obtain rfl : (Aa, L, ca) = r := by simpa using hr
    exact ⟨own_base ha h0, fun g hg => by simp only [h1 g hg, if_true]⟩
  | 1, hr =>
    obtain rfl : (Ab, L, cb) = r := by simpa using hr
    refine ⟨own_base hb hb1, fun g hg => ?_⟩
    have h5 := (hb.lt g hg).1
    simp only [show ¬ g < w1.heap.size by omega, h3 g hg, if_false, if_true]
  | 2, hr =>
    obtain rfl : (Ad, L, cd) = r := by simpa using hr
    refine ⟨own_base hd hb3, fun g hg => ?_⟩
    have h5 := (hd.lt g hg).1
    simp only [show ¬ g < w1.heap.size by omega, show ¬ g < w2.heap.size by omega, if_false]
  | i + 3, hr => simp at hr

theorem keys_o {w : World} {S : Nat → Prop} {c room cnt : Nat} {l : List (It Bs Bs)} (h : Cs w S c room l cnt) (hcnt : cnt ≤ 8796093021952) {L : Nat} (hL : l.length = L) {K : List Bs} (hK : l.map (·.key) = K) :
    Calls Try.prog 12 #[.pointer (some ⟨c, 0, none⟩)] w fun x w' => ∃ A k, x = .returned (.slice A L k) ∧ w'.ownsRow w.heap.size 9 1 (.slice A L k) L (cStr K) ∧ Below w.heap.size w w' := by
  subst hL hK
  refine (keys_cs h hcnt).mono ?_
  rintro x w' ⟨v, rfl, hr, hb⟩
  obtain ⟨A, k, rfl, _, _⟩ := own_form hr
  exact ⟨A, k, rfl, hr, hb⟩
theorem same_b (A : Option Addr) (n c : Nat) (xs : List Bs) (A' : Option Addr) (c' : Nat) (B B' : Nat) (hn : n ≤ maxLen) (w : World) (hr : Rd w B 1 A n (cStr xs)) (hr' : Rd w B' 1 A' n (cStr xs)) :
    Calls Try.prog 13 #[.slice A n c, .slice A' n c'] w fun e w' => e = .returned (.bool true) ∧ Below w.heap.size w w' := by
  refine (same_any A n c xs A' n c' xs B B' hn hn w hr hr').mono ?_
  rintro e w' ⟨rfl, q, rfl⟩
  exact ⟨by simp, below_drewN (Below.refl _ _) q⟩

set_option maxRecDepth 100000 in
set_option maxHeartbeats 4000000 in
theorem law_memory (k0 : Int) (hk0 : -9223372036854775808 ≤ k0 ∧ k0 ≤ 9223372036854775807)
    (A : Option Addr) (n c : Nat) (us : List U) (hn : n ≤ 2513169434843) (hus : ∀ u ∈ us, u.ok) (w : World) (hr : Uses w w.heap.size A n us) :
    Calls Try.prog 3 #[.int .i64 k0, .slice A n c] w fun e w' => e = .returned (.bool true) ∧ Below w.heap.size w w' := by
  obtain ⟨i0, hi0, hz0, hz1, hz2⟩ := info_of mInfoStr
  obtain ⟨i1, hi1, hy0, hy1, hy2⟩ := info_of mInfoStrs
  have HUS := Lib.hid hus
  have HR := Lib.hid hr
  clear hus hr
  go_enter Try.func3, Try.ntmps3
  go_upto_region 4 with (first
    | (go_at_call 8; refine (CaI.awake_any _).mono ?_; rintro e w1 ⟨rfl, b1⟩)
    | (go_at_call 10; refine (pick_any k0 hk0 1048576 (by decide) (by decide) _).mono ?_; rintro e w2 ⟨⟨r, rfl, hrb⟩, rfl⟩)
    | (go_at_call 9; refine (new_co r (by omega) _).mono ?_; rintro e w3 ⟨pc, rfl, h3, b3⟩; have H3 := Lib.hid h3; clear h3))
  have hb13 : Below w.heap.size w w3 := bch b1 b3
  have HC3 := Lib.hid (Co.base H3.out b1.size)
  clear H3
  go_wp2
  go_loopw [7] (fun iv wr => ∃ (i : Nat) (l : List (It Bs Bs)), iv = .int .i64 i ∧ i ≤ n ∧ Co wr w.heap.size pc r l i ∧ Below w.heap.size w wr) (fun iv _ => n - (intOf iv).toNat)
  case atStart => exact ⟨0, [], rfl, by omega, HC3.out, hb13⟩
  case round =>
    obtain ⟨i, l, rfl, hi, hco, hb⟩ := hrel
    have HC := Lib.hid hco
    clear hco HC3
    by_cases hlt : i < n
    · obtain ⟨b, o, ⟨us0, z, key, val, wt⟩, rfl, hu, c0, c1, c2, c3, c4⟩ := (HR.out.below hb).at_ hlt
      have hok := HUS.out _ (List.mem_of_getElem? hu)
      simp only at c0 c1 c2 c3 c4
      have HKL := Lib.hid hok.2.1
      have HWT := Lib.hid hok.2.2.2
      have hlt2 : (i : Int) < (n : Int) := by omega
      have hcnt : i < maxLen := by unfold maxLen; omega
      have HCD := Lib.hid (HC.out.below ((Below.refl _ wr).drew))
      clear hu hok
      go_wp2
      go_region_with (first
        | (go_at_call 10; refine (pick_any wt HWT.out 4 (by decide) (by decide) _).mono ?_; rintro e w2 ⟨⟨q, rfl, hqb⟩, rfl⟩)
        | (go_at_call 11; refine (put_co HCD.out key HKL.out val (q : Int) hcnt).mono ?_; rintro x w6 ⟨rfl, h6, b6⟩; have H6 := Lib.hid h6; clear h6))
      all_goals
        clear c0 c1 c2 c3 c4
        go_wp2
        go_roundw
        case rel => exact ⟨i + 1, _, by go_num, by omega, H6.out, hb.trans ⟨b6.os, b6.tape, b6.output, b6.size, b6.block⟩⟩
        case measure => simp [intOf]; omega
    · have hin : i = n := by omega
      subst hin
      obtain ⟨S, hcs, hlow, hbw⟩ := HC.out
      have HCS := Lib.hid hcs
      have HLOW := Lib.hid hlow
      obtain ⟨K, hK⟩ : ∃ K, l.map (·.key) = K := ⟨_, rfl⟩
      obtain ⟨L, hL⟩ : ∃ L, l.length = L := ⟨_, rfl⟩
      have hLb : L ≤ 2513169434843 := by have := hcs.len; omega
      have HKK := Lib.hid hK
      have HLL := Lib.hid hL
      clear hcs hlow hK hL HC
      obtain ⟨w0, rfl⟩ : ∃ w0 : World, w0 = wr := ⟨_, rfl⟩
      go_upto_region 17 with (first
        | (go_at_call 12; with_reducible refine (keys_o HCS.out (by omega) HLL.out HKK.out).mono ?_; rintro x wa ⟨Aa, ca, rfl, ha, ba⟩; have HA := Lib.hid ha; have HCA := Lib.hid (HCS.out.below ba); clear ha)
        | (go_at_call 12; with_reducible refine (keys_o HCA.out (by omega) HLL.out HKK.out).mono ?_; rintro x wb ⟨Ab, cb, rfl, hb2, bb⟩; have HB := Lib.hid hb2; have HCB := Lib.hid (HCA.out.below bb); have HA2 := Lib.hid (own_below HA.out bb); clear hb2)
        | (at_builtin; refine wpList_append_rd _ rfl (.const (.slice none 0 0)) (.tmp 64) 32 rfl wb.heap.size 9 i0 (.string ⟨#[]⟩) 1 16 Try.underlying32 hi0 hz0 hz1 hz2 rfl (by decide) (.slice none 0 0) 0 [] rfl (World.ownsRow_nil _ _ _ _) _ Aa L ca (cStr K) rfl (Rd.of_own HA2.out) (own_none HA2.out) (cStr_one _) (by unfold maxLen; omega) (by omega) (Nat.le_refl _) ?_; intro vw ww hroww hgw; have bw := (Below.refl wb.heap.size wb).grown hgw (Nat.le_refl _) (by intro g hg; cases hg); rw [Nat.zero_add, List.nil_append] at hroww; obtain ⟨Aw, cw, rfl, _, _⟩ := own_form hroww; have HW := Lib.hid hroww; have HB2 := Lib.hid (own_below HB.out bw); have HA3 := Lib.hid (own_below HA2.out bw); have HCW := Lib.hid (HCB.out.below bw); clear hroww hgw)
        | (go_at_call 13; refine (same_b Ab L cb K Aw cw _ _ (by unfold maxLen; omega) ww (Rd.of_own HB2.out) (Rd.of_own HW.out)).mono ?_; rintro x ws ⟨rfl, bs⟩; have HS1 := Lib.hid (own_below HA3.out bs); have HS2 := Lib.hid (own_below HB2.out bs); have HS3 := Lib.hid (own_below HW.out bs); have HCC := Lib.hid (HCW.out.below bs))
        | (go_at_call 12; with_reducible refine (keys_o HCC.out (by omega) HLL.out HKK.out).mono ?_; rintro x wd ⟨Ad, cd, rfl, hd, bd⟩; have HD := Lib.hid hd; have HD1 := Lib.hid (own_below HS1.out bd); have HD2 := Lib.hid (own_below HS2.out bd); have HD3 := Lib.hid (own_below HS3.out bd); have HCD := Lib.hid (HCC.out.below bd); clear hd))
      have hXr := heap_alloc_new wd (.cells #[rw_ (Aa, L, ca), rw_ (Ab, L, cb), rw_ (Ad, L, cd)] 32)
      have hxs : (wd.alloc (.cells #[rw_ (Aa, L, ca), rw_ (Ab, L, cb), rw_ (Ad, L, cd)] 32)).heap.size = wd.heap.size + 1 := by simp
      have hbx : Below wd.heap.size wd (wd.alloc (.cells #[rw_ (Aa, L, ca), rw_ (Ab, L, cb), rw_ (Ad, L, cd)] 32)) := (Below.refl _ _).alloc (Nat.le_refl _) _
      have hall := three_rows (ws := ws) (w1 := wa) (w2 := wb) HD1.out HD2.out HD.out (Nat.le_refl _) (fun g hg => (HA.out.lt g hg).2) (Nat.le_refl _) (fun g hg => (HB.out.lt g hg).2) (Nat.le_trans bw.size bs.size) bb.size rfl ba.size (Nat.le_trans ba.size (Nat.le_trans bb.size (Nat.le_trans bw.size bs.size)))
      have hw1 : Below w.heap.size w wd := hb.trans ((bch (bch (bch (bch ba bb) bw) bs) bd).mono hb.size)
      have hwant : ∀ ad, 0 < L → Aw = some ad → ¬ Sb [(Aa, L, ca), (Ab, L, cb), (Ad, L, cd)] ad.block := by
        intro ad h0 had
        obtain ⟨g, cap, hv, hg1, hg2⟩ := HW.out.form h0
        have he : ad = ⟨g, 0, none⟩ := by injection hv with hv; rw [had] at hv; injection hv
        have hg3 : wb.heap.size ≤ g := hg1
        subst he
        have h5 := bs.size
        have h6 := bb.size
        exact sb_not (fun g hg => HA.out.lt g hg) (fun g hg => HB.out.lt g hg) (fun g hg => HD.out.lt g hg) (.inr (show wa.heap.size ≤ g by omega)) (.inr (show wb.heap.size ≤ g by omega)) (.inl (show g < ws.heap.size by omega))
      have HWANT := Lib.hid hwant
      obtain ⟨X, hX⟩ : ∃ X, wd.heap.size = X := ⟨_, rfl⟩
      obtain ⟨wx, hwx⟩ : ∃ wx, wd.alloc (.cells #[rw_ (Aa, L, ca), rw_ (Ab, L, cb), rw_ (Ad, L, cd)] 32) = wx := ⟨_, rfl⟩
      obtain ⟨B0, hB0⟩ : ∃ B0, w0.heap.size = B0 := ⟨_, rfl⟩
      obtain ⟨o, ho⟩ : ∃ o : Nat → Nat, (fun k => if k < wa.heap.size then 0 else if k < wb.heap.size then 1 else 2) = o := ⟨_, rfl⟩
      rw [ho, hB0] at hall
      have hallx := hall.below hbx
      have hsb : ∀ k, Sb [(Aa, L, ca), (Ab, L, cb), (Ad, L, cd)] k → B0 ≤ k ∧ k < X := fun k hk => by have := hall.sb hk; rw [hX] at this; exact this
      have hlow0 := HCS.out.low
      rw [hB0] at hlow0
      have hcx := (HCD.out.below hbx)
      have hwx3 := own_below HD3.out hbx
      have hwx1 := hw1.trans (hbx.mono hw1.size)
      have h0x : B0 ≤ wx.heap.size := by rw [← hwx, hxs, ← hB0]; have := ba.size; have := bb.size; have := bw.size; have := bs.size; have := bd.size; omega
      rw [hwx] at hXr hallx hcx hwx3 hwx1 hxs
      rw [hX] at hXr hxs
      have hbB : w.heap.size ≤ B0 := by rw [← hB0]; exact hbw
      have HXR := Lib.hid hXr
      have HALL := Lib.hid hallx
      have HCX := Lib.hid hcx
      have HWX := Lib.hid (Rd.of_own hwx3)
      have HSB := Lib.hid hsb
      have HL0 := Lib.hid hlow0
      have HXS := Lib.hid hxs
      have hgo : wd.alloc (.cells #[.slice Aa L ca, .slice Ab L cb, .slice Ad L cd] 32) = wx := hwx
      rw [hgo, hX]
      clear hXr hxs hbx hall hallx hwant hwx hX hB0 ho hsb hlow0 hcx hwx3 hgo hw1 ba bb bw bs bd HA HB HA2 HB2 HA3 HS1 HS2 HS3 HD HD1 HD2 HD3 HCA HCB HCW HCC HCD HW HCS hb
      obtain ⟨ls, hls⟩ : ∃ ls : List Row, [(Aa, L, ca), (Ab, L, cb), (Ad, L, cd)] = ls := ⟨_, rfl⟩
      have hlen : ∀ (i : Nat) (r : Row), ls[i]? = some r → ∃ a c, r = (a, L, c) := fun i r h => by rw [← hls] at h; exact three_len h
      have hrow : ∀ (w' : World) (i : Nat), w'.heap[X]? = wx.heap[X]? → i < 3 → ∃ a c, ls[i]? = some (a, L, c) ∧ w'.cell? ⟨X, i, none⟩ = some (.slice a L c) := fun w' i hw' hi3 => by
        obtain ⟨r, h1, h2⟩ := three_at (hw'.trans HXR.out) hi3
        rw [hls] at h1
        obtain ⟨a, c, rfl⟩ := hlen i r h1
        exact ⟨a, c, h1, h2⟩
      have HLN : RowKit.Hid (ls.length = 3) := Lib.hid (by rw [← hls]; rfl)
      rw [hls] at HALL HWANT HSB
      have HLS := Lib.hid hlen
      have HROW := Lib.hid hrow
      clear hlen hrow hls
      have hXX : ¬ Sb ls X := fun h => by have := HSB.out X h; omega
      have hXlt : X < wx.heap.size := by have := HXS.out; omega
      go_wp2
      go_loopw [13] (fun iv wr => ∃ (i : Nat) (f : Nat → List Bs), iv = .int .i64 i ∧ i ≤ 3 ∧ Kept wx wr (Sb ls) ∧ All wr B0 o ls f ∧ (∀ i', i' < i → f i' = full i' L 0)) (fun iv _ => 3 - (intOf iv).toNat)
      case atStart => exact ⟨0, _, rfl, by omega, Kept.refl _ _, HALL.out, fun i' h => absurd h (by omega)⟩
      case round =>
        obtain ⟨i, f, rfl, hik, hkept, hall, hfull⟩ := hrel
        have HF := Lib.hid hfull
        clear hfull
        by_cases hlt3 : i < 3
        · obtain ⟨a, ca, hx, hc⟩ := HROW.out wr i (hkept.block X hXlt hXX) hlt3
          have HX := Lib.hid hx
          have hce : ∀ w' : World, Kept wx w' (Sb ls) → w'.cell? ⟨X, i, none⟩ = some (.slice a L ca) := fun w' hk' => by
            obtain ⟨a', c', h1, h2⟩ := HROW.out w' i (hk'.block X hXlt hXX) hlt3
            have h3 : (a, L, ca) = (a', L, c') := by rw [HX.out] at h1; injection h1
            injection h3 with e1 e2
            injection e2 with _ e3
            rw [h2, e1, e3]
          have HCE := Lib.hid hce
          have hlt4 : (i : Int) < 3 := by omega
          clear hx hc hce
          obtain ⟨wo, rfl⟩ : ∃ wo : World, wo = wr := ⟨_, rfl⟩
          go_wp2
          go_loopw [14] (fun jv wr => ∃ (j : Nat) (f' : Nat → List Bs), jv = .int .i64 j ∧ j ≤ L ∧ Kept wx wr (Sb ls) ∧ All wr B0 o ls f' ∧ (∀ i', i' < i → f' i' = full i' L 0) ∧ (∀ q, q < j → (f' i)[q]? = some (mrk i true))) (fun jv _ => L - (intOf jv).toNat)
          case atStart => exact ⟨0, f, rfl, by omega, hkept, hall, HF.out, fun q h => absurd h (by omega)⟩
          case round =>
            obtain ⟨j, f', rfl, hjn, hkept', hall', hfull', hq⟩ := hrel
            have HF' := Lib.hid hfull'
            have HQ := Lib.hid hq
            have hc := HCE.out wr hkept'
            clear hfull' hq
            by_cases hjl : j < L
            · obtain ⟨g, hg, _, hgl⟩ := (hall' i _ HX.out).form (by simp only; omega)
              simp only at hg
              subst hg
              have hjl2 : (j : Int) < (L : Int) := by omega
              have hown := (hall' i _ HX.out).1
              have hcj : wr.cell? ⟨g, j, none⟩ = (cStr (f' i))[j]? := World.ownsRow.cellAt hown j (by simpa using hjl)
              have hfz : wr.frozen? ⟨g, j, none⟩ = false := World.ownsRow.frozenAt hown j
              obtain ⟨u0, hu0⟩ : ∃ u0, wr.cell? ⟨g, j, none⟩ = some u0 := ⟨_, hcj.trans (List.getElem?_eq_getElem (by rw [List.length_map, (hall' i _ HX.out).len]; exact hjl))⟩
              clear hcj hown
              have hbt := byte_drew97 wr i (by omega)
              have hb2 : Below wr.heap.size wr (wr.alloc (.cells #[.int .u8 (97 + (i : Int))] 5)).drew := ((Below.refl wr.heap.size wr).alloc (Nat.le_refl _) _).drew
              have hc1 : (wr.alloc (.cells #[.int .u8 (97 + (i : Int))] 5)).drew.cell? ⟨X, i, none⟩ = some (.slice (some ⟨g, 0, none⟩) L ca) := (hb2.cell (p := ⟨X, i, none⟩) (block_lt_of_cell hc)).trans hc
              have hu1 : (wr.alloc (.cells #[.int .u8 (97 + (i : Int))] 5)).drew.cell? ⟨g, j, none⟩ = some u0 := (hb2.cell (p := ⟨g, j, none⟩) hgl).trans hu0
              have hf1 : (wr.alloc (.cells #[.int .u8 (97 + (i : Int))] 5)).drew.frozen? ⟨g, j, none⟩ = false := (hb2.frozen (p := ⟨g, j, none⟩) hgl).trans hfz
              have hcd : wr.drew.cell? ⟨X, i, none⟩ = some (.slice (some ⟨g, 0, none⟩) L ca) := hc
              have hwrap := wrap97 i hlt3
              go_wp2
              go_region
              all_goals
                rw [own_text i hlt3]
                obtain ⟨hall2, hkept2⟩ := All.store hkept' hall' HX.out rfl j (mrk i true)
                have hlen := (hall' i _ HX.out).len
                simp only at hlen
                have hb3 : Below (wr.setCell ⟨g, j, none⟩ (encStr (mrk i true))).heap.size (wr.setCell ⟨g, j, none⟩ (encStr (mrk i true))) ((wr.setCell ⟨g, j, none⟩ (encStr (mrk i true))).alloc (.cells #[.int .u8 (97 + (i : Int))] 5)).drew := ((Below.refl _ _).alloc (Nat.le_refl _) _).drew
                have hall3 := hall2.below hb3
                have hkept3 := hkept2.below hb3
                clear hc hc1 hcd hu0 hu1 hf1 hfz hbt hb2 hwrap
                go_wp2
                go_roundw
                case rel =>
                  refine ⟨j + 1, _, by go_num, by omega, hkept3, hall3, ?_, ?_⟩
                  · intro i' hi'
                    simp only [show i' ≠ i by omega, ↓reduceIte]
                    exact HF'.out i' hi'
                  · intro q hqj
                    simp only [↓reduceIte]
                    by_cases hqe : q = j
                    · subst hqe; rw [List.getElem?_set_self (by omega)]
                    · rw [List.getElem?_set_ne (by omega)]; exact HQ.out q (by omega)
                case measure => simp [intOf]; omega
            · obtain rfl : j = L := by omega
              have hlen := (hall' i _ HX.out).len
              simp only at hlen
              have hfi := full_of hlen HQ.out
              have HFI := Lib.hid hfi
              clear hfi hlen
              go_wp2
              go_roundw
              case rel =>
                refine ⟨i + 1, f', by go_num, by omega, hkept', hall', ?_⟩
                intro i' hi'
                by_cases he : i' = i
                · subst he; exact HFI.out
                · exact HF'.out i' (by omega)
              case measure => simp [intOf]; omega
        · have hi3 : i = 3 := by omega
          have hlt4 : ¬ (i : Int) < 3 := by omega
          have HI3 := Lib.hid hi3
          clear hi3
          have hlists : ∀ (i' : Nat) (r : Row), ls[i']? = some r → Held wr B0 o i' r (full i' r.2.1 0) := by
            intro i' r hr
            obtain ⟨a, c, rfl⟩ := HLS.out i' r hr
            have hh := hall i' _ hr
            have hi' : i' < i := by have := (List.getElem?_eq_some_iff.1 hr).1; have := HLN.out; have := HI3.out; omega
            rw [HF.out i' hi'] at hh
            exact hh
          obtain ⟨wf, rfl⟩ : ∃ wf : World, wf = wr := ⟨_, rfl⟩
          have hG0 : Grew wx wf B0 ls o [] (.slice none 0 0) := ⟨hkept, hlists, by simp, World.ownsRow_nil _ _ _ _⟩
          have HG0 := Lib.hid hG0
          clear hall hkept hlists HF hG0
          go_wp2
          go_loopw [15, 16] (fun vm iv wr => ∃ (i : Nat) (o' : Nat → Nat) (lg : List Row), iv = .int .i64 i ∧ i ≤ 3 ∧ lg.length = i ∧ Grew wx wr B0 ls o' lg vm) (fun _ iv _ => 3 - (intOf iv).toNat)
          case atStart => exact ⟨0, o, [], rfl, by omega, rfl, HG0.out⟩
          case round =>
            obtain ⟨i, o1, lg, rfl, hik, hlg, hgrew⟩ := hrel
            have HG := Lib.hid hgrew
            have HLG := Lib.hid hlg
            clear hgrew hlg HG0
            by_cases hlt3 : i < 3
            · obtain ⟨a, ca, hx, hc⟩ := HROW.out wr i (HG.out.kept.block X hXlt hXX) hlt3
              have HX := Lib.hid hx
              have hN0 : Now wx wr B0 ls o1 i 0 (a, L, ca) (a, L, ca) := ⟨hx, rfl, HG.out.lists i _ hx, fun b hb => .inl ⟨i, _, hx, hb⟩⟩
              have HN0 := Lib.hid hN0
              have hlt4 : (i : Int) < 3 := by omega
              have hwrap := wrap65 i hlt3
              clear hx hN0
              obtain ⟨wp, rfl⟩ : ∃ wp : World, wp = wr := ⟨_, rfl⟩
              go_wp2
              go_loopw [17, 18] (fun gv jv wr => ∃ (j : Nat) (o' : Nat → Nat) (ga : Option Addr) (gn gc : Nat), jv = .int .i64 j ∧ gv = .slice ga gn gc ∧ j ≤ 64 ∧ Grew wx wr B0 ls o' lg u15 ∧ Now wx wr B0 ls o' i j (a, L, ca) (ga, gn, gc)) (fun _ jv _ => 64 - (intOf jv).toNat)
              case atStart => exact ⟨0, o1, a, L, ca, rfl, rfl, by omega, HG.out, HN0.out⟩
              case round =>
                obtain ⟨j, o2, ga, gn, gc, rfl, rfl, hj64, hg2, hn2⟩ := hrel
                have hgn : gn = L + j := hn2.len
                have hgb : gn ≤ 2513169434907 := by omega
                have HG2 := Lib.hid hg2
                have HN2 := Lib.hid hn2
                have HGN := Lib.hid hgn
                clear hg2 hn2 hgn
                by_cases hjl : j < 64
                · have hjl2 : (j : Int) < 64 := by omega
                  have hbt := tail_conv wr i (by omega)
                  have ha1 : Below wr.heap.size wr ((wr.alloc (.cells #[.int .u8 (65 + (i : Int))] 5)).alloc (.cells #[.string ⟨(mrk i false).toArray⟩] 9)) := ((Below.refl _ _).alloc (Nat.le_refl _) _).alloc (by simp) _
                  have HG3 := Lib.hid (HG2.out.below ha1)
                  have HN3 := Lib.hid (HN2.out.below ha1)
                  have HB3 := Lib.hid (Nat.le_trans h0x HG3.out.kept.size)
                  clear ha1
                  go_wp2_with (first
                    | (at_builtin; refine wpList_append_keeps _ rfl (.tmp 117) (.tmp 123) 32 rfl B0 9 i0 (.string ⟨#[]⟩) 1 16 Try.underlying32 hi0 hz0 hz1 hz2 rfl (by decide) (.slice ga gn gc) gn _ rfl HN3.out.held.1 ⟨wr.heap.size + 1, 0, none⟩ 1 1 [encStr (mrk i false)] rfl rfl (tail_cell wr i) (by simp [Value.oneCell', encStr]) (by decide) (by unfold maxLen; omega) (by omega) HB3.out ?_; intro gb cap w2 hown2 hg2 hat2 hlt2 hkeep2; obtain ⟨o3, hG4, hN4⟩ := HN3.out.grow HG3.out (by rw [HLG.out]; exact Nat.le_refl _) hown2 hg2 hat2 hkeep2; have HG4 := Lib.hid hG4; have HN4 := Lib.hid hN4; clear hG4 hN4 hown2 hg2 hat2 hkeep2))
                  go_roundw
                  case rel => exact ⟨j + 1, o3, some ⟨gb, 0, none⟩, gn + 1, cap, by go_num, rfl, by omega, HG4.out, HN4.out⟩
                  case measure => simp [intOf]; omega
                · have hj64' : j = 64 := by omega
                  have hjl2 : ¬ (j : Int) < 64 := by omega
                  have HJ64 := Lib.hid hj64'
                  clear hj64'
                  have ha2 : Below wr.heap.size wr (wr.alloc (.cells #[.slice ga gn gc] 32)) := (Below.refl wr.heap.size wr).alloc (Nat.le_refl _) _
                  have HG3 := Lib.hid (HG2.out.below ha2)
                  have HN3 := Lib.hid (HN2.out.below ha2)
                  have hlgb : lg.length = i := HLG.out
                  clear ha2
                  go_wp2_with (first
                    | (at_builtin; refine wpList_append_own _ rfl (.tmp 125) (.tmp 127) 35 rfl wx.heap.size 32 i1 (.slice none 0 0) 1 24 Try.underlying35 hi1 hy0 hy1 hy2 rfl (by decide) _ _ _ rfl HG3.out.more ⟨wr.heap.size, 0, none⟩ 1 1 [rw_ (ga, gn, gc)] rfl rfl (cell_one_new _ _ _) (by simp [rw_, Value.oneCell']) (by unfold maxLen; omega) (by omega) HG3.out.kept.size ?_; intro vm3 w3 hown3 hg3 _; have HG4 := Lib.hid ((HJ64.out ▸ HN3.out).add HG3.out HLG.out hown3 hg3); clear hown3 hg3))
                  go_roundw
                  case rel => exact ⟨i + 1, o2, lg ++ [(ga, gn, gc)], by go_num, by omega, by rw [List.length_append, HLG.out]; rfl, HG4.out⟩
                  case measure => simp [intOf]; omega
            · have hi3 : i = 3 := by omega
              have hlt4 : ¬ (i : Int) < 3 := by omega
              have HI4 := Lib.hid hi3
              clear hi3
              obtain ⟨wz, rfl⟩ : ∃ wz : World, wz = wr := ⟨_, rfl⟩
              obtain ⟨A15, c15, rfl, _, _⟩ := own_form HG.out.more
              have HR15 := Lib.hid (Rd.of_own HG.out.more)
              have HLS2 := Lib.hid HG.out.lists
              have HLG2 := Lib.hid HG.out.longs
              have HKZ := Lib.hid HG.out.kept
              have hXz : X < wz.heap.size := Nat.lt_of_lt_of_le hXlt HKZ.out.size
              have HCZ := Lib.hid (HCX.out.kept HKZ.out fun k hs hk => by have h1 := HL0.out k hs; have h2 := HSB.out k hk; omega)
              have HWZ := Lib.hid (kept_rd HKZ.out HWX.out (Nat.le_refl _) HWANT.out)
              have hbz : Below w.heap.size w wz := hwx1.trans (HKZ.out.to_below hwx1.size fun k hk => Nat.le_trans hbB (HSB.out k hk).1)
              obtain ⟨m3, hm3⟩ : ∃ m3, lg.length = m3 := ⟨_, rfl⟩
              have hm33 : m3 = 3 := by rw [← hm3, HLG.out]; exact HI4.out
              rw [hm3] at HR15 ⊢
              have HM3 := Lib.hid hm3
              have HM33 := Lib.hid hm33
              clear HG hm3 hm33
              go_wp2
              go_loopw [19] (fun iv wr => ∃ (k : Nat), iv = .int .i64 k ∧ k ≤ 3 ∧ Below wz.heap.size wz wr) (fun iv _ => 3 - (intOf iv).toNat)
              case atStart => exact ⟨0, rfl, by omega, Below.refl _ _⟩
              case round =>
                obtain ⟨k, rfl, hk3, hb⟩ := hrel
                by_cases hk : k < 3
                · obtain ⟨a, ca, hx, hc⟩ := HROW.out wr k ((hb.block X hXz).trans (HKZ.out.block X hXlt hXX)) hk
                  obtain ⟨g, hg⟩ : ∃ g, lg[k]? = some g := ⟨_, List.getElem?_eq_getElem (by have := HM3.out; have := HM33.out; omega)⟩
                  obtain ⟨r2, hr2, hgl, hgh⟩ := HLG2.out k g hg
                  rw [hx] at hr2
                  injection hr2 with hr2
                  subst hr2
                  obtain ⟨ad5, u5, rfl, _, hu5, hc5⟩ := (HR15.out.below hb).at_ (show k < m3 by have := HM33.out; omega)
                  rw [List.getElem?_map, hg] at hu5
                  injection hu5 with hu5
                  subst hu5
                  obtain ⟨ga, gn, gc⟩ := g
                  simp only at hgl
                  have hc5 : wr.cell? (ad5.add k) = some (.slice ga gn gc) := hc5
                  have HHA := Lib.hid ((HLS2.out k _ hx).below hb)
                  have HHG := Lib.hid (hgh.below hb)
                  have hlt4 : (k : Int) < 3 := by omega
                  have hkm : (k : Int) < (m3 : Int) := by have := HM33.out; omega
                  have hwrap := wrap97 k hk
                  obtain ⟨Y, hY1, hY2, hY3⟩ := own_conv k hk
                  obtain ⟨M, hM⟩ : ∃ M : ByteArray, M = ⟨(mrk k true).toArray⟩ := ⟨_, rfl⟩
                  rw [← hM] at hY2
                  have HM := Lib.hid hM
                  have hbt := hY1 wr
                  have hba : Below wr.heap.size wr (wr.alloc (.cells #[.int .u8 (97 + (k : Int))] 5)) := (Below.refl _ _).alloc (Nat.le_refl _) _
                  have hgnb : gn ≤ 2513169434907 := by omega
                  have HGL := Lib.hid hgl
                  have HC := Lib.hid hc
                  have HC5 := Lib.hid hc5
                  clear hx hg hgh hY1 hM hgl hc hc5
                  go_wp2
                  obtain ⟨wq, hwq⟩ : ∃ wq, wr.alloc (.cells #[.int .u8 (97 + (k : Int))] 5) = wq := ⟨_, rfl⟩
                  rw [hwq] at hba ⊢
                  have HHA2 := Lib.hid (HHA.out.below hba)
                  have HHG2 := Lib.hid (HHG.out.below hba)
                  have HCq := Lib.hid ((hba.cell (p := ⟨X, k, none⟩) (block_lt_of_cell HC.out)).trans HC.out)
                  have HC5q := Lib.hid ((hba.cell (p := ad5.add k) (block_lt_of_cell HC5.out)).trans HC5.out)
                  have hbq : Below wz.heap.size wz wq := hb.trans (hba.mono hb.size)
                  clear hwq hbt hY2 hY3 hba HHA HHG HC HC5 hb
                  go_loopw [21] (fun jv wr => ∃ (j : Nat), jv = .int .i64 j ∧ j ≤ gn ∧ Below wq.heap.size wq wr) (fun jv _ => gn - (intOf jv).toNat)
                  case atStart => exact ⟨0, rfl, by omega, Below.refl _ _⟩
                  case round =>
                    obtain ⟨j, rfl, hjg, hb⟩ := hrel
                    have hc := (hb.cell (p := ⟨X, k, none⟩) (block_lt_of_cell HCq.out)).trans HCq.out
                    have hc5 := (hb.cell (p := ad5.add k) (block_lt_of_cell HC5q.out)).trans HC5q.out
                    by_cases hjl : j < gn
                    · have hjl2 : (j : Int) < (gn : Int) := by omega
                      obtain ⟨ad6, u6, rfl, _, hu6, hc6⟩ := (HHG2.out.rd.below hb).at_ (show j < (ga, gn, gc).2.1 from hjl)
                      rw [List.getElem?_map, full_at (by have := HGL.out; omega)] at hu6
                      injection hu6 with hu6
                      subst hu6
                      by_cases hjL : j < L
                      · have hjL2 : (j : Int) < (L : Int) := by omega
                        have hjd : decide (j < L) = true := decide_eq_true hjL
                        have hjd2 : decide (L ≤ j) = false := decide_eq_false (by omega)
                        obtain ⟨ad7, u7, rfl, _, hu7, hc7⟩ := (HHA2.out.rd.below hb).at_ (show j < (a, L, ca).2.1 from hjL)
                        rw [List.getElem?_map, full_at (by omega)] at hu7
                        injection hu7 with hu7
                        subst hu7
                        simp only [hjL, decide_true] at hc6 hc7
                        have hc6' : wr.cell? (ad6.add j) = some (.string M) := by rw [HM.out]; exact hc6
                        have hc7' : wr.cell? (ad7.add j) = some (.string M) := by rw [HM.out]; exact hc7
                        clear hc6 hc7
                        go_wp2
                        go_quiet (fail)
                        go_wp2
                        go_roundw
                        case rel => exact ⟨j + 1, by go_num, by omega, below_drewN hb _⟩
                        case measure => simp [intOf]; omega
                      · have hjL2 : ¬ (j : Int) < (L : Int) := by omega
                        have hjd : decide (j < L) = false := decide_eq_false hjL
                        have hjd2 : decide (L ≤ j) = true := decide_eq_true (by omega)
                        simp only [hjL, decide_false] at hc6
                        obtain ⟨N, hN⟩ : ∃ N : ByteArray, N = ⟨(mrk k false).toArray⟩ := ⟨_, rfl⟩
                        have hc6' : wr.cell? (ad6.add j) = some (.string N) := by rw [hN]; exact hc6
                        have hbt := tail_conv_drew wr k (by omega)
                        rw [← hN] at hbt
                        have hwrap2 := wrap65 k hk
                        have hd6 : wr.drew.cell? (ad6.add j) = some (.string N) := hc6'
                        have hd5 : wr.drew.cell? (ad5.add k) = some (.slice (some ad6) gn gc) := hc5
                        have hd0 : wr.drew.cell? ⟨X, k, none⟩ = some (.slice a L ca) := hc
                        have hbn : Below wr.heap.size wr (wr.alloc (.cells #[.int .u8 (65 + (k : Int))] 5)).drew := ((Below.refl _ _).alloc (Nat.le_refl _) _).drew
                        clear hc6 hN
                        go_wp2
                        have hd6a : (wr.alloc (.cells #[.int .u8 (65 + (k : Int))] 5)).drew.cell? (ad6.add j) = some (.string N) := (hbn.cell (p := ad6.add j) (block_lt_of_cell hc6')).trans hc6'
                        have hd5a : (wr.alloc (.cells #[.int .u8 (65 + (k : Int))] 5)).drew.cell? (ad5.add k) = some (.slice (some ad6) gn gc) := (hbn.cell (p := ad5.add k) (block_lt_of_cell hc5)).trans hc5
                        have hd0a : (wr.alloc (.cells #[.int .u8 (65 + (k : Int))] 5)).drew.cell? ⟨X, k, none⟩ = some (.slice a L ca) := (hbn.cell (p := ⟨X, k, none⟩) (block_lt_of_cell hc)).trans hc
                        go_region
                        go_wp2
                        go_roundw
                        case rel => exact ⟨j + 1, by go_num, by omega, hb.trans (hbn.mono hb.size)⟩
                        case measure => simp [intOf]; omega
                    · have hjg0 : ¬ (j : Int) < (gn : Int) := by omega
                      go_wp2
                      go_roundw
                      case rel => exact ⟨k + 1, by go_num, by omega, hbq.trans (hb.mono hbq.size)⟩
                      case measure => simp [intOf]; omega
                · have hlt5 : ¬ (k : Int) < 3 := by omega
                  have HCF := Lib.hid (HCZ.out.below hb)
                  have HWF := Lib.hid (HWZ.out.below (hb.mono HKZ.out.size))
                  go_wp2_with (first
                    | (go_at_call 12; refine (keys_o HCF.out (by omega) HLL.out HKK.out).mono ?_; rintro x we ⟨Ae, ce, rfl, he, be⟩; have HE := Lib.hid he; clear he)
                    | (go_at_call 13; refine (same_b Ae L ce K Aw cw _ _ (by unfold maxLen; omega) we (Rd.of_own HE.out) (HWF.out.below (be.mono (Nat.le_trans HKZ.out.size hb.size)))).mono ?_; rintro x wg ⟨rfl, bg⟩))
                  go_ret
                  exact ⟨rfl, hbz.trans (((hb.mono hbz.size).trans (be.mono (Nat.le_trans hbz.size hb.size))).trans (bg.mono (Nat.le_trans hbz.size (Nat.le_trans hb.size be.size))))⟩
end Go.Proofs.Ytpppgdfgbhglbaa.CaS
