/- The walk of CacheHolds. -/
import Derived.Test.YtpppgdfgbhglbaaHolds
namespace Go.Proofs.Ytpppgdfgbhglbaa.CaS
open Go.RowKit Go.Proofs Go.Proofs.Ytpppgdfgbhglbaa.Ring Go.Proofs.Ytpppgdfgbhglbaa.Lru Go.Proofs.Ytpppgdfgbhglbaa.Ca

theorem note_store (w : World) (v : List UInt8) (n : Int) (b : Bool) : (storeCells ⟨w.heap.size, 0, none⟩ [.string ⟨v.toArray⟩, .int .i64 n, .bool b] 0).run Try.prog (w.alloc (.cells #[.string ⟨#[]⟩, .int .i64 0, .bool false] 67)) =
    .ok () (w.alloc (.cells #[.string ⟨v.toArray⟩, .int .i64 n, .bool b] 67)) :=
  run_storeCells_new (P := Try.prog) w 67 #[.string ⟨#[]⟩, .int .i64 0, .bool false] #[.string ⟨v.toArray⟩, .int .i64 n, .bool b] (by kernel_rfl) rfl (by simp [Value.oneCell'])
theorem UseIn.c4 {w : World} {V : Nat} {us0 : Bool} {z : Int} {key val : List UInt8} {wt : Int} (h : UseIn w V us0 z key val wt) : w.cell? ⟨V, 4, none⟩ = some (.int .i64 wt) := by rw [cell_of_row w V 4 _ _ _ h]; rfl
theorem put_b {w : World} {S : Nat → Prop} {c room cnt : Nat} {l : List (It Bs Bs)} (h : Cs w S c room l cnt) (k : Bs) (hk : k.length ≤ maxLen) (v : Bs) (wt : Int) (hcnt : cnt < maxLen) {bb : Bool} (hbb : decide (0 ≤ wt ∧ wt ≤ (room : Int)) = bb) :
    Calls Try.prog 11 #[.pointer (some ⟨c, 0, none⟩), encStr k, encStr v, .int .i64 wt] w fun x w' => x = .returned (.bool bb) ∧ Turn w w' S c room (putI room k v wt l) (cnt + 1) := by
  subst hbb
  exact put_cs h k hk v wt hcnt
theorem get_b {w : World} {S : Nat → Prop} {c room cnt : Nat} {l : List (It Bs Bs)} (h : Cs w S c room l cnt) (k : Bs) (hk : k.length ≤ maxLen) {u : Value} (hu : gotV (seek k l) = u) :
    Calls Try.prog 29 #[.pointer (some ⟨c, 0, none⟩), encStr k] w fun x w' => x = .returned u ∧ Turn w w' S c room (Lru.get k l) cnt := by
  subst hu
  exact get_cs h k hk
theorem sumW_take_one {l : List (It Bs Bs)} {i : Nat} {e : It Bs Bs} (h : l[i]? = some e) : sumW (l.take (i + 1)) = sumW (l.take i) + e.wt := by
  obtain ⟨hi, rfl⟩ := List.getElem?_eq_some_iff.1 h
  rw [List.take_succ_eq_append_getElem hi, sumW_append]
  rfl
theorem hold_start {w w1 w3 : World} {pc r : Nat} (h : Cs w3 (fun x => x = pc) pc r [] 0) (hpc : w1.heap.size = pc) (b1 : Below w.heap.size w w1) (b3 : Below w1.heap.size w1 w3) : Hold (w3.alloc (.map #[] 0)) w.heap.size pc r (fun x => x = pc) [] (2 * 0) w3.heap.size (fun _ => noN) := by
  have hb : Below w3.heap.size w3 (w3.alloc (.map #[] 0)) := (Below.refl _ _).alloc (Nat.le_refl _) _
  have h1 := b1.size
  have h2 := b3.size
  refine ⟨h.below hb, MapOk.made _ w3 _ _ notes noN, fun k hk => by omega, fun hs => ?_, by omega, by simp, by have := hb.size; omega⟩
  have := h.low pc rfl; omega
theorem keys_h {w : World} {S : Nat → Prop} {c room cnt : Nat} {l : List (It Bs Bs)} (h : Cs w S c room l cnt) (hcnt : cnt ≤ 8796093021952) {n : Nat} (hn : l.length = n) :
    Calls Try.prog 12 #[.pointer (some ⟨c, 0, none⟩)] w fun x w' => ∃ A k, x = .returned (.slice A n k) ∧ Rd w' w'.heap.size 1 A n (cStr (l.map (·.key))) ∧ Below w.heap.size w w' := by
  subst hn
  refine (keys_cs h hcnt).mono ?_
  rintro x w' ⟨v, rfl, hr, hb⟩
  obtain ⟨A, k, rfl, _, _⟩ := own_form hr
  exact ⟨A, k, rfl, Rd.of_own hr, hb⟩
theorem puti_head {room : Nat} {k v : Bs} {wt : Int} {l : List (It Bs Bs)} (h : decide (0 ≤ wt ∧ wt ≤ (room : Int)) = true) : ∃ r, putI room k v wt l = ⟨k, v, wt.toNat⟩ :: r := by
  have h2 := of_decide_eq_true h
  unfold putI
  rw [if_pos h2]
  exact ⟨_, rfl⟩
theorem weight_n2 {w : World} {S : Nat → Prop} {c room cnt : Nat} {l : List (It Bs Bs)} (h : Cs w S c room l cnt) {s : Nat} (hs : sumW l = s) :
    Calls Try.prog 28 #[.pointer (some ⟨c, 0, none⟩)] w fun x w' => x = .returned (.int .i64 (s : Int)) ∧ w = w' := by
  subst hs
  exact weight_cs h

set_option maxRecDepth 100000 in
set_option maxHeartbeats 4000000 in
theorem law_holds (k0 : Int) (hk0 : -9223372036854775808 ≤ k0 ∧ k0 ≤ 9223372036854775807)
    (A : Option Addr) (n c : Nat) (us : List U) (hn : n ≤ 2513169434843) (hus : ∀ u ∈ us, u.ok) (w : World) (hr : Uses w w.heap.size A n us) :
    Calls Try.prog 7 #[.int .i64 k0, .slice A n c] w fun e w' => e = .returned (.bool true) ∧ Below w.heap.size w w' := by
  have HUS := Lib.hid hus
  have HR := Lib.hid hr
  have hmk := fun w => run_makeMap (P := Try.prog) 65 w
  clear hus hr
  go_enter Try.func7, Try.ntmps7
  go_upto_region 4 with (first
    | (go_at_call 8; refine (CaI.awake_any _).mono ?_; rintro e w1 ⟨rfl, b1⟩)
    | (go_at_call 10; refine (pick_any k0 hk0 1073741825 (by decide) (by decide) _).mono ?_; rintro e w2 ⟨⟨r, rfl, hrb⟩, rfl⟩))
  go_upto_region 5 with (go_at_call 9; refine (new_cs r (by omega) _).mono ?_; rintro e w3 ⟨rfl, h3, b3⟩; have H3 := Lib.hid h3; clear h3)
  obtain ⟨pc, hpc⟩ : ∃ pc, w1.heap.size = pc := ⟨_, rfl⟩
  rw [hpc] at H3 ⊢
  have HPC := Lib.hid hpc
  clear hpc
  go_wp2
  have HD := Lib.hid (hold_start H3.out HPC.out b1 b3)
  have hB : Below w.heap.size w (w3.alloc (.map #[] 0)) := (bch b1 b3).alloc (bch b1 b3).size _
  clear H3
  go_loopw [8, 9] (fun mv iv wr => ∃ (i : Nat) (S : Nat → Prop) (l : List (It Bs Bs)) (mb : Nat) (f : List UInt8 → Note), iv = .int .i64 i ∧ mv = .map (some mb) ∧ i ≤ n ∧ Hold wr w.heap.size pc r S l (2 * i) mb f ∧ Inv l f ∧ Below w.heap.size w wr) (fun _ iv _ => n - (intOf iv).toNat)
  case atStart => exact ⟨0, _, [], _, _, rfl, rfl, by omega, HD.out, Inv.nil _, hB⟩
  case round =>
    obtain ⟨i, S, l, mb, f, rfl, rfl, hi, hhold, hinv, hb⟩ := hrel
    have H0 := Lib.hid hhold
    have HI := Lib.hid hinv
    clear hhold hinv HD
    by_cases hlt : i < n
    · obtain ⟨b, o, ⟨us0, z, key, val, wt⟩, rfl, hu, c0, c1, c2, c3, c4⟩ := (HR.out.below hb).at_ hlt
      have hok := HUS.out _ (List.mem_of_getElem? hu)
      simp only at c0 c1 c2 c3 c4
      have HKL := Lib.hid hok.2.1
      have hlt2 : (i : Int) < (n : Int) := by omega
      have hst := use_store wr us0 z key val wt
      clear hu hok
      go_upto_region 12 with (fail)
      have HV := new_use wr us0 z key val wt
      have hbx : Below wr.heap.size wr (wr.alloc (.cells #[.bool us0, .int .i64 z, .string ⟨key.toArray⟩, .string ⟨val.toArray⟩, .int .i64 wt] 31)) := (Below.refl _ _).alloc (Nat.le_refl _) _
      have H2 := Lib.hid (H0.out.below hbx)
      have hbu : Below w.heap.size w (wr.alloc (.cells #[.bool us0, .int .i64 z, .string ⟨key.toArray⟩, .string ⟨val.toArray⟩, .int .i64 wt] 31)) := hb.alloc hb.size _
      have hVm : wr.heap.size ≠ mb := by have := H0.out.lm; omega
      have hV2 : ¬ S wr.heap.size := fun h => by have := H0.out.cs.low _ h; omega
      obtain ⟨wu, hwu⟩ : ∃ wu, wr.alloc (.cells #[.bool us0, .int .i64 z, .string ⟨key.toArray⟩, .string ⟨val.toArray⟩, .int .i64 wt] 31) = wu := ⟨_, rfl⟩
      rw [hwu] at H2 HV hbu ⊢
      obtain ⟨V, hV⟩ : ∃ V, wr.heap.size = V := ⟨_, rfl⟩
      rw [hV] at HV hVm hV2 ⊢
      clear hst c0 c1 c2 c3 c4 hbx hwu hV H0 hb
      have HV2 := Lib.hid HV
      clear HV
      have d1 := UseIn.c1 HV2.out
      have d2 := UseIn.c2 HV2.out
      have d3 := UseIn.c3 HV2.out
      have d4 := UseIn.c4 HV2.out
      have hcnt : 2 * i + 2 ≤ 8796093021952 := by omega
      by_cases hz0 : z = 0
      · subst hz0
        rcases (by omega : (0 ≤ wt ∧ wt ≤ (r : Int)) ∨ wt < 0 ∨ (¬ wt < 0 ∧ (r : Int) < wt)) with ⟨g1, g2⟩ | g1 | ⟨g1, g2⟩
        · have hbb : decide (0 ≤ wt ∧ wt ≤ (r : Int)) = true := decide_eq_true ⟨g1, g2⟩
          have g3 : ¬ wt < 0 := by omega
          have HBB := Lib.hid hbb
          obtain ⟨l8, hl8⟩ : ∃ l8, (putI r key val wt l).length = l8 := ⟨_, rfl⟩
          have HL8 := Lib.hid hl8
          obtain ⟨r9, hr9⟩ := puti_head (l := l) (k := key) (v := val) hbb
          have hl0 : 0 < l8 := by rw [← hl8, hr9]; simp
          have hl1 : ((l8 : Int) == 0) = false := by simp; omega
          have HR9 := Lib.hid hr9
          clear hr9
          clear hbb hl8
          go_upto_region 19 with (first
            | (go_at_call 11; refine (put_b H2.out.cs key HKL.out val wt (by unfold maxLen; omega) HBB.out).mono ?_; rintro x w6 ⟨rfl, ht⟩; obtain ⟨S6, h6, b6, o6⟩ := Hold.turn H2.out (Nat.le_succ _) ht; obtain ⟨v6, hV6⟩ := o6 V _ HV2.out hV2; have H6 := Lib.hid h6; have HV6 := Lib.hid (show UseIn w6 V us0 0 key val wt from v6); clear h6 v6 o6 ht; have d2 := UseIn.c2 HV6.out; have d3 := UseIn.c3 HV6.out; have d4 := UseIn.c4 HV6.out)
            | (at_mapUpdate; refine wp_put_note H6.out.map (by unfold maxLen; omega) rfl _ _ _ rfl rfl rfl HKL.out ⟨val, wt, true⟩ rfl ?_; intro w7 hm7 hg7 hz7; obtain ⟨h7, b7, o7⟩ := H6.out.put hm7 (Nat.le_succ _) hg7; have H7 := Lib.hid h7; have HV7 := Lib.hid (HV6.out.on (w' := w7) ((o7 V _ HV6.out hVm).trans HV6.out.symm)); have hV7lt : V < w7.heap.size := (Array.getElem?_eq_some_iff.1 HV7.out).1; clear h7 o7 hm7 hg7)
            | (go_at_call 12; refine (keys_h H7.out.cs (by omega) HL8.out).mono ?_; rintro x w8 ⟨A8, k8, rfl, r8, b8⟩; have R8 := Lib.hid r8; have H8 := Lib.hid (H7.out.below b8); have d2 := UseIn.c2 (HV7.out.on (b8.block V hV7lt)); clear r8))
          obtain ⟨ad, x, rfl, cx, hx⟩ := str_at R8.out hl0
          have hxe : x = key := by rw [HR9.out] at hx; injection hx with hx; exact hx.symm
          have cx0 : w8.cell? ad = some (.string ⟨key.toArray⟩) := by have := cx; rwa [show ad.add 0 = ad from rfl, hxe] at this
          have hbe : (key == key) = true := by simp
          clear hx cx hxe
          go_wp2
          go_quiet (fail)
          have hdr : Below w8.heap.size w8 (w8.drewN nq) := below_drewN (Below.refl _ _) nq
          have hbT : Below w.heap.size w (w8.drewN nq) := (((hbu.trans b6).trans b7).trans (b8.mono H7.out.bw)).trans (hdr.mono H8.out.bw)
          have HT := Lib.hid (H8.out.below hdr)
          clear hdr
          have HIV := Lib.hid (HI.out.put r key val wt HBB.out)
          clear H8 H7 H6 H2 HI
          obtain ⟨ln, hln⟩ : ∃ ln, (putI r key val wt l).length = ln := ⟨_, rfl⟩
          have HLN := Lib.hid hln
          have hlb : ln ≤ 2 * (i + 1) := by rw [← hln]; exact HT.out.cs.len
          have hsr := HT.out.cs.fits
          obtain ⟨st, hst3⟩ : ∃ st, sumW (putI r key val wt l) = st := ⟨_, rfl⟩
          rw [hst3] at hsr
          have HST := Lib.hid hst3
          have hle : ¬ ((r : Int) < (st : Int)) := by omega
          clear hln hst3
          go_wp2_with (first
            | (go_at_call 12; refine (keys_h HT.out.cs (by omega) HLN.out).mono ?_; rintro x wk ⟨Ak, kk, rfl, rk, bk⟩; have RK := Lib.hid rk; clear rk))
          have HTK := Lib.hid (HT.out.below bk)
          have hbk : Below w.heap.size w wk := hbT.trans (bk.mono HT.out.bw)
          clear hbT bk
          obtain ⟨wo, rfl⟩ : ∃ wo : World, wo = wr := ⟨_, rfl⟩
          go_loopw [16, 18] (fun sv jv wr => ∃ (j s : Nat), jv = .int .i64 j ∧ sv = .int .i64 s ∧ j ≤ ln ∧ s ≤ st ∧ sumW ((putI r key val wt l).take j) = s ∧ Below wk.heap.size wk wr) (fun _ jv _ => ln - (intOf jv).toNat)
          case atStart => exact ⟨0, 0, rfl, rfl, by omega, by omega, rfl, Below.refl _ _⟩
          case round =>
            obtain ⟨j, s, rfl, rfl, hj, hsle, hsm, hbj⟩ := hrel
            have HSM := Lib.hid hsm
            have HTJ := Lib.hid (HTK.out.below hbj)
            clear hsm
            by_cases hjl : j < ln
            · obtain ⟨ad, x, rfl, cx, hx⟩ := str_at ((RK.out.below hbj)) hjl
              obtain ⟨e, he, rfl⟩ : ∃ e, (putI r key val wt l)[j]? = some e ∧ e.key = x := by
                rw [List.getElem?_map] at hx
                cases he : (putI r key val wt l)[j]? with
                | none => rw [he] at hx; cases hx
                | some e => rw [he] at hx; injection hx with hx; exact ⟨e, rfl, hx⟩
              have hf := HIV.out e (List.mem_of_getElem? he)
              have hek := HTK.out.cs.oks e (List.mem_of_getElem? he)
              have hsn := sumW_take_one he
              rw [HSM.out] at hsn
              have hsl2 := sumW_sub (List.take_sublist (j + 1) (putI r key val wt l))
              rw [hsn, HST.out] at hsl2
              have HF := Lib.hid hf
              have HEK := Lib.hid hek
              have HSN := Lib.hid hsn
              have hjl2 : (j : Int) < (ln : Int) := by omega
              have hns := note_store wr e.val (e.wt : Int) true
              have hbn : Below wk.heap.size wk (wr.alloc (.cells #[.string ⟨e.val.toArray⟩, .int .i64 (e.wt : Int), .bool true] 67)) := hbj.alloc hbj.size _
              clear he hx hf hek hsn
              go_wp2_with (first
                | (at_lookup; refine wp_look_note HTJ.out.map rfl _ _ rfl rfl rfl HEK.out HF.out ?_))
              go_roundw
              case rel => exact ⟨j + 1, s + e.wt, by go_num, by go_num, by omega, by omega, HSN.out, hbn⟩
              case measure => simp [intOf]; omega
            · have hj0 : j = ln := by omega
              subst hj0
              have hE : (putI r key val wt l).take j = (putI r key val wt l) := List.take_of_length_le (by have := HLN.out; omega)
              have hsst : s = st := by rw [← HSM.out, hE]; exact HST.out
              subst hsst
              go_wp2_with (first
                | (go_at_call 28; refine (weight_n2 HTJ.out.cs HST.out).mono ?_; rintro x wN ⟨rfl, rfl⟩))
              go_roundw
              case rel => exact ⟨i + 1, _, _, _, _, by go_num, rfl, by omega, HTJ.out, HIV.out, hbk.trans (hbj.mono HTK.out.bw)⟩
              case measure => simp [intOf]; omega
        · have hbb : decide (0 ≤ wt ∧ wt ≤ (r : Int)) = false := decide_eq_false (by omega)
          have g3 : ¬ 0 ≤ wt := by omega
          have HBB := Lib.hid hbb
          obtain ⟨l8, hl8⟩ : ∃ l8, (putI r key val wt l).length = l8 := ⟨_, rfl⟩
          have HL8 := Lib.hid hl8
          clear hbb hl8
          go_upto_region 19 with (first
            | (go_at_call 11; refine (put_b H2.out.cs key HKL.out val wt (by unfold maxLen; omega) HBB.out).mono ?_; rintro x w6 ⟨rfl, ht⟩; obtain ⟨S6, h6, b6, o6⟩ := Hold.turn H2.out (Nat.le_succ _) ht; obtain ⟨v6, hV6⟩ := o6 V _ HV2.out hV2; have H6 := Lib.hid h6; have HV6 := Lib.hid (show UseIn w6 V us0 0 key val wt from v6); clear h6 v6 o6 ht; have d2 := UseIn.c2 HV6.out; have d3 := UseIn.c3 HV6.out; have d4 := UseIn.c4 HV6.out)
            | (at_mapUpdate; refine wp_put_note H6.out.map (by unfold maxLen; omega) rfl _ _ _ rfl rfl rfl HKL.out ⟨val, wt, false⟩ rfl ?_; intro w7 hm7 hg7 hz7; obtain ⟨h7, b7, o7⟩ := H6.out.put hm7 (Nat.le_succ _) hg7; have H7 := Lib.hid h7; have HV7 := Lib.hid (HV6.out.on (w' := w7) ((o7 V _ HV6.out hVm).trans HV6.out.symm)); have hV7lt : V < w7.heap.size := (Array.getElem?_eq_some_iff.1 HV7.out).1; clear h7 o7 hm7 hg7)
            | (go_at_call 12; refine (keys_h H7.out.cs (by omega) HL8.out).mono ?_; rintro x w8 ⟨A8, k8, rfl, r8, b8⟩; have R8 := Lib.hid r8; have H8 := Lib.hid (H7.out.below b8); have d2 := UseIn.c2 (HV7.out.on (b8.block V hV7lt)); clear r8))
          go_wp2
          go_quiet (fail)
          have hdr : Below w8.heap.size w8 (w8.drewN nq) := below_drewN (Below.refl _ _) nq
          have hbT : Below w.heap.size w (w8.drewN nq) := (((hbu.trans b6).trans b7).trans (b8.mono H7.out.bw)).trans (hdr.mono H8.out.bw)
          have HT := Lib.hid (H8.out.below hdr)
          clear hdr
          have HIV := Lib.hid (HI.out.put r key val wt HBB.out)
          clear H8 H7 H6 H2 HI
          obtain ⟨ln, hln⟩ : ∃ ln, (putI r key val wt l).length = ln := ⟨_, rfl⟩
          have HLN := Lib.hid hln
          have hlb : ln ≤ 2 * (i + 1) := by rw [← hln]; exact HT.out.cs.len
          have hsr := HT.out.cs.fits
          obtain ⟨st, hst3⟩ : ∃ st, sumW (putI r key val wt l) = st := ⟨_, rfl⟩
          rw [hst3] at hsr
          have HST := Lib.hid hst3
          have hle : ¬ ((r : Int) < (st : Int)) := by omega
          clear hln hst3
          go_wp2_with (first
            | (go_at_call 12; refine (keys_h HT.out.cs (by omega) HLN.out).mono ?_; rintro x wk ⟨Ak, kk, rfl, rk, bk⟩; have RK := Lib.hid rk; clear rk))
          have HTK := Lib.hid (HT.out.below bk)
          have hbk : Below w.heap.size w wk := hbT.trans (bk.mono HT.out.bw)
          clear hbT bk
          obtain ⟨wo, rfl⟩ : ∃ wo : World, wo = wr := ⟨_, rfl⟩
          go_loopw [16, 18] (fun sv jv wr => ∃ (j s : Nat), jv = .int .i64 j ∧ sv = .int .i64 s ∧ j ≤ ln ∧ s ≤ st ∧ sumW ((putI r key val wt l).take j) = s ∧ Below wk.heap.size wk wr) (fun _ jv _ => ln - (intOf jv).toNat)
          case atStart => exact ⟨0, 0, rfl, rfl, by omega, by omega, rfl, Below.refl _ _⟩
          case round =>
            obtain ⟨j, s, rfl, rfl, hj, hsle, hsm, hbj⟩ := hrel
            have HSM := Lib.hid hsm
            have HTJ := Lib.hid (HTK.out.below hbj)
            clear hsm
            by_cases hjl : j < ln
            · obtain ⟨ad, x, rfl, cx, hx⟩ := str_at ((RK.out.below hbj)) hjl
              obtain ⟨e, he, rfl⟩ : ∃ e, (putI r key val wt l)[j]? = some e ∧ e.key = x := by
                rw [List.getElem?_map] at hx
                cases he : (putI r key val wt l)[j]? with
                | none => rw [he] at hx; cases hx
                | some e => rw [he] at hx; injection hx with hx; exact ⟨e, rfl, hx⟩
              have hf := HIV.out e (List.mem_of_getElem? he)
              have hek := HTK.out.cs.oks e (List.mem_of_getElem? he)
              have hsn := sumW_take_one he
              rw [HSM.out] at hsn
              have hsl2 := sumW_sub (List.take_sublist (j + 1) (putI r key val wt l))
              rw [hsn, HST.out] at hsl2
              have HF := Lib.hid hf
              have HEK := Lib.hid hek
              have HSN := Lib.hid hsn
              have hjl2 : (j : Int) < (ln : Int) := by omega
              have hns := note_store wr e.val (e.wt : Int) true
              have hbn : Below wk.heap.size wk (wr.alloc (.cells #[.string ⟨e.val.toArray⟩, .int .i64 (e.wt : Int), .bool true] 67)) := hbj.alloc hbj.size _
              clear he hx hf hek hsn
              go_wp2_with (first
                | (at_lookup; refine wp_look_note HTJ.out.map rfl _ _ rfl rfl rfl HEK.out HF.out ?_))
              go_roundw
              case rel => exact ⟨j + 1, s + e.wt, by go_num, by go_num, by omega, by omega, HSN.out, hbn⟩
              case measure => simp [intOf]; omega
            · have hj0 : j = ln := by omega
              subst hj0
              have hE : (putI r key val wt l).take j = (putI r key val wt l) := List.take_of_length_le (by have := HLN.out; omega)
              have hsst : s = st := by rw [← HSM.out, hE]; exact HST.out
              subst hsst
              go_wp2_with (first
                | (go_at_call 28; refine (weight_n2 HTJ.out.cs HST.out).mono ?_; rintro x wN ⟨rfl, rfl⟩))
              go_roundw
              case rel => exact ⟨i + 1, _, _, _, _, by go_num, rfl, by omega, HTJ.out, HIV.out, hbk.trans (hbj.mono HTK.out.bw)⟩
              case measure => simp [intOf]; omega
        · have hbb : decide (0 ≤ wt ∧ wt ≤ (r : Int)) = false := decide_eq_false (by omega)
          have g3 : 0 ≤ wt := by omega
          have g4 : ¬ wt ≤ (r : Int) := by omega
          have HBB := Lib.hid hbb
          obtain ⟨l8, hl8⟩ : ∃ l8, (putI r key val wt l).length = l8 := ⟨_, rfl⟩
          have HL8 := Lib.hid hl8
          clear hbb hl8
          go_upto_region 19 with (first
            | (go_at_call 11; refine (put_b H2.out.cs key HKL.out val wt (by unfold maxLen; omega) HBB.out).mono ?_; rintro x w6 ⟨rfl, ht⟩; obtain ⟨S6, h6, b6, o6⟩ := Hold.turn H2.out (Nat.le_succ _) ht; obtain ⟨v6, hV6⟩ := o6 V _ HV2.out hV2; have H6 := Lib.hid h6; have HV6 := Lib.hid (show UseIn w6 V us0 0 key val wt from v6); clear h6 v6 o6 ht; have d2 := UseIn.c2 HV6.out; have d3 := UseIn.c3 HV6.out; have d4 := UseIn.c4 HV6.out)
            | (at_mapUpdate; refine wp_put_note H6.out.map (by unfold maxLen; omega) rfl _ _ _ rfl rfl rfl HKL.out ⟨val, wt, false⟩ rfl ?_; intro w7 hm7 hg7 hz7; obtain ⟨h7, b7, o7⟩ := H6.out.put hm7 (Nat.le_succ _) hg7; have H7 := Lib.hid h7; have HV7 := Lib.hid (HV6.out.on (w' := w7) ((o7 V _ HV6.out hVm).trans HV6.out.symm)); have hV7lt : V < w7.heap.size := (Array.getElem?_eq_some_iff.1 HV7.out).1; clear h7 o7 hm7 hg7)
            | (go_at_call 12; refine (keys_h H7.out.cs (by omega) HL8.out).mono ?_; rintro x w8 ⟨A8, k8, rfl, r8, b8⟩; have R8 := Lib.hid r8; have H8 := Lib.hid (H7.out.below b8); have d2 := UseIn.c2 (HV7.out.on (b8.block V hV7lt)); clear r8))
          go_wp2
          go_quiet (fail)
          have hdr : Below w8.heap.size w8 (w8.drewN nq) := below_drewN (Below.refl _ _) nq
          have hbT : Below w.heap.size w (w8.drewN nq) := (((hbu.trans b6).trans b7).trans (b8.mono H7.out.bw)).trans (hdr.mono H8.out.bw)
          have HT := Lib.hid (H8.out.below hdr)
          clear hdr
          have HIV := Lib.hid (HI.out.put r key val wt HBB.out)
          clear H8 H7 H6 H2 HI
          obtain ⟨ln, hln⟩ : ∃ ln, (putI r key val wt l).length = ln := ⟨_, rfl⟩
          have HLN := Lib.hid hln
          have hlb : ln ≤ 2 * (i + 1) := by rw [← hln]; exact HT.out.cs.len
          have hsr := HT.out.cs.fits
          obtain ⟨st, hst3⟩ : ∃ st, sumW (putI r key val wt l) = st := ⟨_, rfl⟩
          rw [hst3] at hsr
          have HST := Lib.hid hst3
          have hle : ¬ ((r : Int) < (st : Int)) := by omega
          clear hln hst3
          go_wp2_with (first
            | (go_at_call 12; refine (keys_h HT.out.cs (by omega) HLN.out).mono ?_; rintro x wk ⟨Ak, kk, rfl, rk, bk⟩; have RK := Lib.hid rk; clear rk))
          have HTK := Lib.hid (HT.out.below bk)
          have hbk : Below w.heap.size w wk := hbT.trans (bk.mono HT.out.bw)
          clear hbT bk
          obtain ⟨wo, rfl⟩ : ∃ wo : World, wo = wr := ⟨_, rfl⟩
          go_loopw [16, 18] (fun sv jv wr => ∃ (j s : Nat), jv = .int .i64 j ∧ sv = .int .i64 s ∧ j ≤ ln ∧ s ≤ st ∧ sumW ((putI r key val wt l).take j) = s ∧ Below wk.heap.size wk wr) (fun _ jv _ => ln - (intOf jv).toNat)
          case atStart => exact ⟨0, 0, rfl, rfl, by omega, by omega, rfl, Below.refl _ _⟩
          case round =>
            obtain ⟨j, s, rfl, rfl, hj, hsle, hsm, hbj⟩ := hrel
            have HSM := Lib.hid hsm
            have HTJ := Lib.hid (HTK.out.below hbj)
            clear hsm
            by_cases hjl : j < ln
            · obtain ⟨ad, x, rfl, cx, hx⟩ := str_at ((RK.out.below hbj)) hjl
              obtain ⟨e, he, rfl⟩ : ∃ e, (putI r key val wt l)[j]? = some e ∧ e.key = x := by
                rw [List.getElem?_map] at hx
                cases he : (putI r key val wt l)[j]? with
                | none => rw [he] at hx; cases hx
                | some e => rw [he] at hx; injection hx with hx; exact ⟨e, rfl, hx⟩
              have hf := HIV.out e (List.mem_of_getElem? he)
              have hek := HTK.out.cs.oks e (List.mem_of_getElem? he)
              have hsn := sumW_take_one he
              rw [HSM.out] at hsn
              have hsl2 := sumW_sub (List.take_sublist (j + 1) (putI r key val wt l))
              rw [hsn, HST.out] at hsl2
              have HF := Lib.hid hf
              have HEK := Lib.hid hek
              have HSN := Lib.hid hsn
              have hjl2 : (j : Int) < (ln : Int) := by omega
              have hns := note_store wr e.val (e.wt : Int) true
              have hbn : Below wk.heap.size wk (wr.alloc (.cells #[.string ⟨e.val.toArray⟩, .int .i64 (e.wt : Int), .bool true] 67)) := hbj.alloc hbj.size _
              clear he hx hf hek hsn
              go_wp2_with (first
                | (at_lookup; refine wp_look_note HTJ.out.map rfl _ _ rfl rfl rfl HEK.out HF.out ?_))
              go_roundw
              case rel => exact ⟨j + 1, s + e.wt, by go_num, by go_num, by omega, by omega, HSN.out, hbn⟩
              case measure => simp [intOf]; omega
            · have hj0 : j = ln := by omega
              subst hj0
              have hE : (putI r key val wt l).take j = (putI r key val wt l) := List.take_of_length_le (by have := HLN.out; omega)
              have hsst : s = st := by rw [← HSM.out, hE]; exact HST.out
              subst hsst
              go_wp2_with (first
                | (go_at_call 28; refine (weight_n2 HTJ.out.cs HST.out).mono ?_; rintro x wN ⟨rfl, rfl⟩))
              go_roundw
              case rel => exact ⟨i + 1, _, _, _, _, by go_num, rfl, by omega, HTJ.out, HIV.out, hbk.trans (hbj.mono HTK.out.bw)⟩
              case measure => simp [intOf]; omega
      have hb0 : ((z : Int) == 0) = false := by simpa using hz0
      by_cases hz1 : z = 1
      · subst hz1
        cases hs : seek key l with
        | some e =>
          have hg : gotV (seek key l) = .tuple #[.string ⟨e.val.toArray⟩, .bool true] := by rw [hs]; rfl
          have hf : f key = ⟨e.val, e.wt, true⟩ := by
            obtain ⟨h1, h2⟩ := seek_some hs
            rw [← h1]
            exact HI.out e h2
          clear hs
          have HG := Lib.hid hg
          have HF := Lib.hid hf
          clear hg hf
          go_upto_region 32 with (first
            | (go_at_call 29; refine (get_b H2.out.cs key HKL.out HG.out).mono ?_; rintro x w6 ⟨rfl, ht⟩; obtain ⟨S6, h6, b6, o6⟩ := Hold.turn H2.out (Nat.le_refl _) ht; obtain ⟨v6, hV6⟩ := o6 V _ HV2.out hV2; have H6 := Lib.hid h6; have HV6 := Lib.hid (show UseIn w6 V us0 1 key val wt from v6); clear h6 v6 o6 ht; have d2 := UseIn.c2 HV6.out; have d3 := UseIn.c3 HV6.out; have d4 := UseIn.c4 HV6.out; have hns6 := note_store w6 e.val (e.wt : Int) true)
            | (at_lookup; refine wp_look_note H6.out.map rfl _ _ rfl rfl rfl HKL.out HF.out ?_))
          have hba : Below w6.heap.size w6 (w6.alloc (.cells #[.string ⟨e.val.toArray⟩, .int .i64 (e.wt : Int), .bool true] 67)) := (Below.refl _ _).alloc (Nat.le_refl _) _
          have HT := Lib.hid ((H6.out.below hba).mono (by omega : 2 * i ≤ 2 * (i + 1)))
          have hbT : Below w.heap.size w (w6.alloc (.cells #[.string ⟨e.val.toArray⟩, .int .i64 (e.wt : Int), .bool true] 67)) := (hbu.trans b6).trans (hba.mono H6.out.bw)
          have HIV := Lib.hid (HI.out.get key)
          clear hns6 hba H6 H2 HI
          obtain ⟨ln, hln⟩ : ∃ ln, (Lru.get key l).length = ln := ⟨_, rfl⟩
          have HLN := Lib.hid hln
          have hlb : ln ≤ 2 * (i + 1) := by rw [← hln]; exact HT.out.cs.len
          have hsr := HT.out.cs.fits
          obtain ⟨st, hst3⟩ : ∃ st, sumW (Lru.get key l) = st := ⟨_, rfl⟩
          rw [hst3] at hsr
          have HST := Lib.hid hst3
          have hle : ¬ ((r : Int) < (st : Int)) := by omega
          clear hln hst3
          go_wp2_with (first
            | (go_at_call 12; refine (keys_h HT.out.cs (by omega) HLN.out).mono ?_; rintro x wk ⟨Ak, kk, rfl, rk, bk⟩; have RK := Lib.hid rk; clear rk))
          have HTK := Lib.hid (HT.out.below bk)
          have hbk : Below w.heap.size w wk := hbT.trans (bk.mono HT.out.bw)
          clear hbT bk
          obtain ⟨wo, rfl⟩ : ∃ wo : World, wo = wr := ⟨_, rfl⟩
          go_loopw [16, 18] (fun sv jv wr => ∃ (j s : Nat), jv = .int .i64 j ∧ sv = .int .i64 s ∧ j ≤ ln ∧ s ≤ st ∧ sumW ((Lru.get key l).take j) = s ∧ Below wk.heap.size wk wr) (fun _ jv _ => ln - (intOf jv).toNat)
          case atStart => exact ⟨0, 0, rfl, rfl, by omega, by omega, rfl, Below.refl _ _⟩
          case round =>
            obtain ⟨j, s, rfl, rfl, hj, hsle, hsm, hbj⟩ := hrel
            have HSM := Lib.hid hsm
            have HTJ := Lib.hid (HTK.out.below hbj)
            clear hsm
            by_cases hjl : j < ln
            · obtain ⟨ad, x, rfl, cx, hx⟩ := str_at ((RK.out.below hbj)) hjl
              obtain ⟨e, he, rfl⟩ : ∃ e, (Lru.get key l)[j]? = some e ∧ e.key = x := by
                rw [List.getElem?_map] at hx
                cases he : (Lru.get key l)[j]? with
                | none => rw [he] at hx; cases hx
                | some e => rw [he] at hx; injection hx with hx; exact ⟨e, rfl, hx⟩
              have hf := HIV.out e (List.mem_of_getElem? he)
              have hek := HTK.out.cs.oks e (List.mem_of_getElem? he)
              have hsn := sumW_take_one he
              rw [HSM.out] at hsn
              have hsl2 := sumW_sub (List.take_sublist (j + 1) (Lru.get key l))
              rw [hsn, HST.out] at hsl2
              have HF := Lib.hid hf
              have HEK := Lib.hid hek
              have HSN := Lib.hid hsn
              have hjl2 : (j : Int) < (ln : Int) := by omega
              have hns := note_store wr e.val (e.wt : Int) true
              have hbn : Below wk.heap.size wk (wr.alloc (.cells #[.string ⟨e.val.toArray⟩, .int .i64 (e.wt : Int), .bool true] 67)) := hbj.alloc hbj.size _
              clear he hx hf hek hsn
              go_wp2_with (first
                | (at_lookup; refine wp_look_note HTJ.out.map rfl _ _ rfl rfl rfl HEK.out HF.out ?_))
              go_roundw
              case rel => exact ⟨j + 1, s + e.wt, by go_num, by go_num, by omega, by omega, HSN.out, hbn⟩
              case measure => simp [intOf]; omega
            · have hj0 : j = ln := by omega
              subst hj0
              have hE : (Lru.get key l).take j = (Lru.get key l) := List.take_of_length_le (by have := HLN.out; omega)
              have hsst : s = st := by rw [← HSM.out, hE]; exact HST.out
              subst hsst
              go_wp2_with (first
                | (go_at_call 28; refine (weight_n2 HTJ.out.cs HST.out).mono ?_; rintro x wN ⟨rfl, rfl⟩))
              go_roundw
              case rel => exact ⟨i + 1, _, _, _, _, by go_num, rfl, by omega, HTJ.out, HIV.out, hbk.trans (hbj.mono HTK.out.bw)⟩
              case measure => simp [intOf]; omega
        | none =>
          obtain ⟨nv, nw, nt, hf⟩ : ∃ nv nw nt, f key = ⟨nv, nw, nt⟩ := ⟨_, _, _, rfl⟩
          have hg : gotV (seek key l) = .tuple #[.string ⟨#[]⟩, .bool false] := by rw [hs]; rfl
          clear hs
          have HG := Lib.hid hg
          have HF := Lib.hid hf
          clear hg hf
          go_upto_region 32 with (first
            | (go_at_call 29; refine (get_b H2.out.cs key HKL.out HG.out).mono ?_; rintro x w6 ⟨rfl, ht⟩; obtain ⟨S6, h6, b6, o6⟩ := Hold.turn H2.out (Nat.le_refl _) ht; obtain ⟨v6, hV6⟩ := o6 V _ HV2.out hV2; have H6 := Lib.hid h6; have HV6 := Lib.hid (show UseIn w6 V us0 1 key val wt from v6); clear h6 v6 o6 ht; have d2 := UseIn.c2 HV6.out; have d3 := UseIn.c3 HV6.out; have d4 := UseIn.c4 HV6.out; have hns6 := note_store w6 nv nw nt)
            | (at_lookup; refine wp_look_note H6.out.map rfl _ _ rfl rfl rfl HKL.out HF.out ?_))
          have hba : Below w6.heap.size w6 (w6.alloc (.cells #[.string ⟨nv.toArray⟩, .int .i64 nw, .bool nt] 67)) := (Below.refl _ _).alloc (Nat.le_refl _) _
          have HT := Lib.hid ((H6.out.below hba).mono (by omega : 2 * i ≤ 2 * (i + 1)))
          have hbT : Below w.heap.size w (w6.alloc (.cells #[.string ⟨nv.toArray⟩, .int .i64 nw, .bool nt] 67)) := (hbu.trans b6).trans (hba.mono H6.out.bw)
          have HIV := Lib.hid (HI.out.get key)
          clear hns6 hba H6 H2 HI
          obtain ⟨ln, hln⟩ : ∃ ln, (Lru.get key l).length = ln := ⟨_, rfl⟩
          have HLN := Lib.hid hln
          have hlb : ln ≤ 2 * (i + 1) := by rw [← hln]; exact HT.out.cs.len
          have hsr := HT.out.cs.fits
          obtain ⟨st, hst3⟩ : ∃ st, sumW (Lru.get key l) = st := ⟨_, rfl⟩
          rw [hst3] at hsr
          have HST := Lib.hid hst3
          have hle : ¬ ((r : Int) < (st : Int)) := by omega
          clear hln hst3
          go_wp2_with (first
            | (go_at_call 12; refine (keys_h HT.out.cs (by omega) HLN.out).mono ?_; rintro x wk ⟨Ak, kk, rfl, rk, bk⟩; have RK := Lib.hid rk; clear rk))
          have HTK := Lib.hid (HT.out.below bk)
          have hbk : Below w.heap.size w wk := hbT.trans (bk.mono HT.out.bw)
          clear hbT bk
          obtain ⟨wo, rfl⟩ : ∃ wo : World, wo = wr := ⟨_, rfl⟩
          go_loopw [16, 18] (fun sv jv wr => ∃ (j s : Nat), jv = .int .i64 j ∧ sv = .int .i64 s ∧ j ≤ ln ∧ s ≤ st ∧ sumW ((Lru.get key l).take j) = s ∧ Below wk.heap.size wk wr) (fun _ jv _ => ln - (intOf jv).toNat)
          case atStart => exact ⟨0, 0, rfl, rfl, by omega, by omega, rfl, Below.refl _ _⟩
          case round =>
            obtain ⟨j, s, rfl, rfl, hj, hsle, hsm, hbj⟩ := hrel
            have HSM := Lib.hid hsm
            have HTJ := Lib.hid (HTK.out.below hbj)
            clear hsm
            by_cases hjl : j < ln
            · obtain ⟨ad, x, rfl, cx, hx⟩ := str_at ((RK.out.below hbj)) hjl
              obtain ⟨e, he, rfl⟩ : ∃ e, (Lru.get key l)[j]? = some e ∧ e.key = x := by
                rw [List.getElem?_map] at hx
                cases he : (Lru.get key l)[j]? with
                | none => rw [he] at hx; cases hx
                | some e => rw [he] at hx; injection hx with hx; exact ⟨e, rfl, hx⟩
              have hf := HIV.out e (List.mem_of_getElem? he)
              have hek := HTK.out.cs.oks e (List.mem_of_getElem? he)
              have hsn := sumW_take_one he
              rw [HSM.out] at hsn
              have hsl2 := sumW_sub (List.take_sublist (j + 1) (Lru.get key l))
              rw [hsn, HST.out] at hsl2
              have HF := Lib.hid hf
              have HEK := Lib.hid hek
              have HSN := Lib.hid hsn
              have hjl2 : (j : Int) < (ln : Int) := by omega
              have hns := note_store wr e.val (e.wt : Int) true
              have hbn : Below wk.heap.size wk (wr.alloc (.cells #[.string ⟨e.val.toArray⟩, .int .i64 (e.wt : Int), .bool true] 67)) := hbj.alloc hbj.size _
              clear he hx hf hek hsn
              go_wp2_with (first
                | (at_lookup; refine wp_look_note HTJ.out.map rfl _ _ rfl rfl rfl HEK.out HF.out ?_))
              go_roundw
              case rel => exact ⟨j + 1, s + e.wt, by go_num, by go_num, by omega, by omega, HSN.out, hbn⟩
              case measure => simp [intOf]; omega
            · have hj0 : j = ln := by omega
              subst hj0
              have hE : (Lru.get key l).take j = (Lru.get key l) := List.take_of_length_le (by have := HLN.out; omega)
              have hsst : s = st := by rw [← HSM.out, hE]; exact HST.out
              subst hsst
              go_wp2_with (first
                | (go_at_call 28; refine (weight_n2 HTJ.out.cs HST.out).mono ?_; rintro x wN ⟨rfl, rfl⟩))
              go_roundw
              case rel => exact ⟨i + 1, _, _, _, _, by go_num, rfl, by omega, HTJ.out, HIV.out, hbk.trans (hbj.mono HTK.out.bw)⟩
              case measure => simp [intOf]; omega
      have hb1 : ((z : Int) == 1) = false := by simpa using hz1
      by_cases hz2 : z = 2
      · subst hz2
        go_upto_region 32 with (first
          | (go_at_call 30; refine (drop_cs H2.out.cs key HKL.out).mono ?_; rintro x w6 ⟨rfl, ht⟩; obtain ⟨S6, h6, b6, o6⟩ := Hold.turn H2.out (Nat.le_refl _) ht; obtain ⟨v6, hV6⟩ := o6 V _ HV2.out hV2; have H6 := Lib.hid h6; have HV6 := Lib.hid (show UseIn w6 V us0 2 key val wt from v6); clear h6 v6 o6 ht; have d2 := UseIn.c2 HV6.out; have d3 := UseIn.c3 HV6.out; have d4 := UseIn.c4 HV6.out)
          | (at_mapUpdate; refine wp_put_note H6.out.map (by unfold maxLen; omega) rfl _ _ _ rfl rfl rfl HKL.out noN rfl ?_; intro w7 hm7 hg7 hz7; obtain ⟨h7, b7, o7⟩ := H6.out.put hm7 (Nat.le_succ _) hg7; have H7 := Lib.hid h7; clear h7 o7 hm7 hg7))
        have HT := Lib.hid (H7.out.mono (by omega : 2 * i + 1 ≤ 2 * (i + 1)))
        have hbT : Below w.heap.size w w7 := (hbu.trans b6).trans b7
        have HIV := Lib.hid (HI.out.out_put key noN)
        clear H7 H6 H2 HI
        obtain ⟨ln, hln⟩ : ∃ ln, (Lru.out key l).length = ln := ⟨_, rfl⟩
        have HLN := Lib.hid hln
        have hlb : ln ≤ 2 * (i + 1) := by rw [← hln]; exact HT.out.cs.len
        have hsr := HT.out.cs.fits
        obtain ⟨st, hst3⟩ : ∃ st, sumW (Lru.out key l) = st := ⟨_, rfl⟩
        rw [hst3] at hsr
        have HST := Lib.hid hst3
        have hle : ¬ ((r : Int) < (st : Int)) := by omega
        clear hln hst3
        go_wp2_with (first
          | (go_at_call 12; refine (keys_h HT.out.cs (by omega) HLN.out).mono ?_; rintro x wk ⟨Ak, kk, rfl, rk, bk⟩; have RK := Lib.hid rk; clear rk))
        have HTK := Lib.hid (HT.out.below bk)
        have hbk : Below w.heap.size w wk := hbT.trans (bk.mono HT.out.bw)
        clear hbT bk
        obtain ⟨wo, rfl⟩ : ∃ wo : World, wo = wr := ⟨_, rfl⟩
        go_loopw [16, 18] (fun sv jv wr => ∃ (j s : Nat), jv = .int .i64 j ∧ sv = .int .i64 s ∧ j ≤ ln ∧ s ≤ st ∧ sumW ((Lru.out key l).take j) = s ∧ Below wk.heap.size wk wr) (fun _ jv _ => ln - (intOf jv).toNat)
        case atStart => exact ⟨0, 0, rfl, rfl, by omega, by omega, rfl, Below.refl _ _⟩
        case round =>
          obtain ⟨j, s, rfl, rfl, hj, hsle, hsm, hbj⟩ := hrel
          have HSM := Lib.hid hsm
          have HTJ := Lib.hid (HTK.out.below hbj)
          clear hsm
          by_cases hjl : j < ln
          · obtain ⟨ad, x, rfl, cx, hx⟩ := str_at ((RK.out.below hbj)) hjl
            obtain ⟨e, he, rfl⟩ : ∃ e, (Lru.out key l)[j]? = some e ∧ e.key = x := by
              rw [List.getElem?_map] at hx
              cases he : (Lru.out key l)[j]? with
              | none => rw [he] at hx; cases hx
              | some e => rw [he] at hx; injection hx with hx; exact ⟨e, rfl, hx⟩
            have hf := HIV.out e (List.mem_of_getElem? he)
            have hek := HTK.out.cs.oks e (List.mem_of_getElem? he)
            have hsn := sumW_take_one he
            rw [HSM.out] at hsn
            have hsl2 := sumW_sub (List.take_sublist (j + 1) (Lru.out key l))
            rw [hsn, HST.out] at hsl2
            have HF := Lib.hid hf
            have HEK := Lib.hid hek
            have HSN := Lib.hid hsn
            have hjl2 : (j : Int) < (ln : Int) := by omega
            have hns := note_store wr e.val (e.wt : Int) true
            have hbn : Below wk.heap.size wk (wr.alloc (.cells #[.string ⟨e.val.toArray⟩, .int .i64 (e.wt : Int), .bool true] 67)) := hbj.alloc hbj.size _
            clear he hx hf hek hsn
            go_wp2_with (first
              | (at_lookup; refine wp_look_note HTJ.out.map rfl _ _ rfl rfl rfl HEK.out HF.out ?_))
            go_roundw
            case rel => exact ⟨j + 1, s + e.wt, by go_num, by go_num, by omega, by omega, HSN.out, hbn⟩
            case measure => simp [intOf]; omega
          · have hj0 : j = ln := by omega
            subst hj0
            have hE : (Lru.out key l).take j = (Lru.out key l) := List.take_of_length_le (by have := HLN.out; omega)
            have hsst : s = st := by rw [← HSM.out, hE]; exact HST.out
            subst hsst
            go_wp2_with (first
              | (go_at_call 28; refine (weight_n2 HTJ.out.cs HST.out).mono ?_; rintro x wN ⟨rfl, rfl⟩))
            go_roundw
            case rel => exact ⟨i + 1, _, _, _, _, by go_num, rfl, by omega, HTJ.out, HIV.out, hbk.trans (hbj.mono HTK.out.bw)⟩
            case measure => simp [intOf]; omega
      have hb2 : ((z : Int) == 2) = false := by simpa using hz2
      by_cases hz3 : z = 3
      · subst hz3
        go_upto_region 32 with (first
          | (go_at_call 31; refine (clear_cs H2.out.cs).mono ?_; rintro x w6 ⟨rfl, ht⟩; obtain ⟨S6, h6, b6, o6⟩ := Hold.turn H2.out (Nat.le_refl _) ht; obtain ⟨v6, hV6⟩ := o6 V _ HV2.out hV2; have H6 := Lib.hid h6; have HV6 := Lib.hid (show UseIn w6 V us0 3 key val wt from v6); clear h6 v6 o6 ht; have d2 := UseIn.c2 HV6.out; have d3 := UseIn.c3 HV6.out; have d4 := UseIn.c4 HV6.out))
        have HT := Lib.hid (H6.out.clear.mono (by omega : 2 * i ≤ 2 * (i + 1)))
        have hbT : Below w.heap.size w (w6.alloc (.map #[] 0)) := (hbu.trans b6).alloc (hbu.trans b6).size _
        have HIV := Lib.hid (Inv.nil (fun _ => noN))
        clear H6 H2 HI
        obtain ⟨ln, hln⟩ : ∃ ln, ([] : List (It Bs Bs)).length = ln := ⟨_, rfl⟩
        have HLN := Lib.hid hln
        have hlb : ln ≤ 2 * (i + 1) := by rw [← hln]; exact HT.out.cs.len
        have hsr := HT.out.cs.fits
        obtain ⟨st, hst3⟩ : ∃ st, sumW ([] : List (It Bs Bs)) = st := ⟨_, rfl⟩
        rw [hst3] at hsr
        have HST := Lib.hid hst3
        have hle : ¬ ((r : Int) < (st : Int)) := by omega
        clear hln hst3
        go_wp2_with (first
          | (go_at_call 12; refine (keys_h HT.out.cs (by omega) HLN.out).mono ?_; rintro x wk ⟨Ak, kk, rfl, rk, bk⟩; have RK := Lib.hid rk; clear rk))
        have HTK := Lib.hid (HT.out.below bk)
        have hbk : Below w.heap.size w wk := hbT.trans (bk.mono HT.out.bw)
        clear hbT bk
        obtain ⟨wo, rfl⟩ : ∃ wo : World, wo = wr := ⟨_, rfl⟩
        go_loopw [16, 18] (fun sv jv wr => ∃ (j s : Nat), jv = .int .i64 j ∧ sv = .int .i64 s ∧ j ≤ ln ∧ s ≤ st ∧ sumW (([] : List (It Bs Bs)).take j) = s ∧ Below wk.heap.size wk wr) (fun _ jv _ => ln - (intOf jv).toNat)
        case atStart => exact ⟨0, 0, rfl, rfl, by omega, by omega, rfl, Below.refl _ _⟩
        case round =>
          obtain ⟨j, s, rfl, rfl, hj, hsle, hsm, hbj⟩ := hrel
          have HSM := Lib.hid hsm
          have HTJ := Lib.hid (HTK.out.below hbj)
          clear hsm
          by_cases hjl : j < ln
          · obtain ⟨ad, x, rfl, cx, hx⟩ := str_at ((RK.out.below hbj)) hjl
            obtain ⟨e, he, rfl⟩ : ∃ e, ([] : List (It Bs Bs))[j]? = some e ∧ e.key = x := by
              rw [List.getElem?_map] at hx
              cases he : ([] : List (It Bs Bs))[j]? with
              | none => rw [he] at hx; cases hx
              | some e => rw [he] at hx; injection hx with hx; exact ⟨e, rfl, hx⟩
            have hf := HIV.out e (List.mem_of_getElem? he)
            have hek := HTK.out.cs.oks e (List.mem_of_getElem? he)
            have hsn := sumW_take_one he
            rw [HSM.out] at hsn
            have hsl2 := sumW_sub (List.take_sublist (j + 1) ([] : List (It Bs Bs)))
            rw [hsn, HST.out] at hsl2
            have HF := Lib.hid hf
            have HEK := Lib.hid hek
            have HSN := Lib.hid hsn
            have hjl2 : (j : Int) < (ln : Int) := by omega
            have hns := note_store wr e.val (e.wt : Int) true
            have hbn : Below wk.heap.size wk (wr.alloc (.cells #[.string ⟨e.val.toArray⟩, .int .i64 (e.wt : Int), .bool true] 67)) := hbj.alloc hbj.size _
            clear he hx hf hek hsn
            go_wp2_with (first
              | (at_lookup; refine wp_look_note HTJ.out.map rfl _ _ rfl rfl rfl HEK.out HF.out ?_))
            go_roundw
            case rel => exact ⟨j + 1, s + e.wt, by go_num, by go_num, by omega, by omega, HSN.out, hbn⟩
            case measure => simp [intOf]; omega
          · have hj0 : j = ln := by omega
            subst hj0
            have hE : ([] : List (It Bs Bs)).take j = ([] : List (It Bs Bs)) := List.take_of_length_le (by have := HLN.out; omega)
            have hsst : s = st := by rw [← HSM.out, hE]; exact HST.out
            subst hsst
            go_wp2_with (first
              | (go_at_call 28; refine (weight_n2 HTJ.out.cs HST.out).mono ?_; rintro x wN ⟨rfl, rfl⟩))
            go_roundw
            case rel => exact ⟨i + 1, _, _, _, _, by go_num, rfl, by omega, HTJ.out, HIV.out, hbk.trans (hbj.mono HTK.out.bw)⟩
            case measure => simp [intOf]; omega
      have hb3 : ((z : Int) == 3) = false := by simpa using hz3
      · go_upto_region 32 with (fail)
        have HT := Lib.hid (H2.out.mono (by omega : 2 * i ≤ 2 * (i + 1)))
        have hbT := hbu
        have HIV := HI
        clear H2
        obtain ⟨ln, hln⟩ : ∃ ln, l.length = ln := ⟨_, rfl⟩
        have HLN := Lib.hid hln
        have hlb : ln ≤ 2 * (i + 1) := by rw [← hln]; exact HT.out.cs.len
        have hsr := HT.out.cs.fits
        obtain ⟨st, hst3⟩ : ∃ st, sumW l = st := ⟨_, rfl⟩
        rw [hst3] at hsr
        have HST := Lib.hid hst3
        have hle : ¬ ((r : Int) < (st : Int)) := by omega
        clear hln hst3
        go_wp2_with (first
          | (go_at_call 12; refine (keys_h HT.out.cs (by omega) HLN.out).mono ?_; rintro x wk ⟨Ak, kk, rfl, rk, bk⟩; have RK := Lib.hid rk; clear rk))
        have HTK := Lib.hid (HT.out.below bk)
        have hbk : Below w.heap.size w wk := hbT.trans (bk.mono HT.out.bw)
        clear hbT bk
        obtain ⟨wo, rfl⟩ : ∃ wo : World, wo = wr := ⟨_, rfl⟩
        go_loopw [16, 18] (fun sv jv wr => ∃ (j s : Nat), jv = .int .i64 j ∧ sv = .int .i64 s ∧ j ≤ ln ∧ s ≤ st ∧ sumW (l.take j) = s ∧ Below wk.heap.size wk wr) (fun _ jv _ => ln - (intOf jv).toNat)
        case atStart => exact ⟨0, 0, rfl, rfl, by omega, by omega, rfl, Below.refl _ _⟩
        case round =>
          obtain ⟨j, s, rfl, rfl, hj, hsle, hsm, hbj⟩ := hrel
          have HSM := Lib.hid hsm
          have HTJ := Lib.hid (HTK.out.below hbj)
          clear hsm
          by_cases hjl : j < ln
          · obtain ⟨ad, x, rfl, cx, hx⟩ := str_at ((RK.out.below hbj)) hjl
            obtain ⟨e, he, rfl⟩ : ∃ e, l[j]? = some e ∧ e.key = x := by
              rw [List.getElem?_map] at hx
              cases he : l[j]? with
              | none => rw [he] at hx; cases hx
              | some e => rw [he] at hx; injection hx with hx; exact ⟨e, rfl, hx⟩
            have hf := HIV.out e (List.mem_of_getElem? he)
            have hek := HTK.out.cs.oks e (List.mem_of_getElem? he)
            have hsn := sumW_take_one he
            rw [HSM.out] at hsn
            have hsl2 := sumW_sub (List.take_sublist (j + 1) l)
            rw [hsn, HST.out] at hsl2
            have HF := Lib.hid hf
            have HEK := Lib.hid hek
            have HSN := Lib.hid hsn
            have hjl2 : (j : Int) < (ln : Int) := by omega
            have hns := note_store wr e.val (e.wt : Int) true
            have hbn : Below wk.heap.size wk (wr.alloc (.cells #[.string ⟨e.val.toArray⟩, .int .i64 (e.wt : Int), .bool true] 67)) := hbj.alloc hbj.size _
            clear he hx hf hek hsn
            go_wp2_with (first
              | (at_lookup; refine wp_look_note HTJ.out.map rfl _ _ rfl rfl rfl HEK.out HF.out ?_))
            go_roundw
            case rel => exact ⟨j + 1, s + e.wt, by go_num, by go_num, by omega, by omega, HSN.out, hbn⟩
            case measure => simp [intOf]; omega
          · have hj0 : j = ln := by omega
            subst hj0
            have hE : l.take j = l := List.take_of_length_le (by have := HLN.out; omega)
            have hsst : s = st := by rw [← HSM.out, hE]; exact HST.out
            subst hsst
            go_wp2_with (first
              | (go_at_call 28; refine (weight_n2 HTJ.out.cs HST.out).mono ?_; rintro x wN ⟨rfl, rfl⟩))
            go_roundw
            case rel => exact ⟨i + 1, _, _, _, _, by go_num, rfl, by omega, HTJ.out, HIV.out, hbk.trans (hbj.mono HTK.out.bw)⟩
            case measure => simp [intOf]; omega
    · have hi0 : i = n := by omega
      subst hi0
      go_wp2
      go_ret
      exact ⟨rfl, hb⟩
end Go.Proofs.Ytpppgdfgbhglbaa.CaS
