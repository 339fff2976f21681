/- The walk of the inclusion. -/
import Derived.Test.YtpppgdfgbhglbaaDuo
import Derived.Test.YtpppgdfgbhglbaaStack
import Derived.Test.YtpppgdfgbhglbaaAwake
import Derived.Test.YtpppgdfgbhglbaaWithin
import Derived.Test.YtpppgdfgbhglbaaUses
import Derived.Deep.WholeRow
namespace Go.Proofs.Ytpppgdfgbhglbaa.CaS
open Go.RowKit Go.Proofs Go.Proofs.Ytpppgdfgbhglbaa.Ring Go.Proofs.Ytpppgdfgbhglbaa.Lru Go.Proofs.Ytpppgdfgbhglbaa.Ca

theorem new_two (r q : Nat) (hr : r < 1048576) (hq : q < 1048576) (w : World) : Calls Try.prog 9 #[.int .i64 ((r : Int) + (q : Int))] w fun x w' => ∃ c, x = .returned (.tuple #[.pointer (some ⟨c, 0, none⟩), .int .i64 0]) ∧ Co w' w.heap.size c (r + q) [] 0 ∧ Below w.heap.size w w' := by
  have := new_co (r + q) (by omega) w
  rwa [show ((r + q : Nat) : Int) = (r : Int) + (q : Int) from Int.natCast_add r q] at this

theorem use_range {w : World} {b o : Nat} {v0 v1 v2 v3 v4 : Value} (c0 : w.cell? ⟨b, o, none⟩ = some v0) (c1 : w.cell? ⟨b, o + 1, none⟩ = some v1) (c2 : w.cell? ⟨b, o + 2, none⟩ = some v2) (c3 : w.cell? ⟨b, o + 3, none⟩ = some v3) (c4 : w.cell? ⟨b, o + 4, none⟩ = some v4) :
    w.rangeAt b o [v0, v1, v2, v3, v4] := by
  intro j v hv
  match j, hv with
  | 0, hv => cases hv; exact c0
  | 1, hv => cases hv; exact c1
  | 2, hv => cases hv; exact c2
  | 3, hv => cases hv; exact c3
  | 4, hv => cases hv; exact c4
  | j + 5, hv => cases hv

/-- A call's cells in a block. -/
def UseIn (w : World) (V : Nat) (us0 : Bool) (z : Int) (key val : List UInt8) (wt : Int) : Prop := w.heap[V]? = some (.cells #[.bool us0, .int .i64 z, .string ⟨key.toArray⟩, .string ⟨val.toArray⟩, .int .i64 wt] 31 (0, 0))
theorem new_use (w : World) (us0 : Bool) (z : Int) (key val : List UInt8) (wt : Int) : UseIn (w.alloc (.cells #[.bool us0, .int .i64 z, .string ⟨key.toArray⟩, .string ⟨val.toArray⟩, .int .i64 wt] 31)) w.heap.size us0 z key val wt := heap_alloc_last w _
section
variable {w w' : World} {V : Nat} {us0 : Bool} {z : Int} {key val : List UInt8} {wt : Int}
theorem UseIn.on (h : UseIn w V us0 z key val wt) (hw : w'.heap[V]? = w.heap[V]?) : UseIn w' V us0 z key val wt := hw.trans h
theorem UseIn.c1 (h : UseIn w V us0 z key val wt) : w.cell? ⟨V, 1, none⟩ = some (.int .i64 z) := by rw [cell_of_row w V 1 _ _ _ h]; rfl
theorem UseIn.c2 (h : UseIn w V us0 z key val wt) : w.cell? ⟨V, 2, none⟩ = some (.string ⟨key.toArray⟩) := by rw [cell_of_row w V 2 _ _ _ h]; rfl
theorem UseIn.c3 (h : UseIn w V us0 z key val wt) : w.cell? ⟨V, 3, none⟩ = some (.string ⟨val.toArray⟩) := by rw [cell_of_row w V 3 _ _ _ h]; rfl
end
theorem use_store (w : World) (us0 : Bool) (z : Int) (key val : List UInt8) (wt : Int) : (storeCells ⟨w.heap.size, 0, none⟩ [.bool us0, .int .i64 z, .string ⟨key.toArray⟩, .string ⟨val.toArray⟩, .int .i64 wt] 0).run Try.prog (w.alloc (.cells #[.bool false, .int .i64 0, .string ⟨#[]⟩, .string ⟨#[]⟩, .int .i64 0] 31)) =
    .ok () (w.alloc (.cells #[.bool us0, .int .i64 z, .string ⟨key.toArray⟩, .string ⟨val.toArray⟩, .int .i64 wt] 31)) :=
  run_storeCells_new (P := Try.prog) w 31 #[.bool false, .int .i64 0, .string ⟨#[]⟩, .string ⟨#[]⟩, .int .i64 0] #[.bool us0, .int .i64 z, .string ⟨key.toArray⟩, .string ⟨val.toArray⟩, .int .i64 wt] (by kernel_rfl) rfl (by simp [Value.oneCell'])

/-- What the end of a round asks. -/
theorem tail_of {w w' : World} {B V c r d s cnt cmt : Nat} {l m : List (It Bs Bs)} (h : Duv w B V c r l cnt d s m cmt) (hi : Incl r s l m) {i : Nat} (h1 : cnt ≤ i + 1) (h2 : cmt ≤ i + 1) (hx : i + 1 ≤ 8796093021952) (hb : Below B w' w) :
    ∃ ln mn, RowKit.Hid (Duv w B V c r l (i + 1) d s m (i + 1)) ∧ RowKit.Hid (Incl r s l m) ∧ RowKit.Hid (l.length = ln) ∧ RowKit.Hid (m.length = mn) ∧ ¬ ((r : Int) < (ln : Int)) ∧ ln ≤ maxLen ∧ mn ≤ maxLen ∧ Below B w' w := by
  refine ⟨_, _, Lib.hid (h.mono h1 h2), Lib.hid hi, Lib.hid rfl, Lib.hid rfl, ?_, ?_, ?_, hb⟩
  · have := hi.less; omega
  · have := h.len; unfold maxLen; omega
  · have := h.swap.len; unfold maxLen; omega

set_option maxRecDepth 100000 in
set_option maxHeartbeats 4000000 in
theorem law_stack (k0 : Int) (hk0 : -9223372036854775808 ≤ k0 ∧ k0 ≤ 9223372036854775807) (k1 : Int) (hk1 : -9223372036854775808 ≤ k1 ∧ k1 ≤ 9223372036854775807)
    (A : Option Addr) (n c : Nat) (us : List U) (hn : n ≤ 8796093021952) (hus : ∀ u ∈ us, u.ok) (w : World) (hr : Uses w w.heap.size A n us) :
    Calls Try.prog 6 #[.int .i64 k0, .int .i64 k1, .slice A n c] w fun e w' => e = .returned (.bool true) ∧ Below w.heap.size w w' := by
  have HUS := Lib.hid hus
  have HR := Lib.hid hr
  clear hus hr
  go_enter Try.func6, Try.ntmps6
  go_upto_region 4 with (first
    | (go_at_call 8; refine (CaI.awake_any _).mono ?_; rintro e w1 ⟨rfl, b1⟩)
    | (go_at_call 10; refine (pick_any k0 hk0 1048576 (by decide) (by decide) _).mono ?_; rintro e w2 ⟨⟨r, rfl, hrb⟩, rfl⟩))
  go_upto_region 5 with (go_at_call 9; refine (new_co r (by omega) _).mono ?_; rintro e w3 ⟨pc, rfl, h3, b3⟩; have H3 := Lib.hid h3; clear h3)
  go_upto_region 9 with (first
    | (go_at_call 10; refine (pick_any k1 hk1 1048576 (by decide) (by decide) _).mono ?_; rintro e w4 ⟨⟨q, rfl, hqb⟩, rfl⟩)
    | (go_at_call 9; refine (new_two r q hrb hqb _).mono ?_; rintro e w5 ⟨pd, rfl, h5, b5⟩; have H5 := Lib.hid h5; clear h5))
  have hB3 : Below w.heap.size w w3 := bch b1 b3
  have hB5 := bch hB3 b5
  have HD := Lib.hid ((Duo.make H3.out b5 H5.out b3.size).base b1.size)
  clear H3 H5
  go_loopw [12] (fun iv wr => ∃ (i : Nat) (l m : List (It Bs Bs)), iv = .int .i64 i ∧ i ≤ n ∧ Duo wr w.heap.size pc r l i pd (r + q) m i ∧ Incl r (r + q) l m ∧ Below w.heap.size w wr) (fun iv _ => n - (intOf iv).toNat)
  case atStart => exact ⟨0, [], [], rfl, by omega, HD.out, Incl.nil (by omega), hB5⟩
  case round =>
    obtain ⟨i, l, m, rfl, hi, hd, hinc, hb⟩ := hrel
    have HDU := Lib.hid hd
    have HIN := Lib.hid hinc
    clear hd hinc HD
    by_cases hlt : i < n
    · obtain ⟨b, o, ⟨us0, z, key, val, wt⟩, rfl, hu, c0, c1, c2, c3, c4⟩ := (HR.out.below hb).at_ hlt
      have hok := HUS.out _ (List.mem_of_getElem? hu)
      simp only at c0 c1 c2 c3 c4
      have HKL := Lib.hid hok.2.1
      have hlt2 : (i : Int) < (n : Int) := by omega
      have hst := use_store wr us0 z key val wt
      clear hu hok
      go_upto_region 12 with (fail)
      have HD2 := Lib.hid (HDU.out.new (.cells #[.bool us0, .int .i64 z, .string ⟨key.toArray⟩, .string ⟨val.toArray⟩, .int .i64 wt] 31))
      have HV := new_use wr us0 z key val wt
      have hbu : Below w.heap.size w (wr.alloc (.cells #[.bool us0, .int .i64 z, .string ⟨key.toArray⟩, .string ⟨val.toArray⟩, .int .i64 wt] 31)) := hb.alloc hb.size _
      obtain ⟨wu, hwu⟩ : ∃ wu, wr.alloc (.cells #[.bool us0, .int .i64 z, .string ⟨key.toArray⟩, .string ⟨val.toArray⟩, .int .i64 wt] 31) = wu := ⟨_, rfl⟩
      rw [hwu] at HD2 HV hbu ⊢
      obtain ⟨V, hV⟩ : ∃ V, wr.heap.size = V := ⟨_, rfl⟩
      rw [hV] at HD2 HV ⊢
      clear hst c0 c1 c2 c3 c4 hwu hV HDU hb
      have d1 := UseIn.c1 HV
      have d2 := UseIn.c2 HV
      have d3 := UseIn.c3 HV
      have hcnt : i < maxLen := by unfold maxLen; omega
      have hx1 : i + 1 ≤ 8796093021952 := by omega
      by_cases hz0 : z = 0
      · subst hz0
        go_wp2_with (first
          | (go_at_call_of 11 pc; refine (put_v HD2.out key HKL.out val 1 hcnt).mono ?_; rintro x w6 ⟨rfl, h6, b6, v6⟩; have H6 := Lib.hid h6; have HV6 := HV.on v6; clear h6; have d2 := UseIn.c2 HV6; have d3 := UseIn.c3 HV6)
          | (go_at_call_of 11 pd; refine (put_v H6.out.swap key HKL.out val 1 hcnt).mono ?_; rintro x w7 ⟨rfl, h7, b7, v7⟩; obtain ⟨ln, mn, HT, HJ, HLN, HMN, hle, hlx, hmx, hbT⟩ := tail_of (i := i) h7.swap (HIN.out.put key val) (Nat.le_refl _) (Nat.le_refl _) hx1 (hbu.trans (b6.trans b7)); clear h7)
          | (go_at_call 12; with_reducible refine (keys_n HT.out (by omega) HLN.out).mono ?_; rintro x w8 ⟨A8, k8, rfl, r8, b8, h8⟩; have H8 := Lib.hid h8; have R8 := Lib.hid r8; clear h8 r8)
          | (go_at_call_of 12 pd; refine (keys_n H8.out.swap (by omega) HMN.out).mono ?_; rintro x w9 ⟨A9, k9, rfl, r9, b9, h9⟩; have H9 := Lib.hid h9.swap; have R9 := Lib.hid r9; have R8' := Lib.hid (R8.out.next b9); clear h9 r9)
          | (go_at_call 32; refine (within_any A8 ln k8 _ A9 mn k9 _ _ _ hlx hmx (HJ.out.sub.map _) _ R8'.out R9.out).mono ?_; rintro x w10 ⟨rfl, q10, hq10⟩; have b10 := below_same ⟨q10, hq10⟩ w9.heap.size; have H10 := Lib.hid (H9.out.below b10); clear hq10)
          | (go_at_call 12; with_reducible refine (keys_n H10.out (by omega) HLN.out).mono ?_; rintro x w11 ⟨A11, k11, rfl, r11, b11, h11⟩; have H11 := Lib.hid h11; clear h11 r11)
          | (go_at_call 28; refine (weight_n H11.out HJ.out.ones' HLN.out).mono ?_; rintro x w12 ⟨rfl, rfl⟩))
        go_roundw
        case rel => exact ⟨i + 1, _, _, by go_num, by omega, H11.out.duo, HJ.out, bch (bch (bch (bch hbT b8) b9) b10) b11⟩
        case measure => simp [intOf]; omega
      have hb0 : ((z : Int) == 0) = false := by simpa using hz0
      by_cases hz1 : z = 1
      · subst hz1
        cases hs : seek key l with
        | none =>
          cases hs2 : seek key m with
          | none =>
            have hg : gotV (seek key l) = .tuple #[.string ⟨#[]⟩, .bool false] := by rw [hs]; rfl
            have hg2 : gotV (seek key m) = .tuple #[.string ⟨#[]⟩, .bool false] := by rw [hs2]; rfl
            have HG := Lib.hid hg
            have HG2 := Lib.hid hg2
            clear hg hg2 hs hs2
            go_wp2_with (first
              | (go_at_call_of 29 pc; refine (got_v HD2.out key HKL.out HG.out).mono ?_; rintro x w6 ⟨rfl, h6, b6, v6⟩; have H6 := Lib.hid h6; have HV6 := HV.on v6; clear h6; have d2 := UseIn.c2 HV6)
              | (go_at_call_of 29 pd; refine (got_v H6.out.swap key HKL.out HG2.out).mono ?_; rintro x w7 ⟨rfl, h7, b7, v7⟩; obtain ⟨ln, mn, HT, HJ, HLN, HMN, hle, hlx, hmx, hbT⟩ := tail_of (i := i) h7.swap (HIN.out.get key) (by omega) (by omega) hx1 (hbu.trans (b6.trans b7)); clear h7)
              | (go_at_call 12; with_reducible refine (keys_n HT.out (by omega) HLN.out).mono ?_; rintro x w8 ⟨A8, k8, rfl, r8, b8, h8⟩; have H8 := Lib.hid h8; have R8 := Lib.hid r8; clear h8 r8)
              | (go_at_call_of 12 pd; refine (keys_n H8.out.swap (by omega) HMN.out).mono ?_; rintro x w9 ⟨A9, k9, rfl, r9, b9, h9⟩; have H9 := Lib.hid h9.swap; have R9 := Lib.hid r9; have R8' := Lib.hid (R8.out.next b9); clear h9 r9)
              | (go_at_call 32; refine (within_any A8 ln k8 _ A9 mn k9 _ _ _ hlx hmx (HJ.out.sub.map _) _ R8'.out R9.out).mono ?_; rintro x w10 ⟨rfl, q10, hq10⟩; have b10 := below_same ⟨q10, hq10⟩ w9.heap.size; have H10 := Lib.hid (H9.out.below b10); clear hq10)
              | (go_at_call 12; with_reducible refine (keys_n H10.out (by omega) HLN.out).mono ?_; rintro x w11 ⟨A11, k11, rfl, r11, b11, h11⟩; have H11 := Lib.hid h11; clear h11 r11)
              | (go_at_call 28; refine (weight_n H11.out HJ.out.ones' HLN.out).mono ?_; rintro x w12 ⟨rfl, rfl⟩))
            go_roundw
            case rel => exact ⟨i + 1, _, _, by go_num, by omega, H11.out.duo, HJ.out, bch (bch (bch (bch hbT b8) b9) b10) b11⟩
            case measure => simp [intOf]; omega
          | some e2 =>
            have hg : gotV (seek key l) = .tuple #[.string ⟨#[]⟩, .bool false] := by rw [hs]; rfl
            have hg2 : gotV (seek key m) = .tuple #[.string ⟨e2.val.toArray⟩, .bool true] := by rw [hs2]; rfl
            have HG := Lib.hid hg
            have HG2 := Lib.hid hg2
            clear hg hg2 hs hs2
            go_wp2_with (first
              | (go_at_call_of 29 pc; refine (got_v HD2.out key HKL.out HG.out).mono ?_; rintro x w6 ⟨rfl, h6, b6, v6⟩; have H6 := Lib.hid h6; have HV6 := HV.on v6; clear h6; have d2 := UseIn.c2 HV6)
              | (go_at_call_of 29 pd; refine (got_v H6.out.swap key HKL.out HG2.out).mono ?_; rintro x w7 ⟨rfl, h7, b7, v7⟩; obtain ⟨ln, mn, HT, HJ, HLN, HMN, hle, hlx, hmx, hbT⟩ := tail_of (i := i) h7.swap (HIN.out.get key) (by omega) (by omega) hx1 (hbu.trans (b6.trans b7)); clear h7)
              | (go_at_call 12; with_reducible refine (keys_n HT.out (by omega) HLN.out).mono ?_; rintro x w8 ⟨A8, k8, rfl, r8, b8, h8⟩; have H8 := Lib.hid h8; have R8 := Lib.hid r8; clear h8 r8)
              | (go_at_call_of 12 pd; refine (keys_n H8.out.swap (by omega) HMN.out).mono ?_; rintro x w9 ⟨A9, k9, rfl, r9, b9, h9⟩; have H9 := Lib.hid h9.swap; have R9 := Lib.hid r9; have R8' := Lib.hid (R8.out.next b9); clear h9 r9)
              | (go_at_call 32; refine (within_any A8 ln k8 _ A9 mn k9 _ _ _ hlx hmx (HJ.out.sub.map _) _ R8'.out R9.out).mono ?_; rintro x w10 ⟨rfl, q10, hq10⟩; have b10 := below_same ⟨q10, hq10⟩ w9.heap.size; have H10 := Lib.hid (H9.out.below b10); clear hq10)
              | (go_at_call 12; with_reducible refine (keys_n H10.out (by omega) HLN.out).mono ?_; rintro x w11 ⟨A11, k11, rfl, r11, b11, h11⟩; have H11 := Lib.hid h11; clear h11 r11)
              | (go_at_call 28; refine (weight_n H11.out HJ.out.ones' HLN.out).mono ?_; rintro x w12 ⟨rfl, rfl⟩))
            go_roundw
            case rel => exact ⟨i + 1, _, _, by go_num, by omega, H11.out.duo, HJ.out, bch (bch (bch (bch hbT b8) b9) b10) b11⟩
            case measure => simp [intOf]; omega
        | some e =>
          have hs2 := seek_up HIN.out hs
          have hg : gotV (seek key l) = .tuple #[.string ⟨e.val.toArray⟩, .bool true] := by rw [hs]; rfl
          have hg2 : gotV (seek key m) = .tuple #[.string ⟨e.val.toArray⟩, .bool true] := by rw [hs2]; rfl
          have HG := Lib.hid hg
          have HG2 := Lib.hid hg2
          clear hg hg2 hs hs2
          go_wp2_with (first
            | (go_at_call_of 29 pc; refine (got_v HD2.out key HKL.out HG.out).mono ?_; rintro x w6 ⟨rfl, h6, b6, v6⟩; have H6 := Lib.hid h6; have HV6 := HV.on v6; clear h6; have d2 := UseIn.c2 HV6)
            | (go_at_call_of 29 pd; refine (got_v H6.out.swap key HKL.out HG2.out).mono ?_; rintro x w7 ⟨rfl, h7, b7, v7⟩; obtain ⟨ln, mn, HT, HJ, HLN, HMN, hle, hlx, hmx, hbT⟩ := tail_of (i := i) h7.swap (HIN.out.get key) (by omega) (by omega) hx1 (hbu.trans (b6.trans b7)); clear h7)
            | (go_at_call 12; with_reducible refine (keys_n HT.out (by omega) HLN.out).mono ?_; rintro x w8 ⟨A8, k8, rfl, r8, b8, h8⟩; have H8 := Lib.hid h8; have R8 := Lib.hid r8; clear h8 r8)
            | (go_at_call_of 12 pd; refine (keys_n H8.out.swap (by omega) HMN.out).mono ?_; rintro x w9 ⟨A9, k9, rfl, r9, b9, h9⟩; have H9 := Lib.hid h9.swap; have R9 := Lib.hid r9; have R8' := Lib.hid (R8.out.next b9); clear h9 r9)
            | (go_at_call 32; refine (within_any A8 ln k8 _ A9 mn k9 _ _ _ hlx hmx (HJ.out.sub.map _) _ R8'.out R9.out).mono ?_; rintro x w10 ⟨rfl, q10, hq10⟩; have b10 := below_same ⟨q10, hq10⟩ w9.heap.size; have H10 := Lib.hid (H9.out.below b10); clear hq10)
            | (go_at_call 12; with_reducible refine (keys_n H10.out (by omega) HLN.out).mono ?_; rintro x w11 ⟨A11, k11, rfl, r11, b11, h11⟩; have H11 := Lib.hid h11; clear h11 r11)
            | (go_at_call 28; refine (weight_n H11.out HJ.out.ones' HLN.out).mono ?_; rintro x w12 ⟨rfl, rfl⟩))
          go_roundw
          case rel => exact ⟨i + 1, _, _, by go_num, by omega, H11.out.duo, HJ.out, bch (bch (bch (bch hbT b8) b9) b10) b11⟩
          case measure => simp [intOf]; omega
      have hb1 : ((z : Int) == 1) = false := by simpa using hz1
      by_cases hz2 : z = 2
      · subst hz2
        cases hs : seek key l with
        | none =>
          cases hs2 : seek key m with
          | none =>
            have hg : (seek key l).isSome = false := by rw [hs]; rfl
            have hg2 : (seek key m).isSome = false := by rw [hs2]; rfl
            have HG := Lib.hid hg
            have HG2 := Lib.hid hg2
            clear hg hg2 hs hs2
            go_wp2_with (first
              | (go_at_call_of 30 pc; refine (dropt_v HD2.out key HKL.out HG.out).mono ?_; rintro x w6 ⟨rfl, h6, b6, v6⟩; have H6 := Lib.hid h6; have HV6 := HV.on v6; clear h6; have d2 := UseIn.c2 HV6)
              | (go_at_call_of 30 pd; refine (dropt_v H6.out.swap key HKL.out HG2.out).mono ?_; rintro x w7 ⟨rfl, h7, b7, v7⟩; obtain ⟨ln, mn, HT, HJ, HLN, HMN, hle, hlx, hmx, hbT⟩ := tail_of (i := i) h7.swap (HIN.out.drop key) (by omega) (by omega) hx1 (hbu.trans (b6.trans b7)); clear h7)
              | (go_at_call 12; with_reducible refine (keys_n HT.out (by omega) HLN.out).mono ?_; rintro x w8 ⟨A8, k8, rfl, r8, b8, h8⟩; have H8 := Lib.hid h8; have R8 := Lib.hid r8; clear h8 r8)
              | (go_at_call_of 12 pd; refine (keys_n H8.out.swap (by omega) HMN.out).mono ?_; rintro x w9 ⟨A9, k9, rfl, r9, b9, h9⟩; have H9 := Lib.hid h9.swap; have R9 := Lib.hid r9; have R8' := Lib.hid (R8.out.next b9); clear h9 r9)
              | (go_at_call 32; refine (within_any A8 ln k8 _ A9 mn k9 _ _ _ hlx hmx (HJ.out.sub.map _) _ R8'.out R9.out).mono ?_; rintro x w10 ⟨rfl, q10, hq10⟩; have b10 := below_same ⟨q10, hq10⟩ w9.heap.size; have H10 := Lib.hid (H9.out.below b10); clear hq10)
              | (go_at_call 12; with_reducible refine (keys_n H10.out (by omega) HLN.out).mono ?_; rintro x w11 ⟨A11, k11, rfl, r11, b11, h11⟩; have H11 := Lib.hid h11; clear h11 r11)
              | (go_at_call 28; refine (weight_n H11.out HJ.out.ones' HLN.out).mono ?_; rintro x w12 ⟨rfl, rfl⟩))
            go_roundw
            case rel => exact ⟨i + 1, _, _, by go_num, by omega, H11.out.duo, HJ.out, bch (bch (bch (bch hbT b8) b9) b10) b11⟩
            case measure => simp [intOf]; omega
          | some e2 =>
            have hg : (seek key l).isSome = false := by rw [hs]; rfl
            have hg2 : (seek key m).isSome = true := by rw [hs2]; rfl
            have HG := Lib.hid hg
            have HG2 := Lib.hid hg2
            clear hg hg2 hs hs2
            go_wp2_with (first
              | (go_at_call_of 30 pc; refine (dropt_v HD2.out key HKL.out HG.out).mono ?_; rintro x w6 ⟨rfl, h6, b6, v6⟩; have H6 := Lib.hid h6; have HV6 := HV.on v6; clear h6; have d2 := UseIn.c2 HV6)
              | (go_at_call_of 30 pd; refine (dropt_v H6.out.swap key HKL.out HG2.out).mono ?_; rintro x w7 ⟨rfl, h7, b7, v7⟩; obtain ⟨ln, mn, HT, HJ, HLN, HMN, hle, hlx, hmx, hbT⟩ := tail_of (i := i) h7.swap (HIN.out.drop key) (by omega) (by omega) hx1 (hbu.trans (b6.trans b7)); clear h7)
              | (go_at_call 12; with_reducible refine (keys_n HT.out (by omega) HLN.out).mono ?_; rintro x w8 ⟨A8, k8, rfl, r8, b8, h8⟩; have H8 := Lib.hid h8; have R8 := Lib.hid r8; clear h8 r8)
              | (go_at_call_of 12 pd; refine (keys_n H8.out.swap (by omega) HMN.out).mono ?_; rintro x w9 ⟨A9, k9, rfl, r9, b9, h9⟩; have H9 := Lib.hid h9.swap; have R9 := Lib.hid r9; have R8' := Lib.hid (R8.out.next b9); clear h9 r9)
              | (go_at_call 32; refine (within_any A8 ln k8 _ A9 mn k9 _ _ _ hlx hmx (HJ.out.sub.map _) _ R8'.out R9.out).mono ?_; rintro x w10 ⟨rfl, q10, hq10⟩; have b10 := below_same ⟨q10, hq10⟩ w9.heap.size; have H10 := Lib.hid (H9.out.below b10); clear hq10)
              | (go_at_call 12; with_reducible refine (keys_n H10.out (by omega) HLN.out).mono ?_; rintro x w11 ⟨A11, k11, rfl, r11, b11, h11⟩; have H11 := Lib.hid h11; clear h11 r11)
              | (go_at_call 28; refine (weight_n H11.out HJ.out.ones' HLN.out).mono ?_; rintro x w12 ⟨rfl, rfl⟩))
            go_roundw
            case rel => exact ⟨i + 1, _, _, by go_num, by omega, H11.out.duo, HJ.out, bch (bch (bch (bch hbT b8) b9) b10) b11⟩
            case measure => simp [intOf]; omega
        | some e =>
          have hs2 := seek_up HIN.out hs
          have hg : (seek key l).isSome = true := by rw [hs]; rfl
          have hg2 : (seek key m).isSome = true := by rw [hs2]; rfl
          have HG := Lib.hid hg
          have HG2 := Lib.hid hg2
          clear hg hg2 hs hs2
          go_wp2_with (first
            | (go_at_call_of 30 pc; refine (dropt_v HD2.out key HKL.out HG.out).mono ?_; rintro x w6 ⟨rfl, h6, b6, v6⟩; have H6 := Lib.hid h6; have HV6 := HV.on v6; clear h6; have d2 := UseIn.c2 HV6)
            | (go_at_call_of 30 pd; refine (dropt_v H6.out.swap key HKL.out HG2.out).mono ?_; rintro x w7 ⟨rfl, h7, b7, v7⟩; obtain ⟨ln, mn, HT, HJ, HLN, HMN, hle, hlx, hmx, hbT⟩ := tail_of (i := i) h7.swap (HIN.out.drop key) (by omega) (by omega) hx1 (hbu.trans (b6.trans b7)); clear h7)
            | (go_at_call 12; with_reducible refine (keys_n HT.out (by omega) HLN.out).mono ?_; rintro x w8 ⟨A8, k8, rfl, r8, b8, h8⟩; have H8 := Lib.hid h8; have R8 := Lib.hid r8; clear h8 r8)
            | (go_at_call_of 12 pd; refine (keys_n H8.out.swap (by omega) HMN.out).mono ?_; rintro x w9 ⟨A9, k9, rfl, r9, b9, h9⟩; have H9 := Lib.hid h9.swap; have R9 := Lib.hid r9; have R8' := Lib.hid (R8.out.next b9); clear h9 r9)
            | (go_at_call 32; refine (within_any A8 ln k8 _ A9 mn k9 _ _ _ hlx hmx (HJ.out.sub.map _) _ R8'.out R9.out).mono ?_; rintro x w10 ⟨rfl, q10, hq10⟩; have b10 := below_same ⟨q10, hq10⟩ w9.heap.size; have H10 := Lib.hid (H9.out.below b10); clear hq10)
            | (go_at_call 12; with_reducible refine (keys_n H10.out (by omega) HLN.out).mono ?_; rintro x w11 ⟨A11, k11, rfl, r11, b11, h11⟩; have H11 := Lib.hid h11; clear h11 r11)
            | (go_at_call 28; refine (weight_n H11.out HJ.out.ones' HLN.out).mono ?_; rintro x w12 ⟨rfl, rfl⟩))
          go_roundw
          case rel => exact ⟨i + 1, _, _, by go_num, by omega, H11.out.duo, HJ.out, bch (bch (bch (bch hbT b8) b9) b10) b11⟩
          case measure => simp [intOf]; omega
      have hb2 : ((z : Int) == 2) = false := by simpa using hz2
      by_cases hz3 : z = 3
      · subst hz3
        go_wp2_with (first
          | (go_at_call_of 31 pc; refine (clear_v HD2.out).mono ?_; rintro x w6 ⟨rfl, h6, b6, v6⟩; have H6 := Lib.hid h6; clear h6)
          | (go_at_call_of 31 pd; refine (clear_v H6.out.swap).mono ?_; rintro x w7 ⟨rfl, h7, b7, v7⟩; obtain ⟨ln, mn, HT, HJ, HLN, HMN, hle, hlx, hmx, hbT⟩ := tail_of (i := i) h7.swap (Incl.nil HIN.out.room) (by omega) (by omega) hx1 (hbu.trans (b6.trans b7)); clear h7)
          | (go_at_call 12; with_reducible refine (keys_n HT.out (by omega) HLN.out).mono ?_; rintro x w8 ⟨A8, k8, rfl, r8, b8, h8⟩; have H8 := Lib.hid h8; have R8 := Lib.hid r8; clear h8 r8)
          | (go_at_call_of 12 pd; refine (keys_n H8.out.swap (by omega) HMN.out).mono ?_; rintro x w9 ⟨A9, k9, rfl, r9, b9, h9⟩; have H9 := Lib.hid h9.swap; have R9 := Lib.hid r9; have R8' := Lib.hid (R8.out.next b9); clear h9 r9)
          | (go_at_call 32; refine (within_any A8 ln k8 _ A9 mn k9 _ _ _ hlx hmx (HJ.out.sub.map _) _ R8'.out R9.out).mono ?_; rintro x w10 ⟨rfl, q10, hq10⟩; have b10 := below_same ⟨q10, hq10⟩ w9.heap.size; have H10 := Lib.hid (H9.out.below b10); clear hq10)
          | (go_at_call 12; with_reducible refine (keys_n H10.out (by omega) HLN.out).mono ?_; rintro x w11 ⟨A11, k11, rfl, r11, b11, h11⟩; have H11 := Lib.hid h11; clear h11 r11)
          | (go_at_call 28; refine (weight_n H11.out HJ.out.ones' HLN.out).mono ?_; rintro x w12 ⟨rfl, rfl⟩))
        go_roundw
        case rel => exact ⟨i + 1, _, _, by go_num, by omega, H11.out.duo, HJ.out, bch (bch (bch (bch hbT b8) b9) b10) b11⟩
        case measure => simp [intOf]; omega
      have hb3 : ((z : Int) == 3) = false := by simpa using hz3
      · obtain ⟨ln, mn, HT, HJ, HLN, HMN, hle, hlx, hmx, hbT⟩ := tail_of (i := i) HD2.out HIN.out (by omega) (by omega) hx1 (hbu)
        clear HD2
        go_wp2_with (first
          | (go_at_call 12; with_reducible refine (keys_n HT.out (by omega) HLN.out).mono ?_; rintro x w8 ⟨A8, k8, rfl, r8, b8, h8⟩; have H8 := Lib.hid h8; have R8 := Lib.hid r8; clear h8 r8)
          | (go_at_call_of 12 pd; refine (keys_n H8.out.swap (by omega) HMN.out).mono ?_; rintro x w9 ⟨A9, k9, rfl, r9, b9, h9⟩; have H9 := Lib.hid h9.swap; have R9 := Lib.hid r9; have R8' := Lib.hid (R8.out.next b9); clear h9 r9)
          | (go_at_call 32; refine (within_any A8 ln k8 _ A9 mn k9 _ _ _ hlx hmx (HJ.out.sub.map _) _ R8'.out R9.out).mono ?_; rintro x w10 ⟨rfl, q10, hq10⟩; have b10 := below_same ⟨q10, hq10⟩ w9.heap.size; have H10 := Lib.hid (H9.out.below b10); clear hq10)
          | (go_at_call 12; with_reducible refine (keys_n H10.out (by omega) HLN.out).mono ?_; rintro x w11 ⟨A11, k11, rfl, r11, b11, h11⟩; have H11 := Lib.hid h11; clear h11 r11)
          | (go_at_call 28; refine (weight_n H11.out HJ.out.ones' HLN.out).mono ?_; rintro x w12 ⟨rfl, rfl⟩))
        go_roundw
        case rel => exact ⟨i + 1, _, _, by go_num, by omega, H11.out.duo, HJ.out, bch (bch (bch (bch hbT b8) b9) b10) b11⟩
        case measure => simp [intOf]; omega
    · have hi0 : i = n := by omega
      subst hi0
      go_wp2
      go_ret
      exact ⟨rfl, hb⟩
end Go.Proofs.Ytpppgdfgbhglbaa.CaS
