/- The walk of keys that are floating-point numbers. -/
import Derived.Test.YtpppgdfgbhglbaaLike
import Derived.Test.YtpppgdfgbhglbaaWUses
import Derived.Test.YtpppgdfgbhglbaaWStack
import Derived.Test.YtpppgdfgbhglbaaFlt
import Derived.Test.YtpppgdfgbhglbaaRegS
namespace Go.Proofs.Ytpppgdfgbhglbaa.CaF
open Go.RowKit Go.Proofs Go.Proofs.Ytpppgdfgbhglbaa.Fl Go.Proofs.Ytpppgdfgbhglbaa.Ring Go.Proofs.Ytpppgdfgbhglbaa.Lru Go.Proofs.Ytpppgdfgbhglbaa.Ca
open Go.Proofs.Ytpppgdfgbhglbaa.CaS (rput_all rget_v rdrop_b rkeys_s same_eq bad good_nat rnew_gen rvCells use_store UseIn new_use)

theorem put_csb {w : World} {S : Nat → Prop} {c room cnt : Nat} {l : List (It Nat Fv)} (h : Cs w S c room l cnt) (k : Nat) (hk : k < 18446744073709551616) (hnn : ¬ fnan k) (v : Bs) (wt : Int) (hcnt : cnt < maxLen) {bb : Bool} (hbb : decide (0 ≤ wt ∧ wt ≤ (room : Int)) = bb) :
    Calls Try.prog 18 #[.pointer (some ⟨c, 0, none⟩), .float .f64 k, encStr v, .int .i64 wt] w fun x w' => x = .returned (.bool bb) ∧ Turn w w' S c room (putI room (fcls k) (k, v) wt l) (cnt + 1) := by
  subst hbb
  exact put_cs h k hk hnn v wt hcnt
theorem get_csv {w : World} {S : Nat → Prop} {c room cnt : Nat} {l : List (It Nat Fv)} (h : Cs w S c room l cnt) (k : Nat) (hk : k < 18446744073709551616) {u : Value} (hu : gotV (seekF k l) = u) :
    Calls Try.prog 20 #[.pointer (some ⟨c, 0, none⟩), .float .f64 k] w fun x w' => x = .returned u ∧ Turn w w' S c room (getF k l) cnt := by
  subst hu
  exact get_cs h k hk
theorem drop_csb {w : World} {S : Nat → Prop} {c room cnt : Nat} {l : List (It Nat Fv)} (h : Cs w S c room l cnt) (k : Nat) (hk : k < 18446744073709551616) {bb : Bool} (hbb : (seekF k l).isSome = bb) :
    Calls Try.prog 22 #[.pointer (some ⟨c, 0, none⟩), .float .f64 k] w fun x w' => x = .returned (.bool bb) ∧ Turn w w' S c room (outF k l) cnt := by
  subst hbb
  exact drop_cs h k hk
theorem keys_s {w : World} {S : Nat → Prop} {c room cnt n : Nat} {l : List (It Nat Fv)} (h : Cs w S c room l cnt) (hcnt : cnt ≤ 8796093021952) (hn : l.length = n) :
    Calls Try.prog 23 #[.pointer (some ⟨c, 0, none⟩)] w fun x w' => ∃ A k, x = .returned (.slice A n k) ∧ Rd w' w'.heap.size 1 A n (cFl (l.map (·.val))) ∧ Below w.heap.size w w' := by
  subst hn
  refine (keys_cs h hcnt).mono ?_
  rintro x w' ⟨v, rfl, hr, hb⟩
  obtain ⟨A, k, rfl, _, _⟩ := own_form hr
  exact ⟨A, k, rfl, Rd.of_own hr, hb⟩
theorem new_gen (k : Int) (w : World) : Calls Try.prog 14 #[.int .i64 k] w fun x w' => ∃ pv ev, x = .returned (.tuple #[pv, .int .i64 ev]) ∧ Below w.heap.size w w' ∧
    ((bad k ∧ pv = .pointer none ∧ ev = 2) ∨ ∃ r : Nat, ¬ bad k ∧ k = (r : Int) ∧ r ≤ 1073741824 ∧ pv = .pointer (some ⟨w.heap.size, 0, none⟩) ∧ ev = 0 ∧ Cs w' (fun x => x = w.heap.size) w.heap.size r [] 0) := by
  by_cases hb : bad k
  · refine (new_not k hb w).mono ?_
    rintro x w' ⟨rfl, rfl⟩
    exact ⟨_, _, rfl, Below.refl _ _, .inl ⟨hb, rfl, rfl⟩⟩
  · obtain ⟨r, rfl, hr⟩ := good_nat hb
    refine (new_cs r hr w).mono ?_
    rintro x w' ⟨rfl, h1, h2⟩
    exact ⟨_, _, rfl, h2, .inr ⟨r, hb, rfl, hr, rfl, rfl, h1⟩⟩
theorem ft_start {w1 wx : World} {B pc r X : Nat} (h0 : Cs w1 (fun x => x = pc) pc r [] 0) (b1 : Below w1.heap.size w1 wx) (hB : B = pc) (hX : pc < X) (hx : wx.heap[X]? = some (rvCells r none 0 0)) (hw : B ≤ wx.heap.size) :
    FT wx B X (fun x => x = pc) pc r [] [] none 0 0 0 :=
  ⟨h0.below b1, Es.none_, fun _ => rfl, fun ad h0 => absurd h0 (by omega), fun k hk => by omega, hx, by omega, by omega, hw⟩

theorem infoStrF : (Try.prog.info? 9).map (fun i => (i.zero, i.size, i.bytes)) = some (some (.string ⟨#[]⟩), 1, 16) := by kernel_rfl
theorem key_at {l : List (It Nat Fv)} {j : Nat} {u : Value} (h : (cFl (l.map (·.val)))[j]? = some u) : ∃ e, l[j]? = some e ∧ Value.float .f64 e.val.1 = u := by
  unfold cFl at h
  rw [List.getElem?_map, List.getElem?_map] at h
  cases he : l[j]? with
  | none => rw [he] at h; cases h
  | some e => rw [he] at h; exact ⟨e, rfl, by simpa using h⟩
theorem rl_key_at {l : List (It Nat Fv)} {j : Nat} {e : It Nat Fv} (h : l[j]? = some e) : ((rl l).map (·.key))[j]? = some (tx e.key) := by
  rw [rl_keys, List.getElem?_map, h]; rfl
theorem rweight_f {room : Nat} {A : Option Addr} {n c : Nat} {l : List (It Nat Fv)} (hn : n ≤ 3298534883328) (hs : sumW l ≤ 4611686018427387904) {w : World} (hr : Es w w.heap.size A n (rl l)) :
    Calls Try.prog 26 #[rv room A n c] w fun x w' => x = .returned (.int .i64 (sumW l : Int)) ∧ Below w.heap.size w w' := by
  have h := rweight_any room A n c w.heap.size (rl l) hn (by rw [sum_rl]; exact hs) w (Nat.le_refl _) hr
  rw [sum_rl] at h
  exact h
theorem get_le {κ ν : Type} [DecidableEq κ] (k : κ) (l : List (It κ ν)) (h : l = []) : Lru.get k l = [] := by subst h; rfl
theorem use_next {w w' : World} {V : Nat} {us0 : Bool} {z : Int} {key val : List UInt8} {wt : Int} (h : UseIn w V us0 z key val wt) (hb : Below w.heap.size w w') : UseIn w' V us0 z key val wt := hb.at_block h
theorem use_c4 {w : World} {V : Nat} {us0 : Bool} {z : Int} {key val : List UInt8} {wt : Int} (h : UseIn w V us0 z key val wt) : w.cell? ⟨V, 4, none⟩ = some (.int .i64 wt) := by rw [cell_of_row w V 4 _ _ _ h]; rfl
theorem wrap_in (x : Int) : -9223372036854775808 ≤ wrap64 x ∧ wrap64 x ≤ 9223372036854775807 := by unfold wrap64; omega
theorem flt_at {w : World} {B n q : Nat} {ad : Addr} {xs : List Nat} (hr : Rd w B 1 (some ad) n (cFlt xs)) (hq : q < n) : ∃ k ∈ xs, w.cell? (ad.add q) = some (.float .f64 k) := by
  obtain ⟨ad', u, e, _, hu, hc⟩ := hr.at_ hq
  injection e with e
  subst e
  obtain ⟨k, hk, rfl⟩ := List.mem_map.1 (List.mem_of_getElem? hu)
  exact ⟨k, hk, hc⟩
theorem seekF_not {k : Nat} {l : List (It Nat Fv)} (h : ¬ fnan k) : seekF k l = seek (fcls k) l := by unfold seekF; rw [if_neg h]
theorem outF_not {k : Nat} {l : List (It Nat Fv)} (h : ¬ fnan k) : outF k l = out (fcls k) l := by unfold outF; rw [if_neg h]
theorem getF_not {k : Nat} {l : List (It Nat Fv)} (h : ¬ fnan k) : getF k l = Lru.get (fcls k) l := by unfold getF; rw [if_neg h]
theorem seekF_nan {k : Nat} {l : List (It Nat Fv)} (h : fnan k) : seekF k l = none := by unfold seekF; rw [if_pos h]
theorem outF_nan {k : Nat} {l : List (It Nat Fv)} (h : fnan k) : outF k l = l := by unfold outF; rw [if_pos h]
theorem getF_nan {k : Nat} {l : List (It Nat Fv)} (h : fnan k) : getF k l = l := by unfold getF; rw [if_pos h]
theorem got_same {k : Nat} (hk : k < 18446744073709551616) (hn : ¬ fnan k) {l : List (It Nat Fv)} (hl : Low l) : ∃ (s : Bs) (b : Bool), gotV (seekF k l) = .tuple #[.string ⟨s.toArray⟩, .bool b] ∧ Ca.gotS (seek (tx (fcls k)) (rl l)) = .string ⟨s.toArray⟩ ∧ (seek (tx (fcls k)) (rl l)).isSome = b := by
  rw [seekF_not hn, seek_rl (fcls_lt hk) hl]
  cases seek (fcls k) l with
  | none => exact ⟨[], false, rfl, rfl, rfl⟩
  | some e => exact ⟨e.val.2, true, rfl, rfl, rfl⟩

set_option maxRecDepth 100000 in
set_option maxHeartbeats 40000000 in
theorem law_numbers (k0 : Int) (_hk0 : -9223372036854775808 ≤ k0 ∧ k0 ≤ 9223372036854775807) (A0 : Option Addr) (n0 c0 : Nat) (ks : List Nat) (hn0 : n0 ≤ 17592186044416) (hks : ∀ k ∈ ks, k < 18446744073709551616)
    (A : Option Addr) (n c : Nat) (us : List U) (hn : n ≤ 2513169434843) (hus : ∀ u ∈ us, u.ok) (w : World) (hrk : Rd w w.heap.size 1 A0 n0 (cFlt ks)) (hr : Uses w w.heap.size A n us) :
    Calls Try.prog 4 #[.int .i64 k0, .slice A0 n0 c0, .slice A n c] w fun e w' => e = .returned (.bool true) ∧ Below w.heap.size w w' := by
  have HUS := Lib.hid hus
  have HKS := Lib.hid hks
  have HR := Lib.hid hr
  have HRK := Lib.hid hrk
  clear hus hr hks hrk
  go_enter Try.func4, Try.ntmps4
  go_upto_region 2 with (go_at_call 14; refine (new_gen k0 _).mono ?_; rintro e w1 ⟨p0, v0, rfl, b1, hp0⟩)
  go_upto_region 3 with (go_at_call 15; refine (rnew_gen k0 _).mono ?_; rintro e w2 ⟨q0, z0, rfl, b2, hz0⟩)
  have b2x := b2.alloc b2.size (.cells #[.int .i64 (q0 : Int), .slice none 0 0] 45)
  have HX0 := Lib.hid (heap_alloc_new w2 (.cells #[.int .i64 (q0 : Int), .slice none 0 0] 45))
  have hxs : (w2.alloc (.cells #[.int .i64 (q0 : Int), .slice none 0 0] 45)).heap.size = w2.heap.size + 1 := by simp
  obtain ⟨X, hX⟩ : ∃ X, w2.heap.size = X := ⟨_, rfl⟩
  obtain ⟨wx, hwx⟩ : ∃ wx, w2.alloc (.cells #[.int .i64 (q0 : Int), .slice none 0 0] 45) = wx := ⟨_, rfl⟩
  rw [hwx] at b2x HX0 hxs ⊢
  rw [hX] at HX0 hxs ⊢
  have HX := Lib.hid hX
  have HXS := Lib.hid hxs
  have hB : Below w.heap.size w wx := bch b1 b2x
  obtain ⟨pc, hpc⟩ : ∃ pc, w.heap.size = pc := ⟨_, rfl⟩
  rw [hpc] at hp0
  have HPC := Lib.hid hpc
  clear hpc hX hwx hxs
  rcases hp0 with ⟨g0, rfl, rfl⟩ | ⟨r, g0, hr, hrb, rfl, rfl, hc0⟩
  · rcases hz0 with ⟨_, rfl⟩ | ⟨r', g1, _⟩
    · clear g0
      go_wp2
      go_ret
      exact ⟨rfl, hB⟩
    · exact absurd g0 g1
  · rcases hz0 with ⟨g1, _⟩ | ⟨r', _, hr', rfl, rfl⟩
    · exact absurd g1 g0
    · obtain rfl : r = q0 := by omega
      rcases Nat.eq_zero_or_pos n0 with rfl | h0
      · clear g0 hr hr' hc0
        go_wp2
        go_ret
        exact ⟨rfl, hB⟩
      · have hne : ((n0 : Int) == 0) = false := by simp; omega
        have hx1 : pc < w1.heap.size := hc0.low pc rfl
        have HT : RowKit.Hid (FT wx w.heap.size X (fun x => x = pc) pc r [] [] none 0 0 0) := Lib.hid (ft_start hc0 b2x HPC.out (by have := b2.size; have := HX.out; omega) HX0.out hB.size)
        have hl0 : ks.length = n0 := by simpa using HRK.out.1
        have HL0 := Lib.hid hl0
        clear g0 hr hr' hc0 hl0
        obtain ⟨ad0, rfl, _, _⟩ := HRK.out.2 h0
        go_wp2
        clear HX0
        go_loopw [11] (fun iv wr => ∃ (i : Nat) (S : Nat → Prop) (l : List (It Nat Fv)) (A1 : Option Addr) (n1 c1 : Nat), iv = .int .i64 i ∧ i ≤ n ∧ FT wr w.heap.size X S pc r l (rl l) A1 n1 c1 i ∧ Below w.heap.size w wr) (fun iv _ => n - (intOf iv).toNat)
        case atStart => exact ⟨0, _, [], none, 0, 0, rfl, by omega, HT.out, hB⟩
        case round =>
          obtain ⟨i, S, l, A1, n1, c1, rfl, hi, hft, hb⟩ := hrel
          have HFT := Lib.hid hft
          clear hft HT
          by_cases hlt : i < n
          · obtain ⟨b, o, ⟨us0, z, key, val, wt⟩, rfl, hu, e0, e1, e2, e3, e4⟩ := (HR.out.below hb).at_ hlt
            have hok := HUS.out _ (List.mem_of_getElem? hu)
            simp only at e0 e1 e2 e3 e4
            have HKL := Lib.hid hok.2.1
            have hlt2 : (i : Int) < (n : Int) := by omega
            have hst := use_store wr us0 z key val wt
            clear hu hok
            go_upto_region 11 with (fail)
            have HV := new_use wr us0 z key val wt
            have hbu : Below w.heap.size w (wr.alloc (.cells #[.bool us0, .int .i64 z, .string ⟨key.toArray⟩, .string ⟨val.toArray⟩, .int .i64 wt] 31)) := hb.alloc hb.size _
            have HF1 := Lib.hid (HFT.out.below ((Below.refl wr.heap.size wr).alloc (Nat.le_refl _) (.cells #[.bool us0, .int .i64 z, .string ⟨key.toArray⟩, .string ⟨val.toArray⟩, .int .i64 wt] 31)))
            have hVX := (Array.getElem?_eq_some_iff.1 HFT.out.x).1
            have HVS := Lib.hid HFT.out.cs.low
            have HVS2 := Lib.hid (show ∀ ad, 0 < n1 → A1 = some ad → ad.block < wr.heap.size from fun ad h0 e => CaS.Es.block_lt HFT.out.es h0 e)
            obtain ⟨wu, hwu⟩ : ∃ wu, wr.alloc (.cells #[.bool us0, .int .i64 z, .string ⟨key.toArray⟩, .string ⟨val.toArray⟩, .int .i64 wt] 31) = wu := ⟨_, rfl⟩
            have hul : (wr.alloc (.cells #[.bool us0, .int .i64 z, .string ⟨key.toArray⟩, .string ⟨val.toArray⟩, .int .i64 wt] 31)).heap.size = wr.heap.size + 1 := by simp
            rw [hwu] at HV hbu HF1 hul ⊢
            obtain ⟨V, hV⟩ : ∃ V, wr.heap.size = V := ⟨_, rfl⟩
            rw [hV] at HV hVX HVS HVS2 hul ⊢
            have HUL := Lib.hid hul
            clear hst e0 e1 e2 e3 e4 hwu hV HFT hb hul
            have d1 := UseIn.c1 HV
            have d2 := UseIn.c2 HV
            have d4 : wu.cell? ⟨V, 4, none⟩ = some (.int .i64 wt) := by rw [cell_of_row wu V 4 _ _ _ HV]; rfl
            have hi64 : i ≤ 2513169434843 := by omega
            have hlen : n1 ≤ 2513169434843 := by have h1 := HF1.out.es.1; rw [rl_len] at h1; have h2 := HF1.out.cs.len; omega
            go_upto_region 12 with (go_at_call 10; refine (pick_any _ (wrap_in _) n0 h0 (by omega) _).mono ?_; rintro x w3 ⟨⟨q, rfl, hq⟩, rfl⟩; obtain ⟨k, hkm, hkc⟩ := flt_at (HRK.out.below hbu) hq; have hq2 : (q : Int) < (n0 : Int) := by omega)
            have HK := Lib.hid (HKS.out k hkm)
            clear hkm hkc hq2
            have d3 : wu.cell? ⟨V, 3, none⟩ = some (.string ⟨val.toArray⟩) := by rw [cell_of_row wu V 3 _ _ _ HV]; rfl
            have hself := self_ne HK.out
            obtain ⟨x0, x1, _, _⟩ := two_cells HF1.out.x
            have hdu : Below wu.heap.size wu wu.drew := (Below.refl _ _).drew
            by_cases hz : z = 0 ∨ z = 1 ∨ z = 2
            · by_cases hnn : fnan k
              · rw [decide_eq_true hnn] at hself
                have HN := Lib.hid hnn
                clear hnn x0 x1
                by_cases hz0 : z = 0
                · subst hz0
                  go_upto_region 20 with (go_at_call 18; refine (put_nan (some ⟨pc, 0, none⟩) k HK.out HN.out val wt _).mono ?_; rintro x w7 ⟨rfl, rfl⟩)
                  go_wp2
                  go_roundw
                  case rel => exact ⟨i + 1, _, _, _, _, _, by go_num, by omega, HF1.out.mono (Nat.le_succ i), hbu⟩
                  case measure => simp [intOf]; omega
                by_cases hz1 : z = 1
                · subst hz1
                  have HG1 := Lib.hid (show gotV (seekF k l) = .tuple #[.string ⟨#[]⟩, .bool false] by rw [seekF_nan HN.out]; rfl)
                  go_upto_region 26 with (go_at_call 20; refine (get_csv HF1.out.cs k HK.out HG1.out).mono ?_; rintro x w7 ⟨rfl, ht⟩; rw [getF_nan HN.out] at ht; have HT7 := Lib.hid ht; clear ht)
                  obtain ⟨S7, hF7, hK7, hB7⟩ := FT.turn HF1.out HT7.out
                  have HF7 := Lib.hid (hF7.mono (Nat.le_succ i))
                  have HB7 := Lib.hid (hbu.trans hB7)
                  clear hF7 hK7 hB7 HT7
                  go_wp2
                  go_roundw
                  case rel => exact ⟨i + 1, _, _, _, _, _, by go_num, by omega, HF7.out, HB7.out⟩
                  case measure => simp [intOf]; omega
                by_cases hz2 : z = 2
                · subst hz2
                  have HG1 := Lib.hid (show (seekF k l).isSome = false by rw [seekF_nan HN.out]; rfl)
                  go_upto_region 32 with (go_at_call 22; refine (drop_csb HF1.out.cs k HK.out HG1.out).mono ?_; rintro x w7 ⟨rfl, ht⟩; rw [outF_nan HN.out] at ht; have HT7 := Lib.hid ht; clear ht)
                  obtain ⟨S7, hF7, hK7, hB7⟩ := FT.turn HF1.out HT7.out
                  have HF7 := Lib.hid (hF7.mono (Nat.le_succ i))
                  have HB7 := Lib.hid (hbu.trans hB7)
                  clear hF7 hK7 hB7 HT7
                  go_wp2
                  go_roundw
                  case rel => exact ⟨i + 1, _, _, _, _, _, by go_num, by omega, HF7.out, HB7.out⟩
                  case measure => simp [intOf]; omega
                exact absurd hz (by rintro (h | h | h) <;> contradiction)
              · rw [decide_eq_false hnn] at hself
                have HNN := Lib.hid hnn
                clear hnn
                by_cases hz0 : z = 0
                · subst hz0
                  go_upto_region 18 with (fail)
                  clear d1 d2 d3 d4 hself x0 x1
                  obtain ⟨bb, hbb⟩ : ∃ bb, decide (0 ≤ wt ∧ wt ≤ (r : Int)) = bb := ⟨_, rfl⟩
                  have HBB := Lib.hid hbb
                  have hsum : sumW (rl l) ≤ r := by rw [sum_rl]; exact HF1.out.cs.fits
                  clear hbb
                  refine wp_region_any (by kernel_rfl) ?_
                  change wpAny _ _ _ _ _ _ _ (World.drew _)
                  refine wpAny_of_P (S := fun w' => UseIn w' V us0 0 key val wt ∧ w'.heap[X]? = some (CaS.rvCells r A1 n1 c1)) (late := [11]) _ _ _ _ ?_
                  refine takeP (i := 0) (v := ?_) rfl (by kernel_rfl) (by kernel_rfl) (by kernel_rfl) (by kernel_rfl) (by kernel_rfl) (fun _ _ _ h => h) (⟨HV, HF1.out.x⟩) (.inl ⟨by rfl, fun w hw => .inl ?hy0⟩) ?_; case hy0 => (obtain ⟨hw1, hw2⟩ := hw; obtain ⟨y0, y1, _, _⟩ := two_cells hw2; have y3 := UseIn.c3 hw1; have y4 := use_c4 hw1; clear hw1 hw2; go_simp; try with_reducible rfl)
                  try go_frame
                  refine takeT (i := 1) (v := ?_) rfl (by kernel_rfl) (by kernel_rfl) (by kernel_rfl) (by kernel_rfl) (fun _ _ _ h => h) (⟨HV, HF1.out.x⟩) (.inl ⟨by rfl, fun w => .inl ?hy1⟩) ?_; case hy1 => (go_simp; try with_reducible rfl)
                  try go_frame
                  refine takeT (i := 3) (v := ?_) rfl (by kernel_rfl) (by kernel_rfl) (by kernel_rfl) (by kernel_rfl) (fun _ _ _ h => h) (⟨HV, HF1.out.x⟩) (.inl ⟨by rfl, fun w => .inl ?hy3⟩) ?_; case hy3 => (go_simp; try with_reducible rfl)
                  try go_frame
                  refine takeP (i := 4) (v := ?_) rfl (by kernel_rfl) (by kernel_rfl) (by kernel_rfl) (by kernel_rfl) (by kernel_rfl) (fun _ _ _ h => h) (⟨HV, HF1.out.x⟩) (.inl ⟨by rfl, fun w hw => .inl ?hy4⟩) ?_; case hy4 => (obtain ⟨hw1, hw2⟩ := hw; obtain ⟨y0, y1, _, _⟩ := two_cells hw2; have y3 := UseIn.c3 hw1; have y4 := use_c4 hw1; clear hw1 hw2; go_simp; try with_reducible rfl)
                  try go_frame
                  refine takeT (i := 5) (v := ?_) rfl (by kernel_rfl) (by kernel_rfl) (by kernel_rfl) (by kernel_rfl) (fun _ _ _ h => h) (⟨HV, HF1.out.x⟩) (.inl ⟨by rfl, fun w => .inl ?hy5⟩) ?_; case hy5 => (go_simp; try with_reducible rfl)
                  try go_frame
                  refine takeP (i := 6) (v := ?_) rfl (by kernel_rfl) (by kernel_rfl) (by kernel_rfl) (by kernel_rfl) (by kernel_rfl) (fun _ _ _ h => h) (⟨HV, HF1.out.x⟩) (.inl ⟨by rfl, fun w hw => .inl ?hy6⟩) ?_; case hy6 => (obtain ⟨hw1, hw2⟩ := hw; obtain ⟨y0, y1, _, _⟩ := two_cells hw2; have y3 := UseIn.c3 hw1; have y4 := use_c4 hw1; clear hw1 hw2; go_simp; try with_reducible rfl)
                  try go_frame
                  refine forcedP (i := 2) rfl rfl (by kernel_rfl) (fun K hK => ?_)
                  go_simp
                  refine (like_any k HK.out HNN.out _).mono ?_; rintro x w4 ⟨rfl, b4⟩
                  refine hK _ _ (⟨use_next HV (bch hdu b4), (bch hdu b4).at_block HF1.out.x⟩) ?_; clear hK K
                  try go_frame
                  refine forcedP (i := 7) rfl rfl (by kernel_rfl) (fun K hK => ?_)
                  go_simp
                  refine (rput_all r hrb A1 n1 c1 w4.heap.size (rl l) (tx (fcls k)) val wt hsum (by omega) w4 (Nat.le_refl _) (HF1.out.es.next (bch hdu b4)) HBB.out).mono ?_; rintro x w5 ⟨A2, c2, rfl, hE2, hcap2, hfr2, b5⟩
                  obtain ⟨m1, hm1⟩ : ∃ m, (putI r (tx (fcls k)) val wt (rl l)).length = m := ⟨_, rfl⟩
                  rw [hm1] at hE2 ⊢
                  obtain ⟨x0, x1, t0, t1⟩ := two_cells ((bch (bch hdu b4) b5).at_block HF1.out.x)
                  refine hK _ _ (⟨use_next HV (bch (bch hdu b4) b5), (bch (bch hdu b4) b5).at_block HF1.out.x⟩) ?_; clear hK K
                  try go_frame
                  refine takeT (i := 8) (v := ?_) rfl (by kernel_rfl) (by kernel_rfl) (by kernel_rfl) (by kernel_rfl) (fun _ _ _ h => h) (⟨use_next HV (bch (bch hdu b4) b5), (bch (bch hdu b4) b5).at_block HF1.out.x⟩) (.inl ⟨by rfl, fun w => .inl ?hy8⟩) ?_; case hy8 => (go_simp; try with_reducible rfl)
                  try go_frame
                  refine takeT (i := 9) (v := ?_) rfl (by kernel_rfl) (by kernel_rfl) (by kernel_rfl) (by kernel_rfl) (fun _ _ _ h => h) (⟨use_next HV (bch (bch hdu b4) b5), (bch (bch hdu b4) b5).at_block HF1.out.x⟩) (.inl ⟨by rfl, fun w => .inl ?hy9⟩) ?_; case hy9 => (go_simp; try with_reducible rfl)
                  try go_frame
                  refine takeT (i := 10) (v := ?_) rfl (by kernel_rfl) (by kernel_rfl) (by kernel_rfl) (by kernel_rfl) (fun _ _ _ h => h) (⟨use_next HV (bch (bch hdu b4) b5), (bch (bch hdu b4) b5).at_block HF1.out.x⟩) (.inl ⟨by rfl, fun w => .inl ?hy10⟩) ?_; case hy10 => (go_simp; try with_reducible rfl)
                  try go_frame
                  refine lateP (i := 11) rfl rfl (by kernel_rfl) (by kernel_rfl) (fun K hK => ?_)
                  go_simp
                  refine hK _ _ ?_; clear hK K
                  try go_frame
                  refine takeL (i := 12) (v := ?_) rfl (by kernel_rfl) (by kernel_rfl) (by kernel_rfl) (fun _ _ _ h => h) (.inl ⟨by rfl, fun w => .inl ?hy12⟩) ?_; case hy12 => (go_simp; try with_reducible rfl)
                  try go_frame
                  refine wpAny_done (by kernel_rfl) ?_ _
                  clear t0 t1 x0 x1
                  obtain ⟨hF2, hK2, hB2⟩ := FT.ref HF1.out (bch (bch hdu b4) b5) hE2 hcap2 (fun ad _ e => .inr (Nat.le_trans (bch hdu b4).size (hfr2 ad e)))
                  rw [put_rl (fcls_lt HK.out) k val wt (cs_low HF1.out.cs)] at hF2
                  obtain ⟨w6, hw6⟩ : ∃ w6, (w5.setCell ⟨X, 0, none⟩ (.int .i64 (r : Int))).setCell ⟨X, 1, none⟩ (.slice A2 m1 c2) = w6 := ⟨_, rfl⟩
                  have HV6 : UseIn w6 V us0 0 key val wt := by
                    rw [← hw6]
                    exact (hK2.block V (by rw [HUL.out]; omega) (by omega)).trans HV
                  have y3 := UseIn.c3 HV6
                  have y4 := use_c4 HV6
                  rw [hw6] at hF2 hB2 ⊢
                  have HF2 := Lib.hid hF2
                  have HB2 := Lib.hid hB2
                  clear hF2 hB2 hK2 hw6 hE2 hcap2 hfr2 hm1 b5 b4
                  have hcnt : i < maxLen := by unfold maxLen; omega
                  go_upto_region 20 with (go_at_call 18; refine (put_csb HF2.out.cs k HK.out HNN.out val wt hcnt HBB.out).mono ?_; rintro x w7 ⟨rfl, ht⟩; have HT7 := Lib.hid ht; clear ht)
                  obtain ⟨S7, hF7, hK7, hB7⟩ := FT.turn HF2.out HT7.out
                  have HF7 := Lib.hid hF7
                  have HB7 := Lib.hid (hbu.trans (HB2.out.trans hB7))
                  clear hF7 hK7 hB7 HT7 y3 y4
                  go_wp2
                  go_roundw
                  case rel => exact ⟨i + 1, _, _, _, _, _, by go_num, by omega, HF7.out, HB7.out⟩
                  case measure => simp [intOf]; omega
                by_cases hz1 : z = 1
                · subst hz1
                  go_upto_region 24 with (fail)
                  clear d1 d2 d3 d4 hself x0 x1
                  obtain ⟨sb, bb, hg1, hg2, hg3⟩ := got_same HK.out HNN.out (cs_low HF1.out.cs)
                  have HG1 := Lib.hid hg1
                  have HG2 := Lib.hid hg2
                  have HG3 := Lib.hid hg3
                  clear hg1 hg2 hg3
                  refine wp_region_any (by kernel_rfl) ?_
                  change wpAny _ _ _ _ _ _ _ (World.drew _)
                  refine wpAny_of_P (S := fun w' => UseIn w' V us0 1 key val wt ∧ w'.heap[X]? = some (CaS.rvCells r A1 n1 c1)) (late := [8]) _ _ _ _ ?_
                  refine takeP (i := 0) (v := ?_) rfl (by kernel_rfl) (by kernel_rfl) (by kernel_rfl) (by kernel_rfl) (by kernel_rfl) (fun _ _ _ h => h) (⟨HV, HF1.out.x⟩) (.inl ⟨by rfl, fun w hw => .inl ?hy0⟩) ?_; case hy0 => (obtain ⟨hw1, hw2⟩ := hw; obtain ⟨y0, y1, _, _⟩ := two_cells hw2; clear hw1 hw2; go_simp; try with_reducible rfl)
                  try go_frame
                  refine takeT (i := 1) (v := ?_) rfl (by kernel_rfl) (by kernel_rfl) (by kernel_rfl) (by kernel_rfl) (fun _ _ _ h => h) (⟨HV, HF1.out.x⟩) (.inl ⟨by rfl, fun w => .inl ?hy1⟩) ?_; case hy1 => (go_simp; try with_reducible rfl)
                  try go_frame
                  refine forcedP (i := 2) rfl rfl (by kernel_rfl) (fun K hK => ?_)
                  go_simp
                  refine (like_any k HK.out HNN.out _).mono ?_; rintro x w4 ⟨rfl, b4⟩
                  refine hK _ _ (⟨use_next HV (bch hdu b4), (bch hdu b4).at_block HF1.out.x⟩) ?_; clear hK K
                  try go_frame
                  refine forcedP (i := 3) rfl rfl (by kernel_rfl) (fun K hK => ?_)
                  go_simp
                  refine (rget_v r A1 n1 c1 w4.heap.size (rl l) (tx (fcls k)) (by omega) w4 (Nat.le_refl _) (HF1.out.es.next (bch hdu b4)) HF1.out.cap HG2.out HG3.out).mono ?_; rintro x w5 ⟨A2, c2, rfl, hE2, hcap2, hfr2, b5⟩
                  obtain ⟨m1, hm1⟩ : ∃ m, (Lru.get (tx (fcls k)) (rl l)).length = m := ⟨_, rfl⟩
                  rw [hm1] at hE2 ⊢
                  obtain ⟨x0, x1, t0, t1⟩ := two_cells ((bch (bch hdu b4) b5).at_block HF1.out.x)
                  refine hK _ _ (⟨use_next HV (bch (bch hdu b4) b5), (bch (bch hdu b4) b5).at_block HF1.out.x⟩) ?_; clear hK K
                  try go_frame
                  refine takeT (i := 4) (v := ?_) rfl (by kernel_rfl) (by kernel_rfl) (by kernel_rfl) (by kernel_rfl) (fun _ _ _ h => h) (⟨use_next HV (bch (bch hdu b4) b5), (bch (bch hdu b4) b5).at_block HF1.out.x⟩) (.inl ⟨by rfl, fun w => .inl ?hy4⟩) ?_; case hy4 => (go_simp; try with_reducible rfl)
                  try go_frame
                  refine takeT (i := 5) (v := ?_) rfl (by kernel_rfl) (by kernel_rfl) (by kernel_rfl) (by kernel_rfl) (fun _ _ _ h => h) (⟨use_next HV (bch (bch hdu b4) b5), (bch (bch hdu b4) b5).at_block HF1.out.x⟩) (.inl ⟨by rfl, fun w => .inl ?hy5⟩) ?_; case hy5 => (go_simp; try with_reducible rfl)
                  try go_frame
                  refine takeT (i := 6) (v := ?_) rfl (by kernel_rfl) (by kernel_rfl) (by kernel_rfl) (by kernel_rfl) (fun _ _ _ h => h) (⟨use_next HV (bch (bch hdu b4) b5), (bch (bch hdu b4) b5).at_block HF1.out.x⟩) (.inl ⟨by rfl, fun w => .inl ?hy6⟩) ?_; case hy6 => (go_simp; try with_reducible rfl)
                  try go_frame
                  refine takeT (i := 7) (v := ?_) rfl (by kernel_rfl) (by kernel_rfl) (by kernel_rfl) (by kernel_rfl) (fun _ _ _ h => h) (⟨use_next HV (bch (bch hdu b4) b5), (bch (bch hdu b4) b5).at_block HF1.out.x⟩) (.inl ⟨by rfl, fun w => .inl ?hy7⟩) ?_; case hy7 => (go_simp; try with_reducible rfl)
                  try go_frame
                  refine lateP (i := 8) rfl rfl (by kernel_rfl) (by kernel_rfl) (fun K hK => ?_)
                  go_simp
                  refine hK _ _ ?_; clear hK K
                  try go_frame
                  refine takeL (i := 9) (v := ?_) rfl (by kernel_rfl) (by kernel_rfl) (by kernel_rfl) (fun _ _ _ h => h) (.inl ⟨by rfl, fun w => .inl ?hy9⟩) ?_; case hy9 => (go_simp; try with_reducible rfl)
                  try go_frame
                  refine takeL (i := 10) (v := ?_) rfl (by kernel_rfl) (by kernel_rfl) (by kernel_rfl) (fun _ _ _ h => h) (.inl ⟨by rfl, fun w => .inl ?hy10⟩) ?_; case hy10 => (go_simp; try with_reducible rfl)
                  try go_frame
                  refine wpAny_done (by kernel_rfl) ?_ _
                  have hfr : ∀ ad, 0 < m1 → A2 = some ad → (A2 = A1 ∧ 0 < n1) ∨ wu.heap.size ≤ ad.block := by
                    intro ad h0 had
                    rcases hfr2 with e | h2
                    · exact .inl ⟨e, by
                      rcases Nat.eq_zero_or_pos n1 with h4 | h4
                      · rw [get_le (tx (fcls k)) (rl l) (List.eq_nil_of_length_eq_zero (HF1.out.es.1.trans h4))] at hm1
                        simp at hm1; omega
                      · exact h4⟩
                    · exact .inr (Nat.le_trans (bch hdu b4).size (h2 ad had))
                  clear t0 t1 x0 x1
                  obtain ⟨hF2, hK2, hB2⟩ := FT.ref HF1.out (bch (bch hdu b4) b5) hE2 hcap2 hfr
                  rw [get_rl (fcls_lt HK.out) (cs_low HF1.out.cs)] at hF2
                  obtain ⟨w6, hw6⟩ : ∃ w6, (w5.setCell ⟨X, 0, none⟩ (.int .i64 (r : Int))).setCell ⟨X, 1, none⟩ (.slice A2 m1 c2) = w6 := ⟨_, rfl⟩
                  rw [hw6] at hF2 hB2 ⊢
                  have HF2 := Lib.hid hF2
                  have HB2 := Lib.hid hB2
                  clear hF2 hB2 hK2 hw6 hE2 hcap2 hfr2 hfr hm1 b5 b4
                  go_upto_region 26 with (go_at_call 20; refine (get_csv HF2.out.cs k HK.out HG1.out).mono ?_; rintro x w7 ⟨rfl, ht⟩; rw [getF_not HNN.out] at ht; have HT7 := Lib.hid ht; clear ht)
                  obtain ⟨S7, hF7, hK7, hB7⟩ := FT.turn HF2.out HT7.out
                  have HF7 := Lib.hid (hF7.mono (Nat.le_succ i))
                  have HB7 := Lib.hid (hbu.trans (HB2.out.trans hB7))
                  clear hF7 hK7 hB7 HT7
                  go_wp2
                  go_roundw
                  case rel => exact ⟨i + 1, _, _, _, _, _, by go_num, by omega, HF7.out, HB7.out⟩
                  case measure => simp [intOf]; omega
                by_cases hz2 : z = 2
                · subst hz2
                  go_upto_region 30 with (fail)
                  clear d1 d2 d3 d4 hself x0 x1
                  obtain ⟨bb, hbb⟩ : ∃ bb, (seekF k l).isSome = bb := ⟨_, rfl⟩
                  have hbb2 : (seek (tx (fcls k)) (rl l)).isSome = bb := by rw [seek_rl (fcls_lt HK.out) (cs_low HF1.out.cs), ← hbb, seekF_not HNN.out]; simp
                  have HBB := Lib.hid hbb
                  have HBB2 := Lib.hid hbb2
                  clear hbb hbb2
                  refine wp_region_any (by kernel_rfl) ?_
                  change wpAny _ _ _ _ _ _ _ (World.drew _)
                  refine wpAny_of_P (S := fun w' => UseIn w' V us0 2 key val wt ∧ w'.heap[X]? = some (CaS.rvCells r A1 n1 c1)) (late := [7]) _ _ _ _ ?_
                  refine takeP (i := 0) (v := ?_) rfl (by kernel_rfl) (by kernel_rfl) (by kernel_rfl) (by kernel_rfl) (by kernel_rfl) (fun _ _ _ h => h) (⟨HV, HF1.out.x⟩) (.inl ⟨by rfl, fun w hw => .inl ?hy0⟩) ?_; case hy0 => (obtain ⟨hw1, hw2⟩ := hw; obtain ⟨y0, y1, _, _⟩ := two_cells hw2; clear hw1 hw2; go_simp; try with_reducible rfl)
                  try go_frame
                  refine takeT (i := 1) (v := ?_) rfl (by kernel_rfl) (by kernel_rfl) (by kernel_rfl) (by kernel_rfl) (fun _ _ _ h => h) (⟨HV, HF1.out.x⟩) (.inl ⟨by rfl, fun w => .inl ?hy1⟩) ?_; case hy1 => (go_simp; try with_reducible rfl)
                  try go_frame
                  refine forcedP (i := 2) rfl rfl (by kernel_rfl) (fun K hK => ?_)
                  go_simp
                  refine (like_any k HK.out HNN.out _).mono ?_; rintro x w4 ⟨rfl, b4⟩
                  refine hK _ _ (⟨use_next HV (bch hdu b4), (bch hdu b4).at_block HF1.out.x⟩) ?_; clear hK K
                  try go_frame
                  refine forcedP (i := 3) rfl rfl (by kernel_rfl) (fun K hK => ?_)
                  go_simp
                  refine (rdrop_b r A1 n1 c1 w4.heap.size (rl l) (tx (fcls k)) (by omega) w4 (Nat.le_refl _) (HF1.out.es.next (bch hdu b4)) (rl_nodup (cs_low HF1.out.cs) HF1.out.cs.keys) HBB2.out).mono ?_; rintro x w5 ⟨A2, c2, rfl, hE2, hcap2, hfr2, b5⟩
                  obtain ⟨m1, hm1⟩ : ∃ m, (out (tx (fcls k)) (rl l)).length = m := ⟨_, rfl⟩
                  rw [hm1] at hE2 ⊢
                  obtain ⟨x0, x1, t0, t1⟩ := two_cells ((bch (bch hdu b4) b5).at_block HF1.out.x)
                  refine hK _ _ (⟨use_next HV (bch (bch hdu b4) b5), (bch (bch hdu b4) b5).at_block HF1.out.x⟩) ?_; clear hK K
                  try go_frame
                  refine takeT (i := 4) (v := ?_) rfl (by kernel_rfl) (by kernel_rfl) (by kernel_rfl) (by kernel_rfl) (fun _ _ _ h => h) (⟨use_next HV (bch (bch hdu b4) b5), (bch (bch hdu b4) b5).at_block HF1.out.x⟩) (.inl ⟨by rfl, fun w => .inl ?hy4⟩) ?_; case hy4 => (go_simp; try with_reducible rfl)
                  try go_frame
                  refine takeT (i := 5) (v := ?_) rfl (by kernel_rfl) (by kernel_rfl) (by kernel_rfl) (by kernel_rfl) (fun _ _ _ h => h) (⟨use_next HV (bch (bch hdu b4) b5), (bch (bch hdu b4) b5).at_block HF1.out.x⟩) (.inl ⟨by rfl, fun w => .inl ?hy5⟩) ?_; case hy5 => (go_simp; try with_reducible rfl)
                  try go_frame
                  refine takeT (i := 6) (v := ?_) rfl (by kernel_rfl) (by kernel_rfl) (by kernel_rfl) (by kernel_rfl) (fun _ _ _ h => h) (⟨use_next HV (bch (bch hdu b4) b5), (bch (bch hdu b4) b5).at_block HF1.out.x⟩) (.inl ⟨by rfl, fun w => .inl ?hy6⟩) ?_; case hy6 => (go_simp; try with_reducible rfl)
                  try go_frame
                  refine lateP (i := 7) rfl rfl (by kernel_rfl) (by kernel_rfl) (fun K hK => ?_)
                  go_simp
                  refine hK _ _ ?_; clear hK K
                  try go_frame
                  refine takeL (i := 8) (v := ?_) rfl (by kernel_rfl) (by kernel_rfl) (by kernel_rfl) (fun _ _ _ h => h) (.inl ⟨by rfl, fun w => .inl ?hy8⟩) ?_; case hy8 => (go_simp; try with_reducible rfl)
                  try go_frame
                  refine wpAny_done (by kernel_rfl) ?_ _
                  have hfr : ∀ ad, 0 < m1 → A2 = some ad → (A2 = A1 ∧ 0 < n1) ∨ wu.heap.size ≤ ad.block := fun ad _ e => .inr (Nat.le_trans (bch hdu b4).size (hfr2 ad e))
                  clear t0 t1 x0 x1
                  obtain ⟨hF2, hK2, hB2⟩ := FT.ref HF1.out (bch (bch hdu b4) b5) hE2 hcap2 hfr
                  rw [out_rl (fcls_lt HK.out) (cs_low HF1.out.cs)] at hF2
                  obtain ⟨w6, hw6⟩ : ∃ w6, (w5.setCell ⟨X, 0, none⟩ (.int .i64 (r : Int))).setCell ⟨X, 1, none⟩ (.slice A2 m1 c2) = w6 := ⟨_, rfl⟩
                  rw [hw6] at hF2 hB2 ⊢
                  have HF2 := Lib.hid hF2
                  have HB2 := Lib.hid hB2
                  clear hF2 hB2 hK2 hw6 hE2 hcap2 hfr2 hfr hm1 b5 b4
                  go_upto_region 32 with (go_at_call 22; refine (drop_csb HF2.out.cs k HK.out HBB.out).mono ?_; rintro x w7 ⟨rfl, ht⟩; rw [outF_not HNN.out] at ht; have HT7 := Lib.hid ht; clear ht)
                  obtain ⟨S7, hF7, hK7, hB7⟩ := FT.turn HF2.out HT7.out
                  have HF7 := Lib.hid (hF7.mono (Nat.le_succ i))
                  have HB7 := Lib.hid (hbu.trans (HB2.out.trans hB7))
                  clear hF7 hK7 hB7 HT7
                  go_wp2
                  go_roundw
                  case rel => exact ⟨i + 1, _, _, _, _, _, by go_num, by omega, HF7.out, HB7.out⟩
                  case measure => simp [intOf]; omega
                exact absurd hz (by rintro (h | h | h) <;> contradiction)
            · obtain ⟨nb, hnb⟩ : ∃ nb, (FloatKind.f64.format.order k k != some .eq) = nb := ⟨_, rfl⟩
              clear hself
              rcases Decidable.em (z = 4) with rfl | hz4
              · clear x0 x1
                have hl1 : l.length = n1 := by have h1 := HF1.out.es.1; rw [rl_len] at h1; exact h1
                go_upto_region 34 with (go_at_call 23; refine (keys_s HF1.out.cs (by omega) hl1).mono ?_; rintro x w5 ⟨A5, k5, rfl, hr5, hb5⟩)
                have HR5 := Lib.hid hr5
                have HB5 := Lib.hid hb5
                have HOK := Lib.hid HF1.out.cs.oks
                have hw5 : w.heap.size ≤ w5.heap.size := Nat.le_trans hbu.size hb5.size
                clear hr5 hb5
                obtain ⟨i0, hi0, hz0, hz1, hz2⟩ := info_parts infoStrF
                go_upto_region 36 with (fail)
                go_loopw [23, 24] (fun tv jv wq => ∃ j : Nat, jv = .int .i64 j ∧ j ≤ n1 ∧ wq.ownsRow w5.heap.size 9 1 tv j (cStr (((rl l).map (·.key)).take j)) ∧ Below w5.heap.size w5 wq) (fun _ jv _ => n1 - (intOf jv).toNat)
                case atStart => exact ⟨0, rfl, by omega, World.ownsRow_nil _ _ _ _, Below.refl _ _⟩
                case round =>
                  obtain ⟨j, rfl, hj, hown, hbq⟩ := hrel
                  by_cases hjn : j < n1
                  · obtain ⟨ad, u, rfl, _, hu, hc⟩ := (HR5.out.below hbq).at_ hjn
                    obtain ⟨e, he, rfl⟩ := key_at hu
                    obtain ⟨ho1, ho2, ho3⟩ := HOK.out e (List.mem_of_getElem? he)
                    have hlt3 : (j : Int) < (n1 : Int) := by omega
                    have HO1 := Lib.hid ho1
                    have HO2 := Lib.hid ho2
                    have HO3 := Lib.hid ho3
                    have HE := Lib.hid he
                    have HOWN := Lib.hid hown
                    have HBQ := Lib.hid hbq
                    clear ho1 ho2 ho3 hu he hown hbq
                    go_wp2_with (first
                      | (go_at_call 17; refine (like_any e.val.1 HO1.out HO2.out _).mono ?_; rintro x w6 ⟨rfl, hb6⟩; have HB6 := Lib.hid hb6; clear hb6)
                      | (at_builtin; refine wpList_append_own _ rfl _ _ 32 rfl w5.heap.size 9 i0 (.string ⟨#[]⟩) 1 16 Try.underlying32 hi0 hz0 hz1 hz2 rfl (by decide) _ _ _ rfl ((own_below HOWN.out HB6.out).alloc _) ⟨w6.heap.size, 0, none⟩ 1 1 [encStr (tx (fcls e.val.1))] rfl rfl (cell_one_new _ _ _) (by simp [Value.oneCell', encStr]) (by unfold maxLen; omega) (by omega) (by have := HBQ.out.size; have := HB6.out.size; simp; omega) ?_; intro v2 w7 hrow2 hg2 _; have hb7 := ((HB6.out.alloc HB6.out.size (.cells #[encStr (tx (fcls e.val.1))] 9)).mono HBQ.out.size).grown hg2 (by have := HBQ.out.size; have := HB6.out.size; simp; omega) (fun k hk => (HOWN.out.lt k hk).1)))
                    go_roundw
                    case rel =>
                      refine ⟨j + 1, by go_num, by omega, ?_, HBQ.out.trans hb7⟩
                      rw [take_snoc_l (x := tx (fcls e.val.1)) (by rw [HO3.out]; exact rl_key_at HE.out)]
                      simpa using hrow2
                    case measure => simp [intOf]; omega
                  · obtain rfl : n1 = j := by omega
                    rw [List.take_of_length_le (by rw [List.length_map, rl_len, hl1]; omega)] at hown
                    obtain ⟨At, ct, rfl, _, _⟩ := own_form hown
                    have HRT := Lib.hid (Rd.of_own hown)
                    have b0 : Below wu.heap.size wu wr.drew := bch HB5.out (hbq.drew)
                    clear hown hi0 hz0 hz1 hz2
                    go_upto_region 39 with (fail)
                    obtain ⟨x0, x1, _, _⟩ := two_cells (b0.at_block HF1.out.x)
                    go_region_held3 (fun w' => w'.cell? ⟨X, 0, none⟩ = some (.int .i64 (r : Int)) ∧ w'.cell? ⟨X, 1, none⟩ = some (.slice A1 n1 c1)) ((refine ⟨?_, ?_⟩ <;> assumption))
                      (first
                        | (go_at_call 24; refine (rkeys_s r A1 n1 c1 _ (rl l) (by omega) wr.drew (Nat.le_refl _) (HF1.out.es.next b0)).mono ?_; rintro x w12 ⟨A12, k12, rfl, hr12, hb12⟩; have hbN : Below wu.heap.size wu w12 := bch b0 hb12; have HB12 := Lib.hid hbN; have HR12 := Lib.hid hr12; have HRT2 := Lib.hid (HRT.out.drew.next hb12); obtain ⟨x0, x1, _, _⟩ := two_cells (hbN.at_block HF1.out.x); clear hb12 hbN hr12)
                        | (go_at_call 13; refine (same_eq At n1 ct _ A12 n1 k12 _ _ (by unfold maxLen; omega) (by unfold maxLen; omega) w12 HRT2.out HR12.out).mono ?_; rintro x w13 ⟨rfl, hb13⟩; have hbN : Below wu.heap.size wu w13 := bch HB12.out hb13; have HB13 := Lib.hid hbN; obtain ⟨x0, x1, _, _⟩ := two_cells (hbN.at_block HF1.out.x); clear hb13 hbN)
                        | (go_at_call 25; refine (weight_cs (HF1.out.cs.below HB13.out)).mono ?_; rintro x wN ⟨rfl, rfl⟩)
                        | (go_at_call 26; refine (rweight_f (by omega) (Nat.le_trans HF1.out.cs.fits (Nat.le_trans hrb (by decide))) (HF1.out.es.next HB13.out)).mono ?_; rintro x w14 ⟨rfl, hb14⟩; have hbN : Below wu.heap.size wu w14 := bch HB13.out hb14; have HB14 := Lib.hid hbN; obtain ⟨x0, x1, _, _⟩ := two_cells (hbN.at_block HF1.out.x); clear hb14 hbN))
                    all_goals
                      have HF7 := Lib.hid ((HF1.out.below HB14.out).mono (Nat.le_succ i))
                      have HB7 := Lib.hid (hbu.trans (HB14.out.mono hbu.size))
                      go_wp2
                      go_roundw
                      case rel => exact ⟨i + 1, _, _, _, _, _, by go_num, by omega, HF7.out, HB7.out⟩
                      case measure => simp [intOf]; omega
              · have hz0 : ¬ z = 0 := fun h => hz (.inl h)
                have hz1 : ¬ z = 1 := fun h => hz (.inr (.inl h))
                have hz2 : ¬ z = 2 := fun h => hz (.inr (.inr h))
                clear hz x0 x1
                go_wp2
                go_roundw
                case rel => exact ⟨i + 1, _, _, _, _, _, by go_num, by omega, HF1.out.mono (Nat.le_succ i), hbu⟩
                case measure => simp [intOf]; omega
          · obtain rfl : i = n := by omega
            go_wp2
            go_ret
            exact ⟨rfl, hb⟩
end Go.Proofs.Ytpppgdfgbhglbaa.CaF
