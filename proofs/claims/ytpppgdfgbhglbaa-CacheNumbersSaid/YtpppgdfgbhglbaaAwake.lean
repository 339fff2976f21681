/- The walk of what the cache's statements ask first. -/
import Derived.Test.YtpppgdfgbhglbaaApiI
import Derived.Test.YtpppgdfgbhglbaaTx
namespace Go.Proofs.Ytpppgdfgbhglbaa.CaI
open Go.RowKit Go.Proofs Go.Proofs.Ytpppgdfgbhglbaa.Ring Go.Proofs.Ytpppgdfgbhglbaa.Lru

theorem p1 : putI 3 [97] (1 : Int) 1 ([] : List (It Bs Int)) = [⟨[97], 1, 1⟩] := by kernel_rfl
theorem p2 : putI 3 [98] (2 : Int) 1 ([⟨[97], 1, 1⟩] : List (It Bs Int)) = [⟨[98], 2, 1⟩, ⟨[97], 1, 1⟩] := by kernel_rfl
theorem p3 : putI 3 [99] (3 : Int) 1 ([⟨[98], 2, 1⟩, ⟨[97], 1, 1⟩] : List (It Bs Int)) = [⟨[99], 3, 1⟩, ⟨[98], 2, 1⟩, ⟨[97], 1, 1⟩] := by kernel_rfl
theorem g1 : Lru.get [97] ([⟨[99], 3, 1⟩, ⟨[98], 2, 1⟩, ⟨[97], 1, 1⟩] : List (It Bs Int)) = [⟨[97], 1, 1⟩, ⟨[99], 3, 1⟩, ⟨[98], 2, 1⟩] := by kernel_rfl
theorem p4 : putI 3 [100] (4 : Int) 1 ([⟨[97], 1, 1⟩, ⟨[99], 3, 1⟩, ⟨[98], 2, 1⟩] : List (It Bs Int)) = [⟨[100], 4, 1⟩, ⟨[97], 1, 1⟩, ⟨[99], 3, 1⟩] := by kernel_rfl
theorem g2 : Lru.get [98] ([⟨[100], 4, 1⟩, ⟨[97], 1, 1⟩, ⟨[99], 3, 1⟩] : List (It Bs Int)) = [⟨[100], 4, 1⟩, ⟨[97], 1, 1⟩, ⟨[99], 3, 1⟩] := by kernel_rfl
theorem s1 : gotV (seek [97] ([⟨[99], 3, 1⟩, ⟨[98], 2, 1⟩, ⟨[97], 1, 1⟩] : List (It Bs Int))) = .tuple #[.int .i64 1, .bool true] := by kernel_rfl
theorem s2 : gotV (seek [98] ([⟨[100], 4, 1⟩, ⟨[97], 1, 1⟩, ⟨[99], 3, 1⟩] : List (It Bs Int))) = .tuple #[.int .i64 0, .bool false] := by kernel_rfl

theorem put_3 {w : World} {B c cnt : Nat} {l l' : List (It Bs Int)} (h : Co w B c 3 l cnt) (k : Bs) (hk : k.length ≤ maxLen) (v : Int) (hl : putI 3 k v 1 l = l') (hcnt : cnt < maxLen) :
    Calls Try.prog 34 #[.pointer (some ⟨c, 0, none⟩), encStr k, .int .i64 v, .int .i64 1] w fun x w' => x = .returned (.bool true) ∧ Co w' B c 3 l' (cnt + 1) ∧ Below B w w' :=
  (put_co h k hk v 1 hcnt).mono fun _ _ ⟨h1, h2, h3⟩ => ⟨h1, hl ▸ h2, h3⟩
theorem get_3 {w : World} {B c cnt : Nat} {l l' : List (It Bs Int)} {u : Value} (h : Co w B c 3 l cnt) (k : Bs) (hk : k.length ≤ maxLen) (hl : Lru.get k l = l') (hu : gotV (seek k l) = u) :
    Calls Try.prog 35 #[.pointer (some ⟨c, 0, none⟩), encStr k] w fun x w' => x = .returned u ∧ Co w' B c 3 l' cnt ∧ Below B w w' :=
  (get_co h k hk).mono fun _ _ ⟨h1, h2, h3⟩ => ⟨hu ▸ h1, hl ▸ h2, h3⟩

set_option maxRecDepth 100000 in
set_option maxHeartbeats 1000000 in
theorem awake_any (w : World) : Calls Try.prog 8 #[] w fun e w' => e = .returned (.bool true) ∧ Below w.heap.size w w' := by
  go_enter Try.func8, Try.ntmps8
  go_upto_region 2 with (go_at_call 33; refine (new_co 3 (by decide) _).mono ?_; rintro x w0 ⟨c, rfl, h0, b0⟩)
  have H0 := Lib.hid h0
  clear h0
  go_upto_region 4 with (first
    | (go_at_call_of 34 (⟨#[97]⟩ : ByteArray); refine (put_3 H0.out [97] (by decide) 1 p1 (by decide)).mono ?_; rintro x w1 ⟨rfl, h1, b1⟩; have H1 := Lib.hid h1; clear h1)
    | (go_at_call_of 34 (⟨#[98]⟩ : ByteArray); refine (put_3 H1.out [98] (by decide) 2 p2 (by decide)).mono ?_; rintro x w2 ⟨rfl, h2, b2⟩; have H2 := Lib.hid h2; clear h2)
    | (go_at_call_of 34 (⟨#[99]⟩ : ByteArray); refine (put_3 H2.out [99] (by decide) 3 p3 (by decide)).mono ?_; rintro x w3 ⟨rfl, h3, b3⟩; have H3 := Lib.hid h3; clear h3))
  go_upto_region 5 with (go_at_call 35; refine (get_3 H3.out [97] (by decide) g1 s1).mono ?_; rintro x w4 ⟨rfl, h4, b4⟩; have H4 := Lib.hid h4; clear h4)
  go_upto_region 7 with (first
    | (go_at_call 34; refine (put_3 H4.out [100] (by decide) 4 p4 (by decide)).mono ?_; rintro x w5 ⟨rfl, h5, b5⟩; have H5 := Lib.hid h5; clear h5)
    | (go_at_call 36; refine (weight_co H5.out).mono ?_; rintro x w6 ⟨rfl, rfl⟩))
  go_upto_region 8 with (go_at_call 35; refine (get_3 H5.out [98] (by decide) g2 s2).mono ?_; rintro x w7 ⟨rfl, h7, b7⟩; have H7 := Lib.hid h7; clear h7)
  go_wp2_with (first
    | (go_at_call 37; refine (keys_co H7.out (by decide)).mono ?_; rintro x w8 ⟨v8, rfl, hr8, b8, _⟩; obtain ⟨A8, c8, rfl, _, _⟩ := own_form hr8)
    | (go_at_call 13; refine (Ca.same_any A8 3 c8 [[100], [97], [99]] _ 3 3 [[100], [97], [99]] (w8.heap.size) (w8.heap.size + 1) (by decide) (by decide) _ ((Rd.of_own hr8).alloc (Nat.le_refl _) _) ⟨rfl, fun _ => ⟨_, rfl, Nat.lt_succ_self _, new_cells w8 (cStr [[100], [97], [99]]) _⟩⟩).mono ?_; rintro x w9 ⟨rfl, q9, rfl⟩))
  go_ret
  have hb7 := ((((b0.trans b1).trans b2).trans b3).trans b4).trans (b5.trans b7)
  have hb8 := bch hb7 b8
  exact ⟨rfl, below_drewN (hb8.alloc hb8.size _) _⟩
end Go.Proofs.Ytpppgdfgbhglbaa.CaI
