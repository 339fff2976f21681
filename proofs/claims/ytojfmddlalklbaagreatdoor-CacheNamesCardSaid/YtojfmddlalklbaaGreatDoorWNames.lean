/- The walk of CacheNames. -/
import Derived.Test.YtojfmddlalklbaaGreatDoorZero
namespace Go.Proofs.YtojfmddlalklbaaGreatDoor
open Go.RowKit Go.Proofs Go.Proofs.YtojfmddlalklbaaGreatDoor.Ring

abbrev tFront := 31
structure Cx (w : World) (Z Y : Nat) (zc : Array Value) : Prop where
  err : ErrT w
  z : w.heap[Z]? = some (.cells zc tCache (0, 0))
  y : w.heap[Y]? = some (.cells #[.pointer none, .pointer none] tFront (0, 0))
theorem Cx.below {w w' : World} {Z Y : Nat} {zc : Array Value} (h : Cx w Z Y zc) (hb : Below w.heap.size w w') : Cx w' Z Y zc :=
  ⟨h.err.below hb, (hb.block _ (Array.getElem?_eq_some_iff.1 h.z).1).trans h.z, (hb.block _ (Array.getElem?_eq_some_iff.1 h.y).1).trans h.y⟩
theorem Cx.y0 {w : World} {Z Y : Nat} {zc : Array Value} (h : Cx w Z Y zc) : w.cell? ⟨Y, 0, none⟩ = some (.pointer none) ∧ w.cell? ⟨Y, 1, none⟩ = some (.pointer none) :=
  ⟨by rw [cell_of_row w Y _ _ _ _ h.y]; rfl, by rw [cell_of_row w Y _ _ _ _ h.y]; rfl⟩
abbrev zero5 : Array Value := #[.int .i64 0, .int .i64 0, .map none, .pointer none, .pointer none]
abbrev zero4 : Array Value := #[.int .i64 0, .int .i64 0, .int .i64 0, .int .i64 0]
structure Cy (w : World) (Z Y H : Nat) (zc : Array Value) : Prop where
  x : Cx w Z Y zc
  h : w.heap[H]? = some (.cells zero4 tHealed (0, 0))
theorem Cy.below {w w' : World} {Z Y H : Nat} {zc : Array Value} (h : Cy w Z Y H zc) (hb : Below w.heap.size w w') : Cy w' Z Y H zc :=
  ⟨h.x.below hb, (hb.block _ (Array.getElem?_eq_some_iff.1 h.h).1).trans h.h⟩
theorem Cy.kept {w w' : World} {Z Y H : Nat} {zc zc' : Array Value} (h : Cy w Z Y H zc) (hk : Kept w w' (fun q => q = Z)) (hz : w'.heap[Z]? = some (.cells zc' tCache (0, 0))) (h0 : 0 ≠ Z) (hY : Y ≠ Z) (hH : H ≠ Z) : Cy w' Z Y H zc' := by
  refine ⟨⟨?_, hz, (hk.block _ (Array.getElem?_eq_some_iff.1 h.x.y).1 hY).trans h.x.y⟩, (hk.block _ (Array.getElem?_eq_some_iff.1 h.h).1 hH).trans h.h⟩
  have hl : 0 < w.heap.size := block_of_cell h.x.err
  have he := hk.block 0 hl h0
  unfold ErrT World.cell?
  rw [show w'.heap[(⟨0, 0, none⟩ : Addr).block]? = w.heap[(⟨0, 0, none⟩ : Addr).block]? from he]
  exact h.x.err
theorem Cy.h4 {w : World} {Z Y H : Nat} {zc : Array Value} (h : Cy w Z Y H zc) : w.cell? ⟨H, 0, none⟩ = some (.int .i64 0) ∧ w.cell? ⟨H, 1, none⟩ = some (.int .i64 0) ∧ w.cell? ⟨H, 2, none⟩ = some (.int .i64 0) ∧ w.cell? ⟨H, 3, none⟩ = some (.int .i64 0) :=
  ⟨by rw [cell_of_row w H _ _ _ _ h.h]; rfl, by rw [cell_of_row w H _ _ _ _ h.h]; rfl, by rw [cell_of_row w H _ _ _ _ h.h]; rfl, by rw [cell_of_row w H _ _ _ _ h.h]; rfl⟩
set_option maxRecDepth 100000 in
set_option maxHeartbeats 8000000 in
theorem names_any (w : World) (hg : ErrT w) : Calls Tryz.prog 3 #[] w fun x w' => x = .returned (.bool true) ∧ Below w.heap.size w w' := by
  obtain ⟨V, hV⟩ : ∃ V, w.heap.size = V := ⟨_, rfl⟩
  rw [hV]
  obtain ⟨w1, hw1⟩ : ∃ w1, (w.alloc (.cells zero5 tCache)).alloc (.cells #[.pointer none, .pointer none] tFront) = w1 := ⟨_, rfl⟩
  have hz : w1.heap[V]? = some (.cells zero5 tCache (0, 0)) := by
    rw [← hw1, ← hV]
    exact (heap_alloc_old _ _ (by simp)).trans (heap_alloc_new _ _)
  have hy : w1.heap[V + 1]? = some (.cells #[.pointer none, .pointer none] tFront (0, 0)) := by
    rw [← hw1, ← hV]
    exact heap_alloc2_new _ _ _
  have hb1 : Below w.heap.size w w1 := by rw [← hw1]; exact ((Below.refl _ _).alloc (Nat.le_refl _) _).alloc (by simp) _
  have C1 := Lib.hid (⟨hg.below hb1, hz, hy⟩ : Cx w1 V (V + 1) zero5)
  have HB1 := Lib.hid (show Below V w w1 by rw [← hV]; exact hb1)
  have HV := Lib.hid hV
  have HW1 := Lib.hid hw1
  clear hz hy hb1 hg hV hw1
  go_enter Tryz.func3, Tryz.ntmps3
  go_upto_region 5 with (fail)
  rw [HW1.out, HV.out]
  have hs1 : w1.heap.size = V + 2 := by rw [← HW1.out, ← HV.out]; simp
  have HS1 := Lib.hid hs1
  clear hs1 HW1 HV
  go_upto_region 6 with (go_at_call 4; refine (fget_zero C1.out.err C1.out.y0.1 C1.out.y0.2 ⟨#[97]⟩).mono ?_; rintro x w2 ⟨rfl, hb⟩; have C2 := Lib.hid (C1.out.below hb); have HB2 := Lib.hid (HB1.out.trans (hb.mono (by have := HS1.out; omega))); clear hb)
  have hs2 : V + 2 ≤ w2.heap.size := by
    have := (Array.getElem?_eq_some_iff.1 C2.out.y).1
    omega
  have HS2 := Lib.hid hs2
  clear hs2 C1 HB1 HS1
  go_upto_region 9 with (first
    | (go_at_call 5; refine (iget_nil _ _).mono ?_; rintro x wn ⟨rfl, rfl⟩)
    | (go_at_call 6; refine (iclear_nil _).mono ?_; rintro x wn ⟨rfl, rfl⟩)
    | (go_at_call 4; refine (fget_nil _ _).mono ?_; rintro x wn ⟨rfl, rfl⟩))
  go_upto_region 10 with (go_at_call 7; refine (fheal_nil _).mono ?_; rintro x w3 ⟨rfl, hb⟩; have C3 := Lib.hid (C2.out.below hb); have HB3 := Lib.hid (HB2.out.trans (hb.mono (by have := HS2.out; omega))); clear hb)
  obtain ⟨H, hH⟩ : ∃ H, w3.heap.size = H := ⟨_, rfl⟩
  obtain ⟨w4, hw4⟩ : ∃ w4, w3.alloc (.cells zero4 tHealed) = w4 := ⟨_, rfl⟩
  have hb4 : Below w3.heap.size w3 w4 := by rw [← hw4]; exact (Below.refl _ _).alloc (Nat.le_refl _) _
  have hh4 : w4.heap[H]? = some (.cells zero4 tHealed (0, 0)) := by rw [← hw4, ← hH]; exact heap_alloc_new _ _
  have C4 := Lib.hid (⟨C3.out.below hb4, hh4⟩ : Cy w4 V (V + 1) H zero5)
  have hVH : V + 2 ≤ H := by
    have := (Array.getElem?_eq_some_iff.1 C3.out.y).1
    omega
  have hB4 : Below V w w4 := HB3.out.trans (hb4.mono (by omega))
  have h0V : 0 ≠ V := by
    intro e
    have h1 := C4.out.x.err
    unfold ErrT at h1
    have h2 := C4.out.x.z
    rw [← e] at h2
    rw [cell_of_row w4 0 _ _ _ _ h2] at h1
    cases h1
  rw [hw4, hH]
  have HB4 := Lib.hid hB4
  have HVH := Lib.hid hVH
  have H0V := Lib.hid h0V
  clear hb4 hh4 hH hw4 hVH hB4 h0V C2 C3 HB2 HB3 HS2
  have T1 := Lib.hid trivial
  have T2 := Lib.hid trivial
  have T4 := Lib.hid trivial
  have T5 := Lib.hid trivial
  go_wp2_with (first
    | (go_at_call 8; refine (before_nil _ _).mono ?_; rintro x wn ⟨rfl, rfl⟩)
    | (go_at_call 9; clear T1; refine (iput_nil _ _ _ _).mono ?_; rintro x wn ⟨rfl, rfl⟩)
    | (go_at_call 9; clear T2; refine (iput_no C4.out.x.z ⟨#[97]⟩ _ 1 (by omega)).mono ?_; rintro x wn ⟨rfl, rfl⟩)
    | (go_at_call 9; refine (iput_yes C4.out.x.z ⟨#[98]⟩ 2).mono ?_; rintro x w5 ⟨M, E, rfl, h5, h6, hk⟩; have C5 := Lib.hid (C4.out.kept hk h5 H0V.out (by omega) (by have := HVH.out; omega)); have HE5 := Lib.hid h6; have HB5 := Lib.hid (HB4.out.trans (hk.to_below (B := V) (by have := (Array.getElem?_eq_some_iff.1 C4.out.x.z).1; omega) (fun q hq => Nat.le_of_eq hq.symm))); clear h5 h6 hk C4 HB4)
    | (go_at_call 10; refine (idrop_nil _ _).mono ?_; rintro x wn ⟨rfl, rfl⟩)
    | (go_at_call 12; refine (iweight_nil _).mono ?_; rintro x wn ⟨rfl, rfl⟩)
    | (go_at_call 11; clear T4; refine (ikeys_nil _).mono ?_; rintro x wn ⟨rfl, rfl⟩)
    | (go_at_call 11; clear T5; refine (ikeys_one (cells5 C5.out.x.z).2.2.2.1 (cells5 HE5.out).1 (cells5 HE5.out).2.2.2.2).mono ?_; rintro x w6 ⟨g, c, rfl, h6, hb⟩; have C6 := Lib.hid (C5.out.below hb); have HE6 := Lib.hid ((hb.block _ (Array.getElem?_eq_some_iff.1 HE5.out).1).trans HE5.out); have HB6 := Lib.hid (HB5.out.trans (hb.mono (by have := (Array.getElem?_eq_some_iff.1 C5.out.x.z).1; omega))); clear h6 hb C5 HE5 HB5)
    | (go_at_call 11; refine (ikeys_one (cells5 C6.out.x.z).2.2.2.1 (cells5 HE6.out).1 (cells5 HE6.out).2.2.2.2).mono ?_; rintro x w7 ⟨g, c, rfl, h7, hb⟩; have C7 := Lib.hid (C6.out.below hb); have HB7 := Lib.hid (HB6.out.trans (hb.mono (by have := (Array.getElem?_eq_some_iff.1 C6.out.x.z).1; omega))); clear hb C6 HE6 HB6)
    | (go_at_call 13; refine (fput_zero C7.out.x.err C7.out.x.y0.1 C7.out.x.y0.2 ⟨#[97]⟩ _).mono ?_; rintro x w8 ⟨rfl, hb⟩; have C8 := Lib.hid (C7.out.below hb); have HB8 := Lib.hid (HB7.out.trans (hb.mono (by have := (Array.getElem?_eq_some_iff.1 C7.out.x.z).1; omega))); clear hb C7 HB7)
    | (go_at_call 14; refine (fdel_zero C8.out.x.err C8.out.x.y0.1 C8.out.x.y0.2 ⟨#[97]⟩).mono ?_; rintro x w9 ⟨rfl, hb⟩; have C9 := Lib.hid (C8.out.below hb); have HB9 := Lib.hid (HB8.out.trans (hb.mono (by have := (Array.getElem?_eq_some_iff.1 C8.out.x.z).1; omega))); obtain ⟨d0, d1, d2, d3⟩ := C9.out.h4; clear hb C8 HB8)
    | (go_at_call 15; refine (fheld_zero C9.out.x.y0.2).mono ?_; rintro x wn ⟨rfl, rfl⟩; have HBX := HB9; clear C9 HB9)
    | (go_at_call 13; refine (fput_nil _ _ _).mono ?_; rintro x wn ⟨rfl, rfl⟩)
    | (go_at_call 14; refine (fdel_nil _ _).mono ?_; rintro x wn ⟨rfl, rfl⟩)
    | (go_at_call 15; refine (fheld_nil _).mono ?_; rintro x wn ⟨rfl, rfl⟩))
  go_ret
  exact ⟨rfl, HBX.out⟩
end Go.Proofs.YtojfmddlalklbaaGreatDoor
