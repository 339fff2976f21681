/- The walks of a cache's Drop, Get, Weight. -/
import Derived.Test.YtpppgdfgbhglbaaGiveF
namespace Go.Proofs.Ytpppgdfgbhglbaa.CaF
open Go.RowKit Go.Proofs Go.Proofs.Ytpppgdfgbhglbaa.Fl Go.Proofs.Ytpppgdfgbhglbaa.Ring Go.Proofs.Ytpppgdfgbhglbaa.Lru

set_option maxRecDepth 100000 in
set_option maxHeartbeats 1000000 in
theorem drop_at {w : World} {S : Nat → Prop} {c room cnt : Nat} {L : List (En Nat Fv)} {mv : Value} (h : CAt w S c room L cnt mv) (hr : room ≤ 1073741824) (k : Nat) (hk : k < 18446744073709551616) :
    Calls Try.prog 22 #[.pointer (some ⟨c, 0, none⟩), .float .f64 k] w fun x w' => x = .returned (.bool (decide (fplace L k ≠ none))) ∧ (∃ L', CAt w' S c room L' cnt mv ∧ its L' = outF k (its L)) ∧ Kept w w' S ∧ w'.heap.size = w.heap.size := by
  have hc2 := h.ring.head.cell 2
  simp only [List.getElem?_toArray] at hc2
  have HM := Lib.hid h.map
  have HH := Lib.hid h
  have HK := Lib.hid hk
  clear h hk
  cases hp : fplace L k with
  | none =>
    have HP := Lib.hid hp
    clear hp
    have hz : (zeroValue 82).run Try.prog w = .ok (.pointer none) w := by kernel_rfl
    have hl : (Instr.lookup 81 mv (.float .f64 k) false).run Try.prog w = .ok (.pointer none) w := by
      have := HM.out.look ftyp Try.underlying81 hz HK.out
      rw [show (if fnan k then none else place L (fcls k)) = _ from HP.out] at this
      exact this
    go_enter Try.func22, Try.ntmps22
    go_wp2
    go_ret
    refine ⟨by simp, ⟨L, HH.out, ?_⟩, Kept.refl _ _, rfl⟩
    exact (outF_none HP.out).symm
  | some b =>
    obtain ⟨l1, e, l2, rfl, rfl, hek, _⟩ := place_some (fplace_some hp).2
    have HP := Lib.hid hp
    have HEK := Lib.hid hek
    clear hp hek
    have hz : (zeroValue 82).run Try.prog w = .ok (.pointer none) w := by kernel_rfl
    have hl : (Instr.lookup 81 mv (.float .f64 k) false).run Try.prog w = .ok (.pointer (some ⟨e.b, 0, none⟩)) w := by
      have := HM.out.look ftyp Try.underlying81 hz HK.out
      rw [show (if fnan k then none else place (l1 ++ e :: l2) (fcls k)) = _ from HP.out] at this
      exact this
    go_enter Try.func22, Try.ntmps22
    go_wp2_with (first
      | (go_at_call 43; refine (give_any HH.out hr).mono ?_; rintro x w1 ⟨rfl, hc1, hk1, hz1⟩))
    go_ret
    refine ⟨by simp, ⟨l1 ++ l2, hc1, ?_⟩, hk1, hz1⟩
    unfold outF
    rw [if_neg (fplace_some HP.out).1, ← HEK.out, its_append, its_append, its_cons]
    refine (out_mid (e := e.it) ?_).symm
    have := HH.out.keys
    rw [← its_keys, its_append, its_cons] at this
    exact this
end Go.Proofs.Ytpppgdfgbhglbaa.CaF
