/- The walks of a cache's Drop, Get, Weight. -/
import Derived.Test.YtpppgdfgbhglbaaGiveI
namespace Go.Proofs.Ytpppgdfgbhglbaa.CaI
open Go.RowKit Go.Proofs Go.Proofs.Ytpppgdfgbhglbaa.Ring Go.Proofs.Ytpppgdfgbhglbaa.Lru

set_option maxRecDepth 100000 in
set_option maxHeartbeats 1000000 in
theorem drop_at {w : World} {S : Nat → Prop} {c room cnt : Nat} {L : List (En Bs Int)} {mv : Value} (h : CAt w S c room L cnt mv) (hr : room ≤ 1073741824) (k : Bs) (hk : k.length ≤ maxLen) :
    Calls Try.prog 48 #[.pointer (some ⟨c, 0, none⟩), encStr k] w fun x w' => x = .returned (.bool (decide (place L k ≠ none))) ∧ (∃ L', CAt w' S c room L' cnt mv ∧ its L' = out k (its L)) ∧ Kept w w' S ∧ w'.heap.size = w.heap.size := by
  have hc2 := h.ring.head.cell 2
  simp only [List.getElem?_toArray] at hc2
  have HM := Lib.hid h.map
  have HH := Lib.hid h
  have HK := Lib.hid (key_of hk)
  clear h hk
  cases hp : place L k with
  | none =>
    have HP := Lib.hid hp
    clear hp
    have hz : (zeroValue 97).run Try.prog w = .ok (.pointer none) w := by kernel_rfl
    have hl : (Instr.lookup 96 mv (encStr k) false).run Try.prog w = .ok (.pointer none) w := by
      have := HM.out.look keyed Try.underlying96 hz HK.out
      rw [HP.out] at this
      exact this
    go_enter Try.func48, Try.ntmps48
    go_wp2
    go_ret
    refine ⟨by simp, ⟨L, HH.out, ?_⟩, Kept.refl _ _, rfl⟩
    rw [out_none]
    intro e he
    obtain ⟨a, ha, rfl⟩ := List.mem_map.1 he
    exact place_none HP.out a ha
  | some b =>
    obtain ⟨l1, e, l2, rfl, rfl, hek, _⟩ := place_some hp
    have HP := Lib.hid hp
    have HEK := Lib.hid hek
    clear hp hek
    have hz : (zeroValue 97).run Try.prog w = .ok (.pointer none) w := by kernel_rfl
    have hl : (Instr.lookup 96 mv (encStr k) false).run Try.prog w = .ok (.pointer (some ⟨e.b, 0, none⟩)) w := by
      have := HM.out.look keyed Try.underlying96 hz HK.out
      rw [HP.out] at this
      exact this
    go_enter Try.func48, Try.ntmps48
    go_wp2_with (first
      | (go_at_call 49; refine (give_any HH.out hr).mono ?_; rintro x w1 ⟨rfl, hc1, hk1, hz1⟩))
    go_ret
    refine ⟨by simp, ⟨l1 ++ l2, hc1, ?_⟩, hk1, hz1⟩
    rw [← HEK.out, its_append, its_append, its_cons]
    refine (out_mid (e := e.it) ?_).symm
    have := HH.out.keys
    rw [← its_keys, its_append, its_cons] at this
    exact this
end Go.Proofs.Ytpppgdfgbhglbaa.CaI
