/- The walks of the first five statements. -/
import Derived.Test.YtjkcoodboghmkaaW12
namespace Go.Proofs.Ytjkcoodboghmkaa.Nm
open Go.RowKit Go.Proofs

theorem law_numbers (w : World) : Calls Try.prog 3 #[] w fun e w' => e = .returned (.bool true) ∧ Below w.heap.size w w' := by
  go_enter Try.func3, Try.ntmps3
  go_wp2_with (go_at_call 14; refine (known_any _).mono ?_; rintro e w1 ⟨rfl, hb1⟩)
  go_ret
  exact ⟨rfl, hb1⟩

set_option maxRecDepth 100000 in
theorem law_objects (s : ByteArray) (hs : s.size ≤ maxLen) (w : World) : Calls Try.prog 4 #[.string s] w fun e w' => e = .returned (.bool true) ∧ Below w.heap.size w w' := by
  go_enter Try.func4, Try.ntmps4
  go_wp2_with (first
    | (go_at_call 15; refine (refObject_any s hs _).mono ?_; rintro e w1 ⟨rfl, hq⟩; have hb1 := below_same hq w.heap.size)
    | (go_at_call 16; refine (object_any s hs _).mono ?_; rintro e w2 ⟨rfl, hb2⟩)
    | (go_at_call 14; refine (known_any _).mono ?_; rintro e w3 ⟨rfl, hb3⟩))
  go_ret
  exact ⟨rfl, bch (bch hb1 hb2) hb3⟩

set_option maxRecDepth 100000 in
theorem law_keys (s : ByteArray) (hs : s.size ≤ maxLen) (w : World) : Calls Try.prog 5 #[.string s] w fun e w' => e = .returned (.bool true) ∧ Below w.heap.size w w' := by
  go_enter Try.func5, Try.ntmps5
  go_wp2_with (first
    | (go_at_call 17; refine (refKey_any s hs _).mono ?_; rintro e w1 ⟨rfl, hb1⟩)
    | (go_at_call 18; refine (key_any s hs _).mono ?_; rintro e w2 ⟨rfl, hb2⟩)
    | (go_at_call 14; refine (known_any _).mono ?_; rintro e w3 ⟨rfl, hb3⟩))
  all_goals (go_ret; exact ⟨rfl, bch (bch hb1 hb2) hb3⟩)

set_option maxRecDepth 100000 in
theorem law_kinds (s : ByteArray) (hs : s.size ≤ maxLen) (w : World) : Calls Try.prog 6 #[.string s] w fun e w' => e = .returned (.bool true) ∧ Below w.heap.size w w' := by
  go_enter Try.func6, Try.ntmps6
  go_wp2_with (first
    | (go_at_call 20; refine (refKind_any s hs _).mono ?_; rintro e w1 ⟨rfl, hb1⟩)
    | (go_at_call 19; refine (kind_any s hs _).mono ?_; rintro e w2 ⟨rfl, hb2⟩)
    | (go_at_call 14; refine (known_any _).mono ?_; rintro e w3 ⟨rfl, hb3⟩))
  all_goals (go_ret; exact ⟨rfl, bch (bch hb2 hb1) hb3⟩)

set_option maxRecDepth 100000 in
theorem law_unders (A : Option Addr) (n c : Nat) (xs : List Bs) (hn : n ≤ 8796093021952) (hxs : ∀ x ∈ xs, x.length ≤ maxLen) (p : ByteArray) (_hp : p.size ≤ maxLen) (w : World) (hr : Rd w w.heap.size 1 A n (cStr xs)) :
    Calls Try.prog 7 #[.slice A n c, .string p] w fun e w' => e = .returned (.bool true) ∧ Below w.heap.size w w' := by
  have HXS := Lib.hid hxs
  have hxl : xs.length = n := by simpa using hr.1
  have hul := under_len xs p.data.toList
  obtain ⟨u, hu⟩ : ∃ u, under xs p.data.toList = u := ⟨_, rfl⟩
  rw [hu, hxl] at hul
  have HU := Lib.hid hu
  clear hu hxs hxl
  go_enter Try.func7, Try.ntmps7
  go_wp2_with (first
    | (go_at_call 21; refine (refUnder_any A n c xs p w.heap.size (by omega) HXS.out _ (Nat.le_refl _) hr).mono ?_; rintro e w1 ⟨v1, rfl, hown1, hb1⟩; rw [HU.out] at hown1; obtain ⟨A1, c1, rfl, _, _⟩ := own_form hown1)
    | (go_at_call 23; refine (under_any A n c xs p w1.heap.size (by omega) HXS.out _ (Nat.le_refl _) (hr.next hb1)).mono ?_; rintro e w2 ⟨v2, rfl, hown2, hb2⟩; rw [HU.out] at hown2; obtain ⟨A2, c2, rfl, _, _⟩ := own_form hown2)
    | (go_at_call 22; refine (like_any _ _ _ u _ _ _ u w2.heap.size w2.heap.size (by unfold maxLen; omega) (by unfold maxLen; omega) _ (Rd.of_own hown2) ((Rd.of_own hown1).next hb2)).mono ?_; rintro e w3 ⟨rfl, hq⟩; have hb3 := below_same hq w2.heap.size)
    | (go_at_call 14; refine (known_any _).mono ?_; rintro e w4 ⟨rfl, hb4⟩))
  go_ret
  exact ⟨rfl, bch (bch (bch hb1 hb2) hb3) hb4⟩
end Go.Proofs.Ytjkcoodboghmkaa.Nm
