/- The walks of both kinds, and of the small functions on texts. -/
import Derived.Test.YtjkcoodboghmkaaW6
namespace Go.Proofs.Ytjkcoodboghmkaa.Nm
open Go.RowKit Go.Proofs

theorem toList_eq (s : ByteArray) (l : Bs) : (s.toList == l) = decide (s.data.toList = l) := by
  rw [Lib.toList_data, Bool.eq_iff_iff]; simp

set_option maxRecDepth 100000 in
theorem kind_any (s : ByteArray) (hs : s.size ≤ maxLen) (w : World) :
    Calls Try.prog 19 #[.string s] w fun e w' => e = .returned (.int .i64 (kind s.data.toList)) ∧ Below w.heap.size w w' := by
  by_cases h1 : s.data.toList = [116]
  · have t1 : (s.toList == [116]) = true := by rw [toList_eq]; simp [h1]
    have hk : kind s.data.toList = 2 := by unfold kind; rw [if_pos h1]
    rw [hk]; clear hk h1
    go_enter Try.func19, Try.ntmps19
    go_wp2
    go_ret
    exact ⟨rfl, Below.refl _ _⟩
  have t1 : (s.toList == [116]) = false := by rw [toList_eq]; simp [h1]
  by_cases h2 : s.data.toList = [108]
  · have t2 : (s.toList == [108]) = true := by rw [toList_eq]; simp [h2]
    have hk : kind s.data.toList = 3 := by unfold kind; rw [if_neg h1, if_pos h2]
    rw [hk]; clear hk h1 h2
    go_enter Try.func19, Try.ntmps19
    go_wp2
    go_ret
    exact ⟨rfl, Below.refl _ _⟩
  have t2 : (s.toList == [108]) = false := by rw [toList_eq]; simp [h2]
  have hk : kind s.data.toList = if keyOk s.data.toList then 1 else 0 := by unfold kind; rw [if_neg h1, if_neg h2]
  rw [hk]; clear hk h1 h2
  cases hok : keyOk s.data.toList
  all_goals
    go_enter Try.func19, Try.ntmps19
    go_wp2_with (go_at_call 18; refine (key_any _ hs _).mono ?_; rintro e w1 ⟨rfl, hb⟩)
    go_ret
    exact ⟨rfl, hb⟩

set_option maxRecDepth 100000 in
theorem refKind_any (s : ByteArray) (hs : s.size ≤ maxLen) (w : World) :
    Calls Try.prog 20 #[.string s] w fun e w' => e = .returned (.int .i64 (kind s.data.toList)) ∧ Below w.heap.size w w' := by
  by_cases h1 : s.data.toList = [116]
  · have t1 : (s.toList == [116]) = true := by rw [toList_eq]; simp [h1]
    have hk : kind s.data.toList = 2 := by unfold kind; rw [if_pos h1]
    rw [hk]; clear hk h1
    go_enter Try.func20, Try.ntmps20
    go_wp2
    go_ret
    exact ⟨rfl, Below.refl _ _⟩
  have t1 : (s.toList == [116]) = false := by rw [toList_eq]; simp [h1]
  by_cases h2 : s.data.toList = [108]
  · have t2 : (s.toList == [108]) = true := by rw [toList_eq]; simp [h2]
    have hk : kind s.data.toList = 3 := by unfold kind; rw [if_neg h1, if_pos h2]
    rw [hk]; clear hk h1 h2
    go_enter Try.func20, Try.ntmps20
    go_wp2
    go_ret
    exact ⟨rfl, Below.refl _ _⟩
  have t2 : (s.toList == [108]) = false := by rw [toList_eq]; simp [h2]
  have hk : kind s.data.toList = if keyOk s.data.toList then 1 else 0 := by unfold kind; rw [if_neg h1, if_neg h2]
  rw [hk]; clear hk h1 h2
  cases hok : keyOk s.data.toList
  all_goals
    go_enter Try.func20, Try.ntmps20
    go_wp2_with (go_at_call 17; refine (refKey_any _ hs _).mono ?_; rintro e w1 ⟨rfl, hb⟩)
    go_ret
    exact ⟨rfl, hb⟩
end Go.Proofs.Ytjkcoodboghmkaa.Nm
