/- The law's own touches; what is safe stays. -/
import Derived.Test.YtelgcmcnebncmaaL6
import Derived.Test.YtelgcmcnebncmaaPKeep
namespace Go.Proofs.Ytelgcmcnebncmaa.Dr
open Go.RowKit Go.Proofs Go.Proofs.Ytelgcmcnebncmaa.Ring

set_option maxRecDepth 100000 in
set_option maxHeartbeats 4000000 in
theorem touches_any (x : Av) (n : Bs) (w : World) : Calls Try.prog 32 #[actV x.a x.A x.n x.c x.Ad x.nd x.cd x.Au x.nu x.cu, encStr n] w fun y w' => y = .returned (.bool (touches x.a n)) ∧ Below w.heap.size w w' := by
  obtain ⟨a, A, na, c, Ad, nd, cd, Au, nu, cu⟩ := x
  show Calls Try.prog 32 #[actV a A na c Ad nd cd Au nu cu, encStr n] w fun y w' => y = .returned (.bool (touches a n)) ∧ Below w.heap.size w w'
  obtain ⟨r, hr⟩ : ∃ r, touches a n = r := ⟨_, rfl⟩
  rw [hr]
  have HR := Lib.hid hr
  clear hr
  obtain ⟨V, hV⟩ : ∃ V, w.heap.size = V := ⟨_, rfl⟩
  rw [hV]
  go_enter Try.func32, Try.ntmps32
  go_upto_region 1 with (fail)
  obtain ⟨w1, hw1⟩ : ∃ w1, w.alloc (.cells #[.int .i64 a.kind, encStr a.name, encStr a.dst, .int .i64 a.n, .slice A na c, .slice Ad nd cd, .slice Au nu cu] tAct) = w1 := ⟨_, rfl⟩
  have hA1 : w1.heap[V]? = some (.cells #[.int .i64 a.kind, encStr a.name, encStr a.dst, .int .i64 a.n, .slice A na c, .slice Ad nd cd, .slice Au nu cu] tAct (0, 0)) := by
    rw [← hw1, ← hV]
    exact heap_alloc_new _ _
  have hb1 : Below V w w1 := by
    rw [← hw1, ← hV]
    exact (Below.refl _ _).alloc (Nat.le_refl _) _
  rw [hw1]
  clear hw1 hV
  have f0 : w1.cell? ⟨V, 0, none⟩ = some (.int .i64 a.kind) := by rw [cell_of_row w1 V _ _ _ _ hA1]; rfl
  have f1 : w1.cell? ⟨V, 1, none⟩ = some (encStr a.name) := by rw [cell_of_row w1 V _ _ _ _ hA1]; rfl
  have f2 : w1.cell? ⟨V, 2, none⟩ = some (encStr a.dst) := by rw [cell_of_row w1 V _ _ _ _ hA1]; rfl
  have HB := Lib.hid hb1
  clear hA1 hb1
  by_cases k1 : a.kind = 0 ∨ a.kind = 1 ∨ a.kind = 4 ∨ a.kind = 14 ∨ a.kind = 15
  · have h1 : decide (a.name = n) = r := by have := HR.out; unfold touches at this; rwa [if_pos k1] at this
    by_cases hn : a.name = n
    · obtain rfl : r = true := by rw [← h1]; exact decide_eq_true hn
      clear h1
      rcases k1 with k | k | k | k | k
      all_goals
        go_wp2
        go_ret
        exact ⟨rfl, HB.out⟩
    · obtain rfl : r = false := by rw [← h1]; exact decide_eq_false hn
      have hq : (a.name == n) = false := by simpa using hn
      clear h1
      rcases k1 with k | k | k | k | k
      all_goals
        go_wp2
        go_ret
        exact ⟨rfl, HB.out⟩
  · have k10 : ¬ a.kind = 0 := fun h => k1 (.inl h)
    have k11 : ¬ a.kind = 1 := fun h => k1 (.inr (.inl h))
    have k12 : ¬ a.kind = 4 := fun h => k1 (.inr (.inr (.inl h)))
    have k13 : ¬ a.kind = 14 := fun h => k1 (.inr (.inr (.inr (.inl h))))
    have k14 : ¬ a.kind = 15 := fun h => k1 (.inr (.inr (.inr (.inr h))))
    by_cases k3 : a.kind = 3
    · have h1 : (decide (a.name = n) || decide (a.dst = n)) = r := by have := HR.out; unfold touches at this; rwa [if_neg k1, if_pos k3] at this
      clear k1
      by_cases hn : a.name = n
      · obtain rfl : r = true := by rw [← h1, decide_eq_true hn]; rfl
        clear h1
        go_wp2
        go_ret
        exact ⟨rfl, HB.out⟩
      · by_cases hd : a.dst = n
        · obtain rfl : r = true := by rw [← h1, decide_eq_true hd]; simp
          have hq : (a.name == n) = false := by simpa using hn
          clear h1
          go_wp2
          go_ret
          exact ⟨rfl, HB.out⟩
        · obtain rfl : r = false := by rw [← h1, decide_eq_false hn, decide_eq_false hd]; rfl
          have hq : (a.name == n) = false := by simpa using hn
          have hq2 : (a.dst == n) = false := by simpa using hd
          clear h1
          go_wp2
          go_ret
          exact ⟨rfl, HB.out⟩
    · have h1 : decide (a.kind = 16) = r := by have := HR.out; unfold touches at this; rwa [if_neg k1, if_neg k3] at this
      clear k1
      by_cases k16 : a.kind = 16
      · obtain rfl : r = true := by rw [← h1]; exact decide_eq_true k16
        clear h1
        go_wp2
        go_ret
        exact ⟨rfl, HB.out⟩
      · obtain rfl : r = false := by rw [← h1]; exact decide_eq_false k16
        clear h1
        go_wp2
        go_ret
        exact ⟨rfl, HB.out⟩
end Go.Proofs.Ytelgcmcnebncmaa.Dr
