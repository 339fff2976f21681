/- 'filled' of an act for which there is no room. -/
import Derived.Test.YtelgcmcnebncmaaFill
namespace Go.Proofs.Ytelgcmcnebncmaa.Dr
set_option linter.unusedVariables false
open Go.RowKit Go.Proofs Go.Deep Go.Proofs.Ytelgcmcnebncmaa.Ring

set_option maxRecDepth 100000 in
set_option maxHeartbeats 4000000 in
theorem filled_not {w : World} {g gb gd gc : Nat} {x : Av} (q : Nat) (hh : HandAt w g gb gd gc) (hf : ¬ (x.n ≤ 4096 ∧ x.nd ≤ 64 ∧ x.nu ≤ 64)) :
    Calls Try.prog 48 #[.pointer (some ⟨g, 0, none⟩), actV x.a x.A x.n x.c x.Ad x.nd x.cd x.Au x.nu x.cu, .int .u8 (q : Int)] w fun y w' =>
      y = .returned (.tuple #[actV x.a x.A x.n x.c x.Ad x.nd x.cd x.Au x.nu x.cu, .bool false]) ∧ Below w.heap.size w w' := by
  obtain ⟨a, A, n, c, Ad, nd, cd, Au, nu, cu⟩ := x
  obtain ⟨V, hV⟩ : ∃ V, w.heap.size = V := ⟨_, rfl⟩
  obtain ⟨n1, n2, n3, n4, n5, n6, n7, n8, n9, n10⟩ := hh.ne
  dsimp only at hf ⊢
  have HF := Lib.hid hf
  have HH := Lib.hid hh
  have HV := Lib.hid hV
  have HG := Lib.hid n7
  clear hh hV hf n1 n2 n3 n4 n5 n6 n7 n8 n9 n10
  go_enter Try.func48, Try.ntmps48
  go_upto_region 1 with (fail)
  obtain ⟨w1, hw1⟩ : ∃ w1, (w.alloc (.cells #[.int .i64 a.kind, encStr a.name, encStr a.dst, .int .i64 a.n, .slice A n c, .slice Ad nd cd, .slice Au nu cu] tAct)).alloc (.cells #[.int .i64 0, .string ⟨#[]⟩, .string ⟨#[]⟩, .int .i64 0, .slice none 0 0, .slice none 0 0, .slice none 0 0] tAct) = w1 := ⟨_, rfl⟩
  have hA1 : w1.heap[V]? = some (.cells #[.int .i64 a.kind, encStr a.name, encStr a.dst, .int .i64 a.n, .slice A n c, .slice Ad nd cd, .slice Au nu cu] tAct (0, 0)) := by
    rw [← hw1, ← HV.out]
    exact (heap_alloc_old _ _ (by simp)).trans (heap_alloc_new _ _)
  have hR1 : w1.heap[V + 1]? = some (.cells #[.int .i64 0, .string ⟨#[]⟩, .string ⟨#[]⟩, .int .i64 0, .slice none 0 0, .slice none 0 0, .slice none 0 0] tAct (0, 0)) := by
    rw [← hw1, ← HV.out]
    exact heap_alloc2_new _ _ _
  have hb1 : Below V w w1 := by
    rw [← hw1, ← HV.out]
    exact ((Below.refl _ _).alloc (Nat.le_refl _) _).alloc (by simp) _
  rw [hw1, HV.out]
  have hG1 := (hb1.block g (HV.out ▸ HG.out)).trans HH.out.head
  have d4 : w1.cell? ⟨V, 4, none⟩ = some (.slice A n c) := by rw [cell_of_row w1 V _ _ _ _ hA1]; rfl
  have d5 : w1.cell? ⟨V, 5, none⟩ = some (.slice Ad nd cd) := by rw [cell_of_row w1 V _ _ _ _ hA1]; rfl
  have d6 : w1.cell? ⟨V, 6, none⟩ = some (.slice Au nu cu) := by rw [cell_of_row w1 V _ _ _ _ hA1]; rfl
  have e0 : w1.cell? ⟨g, 0, none⟩ = some (.slice (some ⟨gb, 0, none⟩) 4096 4096) := by rw [cell_of_row w1 g _ _ _ _ hG1]; rfl
  have e1 : w1.cell? ⟨g, 1, none⟩ = some (.slice (some ⟨gd, 0, none⟩) 64 64) := by rw [cell_of_row w1 g _ _ _ _ hG1]; rfl
  have e2 : w1.cell? ⟨g, 2, none⟩ = some (.slice (some ⟨gc, 0, none⟩) 64 64) := by rw [cell_of_row w1 g _ _ _ _ hG1]; rfl
  have HA1 := Lib.hid hA1
  have HR1 := Lib.hid hR1
  have HB1 := Lib.hid hb1
  clear hA1 hR1 hb1 hG1 hw1
  by_cases f1 : n ≤ 4096
  · have f4 : (n : Int) ≤ 4096 := by omega
    have f7 : ¬ (4096 : Int) < (n : Int) := by omega
    by_cases f2 : nd ≤ 64
    · have f3 : ¬ nu ≤ 64 := fun h => HF.out ⟨f1, f2, h⟩
      have f5 : (nd : Int) ≤ 64 := by omega
      have f8 : ¬ (64 : Int) < (nd : Int) := by omega
      have f6 : ¬ (nu : Int) ≤ 64 := by omega
      have f9 : (64 : Int) < (nu : Int) := by omega
      go_region
      clear d4 d5 d6 e0 e1 e2
      go_upto_region 2 with (fail)
      have g0 : w1.drew.cell? ⟨V, 0, none⟩ = some (.int .i64 a.kind) := by rw [cell_of_row w1.drew V _ _ _ _ HA1.out]; rfl
      have g1 : w1.drew.cell? ⟨V, 1, none⟩ = some (encStr a.name) := by rw [cell_of_row w1.drew V _ _ _ _ HA1.out]; rfl
      have g2 : w1.drew.cell? ⟨V, 2, none⟩ = some (encStr a.dst) := by rw [cell_of_row w1.drew V _ _ _ _ HA1.out]; rfl
      have g3 : w1.drew.cell? ⟨V, 3, none⟩ = some (.int .i64 a.n) := by rw [cell_of_row w1.drew V _ _ _ _ HA1.out]; rfl
      have g4 : w1.drew.cell? ⟨V, 4, none⟩ = some (.slice A n c) := by rw [cell_of_row w1.drew V _ _ _ _ HA1.out]; rfl
      have g5 : w1.drew.cell? ⟨V, 5, none⟩ = some (.slice Ad nd cd) := by rw [cell_of_row w1.drew V _ _ _ _ HA1.out]; rfl
      have g6 : w1.drew.cell? ⟨V, 6, none⟩ = some (.slice Au nu cu) := by rw [cell_of_row w1.drew V _ _ _ _ HA1.out]; rfl
      have r0 : w1.drew.cell? ⟨V + 1, 0, none⟩ = some (.int .i64 0) := by rw [cell_of_row w1.drew (V + 1) _ _ _ _ HR1.out]; rfl
      have r1 : w1.drew.cell? ⟨V + 1, 1, none⟩ = some (.string ⟨#[]⟩) := by rw [cell_of_row w1.drew (V + 1) _ _ _ _ HR1.out]; rfl
      have r2 : w1.drew.cell? ⟨V + 1, 2, none⟩ = some (.string ⟨#[]⟩) := by rw [cell_of_row w1.drew (V + 1) _ _ _ _ HR1.out]; rfl
      have r3 : w1.drew.cell? ⟨V + 1, 3, none⟩ = some (.int .i64 0) := by rw [cell_of_row w1.drew (V + 1) _ _ _ _ HR1.out]; rfl
      have r4 : w1.drew.cell? ⟨V + 1, 4, none⟩ = some (.slice none 0 0) := by rw [cell_of_row w1.drew (V + 1) _ _ _ _ HR1.out]; rfl
      have r5 : w1.drew.cell? ⟨V + 1, 5, none⟩ = some (.slice none 0 0) := by rw [cell_of_row w1.drew (V + 1) _ _ _ _ HR1.out]; rfl
      have r6 : w1.drew.cell? ⟨V + 1, 6, none⟩ = some (.slice none 0 0) := by rw [cell_of_row w1.drew (V + 1) _ _ _ _ HR1.out]; rfl
      have y0 : w1.drew.frozen? ⟨V + 1, 0, none⟩ = false := unfrozen HR1.out 0
      have y1 : w1.drew.frozen? ⟨V + 1, 1, none⟩ = false := unfrozen HR1.out 1
      have y2 : w1.drew.frozen? ⟨V + 1, 2, none⟩ = false := unfrozen HR1.out 2
      have y3 : w1.drew.frozen? ⟨V + 1, 3, none⟩ = false := unfrozen HR1.out 3
      have y4 : w1.drew.frozen? ⟨V + 1, 4, none⟩ = false := unfrozen HR1.out 4
      have y5 : w1.drew.frozen? ⟨V + 1, 5, none⟩ = false := unfrozen HR1.out 5
      have y6 : w1.drew.frozen? ⟨V + 1, 6, none⟩ = false := unfrozen HR1.out 6
      obtain ⟨wd, hwd⟩ : ∃ wd, w1.drew = wd := ⟨_, rfl⟩
      have hb : Below V w wd := hwd ▸ HB1.out.drew
      have HR := Lib.hid (show wd.heap[V + 1]? = some (.cells #[.int .i64 0, .string ⟨#[]⟩, .string ⟨#[]⟩, .int .i64 0, .slice none 0 0, .slice none 0 0, .slice none 0 0] tAct (0, 0)) by rw [← hwd]; exact HR1.out)
      rw [hwd] at g0 g1 g2 g3 g4 g5 g6 r0 r1 r2 r3 r4 r5 r6 y0 y1 y2 y3 y4 y5 y6 ⊢
      have HB := Lib.hid hb
      clear hb hwd
      go_wp2
      try simp only [Exit.inBlock, Exit.then]
      have hR9 := heap_same (heap_same (heap_same (heap_same (heap_same (heap_same (heap_same (HR.out) (i := 0) (.int .i64 a.kind)) (i := 1) (encStr a.name)) (i := 2) (encStr a.dst)) (i := 3) (.int .i64 a.n)) (i := 4) (.slice A n c)) (i := 5) (.slice Ad nd cd)) (i := 6) (.slice Au nu cu)
      have hk9 := ((((((((Kept.refl wd (fun k => k = V + 1)).set (p := ⟨V + 1, 0, none⟩) rfl (.int .i64 a.kind)).set (p := ⟨V + 1, 1, none⟩) rfl (encStr a.name)).set (p := ⟨V + 1, 2, none⟩) rfl (encStr a.dst)).set (p := ⟨V + 1, 3, none⟩) rfl (.int .i64 a.n)).set (p := ⟨V + 1, 4, none⟩) rfl (.slice A n c)).set (p := ⟨V + 1, 5, none⟩) rfl (.slice Ad nd cd)).set (p := ⟨V + 1, 6, none⟩) rfl (.slice Au nu cu))
      refine bodyPost_ret (results_row_tmp Try.results48 _ _ (V + 1) tAct _ _ _ rfl hR9 Try.underlying41 rfl (by kernel_rfl)) rfl ?_
      rw [HV.out]
      exact ⟨rfl, HB.out.trans (hk9.to_below (by have := (Array.getElem?_eq_some_iff.1 HR.out).1; omega) (fun k hk => by omega))⟩
    · have f5 : ¬ (nd : Int) ≤ 64 := by omega
      have f8 : (64 : Int) < (nd : Int) := by omega
      go_region
      clear d4 d5 d6 e0 e1 e2
      go_upto_region 2 with (fail)
      have g0 : w1.drew.cell? ⟨V, 0, none⟩ = some (.int .i64 a.kind) := by rw [cell_of_row w1.drew V _ _ _ _ HA1.out]; rfl
      have g1 : w1.drew.cell? ⟨V, 1, none⟩ = some (encStr a.name) := by rw [cell_of_row w1.drew V _ _ _ _ HA1.out]; rfl
      have g2 : w1.drew.cell? ⟨V, 2, none⟩ = some (encStr a.dst) := by rw [cell_of_row w1.drew V _ _ _ _ HA1.out]; rfl
      have g3 : w1.drew.cell? ⟨V, 3, none⟩ = some (.int .i64 a.n) := by rw [cell_of_row w1.drew V _ _ _ _ HA1.out]; rfl
      have g4 : w1.drew.cell? ⟨V, 4, none⟩ = some (.slice A n c) := by rw [cell_of_row w1.drew V _ _ _ _ HA1.out]; rfl
      have g5 : w1.drew.cell? ⟨V, 5, none⟩ = some (.slice Ad nd cd) := by rw [cell_of_row w1.drew V _ _ _ _ HA1.out]; rfl
      have g6 : w1.drew.cell? ⟨V, 6, none⟩ = some (.slice Au nu cu) := by rw [cell_of_row w1.drew V _ _ _ _ HA1.out]; rfl
      have r0 : w1.drew.cell? ⟨V + 1, 0, none⟩ = some (.int .i64 0) := by rw [cell_of_row w1.drew (V + 1) _ _ _ _ HR1.out]; rfl
      have r1 : w1.drew.cell? ⟨V + 1, 1, none⟩ = some (.string ⟨#[]⟩) := by rw [cell_of_row w1.drew (V + 1) _ _ _ _ HR1.out]; rfl
      have r2 : w1.drew.cell? ⟨V + 1, 2, none⟩ = some (.string ⟨#[]⟩) := by rw [cell_of_row w1.drew (V + 1) _ _ _ _ HR1.out]; rfl
      have r3 : w1.drew.cell? ⟨V + 1, 3, none⟩ = some (.int .i64 0) := by rw [cell_of_row w1.drew (V + 1) _ _ _ _ HR1.out]; rfl
      have r4 : w1.drew.cell? ⟨V + 1, 4, none⟩ = some (.slice none 0 0) := by rw [cell_of_row w1.drew (V + 1) _ _ _ _ HR1.out]; rfl
      have r5 : w1.drew.cell? ⟨V + 1, 5, none⟩ = some (.slice none 0 0) := by rw [cell_of_row w1.drew (V + 1) _ _ _ _ HR1.out]; rfl
      have r6 : w1.drew.cell? ⟨V + 1, 6, none⟩ = some (.slice none 0 0) := by rw [cell_of_row w1.drew (V + 1) _ _ _ _ HR1.out]; rfl
      have y0 : w1.drew.frozen? ⟨V + 1, 0, none⟩ = false := unfrozen HR1.out 0
      have y1 : w1.drew.frozen? ⟨V + 1, 1, none⟩ = false := unfrozen HR1.out 1
      have y2 : w1.drew.frozen? ⟨V + 1, 2, none⟩ = false := unfrozen HR1.out 2
      have y3 : w1.drew.frozen? ⟨V + 1, 3, none⟩ = false := unfrozen HR1.out 3
      have y4 : w1.drew.frozen? ⟨V + 1, 4, none⟩ = false := unfrozen HR1.out 4
      have y5 : w1.drew.frozen? ⟨V + 1, 5, none⟩ = false := unfrozen HR1.out 5
      have y6 : w1.drew.frozen? ⟨V + 1, 6, none⟩ = false := unfrozen HR1.out 6
      obtain ⟨wd, hwd⟩ : ∃ wd, w1.drew = wd := ⟨_, rfl⟩
      have hb : Below V w wd := hwd ▸ HB1.out.drew
      have HR := Lib.hid (show wd.heap[V + 1]? = some (.cells #[.int .i64 0, .string ⟨#[]⟩, .string ⟨#[]⟩, .int .i64 0, .slice none 0 0, .slice none 0 0, .slice none 0 0] tAct (0, 0)) by rw [← hwd]; exact HR1.out)
      rw [hwd] at g0 g1 g2 g3 g4 g5 g6 r0 r1 r2 r3 r4 r5 r6 y0 y1 y2 y3 y4 y5 y6 ⊢
      have HB := Lib.hid hb
      clear hb hwd
      go_wp2
      try simp only [Exit.inBlock, Exit.then]
      have hR9 := heap_same (heap_same (heap_same (heap_same (heap_same (heap_same (heap_same (HR.out) (i := 0) (.int .i64 a.kind)) (i := 1) (encStr a.name)) (i := 2) (encStr a.dst)) (i := 3) (.int .i64 a.n)) (i := 4) (.slice A n c)) (i := 5) (.slice Ad nd cd)) (i := 6) (.slice Au nu cu)
      have hk9 := ((((((((Kept.refl wd (fun k => k = V + 1)).set (p := ⟨V + 1, 0, none⟩) rfl (.int .i64 a.kind)).set (p := ⟨V + 1, 1, none⟩) rfl (encStr a.name)).set (p := ⟨V + 1, 2, none⟩) rfl (encStr a.dst)).set (p := ⟨V + 1, 3, none⟩) rfl (.int .i64 a.n)).set (p := ⟨V + 1, 4, none⟩) rfl (.slice A n c)).set (p := ⟨V + 1, 5, none⟩) rfl (.slice Ad nd cd)).set (p := ⟨V + 1, 6, none⟩) rfl (.slice Au nu cu))
      refine bodyPost_ret (results_row_tmp Try.results48 _ _ (V + 1) tAct _ _ _ rfl hR9 Try.underlying41 rfl (by kernel_rfl)) rfl ?_
      rw [HV.out]
      exact ⟨rfl, HB.out.trans (hk9.to_below (by have := (Array.getElem?_eq_some_iff.1 HR.out).1; omega) (fun k hk => by omega))⟩
  · have f4 : ¬ (n : Int) ≤ 4096 := by omega
    have f7 : (4096 : Int) < (n : Int) := by omega
    go_region
    clear d4 d5 d6 e0 e1 e2
    go_upto_region 2 with (fail)
    have g0 : w1.drew.cell? ⟨V, 0, none⟩ = some (.int .i64 a.kind) := by rw [cell_of_row w1.drew V _ _ _ _ HA1.out]; rfl
    have g1 : w1.drew.cell? ⟨V, 1, none⟩ = some (encStr a.name) := by rw [cell_of_row w1.drew V _ _ _ _ HA1.out]; rfl
    have g2 : w1.drew.cell? ⟨V, 2, none⟩ = some (encStr a.dst) := by rw [cell_of_row w1.drew V _ _ _ _ HA1.out]; rfl
    have g3 : w1.drew.cell? ⟨V, 3, none⟩ = some (.int .i64 a.n) := by rw [cell_of_row w1.drew V _ _ _ _ HA1.out]; rfl
    have g4 : w1.drew.cell? ⟨V, 4, none⟩ = some (.slice A n c) := by rw [cell_of_row w1.drew V _ _ _ _ HA1.out]; rfl
    have g5 : w1.drew.cell? ⟨V, 5, none⟩ = some (.slice Ad nd cd) := by rw [cell_of_row w1.drew V _ _ _ _ HA1.out]; rfl
    have g6 : w1.drew.cell? ⟨V, 6, none⟩ = some (.slice Au nu cu) := by rw [cell_of_row w1.drew V _ _ _ _ HA1.out]; rfl
    have r0 : w1.drew.cell? ⟨V + 1, 0, none⟩ = some (.int .i64 0) := by rw [cell_of_row w1.drew (V + 1) _ _ _ _ HR1.out]; rfl
    have r1 : w1.drew.cell? ⟨V + 1, 1, none⟩ = some (.string ⟨#[]⟩) := by rw [cell_of_row w1.drew (V + 1) _ _ _ _ HR1.out]; rfl
    have r2 : w1.drew.cell? ⟨V + 1, 2, none⟩ = some (.string ⟨#[]⟩) := by rw [cell_of_row w1.drew (V + 1) _ _ _ _ HR1.out]; rfl
    have r3 : w1.drew.cell? ⟨V + 1, 3, none⟩ = some (.int .i64 0) := by rw [cell_of_row w1.drew (V + 1) _ _ _ _ HR1.out]; rfl
    have r4 : w1.drew.cell? ⟨V + 1, 4, none⟩ = some (.slice none 0 0) := by rw [cell_of_row w1.drew (V + 1) _ _ _ _ HR1.out]; rfl
    have r5 : w1.drew.cell? ⟨V + 1, 5, none⟩ = some (.slice none 0 0) := by rw [cell_of_row w1.drew (V + 1) _ _ _ _ HR1.out]; rfl
    have r6 : w1.drew.cell? ⟨V + 1, 6, none⟩ = some (.slice none 0 0) := by rw [cell_of_row w1.drew (V + 1) _ _ _ _ HR1.out]; rfl
    have y0 : w1.drew.frozen? ⟨V + 1, 0, none⟩ = false := unfrozen HR1.out 0
    have y1 : w1.drew.frozen? ⟨V + 1, 1, none⟩ = false := unfrozen HR1.out 1
    have y2 : w1.drew.frozen? ⟨V + 1, 2, none⟩ = false := unfrozen HR1.out 2
    have y3 : w1.drew.frozen? ⟨V + 1, 3, none⟩ = false := unfrozen HR1.out 3
    have y4 : w1.drew.frozen? ⟨V + 1, 4, none⟩ = false := unfrozen HR1.out 4
    have y5 : w1.drew.frozen? ⟨V + 1, 5, none⟩ = false := unfrozen HR1.out 5
    have y6 : w1.drew.frozen? ⟨V + 1, 6, none⟩ = false := unfrozen HR1.out 6
    obtain ⟨wd, hwd⟩ : ∃ wd, w1.drew = wd := ⟨_, rfl⟩
    have hb : Below V w wd := hwd ▸ HB1.out.drew
    have HR := Lib.hid (show wd.heap[V + 1]? = some (.cells #[.int .i64 0, .string ⟨#[]⟩, .string ⟨#[]⟩, .int .i64 0, .slice none 0 0, .slice none 0 0, .slice none 0 0] tAct (0, 0)) by rw [← hwd]; exact HR1.out)
    rw [hwd] at g0 g1 g2 g3 g4 g5 g6 r0 r1 r2 r3 r4 r5 r6 y0 y1 y2 y3 y4 y5 y6 ⊢
    have HB := Lib.hid hb
    clear hb hwd
    go_wp2
    try simp only [Exit.inBlock, Exit.then]
    have hR9 := heap_same (heap_same (heap_same (heap_same (heap_same (heap_same (heap_same (HR.out) (i := 0) (.int .i64 a.kind)) (i := 1) (encStr a.name)) (i := 2) (encStr a.dst)) (i := 3) (.int .i64 a.n)) (i := 4) (.slice A n c)) (i := 5) (.slice Ad nd cd)) (i := 6) (.slice Au nu cu)
    have hk9 := ((((((((Kept.refl wd (fun k => k = V + 1)).set (p := ⟨V + 1, 0, none⟩) rfl (.int .i64 a.kind)).set (p := ⟨V + 1, 1, none⟩) rfl (encStr a.name)).set (p := ⟨V + 1, 2, none⟩) rfl (encStr a.dst)).set (p := ⟨V + 1, 3, none⟩) rfl (.int .i64 a.n)).set (p := ⟨V + 1, 4, none⟩) rfl (.slice A n c)).set (p := ⟨V + 1, 5, none⟩) rfl (.slice Ad nd cd)).set (p := ⟨V + 1, 6, none⟩) rfl (.slice Au nu cu))
    refine bodyPost_ret (results_row_tmp Try.results48 _ _ (V + 1) tAct _ _ _ rfl hR9 Try.underlying41 rfl (by kernel_rfl)) rfl ?_
    rw [HV.out]
    exact ⟨rfl, HB.out.trans (hk9.to_below (by have := (Array.getElem?_eq_some_iff.1 HR.out).1; omega) (fun k hk => by omega))⟩
end Go.Proofs.Ytelgcmcnebncmaa.Dr
