/- XRf13: merged by tools/merge.py. -/
import Derived.Test.YtelgcmcnebncmaaQ32
namespace Go.Proofs.Ytelgcmcnebncmaa.Dr
set_option linter.unusedVariables false
open Go.RowKit Go.Proofs Go.Proofs.Ytelgcmcnebncmaa.Ring

section
variable (nm nm2 : Bs) (A A2 : Option Addr) (n c n2 c2 : Nat) (k : Int) (w : World)
set_option maxRecDepth 100000 in
theorem rnil_at : Calls Try.prog 101 #[.pointer none, encStr nm] w fun x w' => x = .returned (.tuple #[.int .i64 (-1), .int .i64 1]) ∧ Below w.heap.size w w' := by
  go_enter Try.func101, Try.ntmps101
  go_wp2
  refine bodyPost_ret (v := .tuple #[.int .i64 (-1), .int .i64 1]) (by simp [results, Try.results101, go_sem]) rfl ?_
  exact ⟨rfl, Below.refl _ _⟩
set_option maxRecDepth 100000 in
theorem nil_find : Calls Try.prog 90 #[.pointer none, encStr nm] w fun x w' => x = .returned (.tuple #[.pointer none, .int .i64 1]) ∧ Below w.heap.size w w' := by
  go_enter Try.func90, Try.ntmps90
  go_wp2
  refine bodyPost_ret (v := .tuple #[.pointer none, .int .i64 1]) (by simp [results, Try.results90, go_sem]) rfl ?_
  exact ⟨rfl, Below.refl _ _⟩
set_option maxRecDepth 100000 in
theorem rnil_Create : Calls Try.prog 61 #[.pointer none, encStr nm] w fun x w' => x = .returned (.int .i64 1) ∧ Below w.heap.size w w' := by
  go_enter Try.func61, Try.ntmps61
  go_wp2
  go_ret
  first | exact ⟨rfl, Below.refl _ _⟩ | exact ⟨rfl, (Below.refl _ _).drew⟩ | exact ⟨rfl, hb1⟩ | exact ⟨rfl, (Below.refl _ _).alloc (Nat.le_refl _) _⟩ | exact ⟨rfl, bch (Below.refl _ _).drew hb1⟩
set_option maxRecDepth 100000 in
theorem rnil_Append : Calls Try.prog 62 #[.pointer none, encStr nm, .slice A n c] w fun x w' => x = .returned (.int .i64 1) ∧ Below w.heap.size w w' := by
  go_enter Try.func62, Try.ntmps62
  go_wp2_with (go_at_call 101; refine (rnil_at nm _).mono ?_; rintro x w1 ⟨rfl, hb1⟩)
  go_ret
  first | exact ⟨rfl, Below.refl _ _⟩ | exact ⟨rfl, (Below.refl _ _).drew⟩ | exact ⟨rfl, hb1⟩ | exact ⟨rfl, (Below.refl _ _).alloc (Nat.le_refl _) _⟩ | exact ⟨rfl, bch (Below.refl _ _).drew hb1⟩
set_option maxRecDepth 100000 in
theorem rnil_Sync : Calls Try.prog 63 #[.pointer none, encStr nm] w fun x w' => x = .returned (.int .i64 1) ∧ Below w.heap.size w w' := by
  go_enter Try.func63, Try.ntmps63
  go_wp2_with (go_at_call 101; refine (rnil_at nm _).mono ?_; rintro x w1 ⟨rfl, hb1⟩)
  go_ret
  first | exact ⟨rfl, Below.refl _ _⟩ | exact ⟨rfl, (Below.refl _ _).drew⟩ | exact ⟨rfl, hb1⟩ | exact ⟨rfl, (Below.refl _ _).alloc (Nat.le_refl _) _⟩ | exact ⟨rfl, bch (Below.refl _ _).drew hb1⟩
set_option maxRecDepth 100000 in
theorem rnil_Rename : Calls Try.prog 64 #[.pointer none, encStr nm, encStr nm2] w fun x w' => x = .returned (.int .i64 1) ∧ Below w.heap.size w w' := by
  go_enter Try.func64, Try.ntmps64
  go_wp2
  go_ret
  first | exact ⟨rfl, Below.refl _ _⟩ | exact ⟨rfl, (Below.refl _ _).drew⟩ | exact ⟨rfl, hb1⟩ | exact ⟨rfl, (Below.refl _ _).alloc (Nat.le_refl _) _⟩ | exact ⟨rfl, bch (Below.refl _ _).drew hb1⟩
set_option maxRecDepth 100000 in
theorem rnil_Remove : Calls Try.prog 65 #[.pointer none, encStr nm] w fun x w' => x = .returned (.int .i64 1) ∧ Below w.heap.size w w' := by
  go_enter Try.func65, Try.ntmps65
  go_wp2_with (go_at_call 101; refine (rnil_at nm _).mono ?_; rintro x w1 ⟨rfl, hb1⟩)
  go_ret
  first | exact ⟨rfl, Below.refl _ _⟩ | exact ⟨rfl, (Below.refl _ _).drew⟩ | exact ⟨rfl, hb1⟩ | exact ⟨rfl, (Below.refl _ _).alloc (Nat.le_refl _) _⟩ | exact ⟨rfl, bch (Below.refl _ _).drew hb1⟩
set_option maxRecDepth 100000 in
theorem rnil_SyncDir : Calls Try.prog 66 #[.pointer none] w fun x w' => x = .returned (.int .i64 1) ∧ Below w.heap.size w w' := by
  go_enter Try.func66, Try.ntmps66
  go_wp2
  go_ret
  first | exact ⟨rfl, Below.refl _ _⟩ | exact ⟨rfl, (Below.refl _ _).drew⟩ | exact ⟨rfl, hb1⟩ | exact ⟨rfl, (Below.refl _ _).alloc (Nat.le_refl _) _⟩ | exact ⟨rfl, bch (Below.refl _ _).drew hb1⟩
set_option maxRecDepth 100000 in
theorem rnil_Read : Calls Try.prog 67 #[.pointer none, encStr nm] w fun x w' => x = .returned (.tuple #[.slice none 0 0, .int .i64 1]) ∧ Below w.heap.size w w' := by
  go_enter Try.func67, Try.ntmps67
  go_wp2_with (go_at_call 101; refine (rnil_at nm _).mono ?_; rintro x w1 ⟨rfl, hb1⟩)
  refine bodyPost_ret (v := .tuple #[.slice none 0 0, .int .i64 1]) (by simp [results, Try.results67, go_sem]) rfl ?_
  first | exact ⟨rfl, Below.refl _ _⟩ | exact ⟨rfl, hb1⟩
set_option maxRecDepth 100000 in
theorem rnil_List : Calls Try.prog 68 #[.pointer none] w fun x w' => x = .returned (.tuple #[.slice none 0 0, .int .i64 1]) ∧ Below w.heap.size w w' := by
  go_enter Try.func68, Try.ntmps68
  go_wp2
  refine bodyPost_ret (v := .tuple #[.slice none 0 0, .int .i64 1]) (by simp [results, Try.results68, go_sem]) rfl ?_
  first | exact ⟨rfl, Below.refl _ _⟩ | exact ⟨rfl, hb1⟩
set_option maxRecDepth 100000 in
theorem rnil_Used : Calls Try.prog 24 #[.pointer none] w fun x w' => x = .returned (.int .i64 0) ∧ Below w.heap.size w w' := by
  go_enter Try.func24, Try.ntmps24
  go_wp2
  go_ret
  first | exact ⟨rfl, Below.refl _ _⟩ | exact ⟨rfl, (Below.refl _ _).drew⟩ | exact ⟨rfl, hb1⟩ | exact ⟨rfl, (Below.refl _ _).alloc (Nat.le_refl _) _⟩ | exact ⟨rfl, bch (Below.refl _ _).drew hb1⟩
set_option maxRecDepth 100000 in
theorem rnil_Pending : Calls Try.prog 69 #[.pointer none] w fun x w' => x = .returned (.int .i64 0) ∧ Below w.heap.size w w' := by
  go_enter Try.func69, Try.ntmps69
  go_wp2
  go_ret
  first | exact ⟨rfl, Below.refl _ _⟩ | exact ⟨rfl, (Below.refl _ _).drew⟩ | exact ⟨rfl, hb1⟩ | exact ⟨rfl, (Below.refl _ _).alloc (Nat.le_refl _) _⟩ | exact ⟨rfl, bch (Below.refl _ _).drew hb1⟩
set_option maxRecDepth 100000 in
theorem rnil_Loose : Calls Try.prog 70 #[.pointer none, encStr nm] w fun x w' => x = .returned (.tuple #[.int .i64 0, .int .i64 1]) ∧ Below w.heap.size w w' := by
  go_enter Try.func70, Try.ntmps70
  go_wp2_with (go_at_call 101; refine (rnil_at nm _).mono ?_; rintro x w1 ⟨rfl, hb1⟩)
  refine bodyPost_ret (v := .tuple #[.int .i64 0, .int .i64 1]) (by simp [results, Try.results70, go_sem]) rfl ?_
  first | exact ⟨rfl, Below.refl _ _⟩ | exact ⟨rfl, hb1⟩
set_option maxRecDepth 100000 in
theorem rnil_Image : Calls Try.prog 17 #[.pointer none] w fun x w' => x = .returned (.slice none 0 0) ∧ Below w.heap.size w w' := by
  go_enter Try.func17, Try.ntmps17
  go_wp2
  go_ret
  first | exact ⟨rfl, Below.refl _ _⟩ | exact ⟨rfl, (Below.refl _ _).drew⟩ | exact ⟨rfl, hb1⟩ | exact ⟨rfl, (Below.refl _ _).alloc (Nat.le_refl _) _⟩ | exact ⟨rfl, bch (Below.refl _ _).drew hb1⟩
set_option maxRecDepth 100000 in
theorem rnil_Safe : Calls Try.prog 54 #[.pointer none] w fun x w' => x = .returned (.slice none 0 0) ∧ Below w.heap.size w w' := by
  go_enter Try.func54, Try.ntmps54
  go_wp2
  go_ret
  first | exact ⟨rfl, Below.refl _ _⟩ | exact ⟨rfl, (Below.refl _ _).drew⟩ | exact ⟨rfl, hb1⟩ | exact ⟨rfl, (Below.refl _ _).alloc (Nat.le_refl _) _⟩ | exact ⟨rfl, bch (Below.refl _ _).drew hb1⟩
set_option maxRecDepth 100000 in
theorem rnil_Crash : Calls Try.prog 15 #[.pointer none, .agg #[.slice A n c, .slice A2 n2 c2]] w fun x w' => x = .returned (.int .i64 1) ∧ Below w.heap.size w w' := by
  go_enter Try.func15, Try.ntmps15
  go_wp2
  go_ret
  first | exact ⟨rfl, Below.refl _ _⟩ | exact ⟨rfl, (Below.refl _ _).drew⟩ | exact ⟨rfl, hb1⟩ | exact ⟨rfl, (Below.refl _ _).alloc (Nat.le_refl _) _⟩ | exact ⟨rfl, bch (Below.refl _ _).drew hb1⟩
set_option maxRecDepth 100000 in
theorem rnil_Flip : Calls Try.prog 71 #[.pointer none, encStr nm, .int .i64 k, .slice A n c] w fun x w' => x = .returned (.int .i64 1) ∧ Below w.heap.size w w' := by
  go_enter Try.func71, Try.ntmps71
  go_wp2
  go_ret
  first | exact ⟨rfl, Below.refl _ _⟩ | exact ⟨rfl, (Below.refl _ _).drew⟩ | exact ⟨rfl, hb1⟩ | exact ⟨rfl, (Below.refl _ _).alloc (Nat.le_refl _) _⟩ | exact ⟨rfl, bch (Below.refl _ _).drew hb1⟩
set_option maxRecDepth 100000 in
theorem rnil_Cut : Calls Try.prog 72 #[.pointer none, encStr nm, .int .i64 k] w fun x w' => x = .returned (.int .i64 1) ∧ Below w.heap.size w w' := by
  go_enter Try.func72, Try.ntmps72
  go_wp2
  go_ret
  first | exact ⟨rfl, Below.refl _ _⟩ | exact ⟨rfl, (Below.refl _ _).drew⟩ | exact ⟨rfl, hb1⟩ | exact ⟨rfl, (Below.refl _ _).alloc (Nat.le_refl _) _⟩ | exact ⟨rfl, bch (Below.refl _ _).drew hb1⟩
set_option maxRecDepth 100000 in
theorem rnil_Wipe : Calls Try.prog 73 #[.pointer none] w fun x w' => x = .returned (.int .i64 1) ∧ Below w.heap.size w w' := by
  go_enter Try.func73, Try.ntmps73
  go_wp2
  go_ret
  first | exact ⟨rfl, Below.refl _ _⟩ | exact ⟨rfl, (Below.refl _ _).drew⟩ | exact ⟨rfl, hb1⟩ | exact ⟨rfl, (Below.refl _ _).alloc (Nat.le_refl _) _⟩ | exact ⟨rfl, bch (Below.refl _ _).drew hb1⟩
set_option maxRecDepth 100000 in
theorem nil_Create : Calls Try.prog 28 #[.pointer none, encStr nm] w fun x w' => x = .returned (.int .i64 1) ∧ Below w.heap.size w w' := by
  go_enter Try.func28, Try.ntmps28
  go_wp2
  go_ret
  first | exact ⟨rfl, Below.refl _ _⟩ | exact ⟨rfl, (Below.refl _ _).drew⟩ | exact ⟨rfl, hb1⟩ | exact ⟨rfl, (Below.refl _ _).alloc (Nat.le_refl _) _⟩ | exact ⟨rfl, bch (Below.refl _ _).drew hb1⟩
set_option maxRecDepth 100000 in
theorem nil_Append : Calls Try.prog 29 #[.pointer none, encStr nm, .slice A n c] w fun x w' => x = .returned (.int .i64 1) ∧ Below w.heap.size w w' := by
  go_enter Try.func29, Try.ntmps29
  go_wp2_with (go_at_call 90; refine (nil_find nm _).mono ?_; rintro x w1 ⟨rfl, hb1⟩)
  go_ret
  first | exact ⟨rfl, Below.refl _ _⟩ | exact ⟨rfl, (Below.refl _ _).drew⟩ | exact ⟨rfl, hb1⟩ | exact ⟨rfl, (Below.refl _ _).alloc (Nat.le_refl _) _⟩ | exact ⟨rfl, bch (Below.refl _ _).drew hb1⟩
set_option maxRecDepth 100000 in
theorem nil_Sync : Calls Try.prog 30 #[.pointer none, encStr nm] w fun x w' => x = .returned (.int .i64 1) ∧ Below w.heap.size w w' := by
  go_enter Try.func30, Try.ntmps30
  go_wp2_with (go_at_call 90; refine (nil_find nm _).mono ?_; rintro x w1 ⟨rfl, hb1⟩)
  go_ret
  first | exact ⟨rfl, Below.refl _ _⟩ | exact ⟨rfl, (Below.refl _ _).drew⟩ | exact ⟨rfl, hb1⟩ | exact ⟨rfl, (Below.refl _ _).alloc (Nat.le_refl _) _⟩ | exact ⟨rfl, bch (Below.refl _ _).drew hb1⟩
set_option maxRecDepth 100000 in
theorem nil_Rename : Calls Try.prog 75 #[.pointer none, encStr nm, encStr nm2] w fun x w' => x = .returned (.int .i64 1) ∧ Below w.heap.size w w' := by
  go_enter Try.func75, Try.ntmps75
  go_wp2_with (go_at_call 90; refine (nil_find nm _).mono ?_; rintro x w1 ⟨rfl, hb1⟩)
  go_ret
  first | exact ⟨rfl, Below.refl _ _⟩ | exact ⟨rfl, (Below.refl _ _).drew⟩ | exact ⟨rfl, hb1⟩ | exact ⟨rfl, (Below.refl _ _).alloc (Nat.le_refl _) _⟩ | exact ⟨rfl, bch (Below.refl _ _).drew hb1⟩
set_option maxRecDepth 100000 in
theorem nil_Remove : Calls Try.prog 76 #[.pointer none, encStr nm] w fun x w' => x = .returned (.int .i64 1) ∧ Below w.heap.size w w' := by
  go_enter Try.func76, Try.ntmps76
  go_wp2_with (go_at_call 90; refine (nil_find nm _).mono ?_; rintro x w1 ⟨rfl, hb1⟩)
  go_ret
  first | exact ⟨rfl, Below.refl _ _⟩ | exact ⟨rfl, (Below.refl _ _).drew⟩ | exact ⟨rfl, hb1⟩ | exact ⟨rfl, (Below.refl _ _).alloc (Nat.le_refl _) _⟩ | exact ⟨rfl, bch (Below.refl _ _).drew hb1⟩
set_option maxRecDepth 100000 in
theorem nil_SyncDir : Calls Try.prog 31 #[.pointer none] w fun x w' => x = .returned (.int .i64 1) ∧ Below w.heap.size w w' := by
  go_enter Try.func31, Try.ntmps31
  go_wp2
  go_ret
  first | exact ⟨rfl, Below.refl _ _⟩ | exact ⟨rfl, (Below.refl _ _).drew⟩ | exact ⟨rfl, hb1⟩ | exact ⟨rfl, (Below.refl _ _).alloc (Nat.le_refl _) _⟩ | exact ⟨rfl, bch (Below.refl _ _).drew hb1⟩
set_option maxRecDepth 100000 in
theorem nil_Read : Calls Try.prog 77 #[.pointer none, encStr nm] w fun x w' => x = .returned (.tuple #[.slice none 0 0, .int .i64 1]) ∧ Below w.heap.size w w' := by
  go_enter Try.func77, Try.ntmps77
  go_wp2_with (go_at_call 90; refine (nil_find nm _).mono ?_; rintro x w1 ⟨rfl, hb1⟩)
  refine bodyPost_ret (v := .tuple #[.slice none 0 0, .int .i64 1]) (by simp [results, Try.results77, go_sem]) rfl ?_
  first | exact ⟨rfl, Below.refl _ _⟩ | exact ⟨rfl, hb1⟩
set_option maxRecDepth 100000 in
theorem nil_List : Calls Try.prog 78 #[.pointer none] w fun x w' => x = .returned (.tuple #[.slice none 0 0, .int .i64 1]) ∧ Below w.heap.size w w' := by
  go_enter Try.func78, Try.ntmps78
  go_wp2
  refine bodyPost_ret (v := .tuple #[.slice none 0 0, .int .i64 1]) (by simp [results, Try.results78, go_sem]) rfl ?_
  first | exact ⟨rfl, Below.refl _ _⟩ | exact ⟨rfl, hb1⟩
set_option maxRecDepth 100000 in
theorem nil_Used : Calls Try.prog 23 #[.pointer none] w fun x w' => x = .returned (.int .i64 0) ∧ Below w.heap.size w w' := by
  go_enter Try.func23, Try.ntmps23
  go_wp2
  go_ret
  first | exact ⟨rfl, Below.refl _ _⟩ | exact ⟨rfl, (Below.refl _ _).drew⟩ | exact ⟨rfl, hb1⟩ | exact ⟨rfl, (Below.refl _ _).alloc (Nat.le_refl _) _⟩ | exact ⟨rfl, bch (Below.refl _ _).drew hb1⟩
set_option maxRecDepth 100000 in
theorem nil_Pending : Calls Try.prog 22 #[.pointer none] w fun x w' => x = .returned (.int .i64 0) ∧ Below w.heap.size w w' := by
  go_enter Try.func22, Try.ntmps22
  go_wp2
  go_ret
  first | exact ⟨rfl, Below.refl _ _⟩ | exact ⟨rfl, (Below.refl _ _).drew⟩ | exact ⟨rfl, hb1⟩ | exact ⟨rfl, (Below.refl _ _).alloc (Nat.le_refl _) _⟩ | exact ⟨rfl, bch (Below.refl _ _).drew hb1⟩
set_option maxRecDepth 100000 in
theorem nil_Loose : Calls Try.prog 34 #[.pointer none, encStr nm] w fun x w' => x = .returned (.tuple #[.int .i64 0, .int .i64 1]) ∧ Below w.heap.size w w' := by
  go_enter Try.func34, Try.ntmps34
  go_wp2_with (go_at_call 90; refine (nil_find nm _).mono ?_; rintro x w1 ⟨rfl, hb1⟩)
  refine bodyPost_ret (v := .tuple #[.int .i64 0, .int .i64 1]) (by simp [results, Try.results34, go_sem]) rfl ?_
  first | exact ⟨rfl, Below.refl _ _⟩ | exact ⟨rfl, hb1⟩
set_option maxRecDepth 100000 in
theorem nil_Image : Calls Try.prog 20 #[.pointer none] w fun x w' => x = .returned (.slice none 0 0) ∧ Below w.heap.size w w' := by
  go_enter Try.func20, Try.ntmps20
  go_wp2
  go_ret
  first | exact ⟨rfl, Below.refl _ _⟩ | exact ⟨rfl, (Below.refl _ _).drew⟩ | exact ⟨rfl, hb1⟩ | exact ⟨rfl, (Below.refl _ _).alloc (Nat.le_refl _) _⟩ | exact ⟨rfl, bch (Below.refl _ _).drew hb1⟩
set_option maxRecDepth 100000 in
theorem nil_Safe : Calls Try.prog 21 #[.pointer none] w fun x w' => x = .returned (.slice none 0 0) ∧ Below w.heap.size w w' := by
  go_enter Try.func21, Try.ntmps21
  go_wp2
  go_ret
  first | exact ⟨rfl, Below.refl _ _⟩ | exact ⟨rfl, (Below.refl _ _).drew⟩ | exact ⟨rfl, hb1⟩ | exact ⟨rfl, (Below.refl _ _).alloc (Nat.le_refl _) _⟩ | exact ⟨rfl, bch (Below.refl _ _).drew hb1⟩
set_option maxRecDepth 100000 in
theorem nil_Crash : Calls Try.prog 16 #[.pointer none, .agg #[.slice A n c, .slice A2 n2 c2]] w fun x w' => x = .returned (.int .i64 1) ∧ Below w.heap.size w w' := by
  go_enter Try.func16, Try.ntmps16
  go_wp2
  go_ret
  first | exact ⟨rfl, Below.refl _ _⟩ | exact ⟨rfl, (Below.refl _ _).drew⟩ | exact ⟨rfl, hb1⟩ | exact ⟨rfl, (Below.refl _ _).alloc (Nat.le_refl _) _⟩ | exact ⟨rfl, bch (Below.refl _ _).drew hb1⟩
set_option maxRecDepth 100000 in
theorem nil_Flip : Calls Try.prog 79 #[.pointer none, encStr nm, .int .i64 k, .slice A n c] w fun x w' => x = .returned (.int .i64 1) ∧ Below w.heap.size w w' := by
  go_enter Try.func79, Try.ntmps79
  go_wp2_with (go_at_call 90; refine (nil_find nm _).mono ?_; rintro x w1 ⟨rfl, hb1⟩)
  go_ret
  first | exact ⟨rfl, Below.refl _ _⟩ | exact ⟨rfl, (Below.refl _ _).drew⟩ | exact ⟨rfl, hb1⟩ | exact ⟨rfl, (Below.refl _ _).alloc (Nat.le_refl _) _⟩ | exact ⟨rfl, bch (Below.refl _ _).drew hb1⟩
set_option maxRecDepth 100000 in
theorem nil_Cut : Calls Try.prog 80 #[.pointer none, encStr nm, .int .i64 k] w fun x w' => x = .returned (.int .i64 1) ∧ Below w.heap.size w w' := by
  go_enter Try.func80, Try.ntmps80
  go_wp2_with (go_at_call 90; refine (nil_find nm _).mono ?_; rintro x w1 ⟨rfl, hb1⟩)
  go_ret
  first | exact ⟨rfl, Below.refl _ _⟩ | exact ⟨rfl, (Below.refl _ _).drew⟩ | exact ⟨rfl, hb1⟩ | exact ⟨rfl, (Below.refl _ _).alloc (Nat.le_refl _) _⟩ | exact ⟨rfl, bch (Below.refl _ _).drew hb1⟩
set_option maxRecDepth 100000 in
theorem nil_Wipe : Calls Try.prog 51 #[.pointer none] w fun x w' => x = .returned (.int .i64 1) ∧ Below w.heap.size w w' := by
  go_enter Try.func51, Try.ntmps51
  go_wp2
  go_ret
  first | exact ⟨rfl, Below.refl _ _⟩ | exact ⟨rfl, (Below.refl _ _).drew⟩ | exact ⟨rfl, hb1⟩ | exact ⟨rfl, (Below.refl _ _).alloc (Nat.le_refl _) _⟩ | exact ⟨rfl, bch (Below.refl _ _).drew hb1⟩
end
end Go.Proofs.Ytelgcmcnebncmaa.Dr
