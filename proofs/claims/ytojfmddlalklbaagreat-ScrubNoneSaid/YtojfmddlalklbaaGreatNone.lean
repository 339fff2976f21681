/- The walk of ScrubNone. -/
import Derived.Test.YtojfmddlalklbaaGreatBase
import Derived.Test.YtojfmddlalklbaaGreatChecked
import Derived.Conc.SmallLaws
import Derived.Conc.EventLaws
namespace Go.Proofs.YtojfmddlalklbaaGreat
open Go.RowKit Go.Proofs

set_option maxRecDepth 100000 in
theorem snew_nil (w : World) : Calls Tryz.prog 4 #[.pointer none] w fun x w' => x = .returned (.pointer none) ∧ w = w' := by
  go_enter Tryz.func4, Tryz.ntmps4
  go_wp2
  go_ret
  exact ⟨rfl, rfl⟩
set_option maxRecDepth 100000 in
theorem sstep_nil (v : Value) (n : Int) (w : World) : Calls Tryz.prog 5 #[.pointer none, v, .int .i64 n] w fun x w' => x = .returned (.tuple #[.slice none 0 0, .bool false, .int .i64 1]) ∧ w = w' := by
  go_enter Tryz.func5, Tryz.ntmps5
  go_wp2
  refine bodyPost_ret (v := .tuple #[.slice none 0 0, .bool false, .int .i64 1]) (by simp [results, Tryz.results5, go_sem]) rfl ?_
  exact ⟨rfl, rfl⟩
set_option maxRecDepth 100000 in
theorem splace_nil (w : World) : Calls Tryz.prog 8 #[.pointer none] w fun x w' => x = .returned (.string ⟨#[]⟩) ∧ w = w' := by
  go_enter Tryz.func8, Tryz.ntmps8
  go_wp2
  go_ret
  exact ⟨rfl, rfl⟩
set_option maxRecDepth 100000 in
theorem sseen_nil (w : World) : Calls Tryz.prog 9 #[.pointer none] w fun x w' => x = .returned (.int .i64 0) ∧ w = w' := by
  go_enter Tryz.func9, Tryz.ntmps9
  go_wp2
  go_ret
  exact ⟨rfl, rfl⟩
set_option maxRecDepth 100000 in
theorem snum_any (k : Int) (w : World) : Calls Tryz.prog 7 #[.int .i64 k] w fun x w' => x = .returned (.int .i64 k) ∧ w = w' := by
  go_enter Tryz.func7, Tryz.ntmps7
  go_wp2
  go_ret
  exact ⟨rfl, rfl⟩
theorem mk0 (w : World) : (Instr.makeChan 52 (.int .i64 0)).run Tryz.prog w = .ok (.chan (some w.heap.size)) (w.alloc (.chan 0 #[] false 0 0 false)) := by
  have hi : (Tryz.prog.info? 126).map (·.bytes) = some 0 := by kernel_rfl
  obtain ⟨i, hi, hb⟩ := Option.map_eq_some_iff.1 hi
  simpa using Conc.run_makeChan (P := Tryz.prog) (w := w) Tryz.underlying52 hi .i64 0 (by omega) (by rw [hb]; omega)
set_option maxRecDepth 100000 in
theorem done_any (b : Bool) (w : World) : Calls Tryz.prog 6 #[.bool b] w fun x w' => ∃ v, x = .returned v ∧ Below w.heap.size w w' := by
  have hm := mk0 w
  go_enter Tryz.func6, Tryz.ntmps6
  cases b with
  | false =>
    go_wp2
    go_ret
    exact ⟨_, rfl, (Below.refl _ _).alloc (Nat.le_refl _) _⟩
  | true =>
    have hc := Go.run_close_open (P := Tryz.prog) (w := w.alloc (.chan 0 #[] false 0 0 false)) #[52] 0 (r := w.heap.size) (heap_alloc_new w (.chan 0 #[] false 0 0 false))
    go_wp2
    go_ret
    refine ⟨_, rfl, rfl, rfl, rfl, ?_, fun k hk => ?_⟩
    · show w.heap.size ≤ ((w.alloc (.chan 0 #[] false 0 0 false)).heap.setIfInBounds w.heap.size (.chan 0 #[] true 0 0 false)).size
      rw [Array.size_setIfInBounds]
      simp
    show ((w.alloc (.chan 0 #[] false 0 0 false)).heap.setIfInBounds w.heap.size (.chan 0 #[] true 0 0 false))[k]? = w.heap[k]?
    rw [Array.getElem?_setIfInBounds_ne (by omega)]
    exact heap_alloc_old w _ hk
set_option maxRecDepth 100000 in
theorem none_any (n : Int) (_hn : -9223372036854775808 ≤ n ∧ n ≤ 9223372036854775807) (b : Bool) (w : World) : Calls Tryz.prog 3 #[.int .i64 n, .bool b] w fun x w' => x = .returned (.bool true) ∧ Below w.heap.size w w' := by
  clear _hn
  go_enter Tryz.func3, Tryz.ntmps3
  go_wp2_with (first
    | (go_at_call 4; refine (snew_nil _).mono ?_; rintro x w1 ⟨rfl, rfl⟩)
    | (go_at_call 6; refine (done_any b _).mono ?_; rintro x w2 ⟨v, rfl, hb⟩; have HB := Lib.hid hb; clear hb)
    | (go_at_call 5; refine (sstep_nil _ n _).mono ?_; rintro x w3 ⟨rfl, rfl⟩)
    | (go_at_call 7; refine (snum_any 1 _).mono ?_; rintro x w3 ⟨rfl, rfl⟩)
    | (go_at_call 8; refine (splace_nil _).mono ?_; rintro x w3 ⟨rfl, rfl⟩)
    | (go_at_call 9; refine (sseen_nil _).mono ?_; rintro x w3 ⟨rfl, rfl⟩))
  go_ret
  exact ⟨rfl, HB.out⟩
end Go.Proofs.YtojfmddlalklbaaGreat
