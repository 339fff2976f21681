/- Calls at receivers that are not there. -/
import Derived.Test.YtojfmddlalklbaaGreatDoorCode
namespace Go.Proofs.YtojfmddlalklbaaGreatDoor
open Go.RowKit Go.Proofs Go.Proofs.YtojfmddlalklbaaGreatDoor.Ring

set_option maxRecDepth 100000 in
theorem iget_nil (k : Value) (w : World) : Calls Tryz.prog 5 #[.pointer none, k] w fun x w' => x = .returned (.tuple #[.int .i64 0, .bool false]) ∧ w = w' := by
  go_enter Tryz.func5, Tryz.ntmps5
  go_wp2
  refine bodyPost_ret (v := .tuple #[.int .i64 0, .bool false]) (by simp [results, Tryz.results5, go_sem]) rfl ?_
  exact ⟨rfl, rfl⟩
set_option maxRecDepth 100000 in
theorem iput_nil (k v n : Value) (w : World) : Calls Tryz.prog 9 #[.pointer none, k, v, n] w fun x w' => x = .returned (.bool false) ∧ w = w' := by
  go_enter Tryz.func9, Tryz.ntmps9
  go_wp2
  go_ret
  exact ⟨rfl, rfl⟩
set_option maxRecDepth 100000 in
theorem idrop_nil (k : Value) (w : World) : Calls Tryz.prog 10 #[.pointer none, k] w fun x w' => x = .returned (.bool false) ∧ w = w' := by
  go_enter Tryz.func10, Tryz.ntmps10
  go_wp2
  go_ret
  exact ⟨rfl, rfl⟩
set_option maxRecDepth 100000 in
theorem ikeys_nil (w : World) : Calls Tryz.prog 11 #[.pointer none] w fun x w' => x = .returned (.slice none 0 0) ∧ w = w' := by
  go_enter Tryz.func11, Tryz.ntmps11
  go_wp2
  go_ret
  exact ⟨rfl, rfl⟩
set_option maxRecDepth 100000 in
theorem iweight_nil (w : World) : Calls Tryz.prog 12 #[.pointer none] w fun x w' => x = .returned (.int .i64 0) ∧ w = w' := by
  go_enter Tryz.func12, Tryz.ntmps12
  go_wp2
  go_ret
  exact ⟨rfl, rfl⟩
set_option maxRecDepth 100000 in
theorem bget_nil (k : Value) (w : World) : Calls Tryz.prog 16 #[.pointer none, k] w fun x w' => x = .returned (.tuple #[.slice none 0 0, .bool false]) ∧ w = w' := by
  go_enter Tryz.func16, Tryz.ntmps16
  go_wp2
  refine bodyPost_ret (v := .tuple #[.slice none 0 0, .bool false]) (by simp [results, Tryz.results16, go_sem]) rfl ?_
  exact ⟨rfl, rfl⟩
set_option maxRecDepth 100000 in
theorem bdrop_nil (k : Value) (w : World) : Calls Tryz.prog 27 #[.pointer none, k] w fun x w' => x = .returned (.bool false) ∧ w = w' := by
  go_enter Tryz.func27, Tryz.ntmps27
  go_wp2
  go_ret
  exact ⟨rfl, rfl⟩
set_option maxRecDepth 100000 in
theorem bkeys_nil (w : World) : Calls Tryz.prog 30 #[.pointer none] w fun x w' => x = .returned (.slice none 0 0) ∧ w = w' := by
  go_enter Tryz.func30, Tryz.ntmps30
  go_wp2
  go_ret
  exact ⟨rfl, rfl⟩
set_option maxRecDepth 100000 in
theorem fget_nil (k : Value) (w : World) : Calls Tryz.prog 4 #[.pointer none, k] w fun x w' => x = .returned (.tuple #[.slice none 0 0, .int .i64 1]) ∧ w = w' := by
  go_enter Tryz.func4, Tryz.ntmps4
  go_wp2
  refine bodyPost_ret (v := .tuple #[.slice none 0 0, .int .i64 1]) (by simp [results, Tryz.results4, go_sem]) rfl ?_
  exact ⟨rfl, rfl⟩
set_option maxRecDepth 100000 in
theorem fput_nil (k v : Value) (w : World) : Calls Tryz.prog 13 #[.pointer none, k, v] w fun x w' => x = .returned (.int .i64 1) ∧ w = w' := by
  go_enter Tryz.func13, Tryz.ntmps13
  go_wp2
  go_ret
  exact ⟨rfl, rfl⟩
set_option maxRecDepth 100000 in
theorem fdel_nil (k : Value) (w : World) : Calls Tryz.prog 14 #[.pointer none, k] w fun x w' => x = .returned (.int .i64 1) ∧ w = w' := by
  go_enter Tryz.func14, Tryz.ntmps14
  go_wp2
  go_ret
  exact ⟨rfl, rfl⟩
set_option maxRecDepth 100000 in
theorem fheld_nil (w : World) : Calls Tryz.prog 15 #[.pointer none] w fun x w' => x = .returned (.slice none 0 0) ∧ w = w' := by
  go_enter Tryz.func15, Tryz.ntmps15
  go_wp2
  go_ret
  exact ⟨rfl, rfl⟩
set_option maxRecDepth 100000 in
theorem before_nil (n : Value) (w : World) : Calls Tryz.prog 8 #[.pointer none, n] w fun x w' => x = .returned (.tuple #[.pointer none, .int .i64 1]) ∧ w = w' := by
  go_enter Tryz.func8, Tryz.ntmps8
  go_wp2
  refine bodyPost_ret (v := .tuple #[.pointer none, .int .i64 1]) (by simp [results, Tryz.results8, go_sem]) rfl ?_
  exact ⟨rfl, rfl⟩
set_option maxRecDepth 100000 in
theorem shut_nil (w : World) : Calls Tryz.prog 33 #[.pointer none] w fun x w' => x = .returned (.int .i64 1) ∧ w = w' := by
  go_enter Tryz.func33, Tryz.ntmps33
  go_wp2
  go_ret
  exact ⟨rfl, rfl⟩
set_option maxRecDepth 100000 in
theorem iclear_nil (w : World) : Calls Tryz.prog 6 #[.pointer none] w fun x w' => x = .returned (.tuple #[]) ∧ w = w' := by
  go_enter Tryz.func6, Tryz.ntmps6
  go_wp2
  refine wp_loop_rounds 1 ?_
  rw [rounds_succ]
  go_wp2
  refine bodyPost_end (v := .tuple #[]) (by simp [results, Tryz.results6, go_sem]) rfl ?_
  exact ⟨rfl, rfl⟩
/-- A Trouble. -/
def TrAt (w : World) (v : Value) (e : Int) : Prop := ∃ p, v = .iface tTr (.pointer (some ⟨p, 0, none⟩)) ∧ w.cell? ⟨p, 2, none⟩ = some (.int .i64 e)
set_option maxRecDepth 100000 in
theorem trouble_any (op key : ByteArray) (e : Int) (he : ¬ e = 0) (w : World) : Calls Tryz.prog 34 #[.string op, .string key, .int .i64 e] w fun x w' => ∃ p, x = .returned (.iface tTr (.pointer (some ⟨p, 0, none⟩))) ∧ w'.cell? ⟨p, 2, none⟩ = some (.int .i64 e) ∧ Below w.heap.size w w' := by
  go_enter Tryz.func34, Tryz.ntmps34
  go_wp2
  go_ret
  refine ⟨w.heap.size, rfl, ?_, (Below.refl _ _).alloc (Nat.le_refl _) _⟩
  rw [cell_of_row _ w.heap.size _ _ _ _ (heap_alloc_new w _)]
  rfl
set_option maxRecDepth 100000 in
theorem sget_nil (key : ByteArray) (w : World) : Calls Tryz.prog 18 #[.pointer none, .string key] w fun x w' => ∃ p, x = .returned (.tuple #[.slice none 0 0, .iface tTr (.pointer (some ⟨p, 0, none⟩))]) ∧ w'.cell? ⟨p, 2, none⟩ = some (.int .i64 1) ∧ Below w.heap.size w w' := by
  go_enter Tryz.func18, Tryz.ntmps18
  go_wp2_with (first
    | (go_at_call 33; refine (shut_nil _).mono ?_; rintro x w1 ⟨rfl, rfl⟩)
    | (go_at_call 34; refine (trouble_any _ key 1 (by omega) _).mono ?_; rintro x w2 ⟨p, rfl, hp, hb⟩; have HP := Lib.hid hp; have HB := Lib.hid hb; clear hp hb))
  go_ret2
  exact ⟨p, rfl, HP.out, HB.out⟩
set_option maxRecDepth 100000 in
theorem sput_nil (key : ByteArray) (v : Value) (w : World) : Calls Tryz.prog 28 #[.pointer none, .string key, v] w fun x w' => ∃ p, x = .returned (.iface tTr (.pointer (some ⟨p, 0, none⟩))) ∧ w'.cell? ⟨p, 2, none⟩ = some (.int .i64 1) ∧ Below w.heap.size w w' := by
  go_enter Tryz.func28, Tryz.ntmps28
  go_wp2_with (first
    | (go_at_call 33; refine (shut_nil _).mono ?_; rintro x w1 ⟨rfl, rfl⟩)
    | (go_at_call 34; refine (trouble_any _ key 1 (by omega) _).mono ?_; rintro x w2 ⟨p, rfl, hp, hb⟩; have HP := Lib.hid hp; have HB := Lib.hid hb; clear hp hb))
  go_ret
  exact ⟨p, rfl, HP.out, HB.out⟩
set_option maxRecDepth 100000 in
theorem sdel_nil (key : ByteArray) (w : World) : Calls Tryz.prog 29 #[.pointer none, .string key] w fun x w' => ∃ p, x = .returned (.iface tTr (.pointer (some ⟨p, 0, none⟩))) ∧ w'.cell? ⟨p, 2, none⟩ = some (.int .i64 1) ∧ Below w.heap.size w w' := by
  go_enter Tryz.func29, Tryz.ntmps29
  go_wp2_with (first
    | (go_at_call 33; refine (shut_nil _).mono ?_; rintro x w1 ⟨rfl, rfl⟩)
    | (go_at_call 34; refine (trouble_any _ key 1 (by omega) _).mono ?_; rintro x w2 ⟨p, rfl, hp, hb⟩; have HP := Lib.hid hp; have HB := Lib.hid hb; clear hp hb))
  go_ret
  exact ⟨p, rfl, HP.out, HB.out⟩
/-- What the walk needs of the variable that holds the type 'error'. -/
def ErrT (w : World) : Prop := w.cell? ⟨0, 0, none⟩ = some (.iface tRt (.agg #[.pointer (some ⟨2, 56, none⟩)]))
theorem ErrT.below {w w' : World} (h : ErrT w) (hb : Below w.heap.size w w') : ErrT w' := (hb.cell (p := ⟨0, 0, none⟩) (block_of_cell h)).trans h
section
variable {w : World} {Y : Nat} (hg : ErrT w) (h0 : w.cell? ⟨Y, 0, none⟩ = some (.pointer none)) (h1 : w.cell? ⟨Y, 1, none⟩ = some (.pointer none)) (key : ByteArray)
include hg h0 h1
set_option maxRecDepth 100000 in
theorem fget_zero : Calls Tryz.prog 4 #[.pointer (some ⟨Y, 0, none⟩), .string key] w fun x w' => x = .returned (.tuple #[.slice none 0 0, .int .i64 1]) ∧ Below w.heap.size w w' := by
  have HG := Lib.hid hg
  clear hg
  go_enter Tryz.func4, Tryz.ntmps4
  go_wp2_with (first
    | (go_at_call 16; refine (bget_nil _ _).mono ?_; rintro x w1 ⟨rfl, rfl⟩)
    | (go_at_call 18; refine (sget_nil key _).mono ?_; rintro x w2 ⟨p, rfl, hp, hb⟩; have HP := Lib.hid hp; have HB := Lib.hid hb; clear hp hb)
    | (go_at_call 19; refine (code_any p 1 _ (HG.out.below HB.out) HP.out).mono ?_; rintro x w3 ⟨rfl, hb⟩; have HB2 := Lib.hid hb; clear hb))
  go_ret2
  exact ⟨rfl, HB.out.trans (HB2.out.mono HB.out.size)⟩
set_option maxRecDepth 100000 in
theorem fput_zero (v : Value) : Calls Tryz.prog 13 #[.pointer (some ⟨Y, 0, none⟩), .string key, v] w fun x w' => x = .returned (.int .i64 1) ∧ Below w.heap.size w w' := by
  have HG := Lib.hid hg
  clear hg
  go_enter Tryz.func13, Tryz.ntmps13
  go_wp2_with (first
    | (go_at_call 27; refine (bdrop_nil _ _).mono ?_; rintro x w1 ⟨rfl, rfl⟩)
    | (go_at_call 28; refine (sput_nil key v _).mono ?_; rintro x w2 ⟨p, rfl, hp, hb⟩; have HP := Lib.hid hp; have HB := Lib.hid hb; clear hp hb)
    | (go_at_call 19; refine (code_any p 1 _ (HG.out.below HB.out) HP.out).mono ?_; rintro x w3 ⟨rfl, hb⟩; have HB2 := Lib.hid hb; clear hb))
  go_ret
  exact ⟨rfl, HB.out.trans (HB2.out.mono HB.out.size)⟩
set_option maxRecDepth 100000 in
theorem fdel_zero : Calls Tryz.prog 14 #[.pointer (some ⟨Y, 0, none⟩), .string key] w fun x w' => x = .returned (.int .i64 1) ∧ Below w.heap.size w w' := by
  have HG := Lib.hid hg
  clear hg
  go_enter Tryz.func14, Tryz.ntmps14
  go_wp2_with (first
    | (go_at_call 27; refine (bdrop_nil _ _).mono ?_; rintro x w1 ⟨rfl, rfl⟩)
    | (go_at_call 29; refine (sdel_nil key _).mono ?_; rintro x w2 ⟨p, rfl, hp, hb⟩; have HP := Lib.hid hp; have HB := Lib.hid hb; clear hp hb)
    | (go_at_call 19; refine (code_any p 1 _ (HG.out.below HB.out) HP.out).mono ?_; rintro x w3 ⟨rfl, hb⟩; have HB2 := Lib.hid hb; clear hb))
  go_ret
  exact ⟨rfl, HB.out.trans (HB2.out.mono HB.out.size)⟩
end
set_option maxRecDepth 100000 in
theorem fheld_zero {w : World} {Y : Nat} (h1 : w.cell? ⟨Y, 1, none⟩ = some (.pointer none)) : Calls Tryz.prog 15 #[.pointer (some ⟨Y, 0, none⟩)] w fun x w' => x = .returned (.slice none 0 0) ∧ w = w' := by
  go_enter Tryz.func15, Tryz.ntmps15
  go_wp2_with (go_at_call 30; refine (bkeys_nil _).mono ?_; rintro x w1 ⟨rfl, rfl⟩)
  go_ret
  exact ⟨rfl, rfl⟩
end Go.Proofs.YtojfmddlalklbaaGreatDoor
