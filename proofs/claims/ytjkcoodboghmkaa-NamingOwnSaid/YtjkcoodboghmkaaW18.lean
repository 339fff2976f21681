/- The walk of the marks. -/
import Derived.Test.YtjkcoodboghmkaaW16
import Derived.Test.YtjkcoodboghmkaaKeep
namespace Go.Proofs.Ytjkcoodboghmkaa.Nm
open Go.RowKit Go.Proofs

def mrk (i : Nat) (b : Bool) : Bs := (if b then [105, 110] else [98, 101, 104, 105, 110, 100]) ++ [UInt8.ofNat (65 + i)]
set_option maxRecDepth 100000 in
theorem mark_any (i : Nat) (hi : i < 60) (b : Bool) (w : World) :
    Calls Try.prog 38 #[.int .i64 i, .bool b] w fun e w' => e = .returned (.string ⟨(mrk i b).toArray⟩) ∧ Below w.heap.size w w' := by
  have e3 : ((UInt8.ofNat (65 + i)).toNat : Int) = 65 + (i : Int) := by
    have : (UInt8.ofNat (65 + i)).toNat = 65 + i := by simp; omega
    rw [this]; omega
  have hrd : Rd (w.alloc (.cells #[.int .u8 (65 + (i : Int))] 5)) (w.heap.size + 1) 1 (some ⟨w.heap.size, 0, none⟩) 1 (cU8 [UInt8.ofNat (65 + i)]) := by
    refine ⟨rfl, fun _ => ⟨_, rfl, Nat.lt_succ_self _, ?_⟩⟩
    have := new_cells w (cU8 [UInt8.ofNat (65 + i)]) 5
    simp only [cU8, List.map_cons, List.map_nil, e3] at this ⊢
    exact this
  have ht := run_text (P := Try.prog) _ 38 9 5 Try.underlying38 Try.underlying5 Try.underlying9 1 hrd
  have HE := Lib.hid e3
  have e1 : (i : Int) % 60 = i := by omega
  clear e3 hrd
  cases b
  all_goals
    go_enter Try.func38, Try.ntmps38
    go_wp2
    go_ret
    exact ⟨ret_str (by simp [mrk]), (Below.refl _ _).alloc (Nat.le_refl _) _⟩
end Go.Proofs.Ytjkcoodboghmkaa.Nm
