/- The walks of the digits and of the names of keys. -/
import Derived.Test.YtjkcoodboghmkaaRows
import Derived.Test.YtjkcoodboghmkaaPlain
import Derived.Test.YtjkcoodboghmkaaBase
namespace Go.Proofs.Ytjkcoodboghmkaa.Nm
open Go.RowKit

theorem digit_any (n : Int) (h0 : 0 ≤ n) (h1 : n < 16) (w : World) :
    Calls Try.prog 29 #[.int .u8 n] w fun e w' => e = .returned (.int .u8 ((dig n.toNat).toNat : Int)) ∧ w = w' := by
  by_cases h : n < 10
  · have e : ((dig n.toNat).toNat : Int) = 48 + n := by
      unfold dig; rw [if_pos (by omega)]; simp only [UInt8.toNat_ofNat']; omega
    rw [e]; clear e
    go_enter Try.func29, Try.ntmps29
    go_wp2
    go_ret
    exact ⟨rfl, rfl⟩
  · have e : ((dig n.toNat).toNat : Int) = 97 + n - 10 := by
      unfold dig; rw [if_neg (by omega)]; simp only [UInt8.toNat_ofNat']; omega
    rw [e]; clear e
    go_enter Try.func29, Try.ntmps29
    go_wp2
    go_ret
    exact ⟨rfl, rfl⟩

theorem value_any (c : Int) (h0 : 0 ≤ c) (h1 : c < 256) (w : World) :
    Calls Try.prog 32 #[.int .u8 c] w fun e w' => e = .returned (.tuple #[.int .u8 (((num (UInt8.ofNat c.toNat)).getD 0 : Nat) : Int), .bool (num (UInt8.ofNat c.toNat)).isSome]) ∧ w = w' := by
  have hc : (UInt8.ofNat c.toNat).toNat = c.toNat := by simp only [UInt8.toNat_ofNat']; omega
  by_cases h : 48 ≤ c ∧ c ≤ 57
  · have e : num (UInt8.ofNat c.toNat) = some (c.toNat - 48) := by
      unfold num; rw [if_pos (by omega), hc]
    have e2 : ((c.toNat - 48 : Nat) : Int) = c - 48 := by omega
    rw [e]; simp only [Option.getD_some, Option.isSome_some, e2]; clear e e2 hc
    obtain ⟨ha, hb⟩ := h
    go_enter Try.func32, Try.ntmps32
    go_wp2
    go_ret2
    exact ⟨rfl, rfl⟩
  · by_cases h' : 97 ≤ c ∧ c ≤ 102
    · have e : num (UInt8.ofNat c.toNat) = some (c.toNat - 87) := by
        unfold num; rw [if_neg (by omega), if_pos (by omega), hc]
      have e2 : ((c.toNat - 87 : Nat) : Int) = c - 97 + 10 := by omega
      rw [e]; simp only [Option.getD_some, Option.isSome_some, e2]; clear e e2 hc
      obtain ⟨ha, hb⟩ := h'
      have hx : ¬ c ≤ 57 := by omega
      clear h
      go_enter Try.func32, Try.ntmps32
      go_wp2
      go_ret2
      exact ⟨rfl, rfl⟩
    · have e : num (UInt8.ofNat c.toNat) = none := by
        unfold num; rw [if_neg (by omega), if_neg (by omega)]
      rw [e]; simp only [Option.getD_none, Option.isSome_none, Int.natCast_zero]; clear e hc
      go_enter Try.func32, Try.ntmps32
      go_wp2
      all_goals go_ret2
      all_goals exact ⟨rfl, rfl⟩
end Go.Proofs.Ytjkcoodboghmkaa.Nm
