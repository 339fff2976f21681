/- The walk of the document's digits. -/
import Derived.Test.YtjkcoodboghmkaaW1
namespace Go.Proofs.Ytjkcoodboghmkaa.Nm
open Go.RowKit

def numI (c : UInt8) : Int := match num c with | some n => n | none => -1

theorem digs (k : Nat) (hb : k < (⟨#[48, 49, 50, 51, 52, 53, 54, 55, 56, 57, 97, 98, 99, 100, 101, 102]⟩ : ByteArray).size) :
    (⟨#[48, 49, 50, 51, 52, 53, 54, 55, 56, 57, 97, 98, 99, 100, 101, 102]⟩ : ByteArray)[k] = dig k := by
  have : ∀ k : Fin 16, (⟨#[48, 49, 50, 51, 52, 53, 54, 55, 56, 57, 97, 98, 99, 100, 101, 102]⟩ : ByteArray)[k.val] = dig k.val := by decide
  exact this ⟨k, hb⟩
theorem num_hit (c : Int) (h0 : 0 ≤ c) (h1 : c < 256) (k : Nat) (hk : k < 16)
    (h : (((⟨#[48, 49, 50, 51, 52, 53, 54, 55, 56, 57, 97, 98, 99, 100, 101, 102]⟩ : ByteArray)[k]'hk).toNat == c) = true) : (k : Int) = numI (UInt8.ofNat c.toNat) := by
  rw [digs k hk] at h
  have h2 : ((dig k).toNat : Int) = c := by simpa using h
  have h3 : UInt8.ofNat c.toNat = dig k := by
    apply UInt8.toNat.inj; simp only [UInt8.toNat_ofNat']; omega
  rw [h3]; unfold numI; rw [num_dig k hk]
theorem num_miss (c : Int) (k : Nat) (hk : k < 16) (h0 : 0 ≤ c) (h1 : c < 256)
    (h : (((⟨#[48, 49, 50, 51, 52, 53, 54, 55, 56, 57, 97, 98, 99, 100, 101, 102]⟩ : ByteArray)[k]'hk).toNat == c) = false) (hj : ∀ j, j < k → dig j ≠ UInt8.ofNat c.toNat) :
    ∀ j, j < k + 1 → dig j ≠ UInt8.ofNat c.toNat := by
  intro j hjk e
  by_cases hjj : j < k
  · exact hj j hjj e
  · obtain rfl : j = k := by omega
    rw [digs j hk, e] at h
    simp only [UInt8.toNat_ofNat', beq_eq_false_iff_ne] at h
    omega
theorem num_none (c : UInt8) (hj : ∀ j, j < 16 → dig j ≠ c) : numI c = -1 := by
  unfold numI
  cases h : num c with
  | none => rfl
  | some n => obtain ⟨h1, h2⟩ := dig_num c n h; exact absurd h2 (hj n h1)

theorem number_any (c : Int) (h0 : 0 ≤ c) (h1 : c < 256) (w : World) :
    Calls Try.prog 30 #[.int .u8 c] w fun e w' => e = .returned (.int .i64 (numI (UInt8.ofNat c.toNat))) ∧ w = w' := by
  go_enter Try.func30, Try.ntmps30
  go_wp2
  go_loop [3] (fun i => ∃ k : Nat, k ≤ 16 ∧ i = .int .i64 k ∧ ∀ j, j < k → dig j ≠ UInt8.ofNat c.toNat) (fun i => 16 - (intOf i).toNat)
  case atStart => exact ⟨0, by omega, rfl, fun j h => by omega⟩
  case round =>
    obtain ⟨k, hk, rfl, hj⟩ := hrel
    have HJ := Lib.hid hj
    clear hj
    by_cases hlt : k < 16
    · go_wp2
      · go_ret
        exact ⟨ret_int (num_hit c h0 h1 k hlt ‹_›), rfl⟩
      · go_round
        case rel => exact ⟨k + 1, by omega, by go_num, num_miss c k hlt h0 h1 ‹_› HJ.out⟩
        case measure => simp [intOf]; omega
    · go_wp2
      go_ret
      have hk16 : k = 16 := by omega
      subst hk16
      exact ⟨ret_int (num_none _ HJ.out).symm, rfl⟩
end Go.Proofs.Ytjkcoodboghmkaa.Nm
