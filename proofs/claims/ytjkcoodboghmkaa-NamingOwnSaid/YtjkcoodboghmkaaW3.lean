/- The walk of the document's names of keys. -/
import Derived.Test.YtjkcoodboghmkaaW2
namespace Go.Proofs.Ytjkcoodboghmkaa.Nm
open Go.RowKit

/-- One digit cut out of the text of digits. -/
theorem slice_dig (x : Int) (h0 : 0 ≤ x) (h1 : x < 16) (w : World) :
    (Instr.slice 9 (.string ⟨#[48, 49, 50, 51, 52, 53, 54, 55, 56, 57, 97, 98, 99, 100, 101, 102]⟩) (some (.int .i64 x)) (some (.int .i64 (x + 1))) none).run Try.prog w = .ok (.string ⟨#[dig x.toNat]⟩) w := by
  rw [run_slice_string (P := Try.prog) w _ _ _ _ _ _ Try.underlying9 h0 (by omega) (by show x + 1 ≤ 16; omega)]
  have : ∀ n : Fin 16, (⟨#[48, 49, 50, 51, 52, 53, 54, 55, 56, 57, 97, 98, 99, 100, 101, 102]⟩ : ByteArray).extract n.val (n.val + 1) = ⟨#[dig n.val]⟩ := by decide
  have e := this ⟨x.toNat, by omega⟩
  simp only at e
  rw [show (x + 1).toNat = x.toNat + 1 by omega, e]

theorem objTail_snoc (l : Bs) (b : UInt8) : objTail (l ++ [b]) = objTail l ++ [dig (b.toNat / 16), dig (b.toNat % 16)] := by
  induction l with
  | nil => rfl
  | cons c r ih => simp [objTail, ih]
theorem name_step (s : ByteArray) (k : Nat) (h : k < s.size) (X : ByteArray) (hX : X.data.toList = 111 :: objTail (s.data.toList.take k)) (a b : Nat) (ha : a = s[k].toNat / 16) (hb : b = s[k].toNat % 16) :
    ((X ++ ⟨#[dig a]⟩) ++ ⟨#[dig b]⟩ : ByteArray).data.toList = 111 :: objTail (s.data.toList.take (k + 1)) := by
  rw [take_snoc s k h, objTail_snoc, ha, hb]
  simp [ByteArray.data_append, hX]
theorem name_size (s : ByteArray) (k : Nat) (X : ByteArray) (hX : X.data.toList = 111 :: objTail (s.data.toList.take k)) (hs : s.size ≤ 255) : X.size ≤ 511 := by
  have h1 := len_data X
  have h2 := len_data s
  rw [hX, List.length_cons, objTail_length, List.length_take] at h1
  omega
theorem fit_of_size (s : ByteArray) : fitB s.data.toList = (decide (1 ≤ s.size) && decide (s.size ≤ 255)) := by
  simp only [fitB, len_data]
theorem objName_fit (s : ByteArray) (h1 : 1 ≤ s.size) (h2 : s.size ≤ 255) : objName s.data.toList = 111 :: objTail s.data.toList ∧ objErr s.data.toList = 0 := by
  have h : fitB s.data.toList = true := by rw [fit_of_size]; simp [h1, h2]
  simp [objName, objErr, h]
theorem objName_unfit (s : ByteArray) (h : s.size < 1 ∨ 255 < s.size) : objName s.data.toList = [] ∧ objErr s.data.toList = 90 := by
  have h : fitB s.data.toList = false := by rw [fit_of_size]; simp; omega
  simp [objName, objErr, h]
theorem ret_name {X : ByteArray} {l : Bs} {a b : Int} (h : X.data.toList = l) (hab : a = b) :
    Ending.returned (.tuple #[.string X, .int .i64 a]) = .returned (.tuple #[.string ⟨l.toArray⟩, .int .i64 b]) := by rw [ba_eq X l h, hab]

set_option maxHeartbeats 400000 in
theorem refObject_any (s : ByteArray) (hs : s.size ≤ maxLen) (w : World) :
    Calls Try.prog 15 #[.string s] w fun e w' => e = .returned (.tuple #[.string ⟨(objName s.data.toList).toArray⟩, .int .i64 (objErr s.data.toList)]) ∧ ∃ n, w' = w.drewN n := by
  unfold maxLen at hs
  by_cases h : 1 ≤ s.size ∧ s.size ≤ 255
  · obtain ⟨h1, h2⟩ := h
    have HN := Lib.hid (objName_fit s h1 h2)
    go_enter Try.func15, Try.ntmps15
    go_wp2
    go_loopw [4, 5] (fun nm i wr => ∃ (k n : Nat) (X : ByteArray), k ≤ s.size ∧ i = .int .i64 k ∧ nm = .string X ∧ X.data.toList = 111 :: objTail (s.data.toList.take k) ∧ wr = w.drewN n) (fun _ i _ => s.size - (intOf i).toNat)
    case atStart => exact ⟨0, 0, ⟨#[111]⟩, by omega, rfl, rfl, rfl, rfl⟩
    case round =>
      obtain ⟨k, n, X, hk, rfl, rfl, hX, rfl⟩ := hrel
      have hsz := name_size s k X hX h2
      have HX := Lib.hid hX
      clear hX
      by_cases hlt : k < s.size
      · have hb : (s[k].toNat : Int) < 256 := by have := UInt8.toNat_lt s[k]; omega
        have hb0 : (0 : Int) ≤ (s[k].toNat : Int) := by omega
        have e1 : IntKind.i64.wrap ((s[k].toNat : Int) / 16 + 1) = (s[k].toNat : Int) / 16 + 1 := IntWalk.i64_in _ (by omega)
        have e2 : IntKind.i64.wrap ((s[k].toNat : Int) % 16 + 1) = (s[k].toNat : Int) % 16 + 1 := IntWalk.i64_in _ (by omega)
        have s1 := slice_dig ((s[k].toNat : Int) / 16) (by omega) (by omega)
        have s2 := slice_dig ((s[k].toNat : Int) % 16) (by omega) (by omega)
        have l1 : ¬ (9223372036854775807 < X.size + 1) := by omega
        have l2 : ¬ (9223372036854775807 < X.size + 1 + 1) := by omega
        go_wp2
        go_quiet (fail)
        go_wp2
        go_roundw
        case rel => exact ⟨k + 1, _, _, by omega, by go_num, rfl, name_step s k hlt X HX.out _ _ (by omega) (by omega), rfl⟩
        case measure => simp [intOf]; omega
      · go_wp2
        go_ret2
        exact ⟨by rw [HN.out.1, HN.out.2]; exact ret_name (by rw [HX.out, take_all s k (by omega)]) rfl, n, rfl⟩
  · have HN := Lib.hid (objName_unfit s (by omega))
    by_cases h1 : s.size < 1
    · go_enter Try.func15, Try.ntmps15
      go_wp2
      go_ret2
      exact ⟨by rw [HN.out.1, HN.out.2]; rfl, 0, rfl⟩
    · have h2 : 255 < s.size := by omega
      clear h
      go_enter Try.func15, Try.ntmps15
      go_wp2
      go_ret2
      exact ⟨by rw [HN.out.1, HN.out.2]; rfl, 0, rfl⟩
end Go.Proofs.Ytjkcoodboghmkaa.Nm
