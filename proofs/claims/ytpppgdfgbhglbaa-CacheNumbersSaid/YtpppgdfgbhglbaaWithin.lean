/- The walk of within; what it says. -/
import Derived.Test.YtpppgdfgbhglbaaTx
namespace Go.Proofs.Ytpppgdfgbhglbaa.Ca
open Go.RowKit Go.Proofs

/-- The texts of the one stand in the other, in the same order. -/
def inside : List Bs → List Bs → Bool
  | [], _ => true
  | _ :: _, [] => false
  | x :: r, y :: s => if x = y then inside r s else inside (x :: r) s
theorem inside_sub {a b : List Bs} (h : a.Sublist b) : inside a b = true := by
  induction b generalizing a with
  | nil => cases h; rfl
  | cons y s ih =>
    cases a with
    | nil => rfl
    | cons x r =>
      unfold inside
      split
      · rename_i he
        subst he
        exact ih (List.cons_sublist_cons.1 h)
      · rename_i he
        cases h with
        | cons _ h2 => exact ih h2
        | cons_cons _ h2 => exact absurd rfl he

theorem drop_at {xs : List Bs} {i : Nat} {x : Bs} (hx : xs[i]? = some x) : xs.drop i = x :: xs.drop (i + 1) := by
  obtain ⟨h, rfl⟩ := List.getElem?_eq_some_iff.1 hx
  exact List.drop_eq_getElem_cons h
theorem sub_here {xs ys : List Bs} {i j : Nat} {x y : Bs} (h : (xs.drop i).Sublist (ys.drop j)) (hx : xs[i]? = some x) (hy : ys[j]? = some y) (he : y = x) : (xs.drop (i + 1)).Sublist (ys.drop (j + 1)) := by
  rw [drop_at hx, drop_at hy, he] at h
  exact List.cons_sublist_cons.1 h
theorem sub_on {xs ys : List Bs} {i j : Nat} {x y : Bs} (h : (xs.drop i).Sublist (ys.drop j)) (hx : xs[i]? = some x) (hy : ys[j]? = some y) (he : y ≠ x) : (xs.drop i).Sublist (ys.drop (j + 1)) := by
  rw [drop_at hx, drop_at hy] at h
  rw [drop_at hx]
  cases h with
  | cons _ h2 => exact h2
  | cons_cons _ h2 => exact absurd rfl he
theorem sub_more {xs ys : List Bs} {i j : Nat} {x : Bs} (h : (xs.drop i).Sublist (ys.drop j)) (hx : xs[i]? = some x) : j < ys.length := by
  rw [drop_at hx] at h
  have := h.length_le
  simp at this
  omega

set_option maxRecDepth 100000 in
set_option maxHeartbeats 1000000 in
theorem within_any (A : Option Addr) (n c : Nat) (xs : List Bs) (A' : Option Addr) (n' c' : Nat) (ys : List Bs) (B B' : Nat) (hn : n ≤ maxLen) (hn' : n' ≤ maxLen) (hs : xs.Sublist ys) (w : World) (hr : Rd w B 1 A n (cStr xs)) (hr' : Rd w B' 1 A' n' (cStr ys)) :
    Calls Try.prog 32 #[.slice A n c, .slice A' n' c'] w fun e w' => e = .returned (.bool true) ∧ ∃ q, w' = w.drewN q := by
  unfold maxLen at hn hn'
  have hxl : xs.length = n := by simpa using hr.1
  have hyl : ys.length = n' := by simpa using hr'.1
  have HR := Lib.hid hr
  have HR' := Lib.hid hr'
  have HX := Lib.hid hxl
  have HY := Lib.hid hyl
  have hs0 : (xs.drop 0).Sublist (ys.drop 0) := by simpa using hs
  have HS := Lib.hid hs0
  clear hr hr' hxl hyl hs hs0
  go_enter Try.func32, Try.ntmps32
  go_wp2
  go_loopw [5, 6] (fun av iv wr => ∃ i a q : Nat, iv = .int .i64 i ∧ av = .int .i64 a ∧ i ≤ n ∧ a ≤ n' ∧ (xs.drop i).Sublist (ys.drop a) ∧ wr = w.drewN q) (fun _ iv _ => n - (intOf iv).toNat)
  case atStart => exact ⟨0, 0, 0, rfl, rfl, by omega, by omega, HS.out, rfl⟩
  case round =>
    obtain ⟨i, a, q, rfl, rfl, hi, ha, hsub, rfl⟩ := hrel
    have HSub := Lib.hid hsub
    clear hsub
    by_cases hlt : i < n
    · obtain ⟨ad, x, rfl, hc, hx⟩ := str_at HR.out hlt
      have HXX := Lib.hid hx
      have hlt2 : (i : Int) < (n : Int) := by omega
      clear hx
      go_wp2
      go_loopw [5] (fun av wr => ∃ a q : Nat, av = .int .i64 a ∧ a ≤ n' ∧ (xs.drop i).Sublist (ys.drop a) ∧ wr = w.drewN q) (fun av _ => n' - (intOf av).toNat)
      case atStart => exact ⟨a, q, rfl, ha, HSub.out, rfl⟩
      case round =>
        obtain ⟨a, q, rfl, ha, hsub, rfl⟩ := hrel
        have hal : a < n' := by have := sub_more hsub HXX.out; have := HY.out; omega
        obtain ⟨ad', y, rfl, hc', hy⟩ := str_at HR'.out hal
        have HYY := Lib.hid hy
        have HSub := Lib.hid hsub
        have hal2 : (a : Int) < (n' : Int) := by omega
        have hcq : (w.drewN q).cell? (ad.add i) = some (.string ⟨x.toArray⟩) := hc
        have hcq' : (w.drewN q).cell? (ad'.add a) = some (.string ⟨y.toArray⟩) := hc'
        clear hy hsub
        by_cases he : y = x
        · have hbe : (y == x) = true := by simpa using he
          have hsn := Lib.hid (sub_here HSub.out HXX.out HYY.out he)
          clear he
          go_wp2
          go_quiet (fail)
          go_wp2
          go_roundw
          case rel => exact ⟨i + 1, a + 1, _, by go_num, by go_num, by omega, by omega, hsn.out, rfl⟩
          case measure => simp [intOf]; omega
        · have hbe : (y == x) = false := by simpa using he
          have hsn := Lib.hid (sub_on HSub.out HXX.out HYY.out he)
          clear he
          go_wp2
          go_quiet (fail)
          go_wp2
          go_roundw
          case rel => exact ⟨a + 1, _, by go_num, by omega, hsn.out, rfl⟩
          case measure => simp [intOf]; omega
    · go_wp2
      go_ret
      exact ⟨rfl, _, rfl⟩
end Go.Proofs.Ytpppgdfgbhglbaa.Ca
