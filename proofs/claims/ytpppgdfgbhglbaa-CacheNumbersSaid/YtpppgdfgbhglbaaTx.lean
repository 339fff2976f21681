/- The walks of sameTexts and Pick. -/
import Derived.Test.YtpppgdfgbhglbaaBase
import Derived.Test.YtpppgdfgbhglbaaProg
namespace Go.Proofs.Ytpppgdfgbhglbaa.Ca
open Go.RowKit Go.Proofs
abbrev Bs := List UInt8

theorem str_at {w : World} {B n i : Nat} {A : Option Addr} {xs : List Bs} (hr : Rd w B 1 A n (cStr xs)) (hi : i < n) :
    ∃ ad x, A = some ad ∧ w.cell? (ad.add i) = some (.string ⟨x.toArray⟩) ∧ xs[i]? = some x := by
  obtain ⟨ad, u, rfl, _, hu, hc⟩ := hr.at_ hi
  rw [List.getElem?_map] at hu
  cases hx : xs[i]? with
  | none => rw [hx] at hu; cases hu
  | some x => rw [hx] at hu; cases hu; exact ⟨ad, x, rfl, hc, rfl⟩
theorem take_snoc_l {xs : List Bs} {i : Nat} {x : Bs} (hx : xs[i]? = some x) : xs.take (i + 1) = xs.take i ++ [x] := by
  obtain ⟨h, rfl⟩ := List.getElem?_eq_some_iff.1 hx
  rw [List.take_succ_eq_append_getElem h]
theorem like_go {xs ys : List Bs} {i : Nat} {x y : Bs} (h : xs.take i = ys.take i) (hx : xs[i]? = some x) (hy : ys[i]? = some y) (he : x = y) : xs.take (i + 1) = ys.take (i + 1) := by
  rw [take_snoc_l hx, take_snoc_l hy, h, he]
theorem like_stop {xs ys : List Bs} {i : Nat} {x y : Bs} (hx : xs[i]? = some x) (hy : ys[i]? = some y) (he : x ≠ y) : decide (xs = ys) = false := by
  simp only [decide_eq_false_iff_not]; rintro rfl; rw [hx] at hy; cases hy; exact he rfl
theorem like_end {xs ys : List Bs} {i : Nat} (h : xs.take i = ys.take i) (hx : xs.length ≤ i) (hy : ys.length ≤ i) : decide (xs = ys) = true := by
  rw [List.take_of_length_le hx, List.take_of_length_le hy] at h; simpa using h

set_option maxRecDepth 100000 in
theorem same_any (A : Option Addr) (n c : Nat) (xs : List Bs) (A' : Option Addr) (n' c' : Nat) (ys : List Bs) (B B' : Nat) (hn : n ≤ maxLen) (hn' : n' ≤ maxLen) (w : World) (hr : Rd w B 1 A n (cStr xs)) (hr' : Rd w B' 1 A' n' (cStr ys)) :
    Calls Try.prog 13 #[.slice A n c, .slice A' n' c'] w fun e w' => e = .returned (.bool (decide (xs = ys))) ∧ ∃ q, w' = w.drewN q := by
  unfold maxLen at hn hn'
  have hxl : xs.length = n := by simpa using hr.1
  have hyl : ys.length = n' := by simpa using hr'.1
  by_cases hnn : n = n'
  · subst hnn
    have HR := Lib.hid hr
    have HR' := Lib.hid hr'
    have HX := Lib.hid hxl
    have HY := Lib.hid hyl
    clear hr hr' hxl hyl
    go_enter Try.func13, Try.ntmps13
    go_wp2
    go_loopw [5] (fun iv wr => ∃ i q : Nat, iv = .int .i64 i ∧ i ≤ n ∧ xs.take i = ys.take i ∧ wr = w.drewN q) (fun iv _ => n - (intOf iv).toNat)
    case atStart => exact ⟨0, 0, rfl, by omega, rfl, rfl⟩
    case round =>
      obtain ⟨i, q, rfl, hi, hsame, rfl⟩ := hrel
      have HS := Lib.hid hsame
      clear hsame
      by_cases hlt : i < n
      · obtain ⟨ad, x, rfl, hc, hx⟩ := str_at HR.out hlt
        obtain ⟨ad', y, rfl, hc', hy⟩ := str_at HR'.out hlt
        have HXX := Lib.hid hx
        have HYY := Lib.hid hy
        have hlt2 : (i : Int) < (n : Int) := by omega
        clear hx hy
        by_cases he : x = y
        · have hbe : (x == y) = true := by simpa using he
          have HE := Lib.hid he
          clear he
          go_wp2
          go_quiet (fail)
          go_wp2
          go_roundw
          case rel => exact ⟨i + 1, _, by go_num, by omega, like_go HS.out HXX.out HYY.out HE.out, rfl⟩
          case measure => simp [intOf]; omega
        · have hbe : (x == y) = false := by simpa using he
          have HE := Lib.hid he
          clear he
          go_wp2
          go_quiet (fail)
          go_wp2
          go_ret
          exact ⟨ret_bool (like_stop HXX.out HYY.out HE.out).symm, _, World.drewN_drewN _ _ _⟩
      · go_wp2
        go_ret
        exact ⟨ret_bool (like_end HS.out (by have := HX.out; omega) (by have := HY.out; omega)).symm, _, rfl⟩
  · have hd : decide (xs = ys) = false := by
      simp only [decide_eq_false_iff_not]; rintro rfl; omega
    rw [hd]
    have ht : ((n : Int) != (n' : Int)) = true := by simp; omega
    clear hd hxl hyl hnn hr hr'
    go_enter Try.func13, Try.ntmps13
    go_wp2
    go_ret
    exact ⟨rfl, 0, rfl⟩

set_option maxRecDepth 100000 in
theorem pick_any (k : Int) (_hk : -9223372036854775808 ≤ k ∧ k ≤ 9223372036854775807) (n : Nat) (h1 : 1 ≤ n) (hn : n ≤ 9223372036854775807) (w : World) :
    Calls Try.prog 10 #[.int .i64 k, .int .i64 (n : Int)] w fun e w' => (∃ r : Nat, e = .returned (.int .i64 (r : Int)) ∧ r < n) ∧ w = w' := by
  have hn0 : ¬ (n : Int) < 1 := by omega
  have hne : (n : Int) ≠ 0 := by omega
  have hb1 := Int.tmod_lt_of_pos k (show (0 : Int) < n by omega)
  have hb2 : -(n : Int) < Int.tmod k n := by
    have := Int.lt_tmod_of_pos k (show (0 : Int) < n by omega)
    omega
  by_cases hneg : Int.tmod k n < 0
  · go_enter Try.func10, Try.ntmps10
    go_wp2
    go_ret
    exact ⟨⟨(Int.tmod k n + n).toNat, by rw [Int.toNat_of_nonneg (by omega)]; rfl, by omega⟩, rfl⟩
  · go_enter Try.func10, Try.ntmps10
    go_wp2
    go_ret
    exact ⟨⟨(Int.tmod k n).toNat, by rw [Int.toNat_of_nonneg (by omega)]; rfl, by omega⟩, rfl⟩
end Go.Proofs.Ytpppgdfgbhglbaa.Ca
