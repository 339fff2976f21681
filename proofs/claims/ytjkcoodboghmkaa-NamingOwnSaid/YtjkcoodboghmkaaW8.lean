/- The walks of the comparisons of texts and of lists of texts. -/
import Derived.Test.YtjkcoodboghmkaaW7
namespace Go.Proofs.Ytjkcoodboghmkaa.Nm
open Go.RowKit Go.Proofs

theorem str_at {w : World} {B n i : Nat} {A : Option Addr} {xs : List Bs} (hr : Rd w B 1 A n (cStr xs)) (hi : i < n) :
    ∃ ad x, A = some ad ∧ w.cell? (ad.add i) = some (.string ⟨x.toArray⟩) ∧ xs[i]? = some x := by
  obtain ⟨ad, u, rfl, _, hu, hc⟩ := hr.at_ hi
  rw [List.getElem?_map] at hu
  cases hx : xs[i]? with
  | none => rw [hx] at hu; cases hu
  | some x => rw [hx] at hu; cases hu; exact ⟨ad, x, rfl, hc, rfl⟩
theorem beq_true_eq {x : Bs} {s : ByteArray} (h : (x == s.toList) = true) : x = s.data.toList := by rw [Lib.toList_data] at h; simpa using h
theorem beq_false_ne {x : Bs} {s : ByteArray} (h : (x == s.toList) = false) : x ≠ s.data.toList := by rw [Lib.toList_data] at h; simpa using h
theorem take_snoc_l {xs : List Bs} {i : Nat} {x : Bs} (hx : xs[i]? = some x) : xs.take (i + 1) = xs.take i ++ [x] := by
  obtain ⟨h, rfl⟩ := List.getElem?_eq_some_iff.1 hx
  rw [List.take_succ_eq_append_getElem h]
theorem not_mem_take {xs : List Bs} {i : Nat} {s x : Bs} (hno : s ∉ xs.take i) (hx : xs[i]? = some x) (hne : x ≠ s) : s ∉ xs.take (i + 1) := by
  rw [take_snoc_l hx]; simp only [List.mem_append, List.mem_singleton]; rintro (h | h)
  · exact hno h
  · exact hne h.symm
theorem mem_at {xs : List Bs} {i : Nat} {s x : Bs} (hx : xs[i]? = some x) (he : x = s) : decide (s ∈ xs) = true := by
  subst he; simpa using List.mem_of_getElem? hx
theorem not_mem_all {xs : List Bs} {i : Nat} {s : Bs} (hno : s ∉ xs.take i) (hi : xs.length ≤ i) : decide (s ∈ xs) = false := by
  rw [List.take_of_length_le hi] at hno; simpa using hno

theorem begins_any (a b : ByteArray) (w : World) :
    Calls Try.prog 25 #[.string a, .string b] w fun e w' => e = .returned (.bool (b.data.toList.isPrefixOf a.data.toList)) ∧ w = w' := by
  have h : b.data.toList.isPrefixOf a.data.toList = Lib.hasPrefix a.data.toList b.data.toList := rfl
  rw [h, ← Lib.hasPrefix_raw]; clear h
  by_cases h : b.size ≤ a.size
  · have e : (decide (b.size ≤ a.size) && ((a.extract 0 b.size).toList == b.toList)) = ((a.extract 0 b.size).toList == b.toList) := by simp [h]
    rw [e]; clear e
    go_enter Try.func25, Try.ntmps25
    go_wp2
    go_ret
    exact ⟨rfl, rfl⟩
  · have e : (decide (b.size ≤ a.size) && ((a.extract 0 b.size).toList == b.toList)) = false := by simp [h]
    rw [e]; clear e
    go_enter Try.func25, Try.ntmps25
    go_wp2
    go_ret
    exact ⟨rfl, rfl⟩

theorem refBegins_any (a b : ByteArray) (w : World) :
    Calls Try.prog 33 #[.string a, .string b] w fun e w' => e = .returned (.bool (b.data.toList.isPrefixOf a.data.toList)) ∧ w = w' := by
  have h : b.data.toList.isPrefixOf a.data.toList = Lib.hasPrefix a.data.toList b.data.toList := rfl
  rw [h, ← Lib.hasPrefix_raw]; clear h
  by_cases h : b.size ≤ a.size
  · have e : (decide (b.size ≤ a.size) && ((a.extract 0 b.size).toList == b.toList)) = ((a.extract 0 b.size).toList == b.toList) := by simp [h]
    rw [e]; clear e
    go_enter Try.func33, Try.ntmps33
    go_wp2
    go_ret
    exact ⟨rfl, rfl⟩
  · have e : (decide (b.size ≤ a.size) && ((a.extract 0 b.size).toList == b.toList)) = false := by simp [h]
    rw [e]; clear e
    go_enter Try.func33, Try.ntmps33
    go_wp2
    go_ret
    exact ⟨rfl, rfl⟩

set_option maxRecDepth 100000 in
theorem in_any (A : Option Addr) (n c : Nat) (xs : List Bs) (s : ByteArray) (B : Nat) (hn : n ≤ maxLen) (w : World) (hr : Rd w B 1 A n (cStr xs)) :
    Calls Try.prog 26 #[.slice A n c, .string s] w fun e w' => e = .returned (.bool (decide (s.data.toList ∈ xs))) ∧ w = w' := by
  unfold maxLen at hn
  have hxl : xs.length = n := by simpa using hr.1
  have HR := Lib.hid hr
  have HX := Lib.hid hxl
  clear hr hxl
  go_enter Try.func26, Try.ntmps26
  go_wp2
  go_loop [5] (fun iv => ∃ i : Nat, iv = .int .i64 i ∧ i ≤ n ∧ s.data.toList ∉ xs.take i) (fun iv => n - (intOf iv).toNat)
  case atStart => exact ⟨0, rfl, by omega, by simp⟩
  case round =>
    obtain ⟨i, rfl, hi, hno⟩ := hrel
    have HO := Lib.hid hno
    clear hno
    by_cases hlt : i < n
    · obtain ⟨ad, x, rfl, hc, hx⟩ := str_at HR.out hlt
      have HXX := Lib.hid hx
      clear hx
      cases hq : (x == s.toList)
      all_goals
        go_wp2
      · go_round
        case rel => exact ⟨i + 1, by go_num, by omega, not_mem_take HO.out HXX.out (beq_false_ne hq)⟩
        case measure => simp [intOf]; omega
      · go_ret
        exact ⟨ret_bool (mem_at HXX.out (beq_true_eq hq)).symm, rfl⟩
    · go_wp2
      go_ret
      exact ⟨ret_bool (not_mem_all HO.out (by have := HX.out; omega)).symm, rfl⟩

set_option maxRecDepth 100000 in
theorem refIn_any (A : Option Addr) (n c : Nat) (xs : List Bs) (s : ByteArray) (B : Nat) (hn : n ≤ maxLen) (w : World) (hr : Rd w B 1 A n (cStr xs)) :
    Calls Try.prog 34 #[.slice A n c, .string s] w fun e w' => e = .returned (.bool (decide (s.data.toList ∈ xs))) ∧ w = w' := by
  unfold maxLen at hn
  have hxl : xs.length = n := by simpa using hr.1
  have HR := Lib.hid hr
  have HX := Lib.hid hxl
  clear hr hxl
  go_enter Try.func34, Try.ntmps34
  go_wp2
  go_loop [5] (fun iv => ∃ i : Nat, iv = .int .i64 i ∧ i ≤ n ∧ s.data.toList ∉ xs.take i) (fun iv => n - (intOf iv).toNat)
  case atStart => exact ⟨0, rfl, by omega, by simp⟩
  case round =>
    obtain ⟨i, rfl, hi, hno⟩ := hrel
    have HO := Lib.hid hno
    clear hno
    by_cases hlt : i < n
    · obtain ⟨ad, x, rfl, hc, hx⟩ := str_at HR.out hlt
      have HXX := Lib.hid hx
      clear hx
      cases hq : (x == s.toList)
      all_goals
        go_wp2
      · go_round
        case rel => exact ⟨i + 1, by go_num, by omega, not_mem_take HO.out HXX.out (beq_false_ne hq)⟩
        case measure => simp [intOf]; omega
      · go_ret
        exact ⟨ret_bool (mem_at HXX.out (beq_true_eq hq)).symm, rfl⟩
    · go_wp2
      go_ret
      exact ⟨ret_bool (not_mem_all HO.out (by have := HX.out; omega)).symm, rfl⟩

theorem like_go {xs ys : List Bs} {i : Nat} {x y : Bs} (h : xs.take i = ys.take i) (hx : xs[i]? = some x) (hy : ys[i]? = some y) (he : x = y) : xs.take (i + 1) = ys.take (i + 1) := by
  rw [take_snoc_l hx, take_snoc_l hy, h, he]
theorem like_stop {xs ys : List Bs} {i : Nat} {x y : Bs} (hx : xs[i]? = some x) (hy : ys[i]? = some y) (he : x ≠ y) : decide (xs = ys) = false := by
  simp only [decide_eq_false_iff_not]; rintro rfl; rw [hx] at hy; cases hy; exact he rfl
theorem like_end {xs ys : List Bs} {i : Nat} (h : xs.take i = ys.take i) (hx : xs.length ≤ i) (hy : ys.length ≤ i) : decide (xs = ys) = true := by
  rw [List.take_of_length_le hx, List.take_of_length_le hy] at h; simpa using h

set_option maxRecDepth 100000 in
theorem like_any (A : Option Addr) (n c : Nat) (xs : List Bs) (A' : Option Addr) (n' c' : Nat) (ys : List Bs) (B B' : Nat) (hn : n ≤ maxLen) (hn' : n' ≤ maxLen) (w : World) (hr : Rd w B 1 A n (cStr xs)) (hr' : Rd w B' 1 A' n' (cStr ys)) :
    Calls Try.prog 22 #[.slice A n c, .slice A' n' c'] w fun e w' => e = .returned (.bool (decide (xs = ys))) ∧ ∃ q, w' = w.drewN q := by
  unfold maxLen at hn hn'
  have hxl : xs.length = n := by simpa using hr.1
  have hyl : ys.length = n' := by simpa using hr'.1
  by_cases hnn : n = n'
  · subst hnn
    have HR := Lib.hid hr
    have HR' := Lib.hid hr'
    have HX := Lib.hid hxl
    have HY := Lib.hid hyl
    clear hr hr' hxl hyl
    go_enter Try.func22, Try.ntmps22
    go_wp2
    go_loopw [5] (fun iv wr => ∃ i q : Nat, iv = .int .i64 i ∧ i ≤ n ∧ xs.take i = ys.take i ∧ wr = w.drewN q) (fun iv _ => n - (intOf iv).toNat)
    case atStart => exact ⟨0, 0, rfl, by omega, rfl, rfl⟩
    case round =>
      obtain ⟨i, q, rfl, hi, hsame, rfl⟩ := hrel
      have HS := Lib.hid hsame
      clear hsame
      by_cases hlt : i < n
      · obtain ⟨ad, x, rfl, hc, hx⟩ := str_at HR.out hlt
        obtain ⟨ad', y, rfl, hc', hy⟩ := str_at HR'.out hlt
        have HXX := Lib.hid hx
        have HYY := Lib.hid hy
        have hlt2 : (i : Int) < (n : Int) := by omega
        clear hx hy
        by_cases he : x = y
        · have hbe : (x == y) = true := by simpa using he
          have HE := Lib.hid he
          clear he
          go_wp2
          go_quiet (fail)
          go_wp2
          go_roundw
          case rel => exact ⟨i + 1, _, by go_num, by omega, like_go HS.out HXX.out HYY.out HE.out, rfl⟩
          case measure => simp [intOf]; omega
        · have hbe : (x == y) = false := by simpa using he
          have HE := Lib.hid he
          clear he
          go_wp2
          go_quiet (fail)
          go_wp2
          go_ret
          exact ⟨ret_bool (like_stop HXX.out HYY.out HE.out).symm, _, World.drewN_drewN _ _ _⟩
      · go_wp2
        go_ret
        exact ⟨ret_bool (like_end HS.out (by have := HX.out; omega) (by have := HY.out; omega)).symm, _, rfl⟩
  · have hd : decide (xs = ys) = false := by
      simp only [decide_eq_false_iff_not]; rintro rfl; omega
    rw [hd]
    have ht : ((n : Int) != (n' : Int)) = true := by simp; omega
    clear hd hxl hyl hnn hr hr'
    go_enter Try.func22, Try.ntmps22
    go_wp2
    go_ret
    exact ⟨rfl, 0, rfl⟩
end Go.Proofs.Ytjkcoodboghmkaa.Nm
