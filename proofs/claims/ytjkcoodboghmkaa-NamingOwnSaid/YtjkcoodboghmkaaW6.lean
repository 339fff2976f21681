/- The walk of the program's keys of names, and of both kinds. -/
import Derived.Test.YtjkcoodboghmkaaW5
import Derived.Test.YtjkcoodboghmkaaShelf
namespace Go.Proofs.Ytjkcoodboghmkaa.Nm
open Go.RowKit Go.Proofs

/-- A text behind its first byte, where that is an o. -/
def hasO (s : ByteArray) : Bool := Lib.hasPrefix s.data.toList [111]
def cutO (s : ByteArray) : ByteArray := ⟨(Lib.trimPrefix s.data.toList [111]).toArray⟩
theorem cutO_any (s : ByteArray) (w : World) :
    Calls Try.prog 31 #[.string s, .string ⟨#[111]⟩] w fun e w' => e = .returned (.tuple #[.string (cutO s), .bool (hasO s)]) ∧ w = w' :=
  (Try.strings_CutPrefix s ⟨#[111]⟩ w).mono fun _ _ ⟨he, hw⟩ => ⟨he, hw.symm⟩
theorem cutO_key (s : ByteArray) (h : hasO s = true) : s.data.toList = 111 :: (cutO s).data.toList := by
  cases hl : s.data.toList with
  | nil => simp [hasO, Lib.hasPrefix, hl] at h
  | cons c r =>
    have hc : c = 111 := (by simpa [hasO, Lib.hasPrefix, hl, List.isPrefixOf] using h.symm : 111 = c).symm
    subst hc
    simp [cutO, Lib.trimPrefix, hl, Lib.hasPrefix, List.isPrefixOf]
theorem noO_key (s : ByteArray) (h : hasO s = false) : key? s.data.toList = none := by
  cases hl : s.data.toList with
  | nil => rfl
  | cons c r =>
    rw [key_cons, if_neg]
    rintro ⟨rfl, _⟩
    simp [hasO, Lib.hasPrefix, hl, List.isPrefixOf] at h
theorem or16 (p q : Nat) (hp : p < 16) (hq : q < 16) : bits .or .u8 ((p : Int) * 16) (q : Int) = (p : Int) * 16 + (q : Int) := by
  have h1 := u8_or_nat (p * 16) q (by omega) (by omega)
  have h2 : p * 16 ||| q = p * 16 + q := by
    have := Nat.two_pow_add_eq_or_of_lt (i := 4) (b := q) hq p
    rw [Nat.mul_comm p 16, show (16 : Nat) = 2 ^ 4 from rfl, ← this]
  rw [h2] at h1
  simpa using h1

/-- The cells while a list is filled. -/
def fillU8 (l : Bs) (n : Nat) : List Value := cU8 l ++ List.replicate (n - l.length) (.int .u8 0)
theorem fill_len (l : Bs) (n : Nat) (h : l.length ≤ n) : (fillU8 l n).length = n := by simp [fillU8]; omega
theorem fill_set (l : Bs) (n : Nat) (h : l.length < n) (b : UInt8) (u : Value) (hu : u = .int .u8 (b.toNat : Int)) : (fillU8 l n).set l.length u = fillU8 (l ++ [b]) n := by
  subst hu
  unfold fillU8
  rw [List.set_append_right _ _ (by simp)]
  have e : n - l.length = (n - (l.length + 1)) + 1 := by omega
  rw [e, List.replicate_succ]
  simp
theorem fill_all (l : Bs) (n : Nat) (h : l.length = n) : fillU8 l n = cU8 l := by simp [fillU8, h]
theorem fill_none (n : Nat) : fillU8 [] n = List.replicate n (.int .u8 0) := by simp [fillU8]

theorem pair_go (h l : Bs) (i : Nat) (hlt : 2 * i + 1 < h.length) (hl : unhex (h.take (2 * i)) = some l) {x y : UInt8} (hx : h[2 * i]'(by omega) = x) (hy : h[2 * i + 1] = y) :
    (num x = none ∨ num y = none → unhex h = none) ∧ ∀ p q, num x = some p → num y = some q → p < 16 ∧ q < 16 ∧ unhex (h.take (2 * (i + 1))) = some (l ++ [UInt8.ofNat (p * 16 + q)]) := by
  have hp := unhex_step h l i hlt hl
  rw [hx, hy] at hp
  refine ⟨fun hn => ?_, fun p q h1 h2 => ?_⟩
  · refine unhex_stop h i (by omega) ?_
    rw [hp]
    rcases hn with h1 | h1
    · rw [h1]
    · rw [h1]; cases num x <;> rfl
  · rw [h1, h2] at hp
    exact ⟨(dig_num _ p h1).1, (dig_num _ q h2).1, by rw [hp, Nat.mul_comm]⟩

set_option maxRecDepth 100000 in
set_option maxHeartbeats 1000000 in
theorem key_any (s : ByteArray) (hs : s.size ≤ maxLen) (w : World) :
    Calls Try.prog 18 #[.string s] w fun e w' => e = .returned (.tuple #[.string ⟨(keyOf s.data.toList).toArray⟩, .bool (keyOk s.data.toList)]) ∧ Below w.heap.size w w' := by
  unfold maxLen at hs
  obtain ⟨i0, hi, hz0, hz1, hz2⟩ := info_parts infoU8
  cases ho : hasO s with
  | false =>
    have HN := Lib.hid (ret_key_none (noO_key s ho))
    go_enter Try.func18, Try.ntmps18
    go_wp2_with (go_at_call 31; refine (cutO_any _ _).mono ?_; rintro e w' ⟨rfl, rfl⟩)
    go_ret2
    exact ⟨by rw [HN.out.1, HN.out.2]; rfl, Below.refl _ _⟩
  | true =>
  have hk := cutO_key s ho
  obtain ⟨t, ht⟩ : ∃ t, cutO s = t := ⟨_, rfl⟩
  rw [ht] at hk
  have hkk : key? s.data.toList = if 1 ≤ t.size ∧ t.size ≤ 510 then unhex t.data.toList else none := by
    rw [hk, key_cons, len_data]; simp
  have hst : s.size = t.size + 1 := by have h1 := len_data s; rw [hk, List.length_cons, len_data] at h1; omega
  clear hk
  by_cases h1 : t.size < 1
  · have HN := Lib.hid (ret_key_none (hkk.trans (if_neg (by omega))))
    have hne := is_empty t h1
    clear hkk hst
    go_enter Try.func18, Try.ntmps18
    go_wp2_with (go_at_call 31; refine (cutO_any _ _).mono ?_; rintro e w' ⟨rfl, rfl⟩)
    go_ret2
    exact ⟨by rw [HN.out.1, HN.out.2]; rfl, Below.refl _ _⟩
  have hne := not_empty t (by omega)
  have hts : t.size ≤ 9223372036854775807 := by omega
  by_cases h2 : t.size % 2 = 0
  · have h2' : ((t.size : Int) % 2 != 0) = false := by simp; omega
    by_cases h3 : 510 < t.size
    · have HN := Lib.hid (ret_key_none (hkk.trans (if_neg (by omega))))
      clear hkk hst h2
      go_enter Try.func18, Try.ntmps18
      go_wp2_with (go_at_call 31; refine (cutO_any _ _).mono ?_; rintro e w' ⟨rfl, rfl⟩)
      go_ret2
      exact ⟨by rw [HN.out.1, HN.out.2]; rfl, Below.refl _ _⟩
    · obtain ⟨n, hn⟩ : ∃ n, t.size = 2 * n := ⟨t.size / 2, by omega⟩
      have HN := Lib.hid (hkk.trans (if_pos ⟨by omega, by omega⟩))
      have HT := Lib.hid hn
      have hn2 : ((t.size : Int) / 2) = n := by omega
      have hn3 : n ≤ 255 := by omega
      clear hkk hst h2 hn
      go_enter Try.func18, Try.ntmps18
      go_wp2_with (first
        | (go_at_call 31; refine (cutO_any _ _).mono ?_; rintro e w' ⟨rfl, rfl⟩)
        | (at_make; refine wpList_make_full _ rfl _ _ 38 rfl w.heap.size 5 i0 (.int .u8 0) 1 Try.underlying38 hi hz0 hz1 _ _ _ _ n rfl rfl rfl rfl (by rw [hz2]; omega) (by unfold maxLen; omega) (Nat.le_refl _) ?_; intro w1 hrow1 hg1))
      go_loopw [40] (fun iv wr => ∃ (i : Nat) (l : Bs), iv = .int .i64 i ∧ i ≤ n ∧ unhex (t.data.toList.take (2 * i)) = some l ∧ l.length = i ∧ wr.ownsRow w.heap.size 5 1 (.slice (some ⟨w.heap.size, 0, none⟩) n n) n (fillU8 l n) ∧ Below w.heap.size w wr) (fun iv _ => n - (intOf iv).toNat)
      case atStart => exact ⟨0, [], rfl, by omega, rfl, rfl, by rw [fill_none, ← toList_madeCells_one]; have h := hrow1; rw [Nat.mul_one] at h; exact h, (Below.refl _ _).grown hg1 (Nat.le_refl _) (fun j hj => by cases hj)⟩
      case round =>
        obtain ⟨i, l, rfl, hin, hl, hli, hown, hnx⟩ := hrel
        have HL := Lib.hid hl
        have HI := Lib.hid hli
        by_cases hlt : i < n
        · have hT := HT.out
          have hx0 : 2 * i < t.size := by omega
          have hy0 : 2 * i + 1 < t.size := by omega
          obtain ⟨x, hx⟩ : ∃ x, t[2 * i] = x := ⟨_, rfl⟩
          obtain ⟨y, hy⟩ : ∃ y, t[2 * i + 1] = y := ⟨_, rfl⟩
          obtain ⟨P1, P2⟩ := pair_go t.data.toList l i (by rw [len_data]; exact hy0) hl (x := x) (y := y) (by rw [data_get]; exact hx) (by rw [data_get]; exact hy)
          have hb1 := byte_256 x
          have hb2 := byte_256 y
          obtain ⟨old, hc⟩ : ∃ old, wr.cell? ⟨w.heap.size, i, none⟩ = some old := by
            have hc := hown.cellAt i (by omega)
            rw [List.getElem?_eq_getElem (by rw [fill_len l n (by omega)]; exact hlt)] at hc
            exact ⟨_, hc⟩
          have hf := hown.frozenAt i
          clear hl hli hT
          have H1 := Lib.hid P1
          have H2 := Lib.hid P2
          clear P1 P2
          cases hp : num x with
          | none =>
            have hr := Lib.hid (ret_key_none (HN.out.trans (H1.out (.inl hp))))
            go_wp2_with (go_at_call 32; refine (value_any _ ?_ ?_ _).mono ?_; omega; omega; rintro e w' ⟨rfl, rfl⟩)
            all_goals (go_ret2; exact ⟨by rw [hr.out.1, hr.out.2]; rfl, hnx⟩)
          | some p =>
            cases hq : num y with
            | none =>
              have hr := Lib.hid (ret_key_none (HN.out.trans (H1.out (.inr hq))))
              go_wp2_with (go_at_call 32; refine (value_any _ ?_ ?_ _).mono ?_; omega; omega; rintro e w' ⟨rfl, rfl⟩)
              all_goals (go_ret2; exact ⟨by rw [hr.out.1, hr.out.2]; rfl, hnx⟩)
            | some q =>
              obtain ⟨hp16, hq16, hu⟩ := H2.out p q hp hq
              have HU := Lib.hid hu
              have hor := or16 p q hp16 hq16
              clear hu
              go_wp2_with (go_at_call 32; refine (value_any _ ?_ ?_ _).mono ?_; omega; omega; rintro e w' ⟨rfl, rfl⟩)
              go_roundw
              case rel =>
                obtain ⟨hown2, hg2⟩ := hown.stored i (.int .u8 ((p : Int) * 16 + (q : Int)))
                refine ⟨i + 1, l ++ [UInt8.ofNat (p * 16 + q)], by go_num, by omega, HU.out, by simp; exact HI.out, ?_, hnx.setCell (Nat.le_refl _) _⟩
                have hf2 := fill_set l n (by have := HI.out; omega) (UInt8.ofNat (p * 16 + q)) (.int .u8 ((p : Int) * 16 + (q : Int))) (by simp only [UInt8.toNat_ofNat']; congr 1; omega)
                rw [HI.out] at hf2
                rw [← hf2]
                exact hown2
              case measure => simp [intOf]; omega
        · obtain rfl : i = n := by omega
          have hfl : fillU8 l i = cU8 l := fill_all l i hli
          rw [hfl] at hown
          have ht := run_text (P := Try.prog) wr 38 9 5 Try.underlying38 Try.underlying5 Try.underlying9 i (Rd.of_own hown)
          clear hl hli hfl hown
          go_wp2
          go_ret2
          have hk : key? s.data.toList = some l := by
            rw [HN.out, ← HL.out, List.take_of_length_le]
            rw [len_data]; have := HT.out; omega
          have hr := ret_key_some hk
          exact ⟨by rw [hr.1, hr.2]; rfl, hnx⟩
  · have h2' : ((t.size : Int) % 2 != 0) = true := by simp; omega
    have HN := Lib.hid (ret_key_none (by rw [hkk]; split <;> first | rfl | exact unhex_odd _ (t.size / 2) (by rw [len_data]; omega)))
    clear hkk hst h2
    go_enter Try.func18, Try.ntmps18
    go_wp2_with (go_at_call 31; refine (cutO_any _ _).mono ?_; rintro e w' ⟨rfl, rfl⟩)
    go_ret2
    exact ⟨by rw [HN.out.1, HN.out.2]; rfl, Below.refl _ _⟩
end Go.Proofs.Ytjkcoodboghmkaa.Nm
