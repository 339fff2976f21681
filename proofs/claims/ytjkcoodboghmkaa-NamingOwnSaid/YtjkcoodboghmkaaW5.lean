/- The walk of the document's keys of names. -/
import Derived.Test.YtjkcoodboghmkaaW4
namespace Go.Proofs.Ytjkcoodboghmkaa.Nm
open Go.RowKit Go.Proofs

theorem data_get (s : ByteArray) (k : Nat) (h : k < s.size) : s.data.toList[k]'(by rw [len_data]; exact h) = s[k] := rfl
theorem key_byte (s : ByteArray) (h : 0 < s.size) (hc : s[0] ≠ 111) : key? s.data.toList = none := by
  cases hl : s.data.toList with
  | nil => rfl
  | cons c r =>
    have : c = s[0] := by
      have h0 := data_get s 0 h
      simp only [hl] at h0
      exact h0
    rw [key_cons]
    rw [if_neg (fun hh => hc (this ▸ hh.1))]
theorem key_long (s : ByteArray) (h : 511 < s.size) : key? s.data.toList = none := by
  have hll := len_data s
  cases hl : s.data.toList with
  | nil => rfl
  | cons c r =>
    rw [hl] at hll
    simp only [List.length_cons] at hll
    rw [key_cons]
    rw [if_neg (fun hh => by omega)]
theorem key_even (s : ByteArray) (h : s.size % 2 = 0) : key? s.data.toList = none := by
  have hll := len_data s
  cases hl : s.data.toList with
  | nil => rfl
  | cons c r =>
    rw [hl] at hll
    simp only [List.length_cons] at hll
    rw [key_cons]
    split
    · exact unhex_odd r (r.length / 2) (by omega)
    · rfl
theorem key_some (s : ByteArray) (h3 : 3 ≤ s.size) (h511 : s.size ≤ 511) (hc : s[0]'(by omega) = 111) : key? s.data.toList = unhex (s.data.toList.drop 1) := by
  have hll := len_data s
  cases hl : s.data.toList with
  | nil => rw [hl] at hll; simp at hll; omega
  | cons c r =>
    have : c = s[0]'(by omega) := by
      have h0 := data_get s 0 (by omega)
      simp only [hl] at h0
      exact h0
    rw [hl] at hll
    simp only [List.length_cons] at hll
    rw [key_cons]
    rw [if_pos ⟨by rw [this, hc], by omega, by omega⟩]
    rfl
theorem ret_key_none {l : Bs} (h : key? l = none) : keyOf l = [] ∧ keyOk l = false := by simp [keyOf, keyOk, h]
theorem ret_key_some {l k : Bs} (h : key? l = some k) : keyOf l = k ∧ keyOk l = true := by simp [keyOf, keyOk, h]
theorem numI_neg (c : UInt8) : numI c < 0 ↔ num c = none := by
  unfold numI; cases num c <;> simp
theorem ofNat_toNat_i (b : UInt8) : UInt8.ofNat ((b.toNat : Int)).toNat = b := by simp
theorem numI_le (c : UInt8) : numI c < 16 ∧ -1 ≤ numI c := by
  unfold numI
  cases h : num c with
  | none => simp
  | some n => have := (dig_num c n h).1; simp; omega

theorem key_pair (s : ByteArray) (i j : Nat) (l : Bs) (hij : i = 2 * j + 1) (hlt : i + 1 < s.size) (hl : unhex ((s.data.toList.drop 1).take (2 * j)) = some l) :
    unhex ((s.data.toList.drop 1).take (2 * (j + 1))) = (match num (s[i]'(by omega)), num s[i + 1] with | some x, some y => some (l ++ [UInt8.ofNat (16 * x + y)]) | _, _ => none) := by
  subst hij
  have hd : (s.data.toList.drop 1).length = s.size - 1 := by rw [List.length_drop, len_data]
  have h := unhex_step (s.data.toList.drop 1) l j (by omega) hl
  have e1 : (s.data.toList.drop 1)[2 * j]'(by omega) = s[2 * j + 1]'(by omega) := by
    rw [List.getElem_drop, ← data_get s (2 * j + 1) (by omega)]; congr 1; omega
  have e2 : (s.data.toList.drop 1)[2 * j + 1]'(by omega) = s[2 * j + 1 + 1] := by
    rw [List.getElem_drop, ← data_get s (2 * j + 1 + 1) (by omega)]; congr 1; omega
  rw [e1, e2] at h
  exact h
theorem key_stop (s : ByteArray) (i j : Nat) (l : Bs) (hij : i = 2 * j + 1) (hlt : i + 1 < s.size) (hl : unhex ((s.data.toList.drop 1).take (2 * j)) = some l)
    (hk : key? s.data.toList = unhex (s.data.toList.drop 1)) (hn : numI (s[i]'(by omega)) < 0 ∨ numI s[i + 1] < 0) : key? s.data.toList = none := by
  rw [hk]
  refine unhex_stop _ j (by rw [List.length_drop, len_data]; omega) ?_
  rw [key_pair s i j l hij hlt hl]
  rw [numI_neg, numI_neg] at hn
  rcases hn with h | h
  · rw [h]
  · rw [h]; cases num (s[i]'(by omega)) <;> rfl
theorem key_stop' (s : ByteArray) (i j : Nat) (l : Bs) (hij : i = 2 * j + 1) (hlt : i + 1 < s.size) (hl : unhex ((s.data.toList.drop 1).take (2 * j)) = some l) {x y : UInt8} (hx : s[i]'(by omega) = x) (hy : s[i + 1] = y)
    (hk : key? s.data.toList = unhex (s.data.toList.drop 1)) (hn : numI x < 0 ∨ numI y < 0) : key? s.data.toList = none := key_stop s i j l hij hlt hl hk (by rw [hx, hy]; exact hn)
theorem key_go (s : ByteArray) (i j : Nat) (l : Bs) (hij : i = 2 * j + 1) (hlt : i + 1 < s.size) (hl : unhex ((s.data.toList.drop 1).take (2 * j)) = some l)
    (h1 : ¬ numI (s[i]'(by omega)) < 0) (h2 : ¬ numI s[i + 1] < 0) :
    ∃ b : UInt8, 16 * numI (s[i]'(by omega)) + numI s[i + 1] = (b.toNat : Int) ∧ unhex ((s.data.toList.drop 1).take (2 * (j + 1))) = some (l ++ [b]) := by
  have hp := key_pair s i j l hij hlt hl
  rw [numI_neg] at h1 h2
  cases ha : num (s[i]'(by omega)) with
  | none => exact absurd ha h1
  | some x =>
    cases hb : num s[i + 1] with
    | none => exact absurd hb h2
    | some y =>
      have hx := (dig_num _ x ha).1
      have hy := (dig_num _ y hb).1
      rw [ha, hb] at hp
      refine ⟨UInt8.ofNat (16 * x + y), ?_, hp⟩
      simp only [numI, ha, hb, UInt8.toNat_ofNat']
      omega

theorem key_go' (s : ByteArray) (i j : Nat) (l : Bs) (hij : i = 2 * j + 1) (hlt : i + 1 < s.size) (hl : unhex ((s.data.toList.drop 1).take (2 * j)) = some l) {x y : UInt8} (hx : s[i]'(by omega) = x) (hy : s[i + 1] = y)
    (h1 : ¬ numI x < 0) (h2 : ¬ numI y < 0) : ∃ b : UInt8, 16 * numI x + numI y = (b.toNat : Int) ∧ unhex ((s.data.toList.drop 1).take (2 * (j + 1))) = some (l ++ [b]) := by
  subst hx; subst hy; exact key_go s i j l hij hlt hl h1 h2

set_option maxRecDepth 100000 in
set_option maxHeartbeats 1000000 in
theorem refKey_any (s : ByteArray) (hs : s.size ≤ maxLen) (w : World) :
    Calls Try.prog 17 #[.string s] w fun e w' => e = .returned (.tuple #[.string ⟨(keyOf s.data.toList).toArray⟩, .bool (keyOk s.data.toList)]) ∧ Below w.heap.size w w' := by
  unfold maxLen at hs
  obtain ⟨i0, hi, hz0, hz1, hz2⟩ := info_parts infoU8
  by_cases h1 : s.size < 3
  · have HN := Lib.hid (ret_key_none (key_none_short s.data.toList (by rw [len_data]; exact h1)))
    go_enter Try.func17, Try.ntmps17
    go_wp2
    go_ret2
    exact ⟨by rw [HN.out.1, HN.out.2]; rfl, Below.refl _ _⟩
  by_cases h2 : 511 < s.size
  · have HN := Lib.hid (ret_key_none (key_long s h2))
    go_enter Try.func17, Try.ntmps17
    go_wp2
    go_ret2
    exact ⟨by rw [HN.out.1, HN.out.2]; rfl, Below.refl _ _⟩
  by_cases h3 : s.size % 2 = 0
  · have HN := Lib.hid (ret_key_none (key_even s h3))
    have h3' : (s.size : Int) % 2 = 0 := by omega
    clear h3
    go_enter Try.func17, Try.ntmps17
    go_wp2
    go_ret2
    exact ⟨by rw [HN.out.1, HN.out.2]; rfl, Below.refl _ _⟩
  by_cases h4 : s[0]'(by omega) = 111
  · have HN := Lib.hid (key_some s (by omega) (by omega) h4)
    have hb0 : (s[0]'(by omega)).toNat = 111 := by rw [h4]; rfl
    have t4 : (((s[0]'(by omega)).toNat : Int) != 111) = false := by simp [hb0]
    have t3 : ((s.size : Int) % 2 == 0) = false := by rw [beq_eq_false_iff_ne]; omega
    clear h4 hb0
    go_enter Try.func17, Try.ntmps17
    go_wp2
    go_loopw [4, 5] (fun v iv wr => ∃ (i j : Nat) (l : Bs), iv = .int .i64 i ∧ i = 2 * j + 1 ∧ i ≤ s.size ∧ unhex ((s.data.toList.drop 1).take (2 * j)) = some l ∧ l.length = j ∧ wr.ownsRow w.heap.size 5 1 v l.length (cU8 l) ∧ Below w.heap.size w wr) (fun _ iv _ => s.size - (intOf iv).toNat)
    case atStart => exact ⟨1, 0, [], rfl, rfl, by omega, rfl, rfl, World.ownsRow_nil _ _ _ _, Below.refl _ _⟩
    case round =>
      obtain ⟨i, j, l, rfl, hij, his, hl, hlj, hown, hnx⟩ := hrel
      have HI := Lib.hid hij
      have HL := Lib.hid hl
      have HLJ := Lib.hid hlj
      have hll : l.length ≤ 255 := by omega
      clear hl
      by_cases hlt : i + 1 < s.size
      · have his1 : i < s.size := Nat.lt_of_succ_lt hlt
        obtain ⟨x, hx⟩ : ∃ x, s[i] = x := ⟨_, rfl⟩
        obtain ⟨y, hy⟩ : ∃ y, s[i + 1] = y := ⟨_, rfl⟩
        have hb1 := byte_256 x
        have hb2 := byte_256 y
        have hm1 := numI_le x
        have hm2 := numI_le y
        by_cases hn : numI x < 0 ∨ numI y < 0
        · have hr := Lib.hid (ret_key_none (key_stop' s i j l hij hlt HL.out hx hy HN.out hn))
          clear hij hlj
          rcases hn with hn | hn
          all_goals
            go_wp2_with (go_at_call 30; refine (number_any _ ?_ ?_ _).mono ?_; omega; omega; rintro e w' ⟨rfl, rfl⟩)
          all_goals (go_ret2; exact ⟨by rw [hr.out.1, hr.out.2]; rfl, hnx⟩)
        · obtain ⟨b, hb, hu⟩ := key_go' s i j l hij hlt HL.out hx hy (fun h => hn (.inl h)) (fun h => hn (.inr h))
          have hn1 : 0 ≤ numI x := by omega
          have hn2 : 0 ≤ numI y := by omega
          have hsum : 16 * numI x + numI y ≤ 255 := by have := UInt8.toNat_lt b; omega
          have HB := Lib.hid hb
          have HU := Lib.hid hu
          clear hb hu hn hij hlj
          go_wp2_with (first
            | (go_at_call 30; refine (number_any _ ?_ ?_ _).mono ?_; omega; omega; rintro e w' ⟨rfl, rfl⟩)
            | (at_builtin; refine wpList_append_own _ rfl _ _ 38 rfl w.heap.size 5 i0 (.int .u8 0) 1 1 Try.underlying38 hi hz0 hz1 hz2 rfl (by decide) u4 _ _ rfl (hown.alloc _) ⟨wr.heap.size, 0, none⟩ 1 1 [.int .u8 (16 * numI x + numI y)] rfl rfl (cell_one_new _ _ _) (by simp [Value.oneCell']) (by unfold maxLen; omega) (by omega) (by have := hnx.size; simp; omega) ?_; intro v2 w2 hrow2 hg2 _))
          go_roundw
          case rel =>
            refine ⟨i + 2, j + 1, l ++ [b], by go_num, by have := HI.out; omega, by omega, HU.out, by simp; exact HLJ.out, ?_, (hnx.alloc hnx.size _).grown hg2 (by have := hnx.size; simp; omega) (fun j hj => (hown.lt j hj).1)⟩
            have e := HB.out
            simpa [e] using hrow2
          case measure => simp [intOf]; omega
      · clear hij hlj
        obtain ⟨A, c, rfl, _, _⟩ := own_form hown
        have ht := run_text (P := Try.prog) wr 38 9 5 Try.underlying38 Try.underlying5 Try.underlying9 c (Rd.of_own hown)
        go_wp2
        go_ret2
        have hk : key? s.data.toList = some l := by
          rw [HN.out, ← HL.out, List.take_of_length_le]
          have := len_data s
          rw [List.length_drop]; have := HI.out; omega
        have hr := ret_key_some hk
        exact ⟨by rw [hr.1, hr.2]; rfl, hnx⟩
  · have HN := Lib.hid (ret_key_none (key_byte s (by omega) h4))
    have hb0 : (s[0]'(by omega)).toNat ≠ 111 := fun e => h4 (UInt8.toNat.inj e)
    have t4 : (((s[0]'(by omega)).toNat : Int) != 111) = true := by simp; omega
    have t3 : ((s.size : Int) % 2 == 0) = false := by rw [beq_eq_false_iff_ne]; omega
    clear h4 hb0
    go_enter Try.func17, Try.ntmps17
    go_wp2
    go_ret2
    exact ⟨by rw [HN.out.1, HN.out.2]; rfl, Below.refl _ _⟩
end Go.Proofs.Ytjkcoodboghmkaa.Nm
