/- The walks of three outright statements. -/
import Derived.Test.YtjkcoodboghmkaaW13
namespace Go.Proofs.Ytjkcoodboghmkaa.Nm
open Go.RowKit Go.Proofs

theorem fit_any (s : ByteArray) (w : World) : Calls Try.prog 24 #[.string s] w fun e w' => e = .returned (.bool (fitB s.data.toList)) ∧ w = w' := by
  rw [fit_of_size]
  by_cases h1 : 1 ≤ s.size
  · by_cases h2 : s.size ≤ 255
    · have e : (decide (1 ≤ s.size) && decide (s.size ≤ 255)) = true := by simp [h1, h2]
      rw [e]
      go_enter Try.func24, Try.ntmps24
      go_wp2
      go_ret
      exact ⟨ret_bool (by simp; omega), rfl⟩
    · have e : (decide (1 ≤ s.size) && decide (s.size ≤ 255)) = false := by simp [h2]
      rw [e]
      go_enter Try.func24, Try.ntmps24
      go_wp2
      go_ret
      exact ⟨ret_bool (by simp; omega), rfl⟩
  · have e : (decide (1 ≤ s.size) && decide (s.size ≤ 255)) = false := by simp [h1]
    rw [e]
    go_enter Try.func24, Try.ntmps24
    go_wp2
    go_ret
    exact ⟨rfl, rfl⟩

/-- The name of a key that is one, told of a text of its own. -/
structure NameOf (s N : ByteArray) : Prop where
  data : N.data.toList = objName s.data.toList
  fit : fitB s.data.toList = true
theorem name_of (s : ByteArray) (h : fitB s.data.toList = true) : ∃ N, NameOf s N := ⟨⟨(objName s.data.toList).toArray⟩, rfl, h⟩
theorem objErr_fit {l : Bs} (h : fitB l = true) : objErr l = 0 := by simp [objErr, h]
theorem NameOf.object {s N : ByteArray} (h : NameOf s N) (hs : s.size ≤ maxLen) (w : World) :
    Calls Try.prog 16 #[.string s] w fun e w' => e = .returned (.tuple #[.string N, .int .i64 0]) ∧ Below w.heap.size w w' :=
  (object_any s hs w).mono fun _ _ ⟨he, hb⟩ => ⟨by rw [he, objErr_fit h.fit, ba_eq N _ h.data], hb⟩
theorem NameOf.size {s N : ByteArray} (h : NameOf s N) : N.size = 1 + 2 * s.size ∧ 1 ≤ s.size ∧ s.size ≤ 255 := by
  have h1 := len_data N
  rw [h.data] at h1
  have h2 := (fit_iff _).1 h.fit
  rw [len_data] at h2
  unfold objName at h1
  rw [if_pos h.fit, List.length_cons, objTail_length, len_data] at h1
  omega
theorem NameOf.key {s N : ByteArray} (h : NameOf s N) (w : World) :
    Calls Try.prog 18 #[.string N] w fun e w' => e = .returned (.tuple #[.string s, .bool true]) ∧ Below w.heap.size w w' := by
  have hk : key? N.data.toList = some s.data.toList := by rw [h.data]; exact key_obj _ h.fit
  have hr := ret_key_some hk
  have hsz := h.size
  refine (key_any N (by unfold maxLen; omega) w).mono fun e w' ⟨he, hb⟩ => ⟨?_, hb⟩
  rw [he, hr.1, hr.2, ← ba_eq s _ rfl]
theorem NameOf.first {s N : ByteArray} (h : NameOf s N) (h0 : 0 < N.size) : N[0] = 111 := by
  have h1 := data_get N 0 h0
  have h2 := h.data
  unfold objName at h2
  rw [if_pos h.fit] at h2
  simp only [h2] at h1
  exact h1.symm
theorem NameOf.kind {s N : ByteArray} (h : NameOf s N) (w : World) :
    Calls Try.prog 19 #[.string N] w fun e w' => e = .returned (.int .i64 1) ∧ Below w.heap.size w w' := by
  have hk : key? N.data.toList = some s.data.toList := by rw [h.data]; exact key_obj _ h.fit
  have hsz := h.size
  have hl := len_data N
  have hkk : Nm.kind N.data.toList = 1 := by
    unfold Nm.kind
    rw [if_neg, if_neg, if_pos]
    · simp [keyOk, hk]
    · intro e; rw [e] at hl; simp at hl; omega
    · intro e; rw [e] at hl; simp at hl; omega
  exact (kind_any N (by unfold maxLen; omega) w).mono fun e w' ⟨he, hb⟩ => ⟨by rw [he, hkk], hb⟩
theorem dig_digit (n : Nat) (h : n < 16) : (48 ≤ (dig n).toNat ∧ (dig n).toNat ≤ 57) ∨ (97 ≤ (dig n).toNat ∧ (dig n).toNat ≤ 102) := by
  have : ∀ n : Fin 16, (48 ≤ (dig n.val).toNat ∧ (dig n.val).toNat ≤ 57) ∨ (97 ≤ (dig n.val).toNat ∧ (dig n.val).toNat ≤ 102) := by decide
  exact this ⟨n, h⟩
theorem objTail_digit (l : Bs) : ∀ b ∈ objTail l, (48 ≤ b.toNat ∧ b.toNat ≤ 57) ∨ (97 ≤ b.toNat ∧ b.toNat ≤ 102) := by
  induction l with
  | nil => simp [objTail]
  | cons c r ih =>
    intro b hb
    have hc : c.toNat < 256 := UInt8.toNat_lt c
    simp only [objTail, List.mem_cons] at hb
    rcases hb with rfl | rfl | hb
    · exact dig_digit _ (by omega)
    · exact dig_digit _ (by omega)
    · exact ih b hb
theorem NameOf.digit {s N : ByteArray} (h : NameOf s N) (i : Nat) (hi : i < N.size) (h0 : 1 ≤ i) : (48 ≤ (N[i].toNat : Int) ∧ (N[i].toNat : Int) ≤ 57) ∨ (97 ≤ (N[i].toNat : Int) ∧ (N[i].toNat : Int) ≤ 102) := by
  have h1 := data_get N i hi
  have h2 := h.data
  unfold objName at h2
  rw [if_pos h.fit] at h2
  have hm : N[i] ∈ objTail s.data.toList := by
    rw [← h1]
    obtain ⟨j, rfl⟩ : ∃ j, i = j + 1 := ⟨i - 1, by omega⟩
    simp only [h2, List.getElem_cons_succ]
    exact List.getElem_mem _
  have := objTail_digit _ _ hm
  omega
theorem toList_ne (N : ByteArray) (l : Bs) (h : N.size ≠ l.length) : (N.toList == l) = false := by
  rw [toList_eq]; simp; intro e; have := len_data N; rw [e] at this; omega

set_option maxRecDepth 100000 in
set_option maxHeartbeats 2000000 in
theorem law_back (s : ByteArray) (hs : s.size ≤ maxLen) (w : World) : Calls Try.prog 8 #[.string s] w fun e w' => e = .returned (.bool true) ∧ Below w.heap.size w w' := by
  cases hf : fitB s.data.toList with
  | false =>
    have ho : ∀ w : World, Calls Try.prog 16 #[.string s] w fun e w' => e = .returned (.tuple #[.string ⟨#[]⟩, .int .i64 90]) ∧ Below w.heap.size w w' := fun w =>
      (object_any s hs w).mono fun _ _ ⟨he, hb⟩ => ⟨by rw [he]; simp [objName, objErr, hf], hb⟩
    have HO := Lib.hid ho
    clear ho
    go_enter Try.func8, Try.ntmps8
    go_wp2_with (first
      | (go_at_call 14; refine (known_any _).mono ?_; rintro e w1 ⟨rfl, hb1⟩)
      | (go_at_call 16; refine (HO.out _).mono ?_; rintro e w2 ⟨rfl, hb2⟩)
      | (go_at_call 24; refine (fit_any _ _).mono ?_; rintro e w3 ⟨rfl, rfl⟩))
    go_ret
    exact ⟨rfl, bch hb1 hb2⟩
  | true =>
    obtain ⟨N, hN⟩ := name_of s hf
    obtain ⟨hsz, hs1, hs2⟩ := hN.size
    have HN := Lib.hid hN
    have hN0 : 0 < N.size := by omega
    have hx := hN.first hN0
    have t1 := toList_ne N [116] (by simp; omega)
    have t2 := toList_ne N [108] (by simp; omega)
    have t3 : ((N.size : Int) != 1 + 2 * (s.size : Int)) = false := by simp; omega
    have hNn : N.size ≤ 511 := by omega
    clear hN hsz
    go_enter Try.func8, Try.ntmps8
    go_wp2_with (first
      | (go_at_call 14; refine (known_any _).mono ?_; rintro e w1 ⟨rfl, hb1⟩)
      | (go_at_call 16; refine (HN.out.object hs _).mono ?_; rintro e w2 ⟨rfl, hb2⟩)
      | (go_at_call 24; refine (fit_any _ _).mono ?_; rintro e w3 ⟨rfl, rfl⟩))
    go_loop [5] (fun iv => ∃ i : Nat, iv = .int .i64 i ∧ 1 ≤ i ∧ i ≤ N.size) (fun iv => N.size - (intOf iv).toNat)
    case atStart => exact ⟨1, rfl, by omega, by omega⟩
    case round =>
      obtain ⟨i, rfl, hi1, hi2⟩ := hrel
      by_cases hlt : i < N.size
      · have hd := HN.out.digit i hlt hi1
        obtain ⟨x, hxx⟩ : ∃ x, N[i] = x := ⟨_, rfl⟩
        rw [hxx] at hd
        rcases hd with ⟨d1, d2⟩ | ⟨d1, d2⟩
        · go_wp2
          go_round
          case rel => exact ⟨i + 1, by go_num, by omega, by omega⟩
          case measure => simp [intOf]; omega
        · have d3 : ¬ (x.toNat : Int) ≤ 57 := by omega
          go_wp2
          go_round
          case rel => exact ⟨i + 1, by go_num, by omega, by omega⟩
          case measure => simp [intOf]; omega
      · go_wp2_with (first
          | (go_at_call 18; refine (HN.out.key _).mono ?_; rintro e w3 ⟨rfl, hb3⟩)
          | (go_at_call 19; refine (HN.out.kind _).mono ?_; rintro e w4 ⟨rfl, hb4⟩))
        go_ret
        exact ⟨rfl, bch (bch (bch hb1 hb2) hb3) hb4⟩

set_option maxRecDepth 100000 in
set_option maxHeartbeats 2000000 in
theorem law_only (s : ByteArray) (hs : s.size ≤ maxLen) (w : World) : Calls Try.prog 9 #[.string s] w fun e w' => e = .returned (.bool true) ∧ Below w.heap.size w w' := by
  cases hk : key? s.data.toList with
  | none =>
    have hr := ret_key_none hk
    have hkey : ∀ w : World, Calls Try.prog 18 #[.string s] w fun e w' => e = .returned (.tuple #[.string ⟨#[]⟩, .bool false]) ∧ Below w.heap.size w w' := fun w =>
      (key_any s hs w).mono fun _ _ ⟨he, hb⟩ => ⟨by rw [he, hr.1, hr.2], hb⟩
    have hkind : ∀ w : World, Calls Try.prog 19 #[.string s] w fun e w' => e = .returned (.int .i64 (if s.data.toList = [116] then 2 else if s.data.toList = [108] then 3 else 0)) ∧ Below w.heap.size w w' := fun w =>
      (kind_any s hs w).mono fun _ _ ⟨he, hb⟩ => ⟨by rw [he]; simp [kind, hr.2], hb⟩
    have HK := Lib.hid hkey
    by_cases h1 : s.data.toList = [116]
    · have t1 : (s.toList == [116]) = true := by rw [toList_eq]; simp [h1]
      have t2 : (s.toList == [108]) = false := by rw [toList_eq]; simp [h1]
      have hl : s.size = 1 := by have := len_data s; rw [h1] at this; simpa using this.symm
      have t3 : ((s.size : Int) == 1) = true := by simp [hl]
      rw [h1] at hkind
      have HD := Lib.hid hkind
      clear hkey hkind hr h1 hl
      go_enter Try.func9, Try.ntmps9
      go_wp2_with (first
        | (go_at_call 14; refine (known_any _).mono ?_; rintro e w1 ⟨rfl, hb1⟩)
        | (go_at_call 18; refine (HK.out _).mono ?_; rintro e w2 ⟨rfl, hb2⟩)
        | (go_at_call 19; refine (HD.out _).mono ?_; rintro e w3 ⟨rfl, hb3⟩))
      go_ret
      exact ⟨rfl, bch (bch hb1 hb2) hb3⟩
    by_cases h2 : s.data.toList = [108]
    · have t1 : (s.toList == [116]) = false := by rw [toList_eq]; simp [h2]
      have t2 : (s.toList == [108]) = true := by rw [toList_eq]; simp [h2]
      have hl : s.size = 1 := by have := len_data s; rw [h2] at this; simpa using this.symm
      have t3 : ((s.size : Int) == 1) = true := by simp [hl]
      rw [h2] at hkind
      have HD := Lib.hid hkind
      clear hkey hkind hr h1 h2 hl
      go_enter Try.func9, Try.ntmps9
      go_wp2_with (first
        | (go_at_call 14; refine (known_any _).mono ?_; rintro e w1 ⟨rfl, hb1⟩)
        | (go_at_call 18; refine (HK.out _).mono ?_; rintro e w2 ⟨rfl, hb2⟩)
        | (go_at_call 19; refine (HD.out _).mono ?_; rintro e w3 ⟨rfl, hb3⟩))
      go_ret
      exact ⟨rfl, bch (bch hb1 hb2) hb3⟩
    · have t1 : (s.toList == [116]) = false := by rw [toList_eq]; simp [h1]
      have t2 : (s.toList == [108]) = false := by rw [toList_eq]; simp [h2]
      simp only [if_neg h1, if_neg h2] at hkind
      have HD := Lib.hid hkind
      clear hkey hkind hr h1 h2
      go_enter Try.func9, Try.ntmps9
      go_wp2_with (first
        | (go_at_call 14; refine (known_any _).mono ?_; rintro e w1 ⟨rfl, hb1⟩)
        | (go_at_call 18; refine (HK.out _).mono ?_; rintro e w2 ⟨rfl, hb2⟩)
        | (go_at_call 19; refine (HD.out _).mono ?_; rintro e w3 ⟨rfl, hb3⟩))
      go_ret
      exact ⟨rfl, bch (bch hb1 hb2) hb3⟩
  | some k =>
    obtain ⟨hf, he⟩ := obj_key _ _ hk
    have hNN : NameOf ⟨k.toArray⟩ s := ⟨he.symm, hf⟩
    obtain ⟨hsz, hs1, hs2⟩ := hNN.size
    have t1 := toList_ne s [116] (by simp; omega)
    have t2 := toList_ne s [108] (by simp; omega)
    have hkm : (⟨k.toArray⟩ : ByteArray).size ≤ maxLen := by unfold maxLen; omega
    have HN := Lib.hid hNN
    have HF := Lib.hid hf
    have HM := Lib.hid hkm
    clear hNN hsz hs1 hs2 he hk hkm
    obtain ⟨K, hK⟩ : ∃ K : ByteArray, (⟨k.toArray⟩ : ByteArray) = K := ⟨_, rfl⟩
    rw [hK] at HN HM
    have hKf : fitB K.data.toList = true := by rw [← hK]; exact hf
    clear hK HF hf
    go_enter Try.func9, Try.ntmps9
    go_wp2_with (first
      | (go_at_call 14; refine (known_any _).mono ?_; rintro e w1 ⟨rfl, hb1⟩)
      | (go_at_call 18; refine (HN.out.key _).mono ?_; rintro e w2 ⟨rfl, hb2⟩)
      | (go_at_call 19; refine (HN.out.kind _).mono ?_; rintro e w3 ⟨rfl, hb3⟩)
      | (go_at_call 16; refine (HN.out.object HM.out _).mono ?_; rintro e w4 ⟨rfl, hb4⟩)
      | (go_at_call 24; refine (fit_any _ _).mono ?_; rintro e w5 ⟨rfl, rfl⟩))
    go_ret
    exact ⟨rfl, bch (bch (bch hb1 hb2) hb3) hb4⟩

theorem less_eq {M N a b : ByteArray} (hM : NameOf a M) (hN : NameOf b N) : Op.bytesLess M.toList N.toList = Op.bytesLess a.toList b.toList := by
  rw [bytesLess_eq, bytesLess_eq, Lib.toList_data, Lib.toList_data, Lib.toList_data, Lib.toList_data, hM.data, hN.data]
  simp only [obj_lt _ _ hM.fit hN.fit]
theorem same_eq {M N a b : ByteArray} (hM : NameOf a M) (hN : NameOf b N) : (M.toList == N.toList) = (a.toList == b.toList) := by
  rw [Lib.toList_data, Lib.toList_data, Lib.toList_data, Lib.toList_data, hM.data, hN.data, Bool.eq_iff_iff]
  simp only [beq_iff_eq, obj_inj _ _ hM.fit hN.fit]
theorem pre_eq {M N a b : ByteArray} (hM : NameOf a M) (hN : NameOf b N) : M.data.toList.isPrefixOf N.data.toList = a.data.toList.isPrefixOf b.data.toList := by
  rw [hM.data, hN.data, obj_prefix _ _ hM.fit hN.fit]

set_option maxRecDepth 100000 in
set_option maxHeartbeats 2000000 in
theorem law_order (a : ByteArray) (ha : a.size ≤ maxLen) (b : ByteArray) (hb : b.size ≤ maxLen) (w : World) : Calls Try.prog 10 #[.string a, .string b] w fun e w' => e = .returned (.bool true) ∧ Below w.heap.size w w' := by
  cases hfa : fitB a.data.toList with
  | false =>
    go_enter Try.func10, Try.ntmps10
    go_wp2_with (first
      | (go_at_call 14; refine (known_any _).mono ?_; rintro e w1 ⟨rfl, hb1⟩)
      | (go_at_call 24; refine (fit_any _ _).mono ?_; rintro e w3 ⟨rfl, rfl⟩))
    go_ret
    exact ⟨rfl, hb1⟩
  | true =>
    cases hfb : fitB b.data.toList with
    | false =>
      go_enter Try.func10, Try.ntmps10
      go_wp2_with (first
        | (go_at_call 14; refine (known_any _).mono ?_; rintro e w1 ⟨rfl, hb1⟩)
        | (go_at_call 24; refine (fit_any _ _).mono ?_; rintro e w3 ⟨rfl, rfl⟩))
      go_ret
      exact ⟨rfl, hb1⟩
    | true =>
      obtain ⟨M, hM⟩ := name_of a hfa
      obtain ⟨N, hN⟩ := name_of b hfb
      have e1 := less_eq hM hN
      have e2 := same_eq hM hN
      have e3 := pre_eq hN hM
      have e4 := pre_eq hM hN
      have HM := Lib.hid hM
      have HN := Lib.hid hN
      clear hM hN
      go_enter Try.func10, Try.ntmps10
      go_wp2_with (first
        | (go_at_call 14; refine (known_any _).mono ?_; rintro e w1 ⟨rfl, hb1⟩)
        | (go_at_call 24; refine (fit_any _ _).mono ?_; rintro e w3 ⟨rfl, rfl⟩)
        | (go_at_call_of 16 a; refine (HM.out.object ha _).mono ?_; rintro e w2 ⟨rfl, hb2⟩)
        | (go_at_call_of 16 b; refine (HN.out.object hb _).mono ?_; rintro e w3 ⟨rfl, hb3⟩)
        | (go_at_call 25; refine (begins_any _ _ _).mono ?_; rintro e w4 ⟨rfl, rfl⟩))
      go_ret
      exact ⟨rfl, bch (bch hb1 hb2) hb3⟩
end Go.Proofs.Ytjkcoodboghmkaa.Nm
