/- The walk of the document's keys among names. -/
import Derived.Test.YtjkcoodboghmkaaW9
namespace Go.Proofs.Ytjkcoodboghmkaa.Nm
open Go.RowKit Go.Proofs

def uStep (pre : Bs) (l : List Bs) (n : Bs) : List Bs := match pick pre n with | some k => if k ∈ l then l else ins l k | none => l
theorem under_snoc (xs : List Bs) (pre x : Bs) : under (xs ++ [x]) pre = uStep pre (under xs pre) x := by
  unfold under; rw [List.foldl_append]; rfl
theorem under_take {xs : List Bs} {i : Nat} {x : Bs} (pre : Bs) (hx : xs[i]? = some x) : under (xs.take (i + 1)) pre = uStep pre (under (xs.take i) pre) x := by
  rw [take_snoc_l hx, under_snoc]
theorem uStep_no {pre x : Bs} {l : List Bs} (h : keyOk x = false) : uStep pre l x = l := by
  have : key? x = none := by simpa [keyOk] using h
  simp [uStep, pick, this]
theorem uStep_key {pre x k : Bs} {l : List Bs} (h : keyOk x = true) (hk : keyOf x = k) :
    uStep pre l x = if pre.isPrefixOf k then (if k ∈ l then l else ins l k) else l := by
  cases hq : key? x with
  | none => simp [keyOk, hq] at h
  | some k' =>
    have : k' = k := by simpa [keyOf, hq] using hk
    subst this
    unfold uStep pick
    simp only [hq]
    split <;> rename_i h1
    · split at h1
      · rename_i h2; simp only [Option.some.injEq] at h1; subst h1; rw [if_pos h2]
      · cases h1
    · split at h1
      · cases h1
      · rename_i h2; rw [if_neg h2]
theorem under_len (xs : List Bs) (pre : Bs) : (under xs pre).length ≤ xs.length := by
  have h : ∀ (xs l : List Bs), (xs.foldl (uStep pre) l).length ≤ l.length + xs.length := by
    intro xs
    induction xs with
    | nil => intro l; simp
    | cons x r ih =>
      intro l
      rw [List.foldl_cons]
      have h1 := ih (uStep pre l x)
      have h2 : (uStep pre l x).length ≤ l.length + 1 := by
        unfold uStep
        split
        · split
          · omega
          · rw [ins_len]; omega
        · omega
      simp only [List.length_cons]; omega
  have h2 := h xs []
  simp only [List.length_nil, Nat.zero_add] at h2
  exact h2

set_option maxRecDepth 100000 in
set_option maxHeartbeats 1000000 in
theorem refUnder_any (A : Option Addr) (n c : Nat) (xs : List Bs) (p : ByteArray) (B : Nat) (hn : n ≤ 8796093022207) (hxs : ∀ x ∈ xs, x.length ≤ maxLen) (w : World) (hB : B ≤ w.heap.size) (hr : Rd w B 1 A n (cStr xs)) :
    Calls Try.prog 21 #[.slice A n c, .string p] w fun e w' => ∃ v, e = .returned v ∧ w'.ownsRow w.heap.size 9 1 v (under xs p.data.toList).length (cStr (under xs p.data.toList)) ∧ Below w.heap.size w w' := by
  have hxl : xs.length = n := by simpa using hr.1
  have HR := Lib.hid hr
  have HX := Lib.hid hxl
  have HXS := Lib.hid hxs
  clear hr hxl hxs
  go_enter Try.func21, Try.ntmps21
  go_wp2
  go_loopw [5, 6] (fun v iv wr => ∃ (i : Nat) (l : List Bs), iv = .int .i64 i ∧ i ≤ n ∧ under (xs.take i) p.data.toList = l ∧ wr.ownsRow w.heap.size 9 1 v l.length (cStr l) ∧ Below w.heap.size w wr) (fun _ iv _ => n - (intOf iv).toNat)
  case atStart => exact ⟨0, [], rfl, by omega, rfl, World.ownsRow_nil _ _ _ _, Below.refl _ _⟩
  case round =>
    obtain ⟨i, l, rfl, hin, hl, hown, hnx⟩ := hrel
    have hll : l.length ≤ i := by rw [← hl]; have := under_len (xs.take i) p.data.toList; rw [List.length_take] at this; omega
    have HL := Lib.hid hl
    clear hl
    by_cases hlt : i < n
    · obtain ⟨ad, x, rfl, hc, hx⟩ := str_at (HR.out.below (hnx.mono hB)) hlt
      have hxm : x.length ≤ maxLen := HXS.out x (List.mem_of_getElem? hx)
      have hxs : (⟨x.toArray⟩ : ByteArray).size ≤ maxLen := by rw [← len_data]; exact hxm
      have hut := Lib.hid (under_take p.data.toList hx)
      have hlt2 : (i : Int) < (n : Int) := by omega
      have HXM := Lib.hid hxs
      clear hx hxs hxm
      obtain ⟨A', c', rfl, _, _⟩ := own_form hown
      cases hok : keyOk x with
      | false =>
        go_wp2_with (go_at_call 17; refine (refKey_any _ HXM.out _).mono ?_; rintro e w1 ⟨rfl, hb⟩)
        go_roundw
        case rel => exact ⟨i + 1, l, by go_num, by omega, by rw [hut.out, HL.out, uStep_no hok], own_below hown hb, hnx.trans (hb.mono hnx.size)⟩
        case measure => simp [intOf]; omega
      | true =>
        obtain ⟨k, hk⟩ : ∃ k, keyOf x = k := ⟨_, rfl⟩
        have HK := Lib.hid (uStep_key (pre := p.data.toList) (l := l) hok hk)
        cases hpre : p.data.toList.isPrefixOf k with
        | false =>
          go_wp2_with (first
            | (go_at_call 17; refine (refKey_any _ HXM.out _).mono ?_; rintro e w1 ⟨rfl, hb⟩)
            | (go_at_call 33; refine (refBegins_any _ _ _).mono ?_; rintro e w2 ⟨rfl, rfl⟩))
          go_roundw
          case rel => exact ⟨i + 1, l, by go_num, by omega, by rw [hut.out, HL.out, HK.out, hpre]; rfl, own_below hown hb, hnx.trans (hb.mono hnx.size)⟩
          case measure => simp [intOf]; omega
        | true =>
          by_cases hkl : k ∈ l
          · have hd : decide (k ∈ l) = true := by simpa using hkl
            have HKL := Lib.hid hkl
            clear hkl
            go_wp2_with (first
              | (go_at_call 17; refine (refKey_any _ HXM.out _).mono ?_; rintro e w1 ⟨rfl, hb⟩)
              | (go_at_call 33; refine (refBegins_any _ _ _).mono ?_; rintro e w2 ⟨rfl, rfl⟩)
              | (go_at_call 34; refine (refIn_any _ _ _ l _ w1.heap.size (by unfold maxLen; omega) _ (Rd.of_own (own_below hown hb))).mono ?_; rintro e w2 ⟨rfl, rfl⟩))
            go_roundw
            case rel => exact ⟨i + 1, l, by go_num, by omega, by rw [hut.out, HL.out, HK.out, hpre, if_pos rfl, if_pos HKL.out], own_below hown hb, hnx.trans (hb.mono hnx.size)⟩
            case measure => simp [intOf]; omega
          · have hd : decide (k ∈ l) = false := by simpa using hkl
            have HKL := Lib.hid hkl
            clear hkl
            go_wp2_with (first
              | (go_at_call 17; refine (refKey_any _ HXM.out _).mono ?_; rintro e w1 ⟨rfl, hb⟩)
              | (go_at_call 33; refine (refBegins_any _ _ _).mono ?_; rintro e w2 ⟨rfl, rfl⟩)
              | (go_at_call 34; refine (refIn_any _ _ _ l _ w1.heap.size (by unfold maxLen; omega) _ (Rd.of_own (own_below hown hb))).mono ?_; rintro e w2 ⟨rfl, rfl⟩)
              | (go_at_call 35; refine (with_any _ _ _ l _ w1.heap.size (by omega) _ (Nat.le_refl _) (Rd.of_own (own_below hown hb))).mono ?_; rintro e w2 ⟨v2, rfl, hown2, hb2⟩))
            go_roundw
            case rel => exact ⟨i + 1, ins l k, by go_num, by omega, by rw [hut.out, HL.out, HK.out, hpre, if_pos rfl, if_neg HKL.out], by rw [ins_len]; exact own_base hown2 (Nat.le_trans hnx.size hb.size), (hnx.trans (hb.mono hnx.size)).trans (hb2.mono (Nat.le_trans hnx.size hb.size))⟩
            case measure => simp [intOf]; omega
    · obtain rfl : i = n := by omega
      have htk : xs.take i = xs := List.take_of_length_le (by have := HX.out; omega)
      rw [htk] at HL
      clear htk
      go_wp2
      go_ret
      exact ⟨_, rfl, by rw [HL.out]; exact hown, hnx⟩
end Go.Proofs.Ytjkcoodboghmkaa.Nm
