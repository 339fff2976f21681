/- The walk of the choice of those with a prefix; plain laws on what is told of lists joined. -/
import Derived.Test.YtjkcoodboghmkaaW15
import Derived.Test.YtjkcoodboghmkaaBase2
namespace Go.Proofs.Ytjkcoodboghmkaa.Nm
open Go.RowKit Go.Proofs

def pre? (p : Bs) (l : List Bs) : List Bs := l.filter fun x => p.isPrefixOf x
theorem pre_snoc (p : Bs) (l : List Bs) (x : Bs) : pre? p (l ++ [x]) = pre? p l ++ (if p.isPrefixOf x then [x] else []) := by
  unfold pre?; rw [List.filter_append]; cases h : p.isPrefixOf x <;> simp [h]
theorem pre_len (p : Bs) (l : List Bs) : (pre? p l).length ≤ l.length := List.length_filter_le _ _

set_option maxRecDepth 100000 in
set_option maxHeartbeats 1000000 in
theorem chosen_any (A : Option Addr) (n c : Nat) (xs : List Bs) (p : ByteArray) (B : Nat) (hn : n ≤ 8796093022207) (w : World) (hB : B ≤ w.heap.size) (hr : Rd w B 1 A n (cStr xs)) :
    Calls Try.prog 27 #[.slice A n c, .string p] w fun e w' => ∃ v, e = .returned v ∧ w'.ownsRow w.heap.size 9 1 v (pre? p.data.toList xs).length (cStr (pre? p.data.toList xs)) ∧ Below w.heap.size w w' := by
  obtain ⟨i0, hi, hz0, hz1, hz2⟩ := info_parts infoStr
  have hxl : xs.length = n := by simpa using hr.1
  have HR := Lib.hid hr
  have HX := Lib.hid hxl
  clear hr hxl
  go_enter Try.func27, Try.ntmps27
  go_wp2
  go_loopw [5, 6] (fun v iv wr => ∃ (i : Nat) (l : List Bs), iv = .int .i64 i ∧ i ≤ n ∧ pre? p.data.toList (xs.take i) = l ∧ wr.ownsRow w.heap.size 9 1 v l.length (cStr l) ∧ Below w.heap.size w wr) (fun _ iv _ => n - (intOf iv).toNat)
  case atStart => exact ⟨0, [], rfl, by omega, rfl, World.ownsRow_nil _ _ _ _, Below.refl _ _⟩
  case round =>
    obtain ⟨i, l, rfl, hin, hl, hown, hnx⟩ := hrel
    have hll : l.length ≤ i := by rw [← hl]; have := pre_len p.data.toList (xs.take i); rw [List.length_take] at this; omega
    have HL := Lib.hid hl
    clear hl
    by_cases hlt : i < n
    · obtain ⟨ad, x, rfl, hc, hx⟩ := str_at (HR.out.below (hnx.mono hB)) hlt
      have hut := Lib.hid (take_snoc_l hx)
      have hlt2 : (i : Int) < (n : Int) := by omega
      clear hx
      cases hpre : p.data.toList.isPrefixOf x with
      | false =>
        go_wp2_with (go_at_call 25; refine (begins_any _ _ _).mono ?_; rintro e w4 ⟨rfl, rfl⟩)
        go_roundw
        case rel => exact ⟨i + 1, l, by go_num, by omega, by rw [hut.out, pre_snoc, HL.out, hpre]; simp, hown, hnx⟩
        case measure => simp [intOf]; omega
      | true =>
        go_wp2_with (first
          | (go_at_call 25; refine (begins_any _ _ _).mono ?_; rintro e w4 ⟨rfl, rfl⟩)
          | (at_builtin; refine wpList_append_own _ rfl _ _ 30 rfl w.heap.size 9 i0 (.string ⟨#[]⟩) 1 16 Try.underlying30 hi hz0 hz1 hz2 rfl (by decide) u5 _ _ rfl (hown.alloc _) ⟨wr.heap.size, 0, none⟩ 1 1 [encStr x] rfl rfl (cell_one_new _ _ _) (by simp [Value.oneCell', encStr]) (by unfold maxLen; omega) (by omega) (by have := hnx.size; simp; omega) ?_; intro v2 w2 hrow2 hg2 _))
        go_roundw
        case rel => exact ⟨i + 1, l ++ [x], by go_num, by omega, by rw [hut.out, pre_snoc, HL.out, hpre]; simp, by simpa using hrow2, (hnx.alloc hnx.size _).grown hg2 (by have := hnx.size; simp; omega) (fun j hj => (hown.lt j hj).1)⟩
        case measure => simp [intOf]; omega
    · obtain rfl : i = n := by omega
      have htk : xs.take i = xs := List.take_of_length_le (by have := HX.out; omega)
      rw [htk] at HL
      clear htk
      go_wp2
      go_ret
      exact ⟨_, rfl, by rw [HL.out]; exact hown, hnx⟩

theorem picks_append (a b : List Bs) (p : Bs) : picks (a ++ b) p = picks a p ++ picks b p := List.filterMap_append
theorem under_perm {a b : List Bs} {p : Bs} (h : ∀ x, x ∈ picks a p ↔ x ∈ picks b p) : under a p = under b p :=
  under_eq_of b p _ (under_rises a p) fun x => by rw [mem_under, h]
theorem under_turned (a b : List Bs) (p : Bs) : under ((a ++ b).reverse ++ a) p = under (a ++ b) p := by
  refine under_perm fun x => ?_
  rw [picks_append, List.mem_append]
  have h1 : x ∈ picks (a ++ b).reverse p ↔ x ∈ picks (a ++ b) p := by
    simp only [picks, List.filterMap_reverse, List.mem_reverse]
  rw [h1, picks_append, List.mem_append]
  constructor
  · rintro (h | h)
    · exact h
    · exact .inl h
  · exact .inl
theorem under_chosen (l : List Bs) (p : Bs) : pre? p (under l []) = under l p := by
  refine under_eq_of l p _ ?_ fun x => ?_
  · exact List.Pairwise.filter _ (under_rises l [])
  · unfold pre?
    rw [List.mem_filter, mem_under, mem_picks, mem_picks]
    constructor
    · rintro ⟨⟨n, hn, hk, _⟩, hp⟩; exact ⟨n, hn, hk, hp⟩
    · rintro ⟨n, hn, hk, hp⟩; exact ⟨⟨n, hn, hk, rfl⟩, hp⟩
theorem under_names (l : List Bs) (p : Bs) : under ((under l p).map objName) p = under l p := by
  refine (under_eq_of _ p _ (under_rises l p) fun x => ?_).symm
  rw [mem_picks]
  constructor
  · intro h
    obtain ⟨h1, h2, h3⟩ := under_key h
    exact ⟨objName x, List.mem_map_of_mem h, key_obj x h1, h3⟩
  · rintro ⟨n, hn, hk, _⟩
    obtain ⟨y, hy, rfl⟩ := List.mem_map.1 hn
    have := under_key hy
    rw [key_obj y this.1] at hk
    injection hk with hk
    exact hk ▸ hy
theorem under_parts {a b : List Bs} {p x : Bs} (h : x ∈ under (a ++ b) p) : x ∈ under a p ∨ x ∈ under b p := by
  rw [mem_under, picks_append, List.mem_append] at h
  rw [mem_under, mem_under]; exact h
theorem under_left {a b : List Bs} {p x : Bs} (h : x ∈ under a p) : x ∈ under (a ++ b) p := by
  rw [mem_under] at h ⊢; rw [picks_append]; exact List.mem_append_left _ h
theorem under_right {a b : List Bs} {p x : Bs} (h : x ∈ under b p) : x ∈ under (a ++ b) p := by
  rw [mem_under] at h ⊢; rw [picks_append]; exact List.mem_append_right _ h
end Go.Proofs.Ytjkcoodboghmkaa.Nm
