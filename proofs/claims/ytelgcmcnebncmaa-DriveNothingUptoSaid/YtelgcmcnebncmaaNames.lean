/- The walk of names: a directory's names, rising. -/
import Derived.Test.YtelgcmcnebncmaaDmap
import Derived.Test.YtelgcmcnebncmaaIter
import Derived.Test.YtelgcmcnebncmaaShelf
import Derived.Test.YtelgcmcnebncmaaChecked
namespace Go.Proofs.Ytelgcmcnebncmaa.Dr
open Go.RowKit Go.Proofs Go.Maps Go.Sort Go.Shelf Go.Proofs.Ytelgcmcnebncmaa.Ring

theorem sorts (m : Nat) : AnyZ.SortsIn Try.prog Try.sorted102_ren Fence.wide m :=
  ⟨fun blk off cap ss W hH hblk hsz => callsIn_wide.2 (Try.slices_Sort_string blk off cap ss W hH hblk hsz),
   fun p cap W => callsIn_wide.2 (Try.slices_Sort_string_none p cap W)⟩
theorem keys_in (mb : Option Nat) (W : World) : CallsIn Fence.wide 5 Try.prog 103 #[.map mb] W fun e w' => e = .returned (.func (.func 107) #[] #[.pointer (some ⟨W.heap.size, 0, none⟩)]) ∧ w' = W.alloc (.cells #[.map mb] 104) :=
  AnyZ.keys_in Try.keys103 Fence.wide 5 trivial rfl mb W
set_option maxHeartbeats 1000000 in
theorem sorted_in (b nn : Nat) (D0 : DataW Unit) (w : World) (hown : w.ownsMap Try.prog 9 ptrs.R b nn D0) (hmax : Maps.size D0 ≤ maxLen) (hbytes : Maps.size D0 * 16 ≤ 140737488355328) :
    CallsIn Fence.wide 5 Try.prog 102 #[.func (.func 107) #[] #[.pointer (some ⟨w.heap.size, 0, none⟩)]] (w.alloc (.cells #[.map (some b)] 104)) fun e w' => ∃ (v : Value) (ss : List (List UInt8)), e = .returned v ∧ ss.Perm (strKeys D0) ∧
      w'.ownsRow (w.alloc (.cells #[.map (some b)] 104)).heap.size 9 1 v ss.length ((ss.mergeSort (fun x y => decide (x ≤ y))).map encStr) ∧ (v = .slice none 0 0 ↔ ss = []) ∧ Below (w.alloc (.cells #[.map (some b)] 104)).heap.size (w.alloc (.cells #[.map (some b)] 104)) w' := by
  have hbl := hown.lt
  have hseq : SeqGives Fence.wide 2 Try.prog 107 #[.pointer (some ⟨w.heap.size, 0, none⟩)] encStr (fun ss => ss.Perm (strKeys D0)) (Maps.size D0) (w.alloc (.cells #[.map (some b)] 104)) :=
    AnyZ.keys_gives (ρ := Try.keys103_ren) { Try.keys103 with } Fence.wide _ trivial rfl (by omega) w.heap.size b nn D0 _ (by simp) (by simp) (by
      obtain ⟨es, clock, hb, Ft, hs, hD⟩ := hown
      exact ⟨es, clock, (Below.heap_alloc _ _ b hbl).trans hb, Ft, hs, hD⟩)
  exact AnyZ.sorted_in Try.sorted102 Fence.wide 5 trivial trivial trivial trivial rfl (by omega) (sorts _) (enters_of Try.func106 (by kernel_rfl) rfl) 107 #[.pointer (some ⟨w.heap.size, 0, none⟩)] trivial (enters_of Try.func107 (by kernel_rfl) rfl) _ _ hmax hbytes _ hseq
set_option maxHeartbeats 1000000 in
theorem sorted_nil (w : World) :
    CallsIn Fence.wide 5 Try.prog 102 #[.func (.func 107) #[] #[.pointer (some ⟨w.heap.size, 0, none⟩)]] (w.alloc (.cells #[.map none] 104)) fun e w' => ∃ (v : Value) (ss : List (List UInt8)), e = .returned v ∧ ss = [] ∧
      w'.ownsRow (w.alloc (.cells #[.map none] 104)).heap.size 9 1 v ss.length ((ss.mergeSort (fun x y => decide (x ≤ y))).map encStr) ∧ (v = .slice none 0 0 ↔ ss = []) ∧ Below (w.alloc (.cells #[.map none] 104)).heap.size (w.alloc (.cells #[.map none] 104)) w' := by
  have hseq : SeqGives Fence.wide 2 Try.prog 107 #[.pointer (some ⟨w.heap.size, 0, none⟩)] encStr (fun ss : List (List UInt8) => ss = []) 0 (w.alloc (.cells #[.map none] 104)) :=
    AnyZ.keys_gives_nil (ρ := Try.keys103_ren) { Try.keys103 with } Fence.wide _ trivial rfl w.heap.size _ (by simp) (by simp)
  exact AnyZ.sorted_in Try.sorted102 Fence.wide 5 trivial trivial trivial trivial rfl (by omega) (sorts _) (enters_of Try.func106 (by kernel_rfl) rfl) 107 #[.pointer (some ⟨w.heap.size, 0, none⟩)] trivial (enters_of Try.func107 (by kernel_rfl) rfl) _ 0 (Nat.zero_le _) (by omega) _ hseq

theorem before_lt : ∀ {a b : Bs}, bytesBefore a b = true → a < b
  | [], [], h => by simp [bytesBefore] at h
  | [], _ :: _, _ => List.nil_lt_cons _ _
  | _ :: _, [], h => by simp [bytesBefore] at h
  | x :: a, y :: b, h => by
    simp only [bytesBefore, Bool.or_eq_true, Bool.and_eq_true, beq_iff_eq, decide_eq_true_eq] at h
    rcases h with h | ⟨rfl, h⟩
    · exact List.Lex.rel h
    · exact List.Lex.cons (before_lt h)
/-- A rising list's names are sorted. -/
theorem sorted_names {l : Dir} (h : Rise l) : (l.map (·.1)).mergeSort leB = l.map (·.1) := by
  refine List.mergeSort_of_pairwise ?_
  refine List.pairwise_map.2 (h.imp fun {p q} hpq => ?_)
  exact decide_eq_true (List.le_of_lt (before_lt hpq))
set_option maxHeartbeats 1000000 in
theorem names_any {w : World} {mv : Value} {l : Dir} (h : DirAt Try.prog 9 w mv l) (hr : Rise l) (hl : l.length * 16 ≤ 140737488355328) :
    Calls Try.prog 86 #[mv] w fun e w' => ∃ v : Value, e = .returned v ∧ w'.ownsRow w.heap.size 9 1 v l.length (cStr (l.map (·.1))) ∧ Below w.heap.size w w' := by
  have hfK : Fence.wide.fn 103 := trivial
  have hfS : Fence.wide.fn 102 := trivial
  rcases h with ⟨rfl, rfl⟩ | ⟨b, rfl, hown⟩
  · refine (callsIn_wide (n := 6)).1 ?_
    refine callsIn_of_wp Try.func86 rfl trivial ?_ rfl
    simp only [Try.ntmps86, List.size_toArray, List.length_cons, List.length_nil, Nat.reduceAdd, Nat.reduceSub, Array.replicate_succ, Array.replicate_zero, List.push_toArray, List.append_toArray, List.nil_append, List.cons_append]
    gi_wp2_with (first
      | (gi_at_call 103; refine (keys_in _ _).mono ?_; rintro e w' ⟨rfl, rfl⟩)
      | (gi_at_call 102; refine (sorted_nil w).mono ?_; rintro e w' ⟨v, ss, rfl, hS, hrow, hnil, hb⟩))
    go_ret
    obtain rfl := hnil.2 hS
    exact ⟨_, rfl, World.ownsRow_nil _ _ _ _, ((Below.refl _ w).alloc (Nat.le_refl _) _).trans (hb.mono (by simp))⟩
  · have hsz : Maps.size (dirD l) = l.length := by rw [dirD, Maps.size_eq, List.length_map]
    have hmax : Maps.size (dirD l) ≤ maxLen := by rw [hsz]; unfold maxLen; omega
    have hbytes : Maps.size (dirD l) * 16 ≤ 140737488355328 := by rw [hsz]; exact hl
    refine (callsIn_wide (n := 6)).1 ?_
    refine callsIn_of_wp Try.func86 rfl trivial ?_ rfl
    simp only [Try.ntmps86, List.size_toArray, List.length_cons, List.length_nil, Nat.reduceAdd, Nat.reduceSub, Array.replicate_succ, Array.replicate_zero, List.push_toArray, List.append_toArray, List.nil_append, List.cons_append]
    gi_wp2_with (first
      | (gi_at_call 103; refine (keys_in _ _).mono ?_; rintro e w' ⟨rfl, rfl⟩)
      | (gi_at_call 102; refine (sorted_in b l.length (dirD l) w hown hmax hbytes).mono ?_; rintro e w' ⟨v, ss, rfl, hS, hrow, hnil, hb⟩))
    go_ret
    rw [DirAt.names] at hS
    have he : ss.mergeSort leB = l.map (·.1) := by rw [mergeSort_of_perm hS, sorted_names hr]
    have hlen : ss.length = l.length := by rw [hS.length_eq, List.length_map]
    rw [show (ss.mergeSort (fun x y => decide (x ≤ y))) = l.map (·.1) from he, hlen] at hrow
    exact ⟨_, rfl, own_base hrow (by simp), ((Below.refl _ w).alloc (Nat.le_refl _) _).trans (hb.mono (by simp))⟩
end Go.Proofs.Ytelgcmcnebncmaa.Dr
