/- The walk of the program's names of keys. -/
import Derived.Test.YtjkcoodboghmkaaW3
import Derived.Test.YtjkcoodboghmkaaReg
namespace Go.Proofs.Ytjkcoodboghmkaa.Nm
open Go.RowKit Go.Proofs

theorem infoU8 : (Try.prog.info? 5).map (fun i => (i.zero, i.size, i.bytes)) = some (some (.int .u8 0), 1, 1) := by kernel_rfl
theorem infoStr : (Try.prog.info? 9).map (fun i => (i.zero, i.size, i.bytes)) = some (some (.string ⟨#[]⟩), 1, 16) := by kernel_rfl

theorem not_empty (s : ByteArray) (h : 1 ≤ s.size) : s.toList.isEmpty = false := by
  rw [Lib.toList_data]
  cases hl : s.data.toList with
  | nil => have := len_data s; rw [hl] at this; simp at this; omega
  | cons a r => rfl
theorem is_empty (s : ByteArray) (h : s.size < 1) : s.toList.isEmpty = true := by
  rw [Lib.toList_data]
  cases hl : s.data.toList with
  | nil => rfl
  | cons a r => have := len_data s; rw [hl] at this; simp at this; omega

theorem and15 (x : Nat) (h : x < 256) : bits .and .u8 (x : Int) 15 = (x : Int) % 16 := by
  have h1 := u8_and_nat x 15 h (by omega)
  have h2 : x &&& 15 = x % 16 := Nat.and_two_pow_sub_one_eq_mod x 4
  rw [h2] at h1
  simpa using h1

set_option maxHeartbeats 1000000 in
theorem object_any (s : ByteArray) (hs : s.size ≤ maxLen) (w : World) :
    Calls Try.prog 16 #[.string s] w fun e w' => e = .returned (.tuple #[.string ⟨(objName s.data.toList).toArray⟩, .int .i64 (objErr s.data.toList)]) ∧ Below w.heap.size w w' := by
  unfold maxLen at hs
  obtain ⟨i0, hi, hz0, hz1, hz2⟩ := info_parts infoU8
  by_cases h : 1 ≤ s.size ∧ s.size ≤ 255
  · obtain ⟨h1, h2⟩ := h
    have HN := Lib.hid (objName_fit s h1 h2)
    have hne := not_empty s h1
    go_enter Try.func16, Try.ntmps16
    go_wp2_with (first
      | (at_make; refine wpList_make_own _ rfl _ _ 38 rfl w.heap.size 5 i0 (.int .u8 0) 1 Try.underlying38 hi hz0 hz1 _ _ _ (1 + 2 * s.size) rfl rfl (by omega) (by rw [hz2]; omega) (by unfold maxLen; omega) (Nat.le_refl _) ?_; intro w1 hrow1 hg1)
      | (at_builtin; refine wpList_append_own _ rfl _ _ 38 rfl w.heap.size 5 i0 (.int .u8 0) 1 1 Try.underlying38 hi hz0 hz1 hz2 rfl (by decide) (.slice (some ⟨w.heap.size, 0, none⟩) 0 (1 + 2 * s.size)) _ _ rfl (hrow1.alloc _) ⟨w1.heap.size, 0, none⟩ 1 1 [.int .u8 111] rfl rfl (cell_one_new _ _ _) (by simp [Value.oneCell']) (by unfold maxLen; omega) (by omega) (by have := hg1.size; simp; omega) ?_; intro v2 w2 hrow2 hg2 _))
    try go_frame
    go_loopw [4, 23] (fun v i wr => ∃ (k : Nat) (l : Bs), k ≤ s.size ∧ i = .int .i64 k ∧ l = 111 :: objTail (s.data.toList.take k) ∧ wr.ownsRow w.heap.size 5 1 v l.length (cU8 l) ∧ Below w.heap.size w wr) (fun _ i _ => s.size - (intOf i).toNat)
    case atStart => exact ⟨0, [111], by omega, rfl, rfl, hrow2, (((Below.refl _ _).grown hg1 (Nat.le_refl _) (fun j hj => by cases hj)).alloc (by have := hg1.size; omega) _).grown hg2 (by have := hg1.size; simp; omega) (fun j hj => (hrow1.lt j hj).1)⟩
    case round =>
      obtain ⟨k, l, hk, rfl, hl, hown, hnx⟩ := hrel
      have hll : l.length ≤ 511 := by rw [hl, List.length_cons, objTail_length, List.length_take]; omega
      have HL := Lib.hid hl
      clear hl
      by_cases hlt : k < s.size
      · have hb : s[k].toNat < 256 := UInt8.toNat_lt s[k]
        have n2 := and15 s[k].toNat hb
        go_wp2
        refine wp_region_any (by kernel_rfl) ?_
        change wpAny _ _ _ _ _ _ _ (World.drew _)
        refine takeL (i := 0) (v := ?_) rfl (by kernel_rfl) (by kernel_rfl) (by kernel_rfl) (fun _ _ _ h => h) (.inl ⟨by rfl, fun w => .inl ?hy0⟩) ?_; case hy0 => (go_simp; try with_reducible rfl)
        try go_frame
        refine takeL (i := 1) (v := ?_) rfl (by kernel_rfl) (by kernel_rfl) (by kernel_rfl) (fun _ _ _ h => h) (.inl ⟨by rfl, fun w => .inl ?hy1⟩) ?_; case hy1 => (go_simp; try with_reducible rfl)
        try go_frame
        refine takeL (i := 2) (v := ?_) rfl (by kernel_rfl) (by kernel_rfl) (by kernel_rfl) (fun _ _ _ h => h) (.inl ⟨by rfl, fun w => .inl ?hy2⟩) ?_; case hy2 => (go_simp; try with_reducible rfl)
        try go_frame
        refine takeL (i := 3) (v := ?_) rfl (by kernel_rfl) (by kernel_rfl) (by kernel_rfl) (fun _ _ _ h => h) (.inl ⟨by rfl, fun w => .inl ?hy3⟩) ?_; case hy3 => (go_simp; try with_reducible rfl)
        try go_frame
        refine takeL (i := 4) (v := ?_) rfl (by kernel_rfl) (by kernel_rfl) (by kernel_rfl) (fun _ _ _ h => h) (.inl ⟨by rfl, fun w => .inl ?hy4⟩) ?_; case hy4 => (go_simp; try with_reducible rfl)
        try go_frame
        refine takeL (i := 5) (v := ?_) rfl (by kernel_rfl) (by kernel_rfl) (by kernel_rfl) (fun _ _ _ h => h) (.inl ⟨by rfl, yields_all (args := ?_) (f := 29) ?hr5 ?hc5⟩) ?_; case hr5 => (intro w; go_simp; try with_reducible rfl)
        case hc5 => (refine digit_any _ ?_ ?_ <;> omega)
        try go_frame
        refine takeL (i := 6) (v := ?_) rfl (by kernel_rfl) (by kernel_rfl) (by kernel_rfl) (fun _ _ _ h => h) (.inl ⟨by rfl, fun w => .inl ?hy6⟩) ?_; case hy6 => (go_simp; try with_reducible rfl)
        try go_frame
        refine takeL (i := 7) (v := ?_) rfl (by kernel_rfl) (by kernel_rfl) (by kernel_rfl) (fun _ _ _ h => h) (.inl ⟨by rfl, fun w => .inl ?hy7⟩) ?_; case hy7 => (go_simp; try with_reducible rfl)
        try go_frame
        refine takeL (i := 8) (v := ?_) rfl (by kernel_rfl) (by kernel_rfl) (by kernel_rfl) (fun _ _ _ h => h) (.inl ⟨by rfl, fun w => .inl ?hy8⟩) ?_; case hy8 => (go_simp; try with_reducible rfl)
        try go_frame
        refine takeL (i := 9) (v := ?_) rfl (by kernel_rfl) (by kernel_rfl) (by kernel_rfl) (fun _ _ _ h => h) (.inl ⟨by rfl, fun w => .inl ?hy9⟩) ?_; case hy9 => (go_simp; try with_reducible rfl)
        try go_frame
        refine takeL (i := 10) (v := ?_) rfl (by kernel_rfl) (by kernel_rfl) (by kernel_rfl) (fun _ _ _ h => h) (.inl ⟨by rfl, yields_all (args := ?_) (f := 29) ?hr10 ?hc10⟩) ?_; case hr10 => (intro w; go_simp; try with_reducible rfl)
        case hc10 => (refine digit_any _ ?_ ?_ <;> omega)
        try go_frame
        refine forcedL (i := 11) rfl rfl (by kernel_rfl) (fun K hK => ?_)
        go_simp
        refine hK _ _ ?_; clear hK K
        try go_frame
        refine forcedL (i := 12) rfl rfl (by kernel_rfl) (fun K hK => ?_)
        refine wp_append_own _ _ _ 38 rfl w.heap.size 5 i0 (.int .u8 0) 1 1 Try.underlying38 hi hz0 hz1 hz2 rfl (by decide) u4 _ _ rfl (hown.alloc _) ⟨wr.heap.size, 0, none⟩ 2 2 [.int .u8 (dig (s[k].toNat / 16)).toNat, .int .u8 (dig (s[k].toNat % 16)).toNat] rfl rfl ?_ ?_ ?_ ?_ ?_ ?_
        · exact new_cells wr _ _
        · simp [Value.oneCell']
        · unfold maxLen; omega
        · omega
        · have := hnx.size; simp; omega
        intro v3 w3 hrow3 hg3 _
        refine hK _ _ ?_; clear hK K
        try go_frame
        refine forcedL (i := 13) rfl rfl (by kernel_rfl) (fun K hK => ?_)
        go_simp
        refine hK _ _ ?_; clear hK K
        try go_frame
        refine wpAny_done (by kernel_rfl) ?_ _
        go_wp2
        go_roundw
        case rel =>
          refine ⟨k + 1, l ++ [dig (s[k].toNat / 16), dig (s[k].toNat % 16)], by omega, by go_num, ?_, by simpa using hrow3, ((hnx.alloc hnx.size _).drew).grown hg3 (by have := hnx.size; simp; omega) (fun j hj => (hown.lt j hj).1)⟩
          rw [HL.out, take_snoc s k hlt, objTail_snoc]; rfl
        case measure => simp [intOf]; omega
      · obtain ⟨A, c, rfl, _, _⟩ := own_form hown
        have ht := run_text (P := Try.prog) wr 38 9 5 Try.underlying38 Try.underlying5 Try.underlying9 c (Rd.of_own hown)
        go_wp2
        go_ret2
        exact ⟨by rw [HN.out.1, HN.out.2]; exact ret_name (by rw [HL.out, take_all s k (by omega)]) rfl, hnx⟩
  · have HN := Lib.hid (objName_unfit s (by omega))
    by_cases h1 : s.size < 1
    · have hne := is_empty s h1
      go_enter Try.func16, Try.ntmps16
      go_wp2
      go_ret2
      exact ⟨by rw [HN.out.1, HN.out.2]; rfl, Below.refl _ _⟩
    · have h2 : 255 < s.size := by omega
      have hne := not_empty s (by omega)
      clear h
      go_enter Try.func16, Try.ntmps16
      go_wp2
      go_ret2
      exact ⟨by rw [HN.out.1, HN.out.2]; rfl, Below.refl _ _⟩
end Go.Proofs.Ytjkcoodboghmkaa.Nm
