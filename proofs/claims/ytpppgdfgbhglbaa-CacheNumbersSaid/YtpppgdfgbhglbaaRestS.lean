/- The walks of a cache's New, Keys, Clear. -/
import Derived.Test.YtpppgdfgbhglbaaPutS
namespace Go.Proofs.Ytpppgdfgbhglbaa.CaS
open Go.RowKit Go.Proofs Go.Proofs.Ytpppgdfgbhglbaa.Ring Go.Proofs.Ytpppgdfgbhglbaa.Lru

theorem infoStr : (Try.prog.info? 9).map (fun i => (i.zero, i.size, i.bytes)) = some (some (.string ⟨#[]⟩), 1, 16) := by kernel_rfl

theorem cat_below {w w' : World} {S : Nat → Prop} {c room cnt : Nat} {L : List (En Bs Bs)} {mv : Value} (h : CAt w S c room L cnt mv) (hb : Below w.heap.size w w') : CAt w' S c room L cnt mv :=
  h.kept (U := fun _ => False) (Kept.of_below _ hb) (fun _ _ h => h)

set_option maxRecDepth 100000 in
theorem new_at (r : Nat) (hr : r ≤ 1073741824) (w : World) : Calls Try.prog 9 #[.int .i64 (r : Int)] w fun x w' => x = .returned (.tuple #[.pointer (some ⟨w.heap.size, 0, none⟩), .int .i64 0]) ∧ CAt w' (fun x => x = w.heap.size) w.heap.size r [] 0 (.map none) ∧ Below w.heap.size w w' := by
  have h1 : ¬ (r : Int) < 0 := by omega
  have h2 : ¬ (r : Int) > 1073741824 := by omega
  go_enter Try.func9, Try.ntmps9
  go_wp2
  go_ret2
  refine ⟨rfl, ⟨⟨?_, trivial, by simp⟩, .inl ⟨rfl, fun _ => rfl⟩, by simp, by simp, Nat.zero_le _, Nat.zero_le _, rfl, by simp, by simp [mapBlock], fun x hx => ?_⟩, (Below.refl _ _).alloc (Nat.le_refl _) _⟩
  · exact heap_alloc_new w _
  · subst hx; have := Deep.nblk_alloc w (.cells #[.int .i64 (r : Int), .int .i64 0, .map none, .pointer none, .pointer none] 77); omega

set_option maxRecDepth 100000 in
theorem new_not (r : Int) (hr : r < 0 ∨ 1073741824 < r) (w : World) : Calls Try.prog 9 #[.int .i64 r] w fun x w' => x = .returned (.tuple #[.pointer none, .int .i64 2]) ∧ w = w' := by
  rcases hr with h | h
  · go_enter Try.func9, Try.ntmps9
    go_wp2
    go_ret2
    exact ⟨rfl, rfl⟩
  · have h1 : ¬ r < 0 := by omega
    go_enter Try.func9, Try.ntmps9
    go_wp2
    go_ret2
    exact ⟨rfl, rfl⟩

set_option maxRecDepth 100000 in
set_option maxHeartbeats 1000000 in
theorem keys_at {w : World} {S : Nat → Prop} {c room cnt : Nat} {L : List (En Bs Bs)} {mv : Value} (h : CAt w S c room L cnt mv) (hcnt : cnt ≤ 8796093021952) :
    Calls Try.prog 12 #[.pointer (some ⟨c, 0, none⟩)] w fun x w' => ∃ v, x = .returned v ∧ w'.ownsRow w.heap.size 9 1 v L.length (cStr (L.map (·.key))) ∧ Below w.heap.size w w' := by
  obtain ⟨i0, hi, hz0, hz1, hz2⟩ := info_parts infoStr
  have hc3 := h.ring.head.cell 3
  simp only [List.getElem?_toArray] at hc3
  have HH := Lib.hid h
  have hlen := Nat.le_trans h.len hcnt
  obtain ⟨P0, hP0⟩ : ∃ v, v = ptr (hd L none) := ⟨_, rfl⟩
  rw [← hP0] at hc3
  have HP0 := Lib.hid hP0
  clear h hP0
  go_enter Try.func12, Try.ntmps12
  go_wp2
  go_loopg [3, 4] L.length (fun m v pv wr => ∃ L1 L2, L = L1 ++ L2 ∧ L2.length = m ∧ pv = ptr (hd L2 none) ∧ wr.ownsRow w.heap.size 9 1 v L1.length (cStr (L1.map (·.key))) ∧ Below w.heap.size w wr)
  case atStart => exact ⟨[], L, rfl, rfl, HP0.out, World.ownsRow_nil _ _ _ _, Below.refl _ _⟩
  case round =>
    obtain ⟨L1, L2, hL, hm, rfl, hown, hb⟩ := hrel
    cases L2 with
    | nil =>
      have HL := Lib.hid hL
      have hq : ptr (hd ([] : List (En Bs Bs)) none) = .pointer none := rfl
      rw [hq]
      clear hL hq
      go_wp2
      go_ret
      have h1 := HL.out
      rw [List.append_nil] at h1
      subst h1
      exact ⟨_, rfl, hown, hb⟩
    | cons e r =>
      have hseg := HH.out.ring.seg
      rw [hL, seg_append] at hseg
      have hel : e.b < w.heap.size := hseg.2.1.lt
      have hea := hseg.2.1.same (hb.block _ hel)
      have e0 : wr.cell? ⟨e.b, 0, none⟩ = some (.string ⟨e.key.toArray⟩) := hea.cell 0
      have e4 := hea.cell 4
      have hl1 : L1.length < 8796093021952 := by
        have := congrArg List.length hL
        rw [List.length_append, List.length_cons] at this; omega
      have hle : L.length ≤ 8796093021952 := hlen
      have HL := Lib.hid hL
      have hbe : ∀ {w2 : World}, Below w.heap.size w w2 → EnAt (fun k _ => encStr k) encStr tE w2 e (lst none L1) (hd r none) := fun hb2 => hseg.2.1.same (hb2.block _ hel)
      have hq : ptr (hd (e :: r) none) = .pointer (some ⟨e.b, 0, none⟩) := rfl
      rw [hq]
      obtain ⟨Q, hQ⟩ : ∃ v, v = ptr (hd r none) := ⟨_, rfl⟩
      have HQ := Lib.hid hQ
      clear hL hseg hea hq hQ e4
      go_wp2_with (first
        | (at_builtin; refine wpList_append_own _ rfl (.tmp 17) (.tmp 22) 32 rfl w.heap.size 9 i0 (.string ⟨#[]⟩) 1 16 Try.underlying32 hi hz0 hz1 hz2 rfl (by decide) _ _ _ rfl (hown.alloc _) ⟨wr.heap.size, 0, none⟩ 1 1 [encStr e.key] rfl rfl (cell_one_new _ _ _) (by simp [Value.oneCell', encStr]) (by unfold maxLen; omega) (by omega) (by have := hb.size; simp; omega) ?_; intro v2 w2 hrow2 hg2 _; have hb2 := (hb.alloc hb.size (.cells #[encStr e.key] 9)).grown hg2 (by have := hb.size; simp; omega) (fun j hj => (hown.lt j hj).1); have e5 : w2.cell? ⟨e.b, 4, none⟩ = some Q := HQ.out.symm ▸ ((hbe hb2).cell 4)))
      go_roundg r.length
      case measure => rw [← hm]; simp
      case rel => exact ⟨L1 ++ [e], r, by rw [HL.out]; simp, rfl, HQ.out, by simpa using hrow2, hb2⟩

set_option maxRecDepth 100000 in
set_option maxHeartbeats 1000000 in
theorem clear_at {w : World} {S : Nat → Prop} {c room cnt : Nat} {L : List (En Bs Bs)} {mv : Value} (h : CAt w S c room L cnt mv) (hr : room ≤ 1073741824) :
    Calls Try.prog 31 #[.pointer (some ⟨c, 0, none⟩)] w fun x w' => x = .returned (.tuple #[]) ∧ CAt w' S c room [] cnt mv ∧ Kept w w' S ∧ w'.heap.size = w.heap.size := by
  go_enter Try.func31, Try.ntmps31
  go_wp2
  go_loopg [] L.length (fun m wr => ∃ L2, CAt wr S c room L2 cnt mv ∧ L2.length = m ∧ Kept w wr S ∧ wr.heap.size = w.heap.size)
  case atStart => exact ⟨L, h, rfl, Kept.refl _ _, rfl⟩
  case round =>
    obtain ⟨L2, h2, hm, hk2, hz2⟩ := hrel
    have d4 := h2.ring.head.cell 4
    simp only [List.getElem?_toArray] at d4
    rcases snoc_cases L2 with rfl | ⟨r, e, rfl⟩
    · simp only [lst, ptr] at d4
      have H2 := Lib.hid h2
      clear h2 h
      go_wp2
      go_end0
      exact ⟨rfl, H2.out, hk2, hz2⟩
    · simp only [lst_snoc, ptr] at d4
      have H2 := Lib.hid h2
      have HZ2 := Lib.hid hz2
      clear h2 h hz2
      go_wp2_with (first
        | (go_at_call 38; refine (give_any H2.out hr).mono ?_; rintro x w3 ⟨rfl, hc3, hk3, hz3⟩))
      go_roundg r.length
      case measure => rw [← hm]; simp
      case rel => exact ⟨r, by simpa using hc3, rfl, hk2.trans hk3 (fun _ h => .inl h), hz3.trans HZ2.out⟩

end Go.Proofs.Ytpppgdfgbhglbaa.CaS
