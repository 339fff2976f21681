/- The walks of a cache's New, Keys, Clear. -/
import Derived.Test.YtpppgdfgbhglbaaPutF
namespace Go.Proofs.Ytpppgdfgbhglbaa.CaF
open Go.RowKit Go.Proofs Go.Proofs.Ytpppgdfgbhglbaa.Fl Go.Proofs.Ytpppgdfgbhglbaa.Ring Go.Proofs.Ytpppgdfgbhglbaa.Lru

/-- The keys as they were put, as cells. -/
def cFl (l : List Fv) : List Value := l.map fun v => .float .f64 v.1
theorem infoFl : (Try.prog.info? 42).map (fun i => (i.zero, i.size, i.bytes)) = some (some (.float .f64 0), 1, 8) := by kernel_rfl

theorem cat_below {w w' : World} {S : Nat → Prop} {c room cnt : Nat} {L : List (En Nat Fv)} {mv : Value} (h : CAt w S c room L cnt mv) (hb : Below w.heap.size w w') : CAt w' S c room L cnt mv :=
  h.kept (U := fun _ => False) (Kept.of_below _ hb) (fun _ _ h => h)

set_option maxRecDepth 100000 in
theorem new_at (r : Nat) (hr : r ≤ 1073741824) (w : World) : Calls Try.prog 14 #[.int .i64 (r : Int)] w fun x w' => x = .returned (.tuple #[.pointer (some ⟨w.heap.size, 0, none⟩), .int .i64 0]) ∧ CAt w' (fun x => x = w.heap.size) w.heap.size r [] 0 (.map none) ∧ Below w.heap.size w w' := by
  have h1 : ¬ (r : Int) < 0 := by omega
  have h2 : ¬ (r : Int) > 1073741824 := by omega
  go_enter Try.func14, Try.ntmps14
  go_wp2
  go_ret2
  refine ⟨rfl, ⟨⟨?_, trivial, by simp⟩, .inl ⟨rfl, fun _ => rfl⟩, by simp, by simp, Nat.zero_le _, Nat.zero_le _, rfl, by simp, by simp [mapBlock], fun x hx => ?_⟩, (Below.refl _ _).alloc (Nat.le_refl _) _⟩
  · exact heap_alloc_new w _
  · subst hx; have := Deep.nblk_alloc w (.cells #[.int .i64 (r : Int), .int .i64 0, .map none, .pointer none, .pointer none] 84); omega

set_option maxRecDepth 100000 in
theorem new_not (r : Int) (hr : r < 0 ∨ 1073741824 < r) (w : World) : Calls Try.prog 14 #[.int .i64 r] w fun x w' => x = .returned (.tuple #[.pointer none, .int .i64 2]) ∧ w = w' := by
  rcases hr with h | h
  · go_enter Try.func14, Try.ntmps14
    go_wp2
    go_ret2
    exact ⟨rfl, rfl⟩
  · have h1 : ¬ r < 0 := by omega
    go_enter Try.func14, Try.ntmps14
    go_wp2
    go_ret2
    exact ⟨rfl, rfl⟩

set_option maxRecDepth 100000 in
set_option maxHeartbeats 1000000 in
theorem keys_at {w : World} {S : Nat → Prop} {c room cnt : Nat} {L : List (En Nat Fv)} {mv : Value} (h : CAt w S c room L cnt mv) (hcnt : cnt ≤ 8796093021952) :
    Calls Try.prog 23 #[.pointer (some ⟨c, 0, none⟩)] w fun x w' => ∃ v, x = .returned v ∧ w'.ownsRow w.heap.size 42 1 v L.length (cFl (L.map (·.val))) ∧ Below w.heap.size w w' := by
  obtain ⟨i0, hi, hz0, hz1, hz2⟩ := info_parts infoFl
  have hc3 := h.ring.head.cell 3
  simp only [List.getElem?_toArray] at hc3
  have HH := Lib.hid h
  have hlen := Nat.le_trans h.len hcnt
  obtain ⟨P0, hP0⟩ : ∃ v, v = ptr (hd L none) := ⟨_, rfl⟩
  rw [← hP0] at hc3
  have HP0 := Lib.hid hP0
  clear h hP0
  go_enter Try.func23, Try.ntmps23
  go_wp2
  go_loopg [3, 4] L.length (fun m v pv wr => ∃ L1 L2, L = L1 ++ L2 ∧ L2.length = m ∧ pv = ptr (hd L2 none) ∧ wr.ownsRow w.heap.size 42 1 v L1.length (cFl (L1.map (·.val))) ∧ Below w.heap.size w wr)
  case atStart => exact ⟨[], L, rfl, rfl, HP0.out, World.ownsRow_nil _ _ _ _, Below.refl _ _⟩
  case round =>
    obtain ⟨L1, L2, hL, hm, rfl, hown, hb⟩ := hrel
    cases L2 with
    | nil =>
      have HL := Lib.hid hL
      have hq : ptr (hd ([] : List (En Nat Fv)) none) = .pointer none := rfl
      rw [hq]
      clear hL hq
      go_wp2
      go_ret
      have h1 := HL.out
      rw [List.append_nil] at h1
      subst h1
      exact ⟨_, rfl, hown, hb⟩
    | cons e r =>
      have hseg := HH.out.ring.seg
      rw [hL, seg_append] at hseg
      have hel : e.b < w.heap.size := hseg.2.1.lt
      have hea := hseg.2.1.same (hb.block _ hel)
      have e0 : wr.cell? ⟨e.b, 0, none⟩ = some (.float .f64 e.val.1) := hea.cell 0
      have e4 := hea.cell 4
      have hl1 : L1.length < 8796093021952 := by
        have := congrArg List.length hL
        rw [List.length_append, List.length_cons] at this; omega
      have hle : L.length ≤ 8796093021952 := hlen
      have HL := Lib.hid hL
      have hbe : ∀ {w2 : World}, Below w.heap.size w w2 → EnAt (fun (_ : Nat) (v : Fv) => Value.float .f64 v.1) (fun (v : Fv) => encStr v.2) tE w2 e (lst none L1) (hd r none) := fun hb2 => hseg.2.1.same (hb2.block _ hel)
      have hq : ptr (hd (e :: r) none) = .pointer (some ⟨e.b, 0, none⟩) := rfl
      rw [hq]
      obtain ⟨Q, hQ⟩ : ∃ v, v = ptr (hd r none) := ⟨_, rfl⟩
      have HQ := Lib.hid hQ
      clear hL hseg hea hq hQ e4
      go_wp2_with (first
        | (at_builtin; refine wpList_append_own _ rfl (.tmp 17) (.tmp 22) 38 rfl w.heap.size 42 i0 (.float .f64 0) 1 8 Try.underlying38 hi hz0 hz1 hz2 rfl (by decide) _ _ _ rfl (hown.alloc _) ⟨wr.heap.size, 0, none⟩ 1 1 [.float .f64 e.val.1] rfl rfl (cell_one_new _ _ _) (by simp [Value.oneCell']) (by unfold maxLen; omega) (by omega) (by have := hb.size; simp; omega) ?_; intro v2 w2 hrow2 hg2 _; have hb2 := (hb.alloc hb.size (.cells #[.float .f64 e.val.1] 42)).grown hg2 (by have := hb.size; simp; omega) (fun j hj => (hown.lt j hj).1); have e5 : w2.cell? ⟨e.b, 4, none⟩ = some Q := HQ.out.symm ▸ ((hbe hb2).cell 4)))
      go_roundg r.length
      case measure => rw [← hm]; simp
      case rel => exact ⟨L1 ++ [e], r, by rw [HL.out]; simp, rfl, HQ.out, by simpa [cFl] using hrow2, hb2⟩


end Go.Proofs.Ytpppgdfgbhglbaa.CaF
/- What a cache's calls do, in plain words. -/
namespace Go.Proofs.Ytpppgdfgbhglbaa.CaF
open Go.RowKit Go.Proofs Go.Proofs.Ytpppgdfgbhglbaa.Fl Go.Proofs.Ytpppgdfgbhglbaa.Ring Go.Proofs.Ytpppgdfgbhglbaa.Lru

/-- A cache in the blocks S: its entries are l, the one used last first. -/
def Cs (w : World) (S : Nat → Prop) (c room : Nat) (l : List (It Nat Fv)) (cnt : Nat) : Prop := (∃ L mv, CAt w S c room L cnt mv ∧ its L = l) ∧ room ≤ 1073741824
def Turn (w w' : World) (S : Nat → Prop) (c room : Nat) (l : List (It Nat Fv)) (cnt : Nat) : Prop := ∃ S', Cs w' S' c room l cnt ∧ Kept w w' S ∧ ∀ k, S' k → S k ∨ w.heap.size ≤ k

theorem cat_mono {w : World} {S : Nat → Prop} {c room cnt m : Nat} {L : List (En Nat Fv)} {mv : Value} (h : CAt w S c room L cnt mv) (hm : cnt ≤ m) : CAt w S c room L m mv :=
  ⟨h.ring, h.map.mono hm, h.keys, h.oks, h.fits, Nat.le_trans h.len hm, h.mine, h.ents, h.maps, h.low⟩
theorem Cs.kept {w w' : World} {S : Nat → Prop} {c room cnt : Nat} {l : List (It Nat Fv)} (h : Cs w S c room l cnt) {U : Nat → Prop} (hk : Kept w w' U) (hd : ∀ k, S k → ¬ U k) : Cs w' S c room l cnt := by
  obtain ⟨⟨L, mv, h1, h2⟩, hr⟩ := h
  exact ⟨⟨L, mv, h1.kept hk hd, h2⟩, hr⟩
theorem Cs.below {w w' : World} {S : Nat → Prop} {c room cnt : Nat} {l : List (It Nat Fv)} (h : Cs w S c room l cnt) (hb : Below w.heap.size w w') : Cs w' S c room l cnt := h.kept (U := fun _ => False) (Kept.of_below _ hb) fun _ _ h => h
theorem Cs.low {w : World} {S : Nat → Prop} {c room cnt : Nat} {l : List (It Nat Fv)} (h : Cs w S c room l cnt) : ∀ k, S k → k < w.heap.size := by
  obtain ⟨⟨L, mv, h1, h2⟩, hr⟩ := h
  exact h1.low
theorem Cs.mono {w : World} {S : Nat → Prop} {c room cnt m : Nat} {l : List (It Nat Fv)} (h : Cs w S c room l cnt) (hm : cnt ≤ m) : Cs w S c room l m := by
  obtain ⟨⟨L, mv, h1, h2⟩, hr⟩ := h
  exact ⟨⟨L, mv, cat_mono h1 hm, h2⟩, hr⟩
theorem Cs.keys {w : World} {S : Nat → Prop} {c room cnt : Nat} {l : List (It Nat Fv)} (h : Cs w S c room l cnt) : (l.map (·.key)).Nodup := by
  obtain ⟨⟨L, mv, h1, rfl⟩, hr⟩ := h
  rw [its_keys]; exact h1.keys
theorem Cs.fits {w : World} {S : Nat → Prop} {c room cnt : Nat} {l : List (It Nat Fv)} (h : Cs w S c room l cnt) : sumW l ≤ room := by
  obtain ⟨⟨L, mv, h1, rfl⟩, hr⟩ := h
  exact h1.fits
theorem Cs.len {w : World} {S : Nat → Prop} {c room cnt : Nat} {l : List (It Nat Fv)} (h : Cs w S c room l cnt) : l.length ≤ cnt := by
  obtain ⟨⟨L, mv, h1, rfl⟩, hr⟩ := h
  simpa [its] using h1.len
theorem Cs.oks {w : World} {S : Nat → Prop} {c room cnt : Nat} {l : List (It Nat Fv)} (h : Cs w S c room l cnt) : ∀ e ∈ l, okF e.key e.val := by
  obtain ⟨⟨L, mv, h1, rfl⟩, hr⟩ := h
  intro e he
  obtain ⟨a, ha, rfl⟩ := List.mem_map.1 he
  exact h1.oks a ha

theorem place_seek (L : List (En Nat Fv)) (k : Nat) : decide (fplace L k ≠ none) = (seekF k (its L)).isSome := by
  cases hp : fplace L k with
  | none => rw [(seekF_none hp).1]; simp
  | some b =>
    obtain ⟨l1, e, l2, rfl, _, he, h1⟩ := place_some (fplace_some hp).2
    unfold seekF
    rw [if_neg (fplace_some hp).1, seek_its_mid he h1]; simp

theorem new_cs (r : Nat) (hr : r ≤ 1073741824) (w : World) : Calls Try.prog 14 #[.int .i64 (r : Int)] w fun x w' => x = .returned (.tuple #[.pointer (some ⟨w.heap.size, 0, none⟩), .int .i64 0]) ∧ Cs w' (fun x => x = w.heap.size) w.heap.size r [] 0 ∧ Below w.heap.size w w' :=
  (new_at r hr w).mono fun _ _ ⟨h1, h2, h3⟩ => ⟨h1, ⟨⟨_, _, h2, rfl⟩, hr⟩, h3⟩

section
variable {w : World} {S : Nat → Prop} {c room cnt : Nat} {l : List (It Nat Fv)}
theorem drop_cs (h : Cs w S c room l cnt) (k : Nat) (hk : k < 18446744073709551616) :
    Calls Try.prog 22 #[.pointer (some ⟨c, 0, none⟩), .float .f64 k] w fun x w' => x = .returned (.bool (seekF k l).isSome) ∧ Turn w w' S c room (outF k l) cnt := by
  obtain ⟨⟨L, mv, h1, rfl⟩, hr⟩ := h
  refine (drop_at h1 hr k hk).mono ?_
  rintro x w' ⟨rfl, ⟨L', h2, h3⟩, h4, h5⟩
  exact ⟨by rw [place_seek], S, ⟨⟨L', mv, h2, h3⟩, hr⟩, h4, fun _ h => .inl h⟩
theorem get_cs (h : Cs w S c room l cnt) (k : Nat) (hk : k < 18446744073709551616) :
    Calls Try.prog 20 #[.pointer (some ⟨c, 0, none⟩), .float .f64 k] w fun x w' => x = .returned (gotV (seekF k l)) ∧ Turn w w' S c room (getF k l) cnt := by
  obtain ⟨⟨L, mv, h1, rfl⟩, hr⟩ := h
  refine (get_at h1 k hk).mono ?_
  rintro x w' ⟨rfl, ⟨L', h2, h3⟩, h4, h5⟩
  exact ⟨rfl, S, ⟨⟨L', mv, h2, h3⟩, hr⟩, h4, fun _ h => .inl h⟩
theorem keys_cs (h : Cs w S c room l cnt) (hcnt : cnt ≤ 8796093021952) :
    Calls Try.prog 23 #[.pointer (some ⟨c, 0, none⟩)] w fun x w' => ∃ v, x = .returned v ∧ w'.ownsRow w.heap.size 42 1 v l.length (cFl (l.map (·.val))) ∧ Below w.heap.size w w' := by
  obtain ⟨⟨L, mv, h1, rfl⟩, hr⟩ := h
  refine (keys_at h1 hcnt).mono ?_
  rintro x w' ⟨v, rfl, h2, h3⟩
  refine ⟨v, rfl, ?_, h3⟩
  have e1 : (its L).map (·.val) = L.map (·.val) := by simp [its, En.it, Function.comp_def]
  rw [e1]
  simpa [its] using h2
theorem weight_cs (h : Cs w S c room l cnt) :
    Calls Try.prog 25 #[.pointer (some ⟨c, 0, none⟩)] w fun x w' => x = .returned (.int .i64 (sumW l : Int)) ∧ w = w' := by
  obtain ⟨⟨L, mv, h1, rfl⟩, hr⟩ := h
  exact weight_at h1

set_option maxRecDepth 100000 in
theorem put_nan (p : Option Addr) (k : Nat) (hk : k < 18446744073709551616) (hnn : fnan k) (v : Bs) (wt : Int) (w : World) :
    Calls Try.prog 18 #[.pointer p, .float .f64 k, encStr v, .int .i64 wt] w fun x w' => x = .returned (.bool false) ∧ w = w' := by
  have hq0 := self_ne hk
  rw [decide_eq_true hnn] at hq0
  cases p with
  | none =>
    go_enter Try.func18, Try.ntmps18
    go_wp2
    go_ret
    exact ⟨rfl, rfl⟩
  | some p =>
    go_enter Try.func18, Try.ntmps18
    go_wp2
    go_ret
    exact ⟨rfl, rfl⟩

set_option maxRecDepth 100000 in
theorem put_not (h : Cs w S c room l cnt) (k : Nat) (hk : k < 18446744073709551616) (hnn : ¬ fnan k) (v : Bs) (wt : Int) (hw : wt < 0 ∨ (room : Int) < wt) :
    Calls Try.prog 18 #[.pointer (some ⟨c, 0, none⟩), .float .f64 k, encStr v, .int .i64 wt] w fun x w' => x = .returned (.bool false) ∧ Turn w w' S c room (outF k l) cnt := by
  have HK := Lib.hid hk
  have hq0 := self_ne hk
  rw [decide_eq_false hnn] at hq0
  have HH := Lib.hid h
  have hroom := h.2
  clear h hk
  rcases hw with hw | hw
  · go_enter Try.func18, Try.ntmps18
    go_wp2_with (first
      | (go_at_call 22; refine (drop_cs HH.out k HK.out).mono ?_; rintro x w1 ⟨rfl, ht⟩))
    go_ret
    exact ⟨rfl, ht⟩
  · have hw0 : ¬ wt < 0 := by omega
    go_enter Try.func18, Try.ntmps18
    go_wp2_with (first
      | (go_at_call 22; refine (drop_cs HH.out k HK.out).mono ?_; rintro x w1 ⟨rfl, ht⟩; have HT := Lib.hid ht; obtain ⟨S', ⟨⟨L1, mv1, h1, _⟩, _⟩, _, _⟩ := ht; have d0 := h1.ring.head.cell 0; simp only [List.getElem?_toArray] at d0; clear h1))
    go_ret
    exact ⟨rfl, HT.out⟩

theorem put_cs (h : Cs w S c room l cnt) (k : Nat) (hk : k < 18446744073709551616) (hnn : ¬ fnan k) (v : Bs) (wt : Int) (hcnt : cnt < maxLen) :
    Calls Try.prog 18 #[.pointer (some ⟨c, 0, none⟩), .float .f64 k, encStr v, .int .i64 wt] w fun x w' => x = .returned (.bool (decide (0 ≤ wt ∧ wt ≤ (room : Int)))) ∧ Turn w w' S c room (putI room (fcls k) (k, v) wt l) (cnt + 1) := by
  by_cases hw : 0 ≤ wt ∧ wt ≤ (room : Int)
  · obtain ⟨n, rfl⟩ : ∃ n : Nat, wt = (n : Int) := ⟨wt.toNat, by omega⟩
    obtain ⟨⟨L, mv, h1, rfl⟩, hr⟩ := h
    refine (put_at h1 hr k hk hnn v n (by omega) hcnt).mono ?_
    rintro x w' ⟨rfl, S', ⟨L', mv', h2, h3⟩, h4, h5⟩
    refine ⟨by rw [decide_eq_true hw], S', ⟨⟨L', mv', h2, ?_⟩, hr⟩, h4, h5⟩
    unfold putI
    rw [if_pos hw, h3]
    rfl
  · refine (put_not h k hk hnn v wt (by omega)).mono ?_
    rintro x w' ⟨rfl, S', h2, h4, h5⟩
    refine ⟨by rw [decide_eq_false hw], S', ?_, h4, h5⟩
    unfold putI
    rw [if_neg hw, ← show outF k l = out (fcls k) l from if_neg hnn]
    exact h2.mono (Nat.le_succ _)
end

/-- A cache in blocks that stand at B or behind. -/
def Co (w : World) (B c room : Nat) (l : List (It Nat Fv)) (cnt : Nat) : Prop := ∃ S, Cs w S c room l cnt ∧ (∀ k, S k → B ≤ k) ∧ B ≤ w.heap.size
theorem Co.below {w w' : World} {B c room cnt : Nat} {l : List (It Nat Fv)} (h : Co w B c room l cnt) (hb : Below w.heap.size w w') : Co w' B c room l cnt := by
  obtain ⟨S, h1, h2, h3⟩ := h
  exact ⟨S, h1.below hb, h2, Nat.le_trans h3 hb.size⟩
theorem Co.turn {w w' : World} {B c room cnt : Nat} {S : Nat → Prop} {l : List (It Nat Fv)} (ht : Turn w w' S c room l cnt) (h2 : ∀ k, S k → B ≤ k) (h3 : B ≤ w.heap.size) : Co w' B c room l cnt ∧ Below B w w' := by
  obtain ⟨S', h1, h4, h5⟩ := ht
  refine ⟨⟨S', h1, fun k hk => ?_, Nat.le_trans h3 h4.size⟩, h4.to_below h3 h2⟩
  rcases h5 k hk with h | h
  · exact h2 k h
  · omega
section
variable {w : World} {B c room cnt : Nat} {l : List (It Nat Fv)}
theorem new_co (r : Nat) (hr : r ≤ 1073741824) (w : World) : Calls Try.prog 14 #[.int .i64 (r : Int)] w fun x w' => ∃ c, x = .returned (.tuple #[.pointer (some ⟨c, 0, none⟩), .int .i64 0]) ∧ Co w' w.heap.size c r [] 0 ∧ Below w.heap.size w w' :=
  (new_cs r hr w).mono fun _ _ ⟨h1, h2, h3⟩ => ⟨_, h1, ⟨_, h2, fun k hk => by rw [hk]; exact Nat.le_refl _, h3.size⟩, h3⟩
theorem put_co (h : Co w B c room l cnt) (k : Nat) (hk : k < 18446744073709551616) (hnn : ¬ fnan k) (v : Bs) (wt : Int) (hcnt : cnt < maxLen) :
    Calls Try.prog 18 #[.pointer (some ⟨c, 0, none⟩), .float .f64 k, encStr v, .int .i64 wt] w fun x w' => x = .returned (.bool (decide (0 ≤ wt ∧ wt ≤ (room : Int)))) ∧ Co w' B c room (putI room (fcls k) (k, v) wt l) (cnt + 1) ∧ Below B w w' := by
  obtain ⟨S, h1, h2, h3⟩ := h
  exact (put_cs h1 k hk hnn v wt hcnt).mono fun _ _ ⟨h4, h5⟩ => ⟨h4, Co.turn h5 h2 h3⟩
theorem get_co (h : Co w B c room l cnt) (k : Nat) (hk : k < 18446744073709551616) :
    Calls Try.prog 20 #[.pointer (some ⟨c, 0, none⟩), .float .f64 k] w fun x w' => x = .returned (gotV (seekF k l)) ∧ Co w' B c room (getF k l) cnt ∧ Below B w w' := by
  obtain ⟨S, h1, h2, h3⟩ := h
  exact (get_cs h1 k hk).mono fun _ _ ⟨h4, h5⟩ => ⟨h4, Co.turn h5 h2 h3⟩
theorem drop_co (h : Co w B c room l cnt) (k : Nat) (hk : k < 18446744073709551616) :
    Calls Try.prog 22 #[.pointer (some ⟨c, 0, none⟩), .float .f64 k] w fun x w' => x = .returned (.bool (seekF k l).isSome) ∧ Co w' B c room (outF k l) cnt ∧ Below B w w' := by
  obtain ⟨S, h1, h2, h3⟩ := h
  exact (drop_cs h1 k hk).mono fun _ _ ⟨h4, h5⟩ => ⟨h4, Co.turn h5 h2 h3⟩
theorem keys_co (h : Co w B c room l cnt) (hcnt : cnt ≤ 8796093021952) :
    Calls Try.prog 23 #[.pointer (some ⟨c, 0, none⟩)] w fun x w' => ∃ v, x = .returned v ∧ w'.ownsRow w.heap.size 42 1 v l.length (cFl (l.map (·.val))) ∧ Below w.heap.size w w' ∧ Co w' B c room l cnt := by
  obtain ⟨S, h1, h2, h3⟩ := h
  exact (keys_cs h1 hcnt).mono fun _ _ ⟨v, h4, h5, h6⟩ => ⟨v, h4, h5, h6, S, h1.below h6, h2, Nat.le_trans h3 h6.size⟩
theorem weight_co (h : Co w B c room l cnt) :
    Calls Try.prog 25 #[.pointer (some ⟨c, 0, none⟩)] w fun x w' => x = .returned (.int .i64 (sumW l : Int)) ∧ w = w' := by
  obtain ⟨S, h1, h2, h3⟩ := h
  exact weight_cs h1
end
end Go.Proofs.Ytpppgdfgbhglbaa.CaF
