/- What a cache's calls do, in plain words. -/
import Derived.Test.YtpppgdfgbhglbaaRestI
namespace Go.Proofs.Ytpppgdfgbhglbaa.CaI
open Go.RowKit Go.Proofs Go.Proofs.Ytpppgdfgbhglbaa.Ring Go.Proofs.Ytpppgdfgbhglbaa.Lru

/-- A cache in the blocks S: its entries are l, the one used last first. -/
def Cs (w : World) (S : Nat → Prop) (c room : Nat) (l : List (It Bs Int)) (cnt : Nat) : Prop := (∃ L mv, CAt w S c room L cnt mv ∧ its L = l) ∧ room ≤ 1073741824
def Turn (w w' : World) (S : Nat → Prop) (c room : Nat) (l : List (It Bs Int)) (cnt : Nat) : Prop := ∃ S', Cs w' S' c room l cnt ∧ Kept w w' S ∧ ∀ k, S' k → S k ∨ w.heap.size ≤ k

theorem cat_mono {w : World} {S : Nat → Prop} {c room cnt m : Nat} {L : List (En Bs Int)} {mv : Value} (h : CAt w S c room L cnt mv) (hm : cnt ≤ m) : CAt w S c room L m mv :=
  ⟨h.ring, h.map.mono hm, h.keys, h.oks, h.fits, Nat.le_trans h.len hm, h.mine, h.ents, h.maps, h.low⟩
theorem Cs.kept {w w' : World} {S : Nat → Prop} {c room cnt : Nat} {l : List (It Bs Int)} (h : Cs w S c room l cnt) {U : Nat → Prop} (hk : Kept w w' U) (hd : ∀ k, S k → ¬ U k) : Cs w' S c room l cnt := by
  obtain ⟨⟨L, mv, h1, h2⟩, hr⟩ := h
  exact ⟨⟨L, mv, h1.kept hk hd, h2⟩, hr⟩
theorem Cs.below {w w' : World} {S : Nat → Prop} {c room cnt : Nat} {l : List (It Bs Int)} (h : Cs w S c room l cnt) (hb : Below w.heap.size w w') : Cs w' S c room l cnt := h.kept (U := fun _ => False) (Kept.of_below _ hb) fun _ _ h => h
theorem Cs.low {w : World} {S : Nat → Prop} {c room cnt : Nat} {l : List (It Bs Int)} (h : Cs w S c room l cnt) : ∀ k, S k → k < w.heap.size := by
  obtain ⟨⟨L, mv, h1, h2⟩, hr⟩ := h
  exact h1.low
theorem Cs.mono {w : World} {S : Nat → Prop} {c room cnt m : Nat} {l : List (It Bs Int)} (h : Cs w S c room l cnt) (hm : cnt ≤ m) : Cs w S c room l m := by
  obtain ⟨⟨L, mv, h1, h2⟩, hr⟩ := h
  exact ⟨⟨L, mv, cat_mono h1 hm, h2⟩, hr⟩
theorem Cs.keys {w : World} {S : Nat → Prop} {c room cnt : Nat} {l : List (It Bs Int)} (h : Cs w S c room l cnt) : (l.map (·.key)).Nodup := by
  obtain ⟨⟨L, mv, h1, rfl⟩, hr⟩ := h
  rw [its_keys]; exact h1.keys
theorem Cs.fits {w : World} {S : Nat → Prop} {c room cnt : Nat} {l : List (It Bs Int)} (h : Cs w S c room l cnt) : sumW l ≤ room := by
  obtain ⟨⟨L, mv, h1, rfl⟩, hr⟩ := h
  exact h1.fits
theorem Cs.len {w : World} {S : Nat → Prop} {c room cnt : Nat} {l : List (It Bs Int)} (h : Cs w S c room l cnt) : l.length ≤ cnt := by
  obtain ⟨⟨L, mv, h1, rfl⟩, hr⟩ := h
  simpa [its] using h1.len
theorem Cs.oks {w : World} {S : Nat → Prop} {c room cnt : Nat} {l : List (It Bs Int)} (h : Cs w S c room l cnt) : ∀ e ∈ l, e.key.length ≤ maxLen := by
  obtain ⟨⟨L, mv, h1, rfl⟩, hr⟩ := h
  intro e he
  obtain ⟨a, ha, rfl⟩ := List.mem_map.1 he
  exact h1.oks a ha

theorem place_seek (L : List (En Bs Int)) (k : Bs) : decide (place L k ≠ none) = (seek k (its L)).isSome := by
  cases hp : place L k with
  | none => rw [seek_its_none hp]; simp
  | some b =>
    obtain ⟨l1, e, l2, rfl, _, he, h1⟩ := place_some hp
    rw [seek_its_mid he h1]; simp

theorem new_cs (r : Nat) (hr : r ≤ 1073741824) (w : World) : Calls Try.prog 33 #[.int .i64 (r : Int)] w fun x w' => x = .returned (.tuple #[.pointer (some ⟨w.heap.size, 0, none⟩), .int .i64 0]) ∧ Cs w' (fun x => x = w.heap.size) w.heap.size r [] 0 ∧ Below w.heap.size w w' :=
  (new_at r hr w).mono fun _ _ ⟨h1, h2, h3⟩ => ⟨h1, ⟨⟨_, _, h2, rfl⟩, hr⟩, h3⟩

section
variable {w : World} {S : Nat → Prop} {c room cnt : Nat} {l : List (It Bs Int)}
theorem drop_cs (h : Cs w S c room l cnt) (k : Bs) (hk : k.length ≤ maxLen) :
    Calls Try.prog 48 #[.pointer (some ⟨c, 0, none⟩), encStr k] w fun x w' => x = .returned (.bool (seek k l).isSome) ∧ Turn w w' S c room (out k l) cnt := by
  obtain ⟨⟨L, mv, h1, rfl⟩, hr⟩ := h
  refine (drop_at h1 hr k hk).mono ?_
  rintro x w' ⟨rfl, ⟨L', h2, h3⟩, h4, h5⟩
  exact ⟨by rw [place_seek], S, ⟨⟨L', mv, h2, h3⟩, hr⟩, h4, fun _ h => .inl h⟩
theorem get_cs (h : Cs w S c room l cnt) (k : Bs) (hk : k.length ≤ maxLen) :
    Calls Try.prog 35 #[.pointer (some ⟨c, 0, none⟩), encStr k] w fun x w' => x = .returned (gotV (seek k l)) ∧ Turn w w' S c room (Lru.get k l) cnt := by
  obtain ⟨⟨L, mv, h1, rfl⟩, hr⟩ := h
  refine (get_at h1 k hk).mono ?_
  rintro x w' ⟨rfl, ⟨L', h2, h3⟩, h4, h5⟩
  exact ⟨rfl, S, ⟨⟨L', mv, h2, h3⟩, hr⟩, h4, fun _ h => .inl h⟩
theorem keys_cs (h : Cs w S c room l cnt) (hcnt : cnt ≤ 8796093021952) :
    Calls Try.prog 37 #[.pointer (some ⟨c, 0, none⟩)] w fun x w' => ∃ v, x = .returned v ∧ w'.ownsRow w.heap.size 9 1 v l.length (cStr (l.map (·.key))) ∧ Below w.heap.size w w' := by
  obtain ⟨⟨L, mv, h1, rfl⟩, hr⟩ := h
  refine (keys_at h1 hcnt).mono ?_
  rintro x w' ⟨v, rfl, h2, h3⟩
  refine ⟨v, rfl, ?_, h3⟩
  rw [its_keys]
  simpa [its] using h2
theorem weight_cs (h : Cs w S c room l cnt) :
    Calls Try.prog 36 #[.pointer (some ⟨c, 0, none⟩)] w fun x w' => x = .returned (.int .i64 (sumW l : Int)) ∧ w = w' := by
  obtain ⟨⟨L, mv, h1, rfl⟩, hr⟩ := h
  exact weight_at h1

set_option maxRecDepth 100000 in
theorem put_not (h : Cs w S c room l cnt) (k : Bs) (hk : k.length ≤ maxLen) (v : Int) (wt : Int) (hw : wt < 0 ∨ (room : Int) < wt) :
    Calls Try.prog 34 #[.pointer (some ⟨c, 0, none⟩), encStr k, encInt v, .int .i64 wt] w fun x w' => x = .returned (.bool false) ∧ Turn w w' S c room (out k l) cnt := by
  have HK := Lib.hid hk
  have HH := Lib.hid h
  have hroom := h.2
  clear h hk
  rcases hw with hw | hw
  · go_enter Try.func34, Try.ntmps34
    go_wp2_with (first
      | (go_at_call 48; refine (drop_cs HH.out k HK.out).mono ?_; rintro x w1 ⟨rfl, ht⟩))
    go_ret
    exact ⟨rfl, ht⟩
  · have hw0 : ¬ wt < 0 := by omega
    go_enter Try.func34, Try.ntmps34
    go_wp2_with (first
      | (go_at_call 48; refine (drop_cs HH.out k HK.out).mono ?_; rintro x w1 ⟨rfl, ht⟩; have HT := Lib.hid ht; obtain ⟨S', ⟨⟨L1, mv1, h1, _⟩, _⟩, _, _⟩ := ht; have d0 := h1.ring.head.cell 0; simp only [List.getElem?_toArray] at d0; clear h1))
    go_ret
    exact ⟨rfl, HT.out⟩

theorem put_cs (h : Cs w S c room l cnt) (k : Bs) (hk : k.length ≤ maxLen) (v : Int) (wt : Int) (hcnt : cnt < maxLen) :
    Calls Try.prog 34 #[.pointer (some ⟨c, 0, none⟩), encStr k, encInt v, .int .i64 wt] w fun x w' => x = .returned (.bool (decide (0 ≤ wt ∧ wt ≤ (room : Int)))) ∧ Turn w w' S c room (putI room k v wt l) (cnt + 1) := by
  by_cases hw : 0 ≤ wt ∧ wt ≤ (room : Int)
  · obtain ⟨n, rfl⟩ : ∃ n : Nat, wt = (n : Int) := ⟨wt.toNat, by omega⟩
    obtain ⟨⟨L, mv, h1, rfl⟩, hr⟩ := h
    refine (put_at h1 hr k hk v n (by omega) hcnt).mono ?_
    rintro x w' ⟨rfl, S', ⟨L', mv', h2, h3⟩, h4, h5⟩
    refine ⟨by rw [decide_eq_true hw], S', ⟨⟨L', mv', h2, ?_⟩, hr⟩, h4, h5⟩
    unfold putI
    rw [if_pos hw, h3]
    rfl
  · refine (put_not h k hk v wt (by omega)).mono ?_
    rintro x w' ⟨rfl, S', h2, h4, h5⟩
    refine ⟨by rw [decide_eq_false hw], S', ?_, h4, h5⟩
    unfold putI
    rw [if_neg hw]
    exact h2.mono (Nat.le_succ _)
end

/-- A cache in blocks that stand at B or behind. -/
def Co (w : World) (B c room : Nat) (l : List (It Bs Int)) (cnt : Nat) : Prop := ∃ S, Cs w S c room l cnt ∧ (∀ k, S k → B ≤ k) ∧ B ≤ w.heap.size
theorem Co.below {w w' : World} {B c room cnt : Nat} {l : List (It Bs Int)} (h : Co w B c room l cnt) (hb : Below w.heap.size w w') : Co w' B c room l cnt := by
  obtain ⟨S, h1, h2, h3⟩ := h
  exact ⟨S, h1.below hb, h2, Nat.le_trans h3 hb.size⟩
theorem Co.turn {w w' : World} {B c room cnt : Nat} {S : Nat → Prop} {l : List (It Bs Int)} (ht : Turn w w' S c room l cnt) (h2 : ∀ k, S k → B ≤ k) (h3 : B ≤ w.heap.size) : Co w' B c room l cnt ∧ Below B w w' := by
  obtain ⟨S', h1, h4, h5⟩ := ht
  refine ⟨⟨S', h1, fun k hk => ?_, Nat.le_trans h3 h4.size⟩, h4.to_below h3 h2⟩
  rcases h5 k hk with h | h
  · exact h2 k h
  · omega
section
variable {w : World} {B c room cnt : Nat} {l : List (It Bs Int)}
theorem new_co (r : Nat) (hr : r ≤ 1073741824) (w : World) : Calls Try.prog 33 #[.int .i64 (r : Int)] w fun x w' => ∃ c, x = .returned (.tuple #[.pointer (some ⟨c, 0, none⟩), .int .i64 0]) ∧ Co w' w.heap.size c r [] 0 ∧ Below w.heap.size w w' :=
  (new_cs r hr w).mono fun _ _ ⟨h1, h2, h3⟩ => ⟨_, h1, ⟨_, h2, fun k hk => by rw [hk]; exact Nat.le_refl _, h3.size⟩, h3⟩
theorem put_co (h : Co w B c room l cnt) (k : Bs) (hk : k.length ≤ maxLen) (v : Int) (wt : Int) (hcnt : cnt < maxLen) :
    Calls Try.prog 34 #[.pointer (some ⟨c, 0, none⟩), encStr k, encInt v, .int .i64 wt] w fun x w' => x = .returned (.bool (decide (0 ≤ wt ∧ wt ≤ (room : Int)))) ∧ Co w' B c room (putI room k v wt l) (cnt + 1) ∧ Below B w w' := by
  obtain ⟨S, h1, h2, h3⟩ := h
  exact (put_cs h1 k hk v wt hcnt).mono fun _ _ ⟨h4, h5⟩ => ⟨h4, Co.turn h5 h2 h3⟩
theorem get_co (h : Co w B c room l cnt) (k : Bs) (hk : k.length ≤ maxLen) :
    Calls Try.prog 35 #[.pointer (some ⟨c, 0, none⟩), encStr k] w fun x w' => x = .returned (gotV (seek k l)) ∧ Co w' B c room (Lru.get k l) cnt ∧ Below B w w' := by
  obtain ⟨S, h1, h2, h3⟩ := h
  exact (get_cs h1 k hk).mono fun _ _ ⟨h4, h5⟩ => ⟨h4, Co.turn h5 h2 h3⟩
theorem drop_co (h : Co w B c room l cnt) (k : Bs) (hk : k.length ≤ maxLen) :
    Calls Try.prog 48 #[.pointer (some ⟨c, 0, none⟩), encStr k] w fun x w' => x = .returned (.bool (seek k l).isSome) ∧ Co w' B c room (out k l) cnt ∧ Below B w w' := by
  obtain ⟨S, h1, h2, h3⟩ := h
  exact (drop_cs h1 k hk).mono fun _ _ ⟨h4, h5⟩ => ⟨h4, Co.turn h5 h2 h3⟩
theorem keys_co (h : Co w B c room l cnt) (hcnt : cnt ≤ 8796093021952) :
    Calls Try.prog 37 #[.pointer (some ⟨c, 0, none⟩)] w fun x w' => ∃ v, x = .returned v ∧ w'.ownsRow w.heap.size 9 1 v l.length (cStr (l.map (·.key))) ∧ Below w.heap.size w w' ∧ Co w' B c room l cnt := by
  obtain ⟨S, h1, h2, h3⟩ := h
  exact (keys_cs h1 hcnt).mono fun _ _ ⟨v, h4, h5, h6⟩ => ⟨v, h4, h5, h6, S, h1.below h6, h2, Nat.le_trans h3 h6.size⟩
theorem weight_co (h : Co w B c room l cnt) :
    Calls Try.prog 36 #[.pointer (some ⟨c, 0, none⟩)] w fun x w' => x = .returned (.int .i64 (sumW l : Int)) ∧ w = w' := by
  obtain ⟨S, h1, h2, h3⟩ := h
  exact weight_cs h1
end
end Go.Proofs.Ytpppgdfgbhglbaa.CaI
