/- XDrv2, XRf: merged by tools/merge.py. -/
import Derived.Test.YtelgcmcnebncmaaQ01
namespace Go.Proofs.Ytelgcmcnebncmaa.Dr
open Go

section
variable {α : Type}
theorem ins_perm (x : Bs × α) (l : List (Bs × α)) : (ins x l).Perm (x :: l) := by
  induction l with
  | nil => exact .refl _
  | cons y r ih =>
    unfold ins
    split
    · exact .refl _
    · exact (ih.cons y).trans (.swap x y r)
theorem del_same {l : List (Bs × α)} {k : Bs} (h : find l k = none) : del l k = l :=
  List.filter_eq_self.2 fun y hy => by simpa using find_none.1 h y hy
/-- A name that is there, and the rest. -/
theorem del_perm {l : List (Bs × α)} (h : Rise l) {k : Bs} {b : α} (hf : find l k = some b) : l.Perm ((k, b) :: del l k) := by
  induction l with
  | nil => simp [find] at hf
  | cons z r ih =>
    obtain ⟨h1, h2⟩ := List.pairwise_cons.1 h
    by_cases hz : z.1 = k
    · have hzb : z = (k, b) := by
        have := (find_some h).1 hf
        rcases List.mem_cons.1 this with e | h3
        · exact e.symm
        · have := before_ne (h1 _ h3); exact absurd hz this
      subst hzb
      have : del ((k, b) :: r) k = r := by
        unfold del
        rw [List.filter_cons]
        simp only [ne_eq, not_true_eq_false, decide_false, Bool.false_eq_true, if_false]
        exact List.filter_eq_self.2 fun y hy => by have := before_ne (h1 y hy); simpa using fun e => this e.symm
      rw [this]
    · have hf2 : find r k = some b := by
        unfold find at hf ⊢
        rw [List.find?_cons, decide_eq_false hz] at hf
        exact hf
      have : del (z :: r) k = z :: del r k := by
        unfold del
        rw [List.filter_cons]
        simp [hz]
      rw [this]
      exact ((ih h2 hf2).cons z).trans (.swap (k, b) z (del r k))
end

theorem sumL_perm {bd : List Bd} {l l' : Dir} (h : l.Perm l') : sumL bd l = sumL bd l' := (h.map _).sum_nat
def lenAt (bd : List Bd) (i : Nat) : Nat := (bd.getD i ⟨[], 0⟩).data.length
theorem sumL_cons (bd : List Bd) (p : Bs × Nat) (l : Dir) : sumL bd (p :: l) = lenAt bd p.2 + sumL bd l := rfl
def lenOf (bd : List Bd) : Option Nat → Nat
  | none => 0
  | some i => lenAt bd i
theorem sumL_del {bd : List Bd} {l : Dir} (h : Rise l) (k : Bs) : sumL bd l = lenOf bd (find l k) + sumL bd (del l k) := by
  cases hf : find l k with
  | none => rw [del_same hf]; simp [lenOf]
  | some b => rw [sumL_perm (del_perm h hf), sumL_cons]; rfl
theorem sumL_put {bd : List Bd} {l : Dir} (h : Rise l) (k : Bs) (to : Option Nat) : sumL bd (put l k to) + lenOf bd (find l k) = sumL bd l + lenOf bd to := by
  have h1 := sumL_del (bd := bd) h k
  cases to with
  | none => show sumL bd (del l k) + _ = _ + 0; omega
  | some b =>
    have h2 : sumL bd (put l k (some b)) = lenAt bd b + sumL bd (del l k) := by
      show sumL bd (ins (k, b) (del l k)) = _
      rw [sumL_perm (ins_perm _ _), sumL_cons]
    have h3 : lenOf bd (some b) = lenAt bd b := rfl
    omega
theorem lenAt_set (bd : List Bd) (i j : Nat) (b : Bd) (hi : i < bd.length) : lenAt (bd.set i b) j = if j = i then b.data.length else lenAt bd j := by
  unfold lenAt
  rw [List.getD_eq_getElem?_getD, List.getElem?_set, List.getD_eq_getElem?_getD]
  by_cases hj : i = j
  · subst hj; simp [hi]
  · rw [if_neg hj, if_neg (fun e => hj e.symm)]
theorem val_mem {p : Bs × Nat} {l : Dir} (h : p ∈ l) : p.2 ∈ l.map (·.2) := List.mem_map_of_mem (f := fun p : Bs × Nat => p.2) h
theorem sumL_off {bd : List Bd} {i : Nat} {b : Bd} (hi : i < bd.length) : ∀ {l : Dir}, (∀ p ∈ l, p.2 ≠ i) → sumL (bd.set i b) l = sumL bd l
  | [], _ => rfl
  | p :: r, h => by
    rw [sumL_cons, sumL_cons, lenAt_set bd i p.2 b hi, if_neg (h p (by simp)), sumL_off hi fun x hx => h x (by simp [hx])]
theorem sumL_set {bd : List Bd} {i : Nat} {b : Bd} (hi : i < bd.length) : ∀ {l : Dir}, (l.map (·.2)).Nodup → ∀ {k : Bs}, (k, i) ∈ l → sumL (bd.set i b) l + lenAt bd i = sumL bd l + b.data.length
  | [], _, _, h => by cases h
  | p :: r, hn, k, h => by
    rw [List.map_cons, List.nodup_cons] at hn
    rw [sumL_cons, sumL_cons, lenAt_set bd i p.2 b hi]
    rcases List.mem_cons.1 h with e | h
    · subst e
      rw [if_pos rfl, sumL_off hi fun x hx e => hn.1 (by have h3 := val_mem hx; rw [e] at h3; exact h3)]
      simp only
      omega
    · have hne : p.2 ≠ i := fun e => hn.1 (e ▸ val_mem h)
      have := sumL_set (b := b) hi hn.2 h
      rw [if_neg hne]
      omega

section
variable {d : D} {m N : Nat}
theorem D.Ok.mono (h : d.Ok m N) {m' N' : Nat} (hm : m ≤ m') (hN : N ≤ N') : d.Ok m' N' :=
  ⟨h.room, h.now, h.kept, h.inN, h.inK, h.inP, h.one, h.oneP, fun b hb => ⟨(h.safe b hb).1, Nat.le_trans (h.safe b hb).2 hm⟩, Nat.le_trans h.lenN hN, Nat.le_trans h.lenK hN, h.namN, h.namK⟩
theorem D.Ok.at_ok (h : d.Ok m N) (i : Nat) : (d.at i).safe ≤ (d.at i).data.length ∧ (d.at i).data.length ≤ m := by
  unfold D.at
  rcases Nat.lt_or_ge i d.bd.length with hi | hi
  · rw [List.getD_eq_getElem?_getD, List.getElem?_eq_getElem hi]
    exact h.safe _ (List.getElem_mem hi)
  · rw [List.getD_eq_getElem?_getD, List.getElem?_eq_none hi]
    exact ⟨Nat.le_refl _, Nat.zero_le _⟩
theorem look_ok (_h : d.Ok m N) {n : Bs} {i : Nat} (hl : d.look n = .ok i) : named n = true ∧ find d.now n = some i := by
  unfold D.look at hl
  split at hl
  · rename_i hn
    split at hl
    · rename_i j hf
      injection hl with hl
      subst hl
      exact ⟨hn, hf⟩
    · cases hl
  · cases hl
theorem look_in (h : d.Ok m N) {n : Bs} {i : Nat} (hl : d.look n = .ok i) : (n, i) ∈ d.now ∧ i < d.bd.length := by
  have h1 := (find_some h.now).1 (look_ok h hl).2
  exact ⟨h1, h.inN _ h1⟩
/-- A body is another one. -/
theorem D.Ok.body (h : d.Ok m N) (i : Nat) {b : Bd} {m' : Nat} (h1 : b.safe ≤ b.data.length) (h2 : b.data.length ≤ m') (hm : m ≤ m') : (d.setBody i b).Ok m' N :=
  ⟨h.room, h.now, h.kept, fun p hp => by simpa [D.setBody] using h.inN p hp, fun p hp => by simpa [D.setBody] using h.inK p hp,
    fun c hc s hs => ⟨(h.inP c hc s hs).1, fun j hj => by simpa [D.setBody] using (h.inP c hc s hs).2 j hj⟩, h.one, h.oneP,
    fun x hx => by
      rcases List.mem_or_eq_of_mem_set hx with h3 | rfl
      · exact ⟨(h.safe x h3).1, Nat.le_trans (h.safe x h3).2 hm⟩
      · exact ⟨h1, h2⟩, h.lenN, h.lenK, h.namN, h.namK⟩
theorem vals_put {l : Dir} (hl : (l.map (·.2)).Nodup) {k : Bs} {i : Nat} (hi : ∀ p ∈ del l k, p.2 ≠ i) : ((put l k (some i)).map (·.2)).Nodup := by
  have hd : ((del l k).map (·.2)).Nodup := hl.sublist (List.filter_sublist.map _)
  refine ((ins_perm (k, i) (del l k)).map (·.2)).nodup_iff.2 ?_
  rw [List.map_cons, List.nodup_cons]
  refine ⟨fun hm => ?_, hd⟩
  obtain ⟨p, hp, e⟩ := List.mem_map.1 hm
  exact hi p hp e
theorem D.Ok.create (h : d.Ok m N) (n : Bs) : (d.create n).1.Ok m (N + 1) := by
  unfold D.create
  split
  · rename_i hn
    split
    · exact h.mono (Nat.le_refl _) (Nat.le_succ _)
    · have hlt : ∀ i, i < d.bd.length → i < d.bd.length + 1 := fun i => Nat.lt_succ_of_lt
      show D.Ok ⟨d.room, d.bd ++ [⟨[], 0⟩], put d.now n (some d.bd.length), d.kept, d.pend ++ [[(n, some d.bd.length)]]⟩ m (N + 1)
      refine ⟨h.room, rise_put h.now n (some d.bd.length), h.kept, fun p hp => ?_, fun p hp => by simpa using hlt _ (h.inK p hp), fun c hc => ?_, ?_, fun c hc => ?_, fun b hb => ?_, ?_, ?_, fun p hp => ?_, h.namK⟩
      · rcases (mem_put (l := d.now) (k := n) (to := some d.bd.length)).1 hp with ⟨h1, _⟩ | ⟨_, h2⟩
        · simpa using hlt _ (h.inN p h1)
        · injection h2 with h2; simp [← h2]
      · rcases List.mem_append.1 hc with hc | hc
        · exact fun s hs => ⟨(h.inP c hc s hs).1, fun i hi => by simpa using hlt _ ((h.inP c hc s hs).2 i hi)⟩
        · obtain rfl : c = _ := by simpa using hc
          intro s hs
          obtain rfl : s = _ := by simpa using hs
          exact ⟨hn, fun i hi => by injection hi with hi; simp [← hi]⟩
      · refine vals_put h.one fun p hp e => ?_
        have := h.inN p (mem_del.1 hp).1
        omega
      · rcases List.mem_append.1 hc with hc | hc
        · exact h.oneP c hc
        · obtain rfl : c = _ := by simpa using hc
          exact Nat.le_refl _
      · rcases List.mem_append.1 hb with hb | hb
        · exact h.safe b hb
        · obtain rfl : b = _ := by simpa using hb
          exact ⟨Nat.le_refl _, Nat.zero_le _⟩
      · have := len_put_le d.now n (some d.bd.length); have := h.lenN; simp only; omega
      · have := h.lenK; simp only [List.length_append, List.length_cons, List.length_nil]; omega
      · rcases (mem_put (l := d.now) (k := n) (to := some d.bd.length)).1 hp with ⟨h1, _⟩ | ⟨h2, _⟩
        · exact h.namN p h1
        · rw [h2]; exact hn
  · exact h.mono (Nat.le_refl _) (Nat.le_succ _)
theorem D.Ok.append (h : d.Ok m N) (n x : Bs) : (d.append n x).1.Ok (m + x.length) N := by
  unfold D.append
  split
  · exact h.mono (Nat.le_add_right _ _) (Nat.le_refl _)
  · rename_i i hl
    split
    · exact h.mono (Nat.le_add_right _ _) (Nat.le_refl _)
    · split
      · have := h.at_ok i
        exact h.body i (by simp; omega) (by simp; omega) (Nat.le_add_right _ _)
      · exact h.mono (Nat.le_add_right _ _) (Nat.le_refl _)
theorem D.Ok.sync (h : d.Ok m N) (n : Bs) : (d.sync n).1.Ok m N := by
  unfold D.sync
  split
  · exact h
  · rename_i i hl
    exact h.body i (Nat.le_refl _) (h.at_ok i).2 (Nat.le_refl _)
theorem D.Ok.remove (h : d.Ok m N) (n : Bs) : (d.remove n).1.Ok m (N + 1) := by
  unfold D.remove
  split
  · exact h.mono (Nat.le_refl _) (Nat.le_succ _)
  · rename_i i hl
    have hn := (look_ok h hl).1
    show D.Ok ⟨d.room, d.bd, put d.now n none, d.kept, d.pend ++ [[(n, none)]]⟩ m (N + 1)
    refine ⟨h.room, rise_put h.now n none, h.kept, fun p hp => h.inN p (mem_del.1 hp).1, h.inK, fun c hc => ?_, h.one.sublist (List.filter_sublist.map _), fun c hc => ?_, h.safe, ?_, ?_, fun p hp => h.namN p (mem_del.1 hp).1, h.namK⟩
    · rcases List.mem_append.1 hc with hc | hc
      · exact h.inP c hc
      · obtain rfl : c = _ := by simpa using hc
        intro s hs
        obtain rfl : s = _ := by simpa using hs
        exact ⟨hn, fun i hi => by cases hi⟩
    · rcases List.mem_append.1 hc with hc | hc
      · exact h.oneP c hc
      · obtain rfl : c = _ := by simpa using hc
        exact Nat.zero_le _
    · have := len_del_le d.now n; have := h.lenN; simp only [put]; omega
    · have := h.lenK; simp only [List.length_append, List.length_cons, List.length_nil]; omega
theorem named_both {a b : Bs} (h : ¬ (named a && !named b) = true) (ha : named a = true) : named b = true := by
  cases hb : named b
  · rw [ha, hb] at h; simp at h
  · rfl
theorem D.Ok.rename (h : d.Ok m N) (a b : Bs) : (d.rename a b).1.Ok m (N + 1) := by
  unfold D.rename
  split
  · exact h.mono (Nat.le_refl _) (Nat.le_succ _)
  · rename_i hab
    split
    · exact h.mono (Nat.le_refl _) (Nat.le_succ _)
    · rename_i i hl
      split
      · exact h.mono (Nat.le_refl _) (Nat.le_succ _)
      · have hn := look_ok h hl
        have hb := named_both hab hn.1
        have hi := look_in h hl
        have hr := rise_put h.now a none
        show D.Ok ⟨d.room, d.bd, put (put d.now a none) b (some i), d.kept, d.pend ++ [[(a, none), (b, some i)]]⟩ m (N + 1)
        refine ⟨h.room, rise_put hr b (some i), h.kept, fun p hp => ?_, h.inK, fun c hc => ?_, ?_, fun c hc => ?_, h.safe, ?_, ?_, fun p hp => ?_, h.namK⟩
        · rcases (mem_put (l := put d.now a none) (k := b) (to := some i)).1 hp with ⟨h1, _⟩ | ⟨_, h2⟩
          · exact h.inN p (mem_del.1 h1).1
          · injection h2 with h2; rw [← h2]; exact hi.2
        · rcases List.mem_append.1 hc with hc | hc
          · exact h.inP c hc
          · obtain rfl : c = _ := by simpa using hc
            intro s hs
            rcases List.mem_cons.1 hs with rfl | hs
            · exact ⟨hn.1, fun i hi => by cases hi⟩
            · obtain rfl : s = _ := by simpa using hs
              exact ⟨hb, fun j hj => by injection hj with hj; rw [← hj]; exact hi.2⟩
        · refine vals_put (h.one.sublist (List.filter_sublist.map _)) fun p hp e => ?_
          have h1 := mem_del.1 (mem_del.1 hp).1
          have h2 := ((del_perm h.now hn.2).map (·.2)).nodup_iff.1 h.one
          rw [List.map_cons, List.nodup_cons] at h2
          exact h2.1 (by rw [← e]; exact val_mem (p := p) (l := del d.now a) (mem_del.1 hp).1)
        · rcases List.mem_append.1 hc with hc | hc
          · exact h.oneP c hc
          · obtain rfl : c = _ := by simpa using hc
            exact Nat.le_refl _
        · have h1 := len_put_le (del d.now a) b (some i); have := len_del_le d.now a; have := h.lenN
          show (put (del d.now a) b (some i)).length ≤ N + 1
          omega
        · have := h.lenK; simp only [List.length_append, List.length_cons, List.length_nil]; omega
        · rcases (mem_put (l := put d.now a none) (k := b) (to := some i)).1 hp with ⟨h1, _⟩ | ⟨h2, _⟩
          · exact h.namN p (mem_del.1 h1).1
          · rw [h2]; exact hb
theorem D.Ok.syncDir (h : d.Ok m N) : d.syncDir.Ok m N :=
  ⟨h.room, h.now, h.now, h.inN, h.inN, fun c hc => (by cases hc), h.one, fun c hc => (by cases hc), h.safe, h.lenN, by simpa [D.syncDir] using h.lenN, h.namN, h.namN⟩
theorem flipAt_len : ∀ (l : Bs) (k : Nat) (p : Bs), (flipAt l k p).length = l.length
  | [], _, _ => by simp [flipAt]
  | b :: r, 0, [] => by simp [flipAt]
  | b :: r, 0, p :: q => by simp [flipAt, flipAt_len r 0 q]
  | b :: r, k + 1, p => by simp [flipAt, flipAt_len r k p]
theorem D.Ok.flip (h : d.Ok m N) (n : Bs) (k : Int) (p : Bs) : (d.flip n k p).1.Ok m N := by
  unfold D.flip
  split
  · exact h
  · split
    · exact h
    · rename_i i hl
      exact h.body i (by simp only [flipAt_len]; exact (h.at_ok i).1) (by simp only [flipAt_len]; exact (h.at_ok i).2) (Nat.le_refl _)
theorem D.Ok.cut (h : d.Ok m N) (n : Bs) (k : Int) : (d.cut n k).1.Ok m N := by
  unfold D.cut
  split
  · exact h
  · split
    · exact h
    · rename_i i hl
      have := h.at_ok i
      exact h.body i (by simp only [List.length_take]; omega) (by simp only [List.length_take]; omega) (Nat.le_refl _)
theorem D.Ok.fresh {room : Nat} (hr : room ≤ 1073741824) (m N : Nat) : (D.fresh room).Ok m N :=
  ⟨hr, .nil, .nil, fun p hp => (by cases hp), fun p hp => (by cases hp), fun c hc => (by cases hc), .nil, fun c hc => (by cases hc), fun b hb => (by cases hb), Nat.zero_le _, Nat.zero_le _, fun p hp => (by cases hp), fun p hp => (by cases hp)⟩
theorem D.Ok.wipe (h : d.Ok m N) : d.wipe.Ok m N := D.Ok.fresh h.room m N
theorem keep_ok {bn : Nat} : ∀ (p : List (List (Bs × Option Nat))) (b : List Bool) {l : Dir}, Rise l → (∀ x ∈ l, x.2 < bn ∧ named x.1 = true) → (∀ c ∈ p, ∀ s ∈ c, named s.1 = true ∧ ∀ i, s.2 = some i → i < bn) →
    Rise (keepSome l p b) ∧ (∀ x ∈ keepSome l p b, x.2 < bn ∧ named x.1 = true)
  | [], _, l, h1, h2, _ => by simp only [keepSome]; exact ⟨h1, h2⟩
  | c :: r, [], l, h1, h2, _ => by simp only [keepSome]; exact ⟨h1, h2⟩
  | c :: r, b :: s, l, h1, h2, h3 => by
    simp only [keepSome]
    have hstep : ∀ (c : List (Bs × Option Nat)) (l : Dir), Rise l → (∀ x ∈ l, x.2 < bn ∧ named x.1 = true) → (∀ s ∈ c, named s.1 = true ∧ ∀ i, s.2 = some i → i < bn) → Rise (apply l c) ∧ ∀ x ∈ apply l c, x.2 < bn ∧ named x.1 = true := by
      intro c
      induction c with
      | nil => exact fun l h1 h2 _ => ⟨h1, h2⟩
      | cons s r ih =>
        intro l h1 h2 h3
        refine ih (put l s.1 s.2) (rise_put h1 _ _) (fun x hx => ?_) fun s hs => h3 s (by simp [hs])
        rcases mem_put.1 hx with ⟨hx, _⟩ | ⟨e1, e2⟩
        · exact h2 x hx
        · exact ⟨(h3 s (by simp)).2 _ e2, by rw [e1]; exact (h3 s (by simp)).1⟩
    cases b
    · exact keep_ok r s h1 h2 fun c hc => h3 c (by simp [hc])
    · obtain ⟨g1, g2⟩ := hstep c l h1 h2 (h3 c (by simp))
      exact keep_ok r s g1 g2 fun c hc => h3 c (by simp [hc])
theorem len_apply (c : List (Bs × Option Nat)) : ∀ l : Dir, (apply l c).length ≤ l.length + c.countP (fun s => s.2.isSome) := by
  induction c with
  | nil => intro l; exact Nat.le_add_right _ _
  | cons s r ih =>
    intro l
    have h1 := ih (put l s.1 s.2)
    have h2 : (put l s.1 s.2).length ≤ l.length + if s.2.isSome then 1 else 0 := by
      obtain ⟨k, to⟩ := s
      cases to with
      | none => simpa [put] using len_del_le l k
      | some b => simpa using len_put_le l k (some b)
    rw [List.countP_cons]
    show (apply (put l s.1 s.2) r).length ≤ _
    omega
theorem len_keep : ∀ (p : List (List (Bs × Option Nat))) (b : List Bool) (l : Dir), (∀ c ∈ p, c.countP (fun s => s.2.isSome) ≤ 1) → (keepSome l p b).length ≤ l.length + p.length
  | [], _, l, _ => by simp [keepSome]
  | c :: r, [], l, _ => by simp only [keepSome]; omega
  | c :: r, b :: s, l, h => by
    simp only [keepSome, List.length_cons]
    have h1 := len_apply c l
    have h2 := h c (by simp)
    cases b
    · have := len_keep r s l fun c hc => h c (by simp [hc])
      simp only [Bool.false_eq_true, if_false]; omega
    · have := len_keep r s (apply l c) fun c hc => h c (by simp [hc])
      simp only [if_true]; omega
theorem Bd.left_ok {b : Bd} (h : b.safe ≤ b.data.length) (c : Int) : (b.left c).safe = (b.left c).data.length ∧ (b.left c).data.length ≤ b.data.length := by
  unfold Bd.left
  simp only [List.length_take]
  omega
/-- The names of a list, each leading to its place. -/
def places (k : Dir) : Dir := k.zipIdx.map fun p => (p.1.1, p.2)
theorem places_names (k : Dir) : (places k).map (·.1) = k.map (·.1) := by
  unfold places
  rw [List.map_map]
  show k.zipIdx.map (fun p => p.1.1) = _
  have : (fun p : (Bs × Nat) × Nat => p.1.1) = (fun p : Bs × Nat => p.1) ∘ Prod.fst := rfl
  rw [this, ← List.map_map, List.zipIdx_map_fst]
theorem places_at {k : Dir} {j : Nat} : (places k)[j]? = (k[j]?).map fun p => (p.1, j) := by
  unfold places
  rw [List.getElem?_map, List.getElem?_zipIdx]
  cases k[j]? <;> simp
theorem rise_names {α β : Type} {a : List (Bs × α)} {b : List (Bs × β)} (h : Rise a) (hn : b.map (·.1) = a.map (·.1)) : Rise b := by
  have h1 : (a.map (·.1)).Pairwise fun x y => bytesBefore x y = true := List.pairwise_map.2 h
  rw [← hn] at h1
  exact List.pairwise_map.1 h1
theorem places_vals (k : Dir) : (places k).map (·.2) = List.range k.length := by
  apply List.ext_getElem?
  intro j
  rw [List.getElem?_map, places_at]
  rcases Nat.lt_or_ge j k.length with h | h
  · rw [List.getElem?_eq_getElem h, List.getElem?_range h]; rfl
  · rw [List.getElem?_eq_none h, List.getElem?_eq_none (by simpa using h)]; rfl
theorem places_len (k : Dir) : (places k).length = k.length := by simp [places]
section
variable {d : D} {m N : Nat}
theorem D.crash_eq (d : D) (dirs : List Bool) (cuts : List Int) : d.crash dirs cuts = ⟨d.room, (keepSome d.kept d.pend dirs).zipIdx.map fun p => (d.at p.1.2).left (cuts.getD p.2 0), places (keepSome d.kept d.pend dirs), places (keepSome d.kept d.pend dirs), []⟩ := rfl
theorem D.Ok.crash (h : d.Ok m N) (dirs : List Bool) (cuts : List Int) : (d.crash dirs cuts).Ok m N := by
  rw [D.crash_eq]
  have hk := keep_ok d.pend dirs h.kept (fun x hx => ⟨h.inK x hx, h.namK x hx⟩) h.inP
  have hl := len_keep d.pend dirs d.kept h.oneP
  generalize keepSome d.kept d.pend dirs = k at hk hl
  have hr := rise_names (b := places k) hk.1 (places_names k)
  have hin : ∀ p ∈ places k, p.2 < k.length := fun p hp => by
    have := val_mem hp
    rw [places_vals] at this
    exact List.mem_range.1 this
  have hnm : ∀ p ∈ places k, named p.1 = true := fun p hp => by
    have h1 : p.1 ∈ (places k).map (·.1) := List.mem_map_of_mem (f := fun p : Bs × Nat => p.1) hp
    rw [places_names] at h1
    obtain ⟨q, hq, e⟩ := List.mem_map.1 h1
    rw [← e]; exact (hk.2 q hq).2
  have hN := h.lenK
  refine ⟨h.room, hr, hr, fun p hp => by simpa using hin p hp, fun p hp => by simpa using hin p hp, fun c hc => (by cases hc), ?_, fun c hc => (by cases hc), fun b hb => ?_, ?_, ?_, hnm, hnm⟩
  · simp only [places_vals]; exact List.nodup_range
  · obtain ⟨q, hq, rfl⟩ := List.mem_map.1 hb
    have h1 := h.at_ok q.1.2
    have h2 := Bd.left_ok h1.1 (cuts.getD q.2 0)
    exact ⟨by omega, by omega⟩
  · simp only [places_len]; omega
  · simp only [places_len, List.length_nil]; omega
end
/-- So many bytes. -/
def bulk (fs : List (Bs × Bs)) : Nat := (fs.map fun f => f.2.length).sum
theorem loadAt_ok {m N : Nat} : ∀ (fs : List (Bs × Bs)) {d d' : D}, d.Ok m N → d.pend = [] → loadAt d fs = some d' → d'.Ok (m + bulk fs) (N + fs.length)
  | [], d, d', h, _, he => by
    injection he with he; subst he
    exact h.mono (Nat.le_add_right _ _) (Nat.le_add_right _ _)
  | (n, x) :: r, d, d', h, hp, he => by
    unfold loadAt at he
    split at he
    · cases he
    · rename_i hc
      simp only [Bool.or_eq_true, Bool.not_eq_true', not_or, Bool.not_eq_true, Bool.not_eq_false, Option.isSome_eq_false_iff, Option.isNone_iff_eq_none] at hc
      have hlt : ∀ i, i < d.bd.length → i < d.bd.length + 1 := fun i => Nat.lt_succ_of_lt
      have h' : D.Ok ⟨d.room, d.bd ++ [⟨x, x.length⟩], put d.now n (some d.bd.length), put d.kept n (some d.bd.length), []⟩ (m + x.length) (N + 1) := by
        refine ⟨h.room, rise_put h.now n (some d.bd.length), rise_put h.kept n (some d.bd.length), fun p hp => ?_, fun p hp => ?_, fun c hc => (by cases hc), vals_put h.one fun p hp e => ?_, fun c hc => (by cases hc), fun b hb => ?_, ?_, ?_, fun p hp => ?_, fun p hp => ?_⟩
        · rcases (mem_put (l := d.now) (k := n) (to := some d.bd.length)).1 hp with ⟨h1, _⟩ | ⟨_, h2⟩
          · simpa using hlt _ (h.inN p h1)
          · injection h2 with h2; simp [← h2]
        · rcases (mem_put (l := d.kept) (k := n) (to := some d.bd.length)).1 hp with ⟨h1, _⟩ | ⟨_, h2⟩
          · simpa using hlt _ (h.inK p h1)
          · injection h2 with h2; simp [← h2]
        · have := h.inN p (mem_del.1 hp).1; omega
        · rcases List.mem_append.1 hb with hb | hb
          · have := h.safe b hb; exact ⟨this.1, by omega⟩
          · obtain rfl : b = _ := by simpa using hb
            exact ⟨Nat.le_refl _, by simp⟩
        · have := len_put_le d.now n (some d.bd.length); have := h.lenN; simp only; omega
        · have := len_put_le d.kept n (some d.bd.length); have := h.lenK; simp only [List.length_nil]; omega
        · rcases (mem_put (l := d.now) (k := n) (to := some d.bd.length)).1 hp with ⟨h1, _⟩ | ⟨h2, _⟩
          · exact h.namN p h1
          · rw [h2]; exact hc.2
        · rcases (mem_put (l := d.kept) (k := n) (to := some d.bd.length)).1 hp with ⟨h1, _⟩ | ⟨h2, _⟩
          · exact h.namK p h1
          · rw [h2]; exact hc.2
      have := loadAt_ok r h' rfl he
      refine this.mono ?_ ?_
      · simp [bulk]; omega
      · simp; omega
theorem D.Ok.step {d : D} {m N : Nat} (h : d.Ok m N) (a : Ac) : (d.step a).1.Ok (m + a.data.length) (N + 1) := by
  have g : ∀ {d' : D}, d'.Ok m N → d'.Ok (m + a.data.length) (N + 1) := fun h => h.mono (Nat.le_add_right _ _) (Nat.le_succ _)
  have g1 : ∀ {d' : D}, d'.Ok m (N + 1) → d'.Ok (m + a.data.length) (N + 1) := fun h => h.mono (Nat.le_add_right _ _) (Nat.le_refl _)
  unfold D.step
  by_cases k0 : a.kind = 0
  · rw [if_pos k0]; exact g1 (h.create _)
  rw [if_neg k0]
  by_cases k1 : a.kind = 1
  · rw [if_pos k1]; exact (h.append _ _).mono (Nat.le_refl _) (Nat.le_succ _)
  rw [if_neg k1]
  by_cases k2 : a.kind = 2
  · rw [if_pos k2]; exact g (h.sync _)
  rw [if_neg k2]
  by_cases k3 : a.kind = 3
  · rw [if_pos k3]; exact g1 (h.rename _ _)
  rw [if_neg k3]
  by_cases k4 : a.kind = 4
  · rw [if_pos k4]; exact g1 (h.remove _)
  rw [if_neg k4]
  by_cases k5 : a.kind = 5
  · rw [if_pos k5]; exact g h.syncDir
  rw [if_neg k5]
  by_cases k6 : a.kind = 6
  · rw [if_pos k6]; exact g h
  rw [if_neg k6]
  by_cases k7 : a.kind = 7
  · rw [if_pos k7]; exact g h
  rw [if_neg k7]
  by_cases k8 : a.kind = 8
  · rw [if_pos k8]; exact g h
  rw [if_neg k8]
  by_cases k9 : a.kind = 9
  · rw [if_pos k9]; exact g h
  rw [if_neg k9]
  by_cases k10 : a.kind = 10
  · rw [if_pos k10]; exact g h
  rw [if_neg k10]
  by_cases k11 : a.kind = 11
  · rw [if_pos k11]; exact g h
  rw [if_neg k11]
  by_cases k12 : a.kind = 12
  · rw [if_pos k12]; exact g h
  rw [if_neg k12]
  by_cases k13 : a.kind = 13
  · rw [if_pos k13]; exact g (h.crash _ _)
  rw [if_neg k13]
  by_cases k14 : a.kind = 14
  · rw [if_pos k14]; exact g (h.flip _ _ _)
  rw [if_neg k14]
  by_cases k15 : a.kind = 15
  · rw [if_pos k15]; exact g (h.cut _ _)
  rw [if_neg k15]
  by_cases k16 : a.kind = 16
  · rw [if_pos k16]; exact g h.wipe
  rw [if_neg k16]
  exact g h
end
end Go.Proofs.Ytelgcmcnebncmaa.Dr
namespace Go.Proofs.Ytelgcmcnebncmaa.Dr
open Go

abbrev Ents := List (Bs × Int)
def zOf : Option Nat → Int
  | none => -1
  | some i => (i : Int)
/-- A directory, a change, as entries. -/
def dirE (l : Dir) : Ents := l.map fun p => (p.1, (p.2 : Int))
def chgE (c : List (Bs × Option Nat)) : Ents := c.map fun s => (s.1, zOf s.2)
def findE (l : Ents) (n : Bs) : Int := match l.find? fun p => decide (p.1 = n) with
  | some p => p.2
  | none => -1
/-- What stands ahead of a name, from a name on. -/
def aheadE (l : Ents) (n : Bs) : Ents := l.takeWhile fun p => bytesBefore p.1 n
def fromE (l : Ents) (n : Bs) : Ents := l.dropWhile fun p => bytesBefore p.1 n
def skipE (l : Ents) (n : Bs) : Ents := match l with
  | p :: r => if p.1 = n then r else p :: r
  | [] => []
def setE (l : Ents) (n : Bs) (z : Int) : Ents := aheadE l n ++ (if 0 ≤ z then [(n, z)] else []) ++ skipE (fromE l n) n
def madeE (l c : Ents) : Ents := c.foldl (fun l s => setE l s.1 s.2) l

theorem findE_dir (l : Dir) (n : Bs) : findE (dirE l) n = zOf (find l n) := by
  unfold findE dirE find
  rw [List.find?_map]
  have e : ((fun p : Bs × Int => decide (p.1 = n)) ∘ fun p : Bs × Nat => (p.1, (p.2 : Int))) = fun p : Bs × Nat => decide (p.1 = n) := rfl
  rw [e]
  cases l.find? fun p => decide (p.1 = n) <;> rfl
theorem ahead_of {l : Ents} {n : Bs} {i : Nat} (hi : i ≤ l.length) (h1 : ∀ (j : Nat) p, j < i → l[j]? = some p → bytesBefore p.1 n = true) (h2 : ∀ p, l[i]? = some p → bytesBefore p.1 n = false) : aheadE l n = l.take i ∧ fromE l n = l.drop i := by
  unfold aheadE fromE
  induction l generalizing i with
  | nil => simp
  | cons p r ih =>
    cases i with
    | zero =>
      have := h2 p rfl
      simp [this]
    | succ i =>
      have hp := h1 0 p (by omega) rfl
      obtain ⟨e1, e2⟩ := ih (i := i) (by simpa using hi) (fun j q hj hq => h1 (j + 1) q (by omega) (by simpa using hq)) (fun q hq => h2 q (by simpa using hq))
      simp [hp, e1, e2]
theorem skip_of {l : Ents} {n : Bs} {i : Nat} : skipE (l.drop i) n = if (match l[i]? with | some p => decide (p.1 = n) | none => false) = true then l.drop (i + 1) else l.drop i := by
  rcases Nat.lt_or_ge i l.length with h | h
  · rw [List.drop_eq_getElem_cons h, List.getElem?_eq_getElem h]
    unfold skipE
    dsimp only
    by_cases hp : l[i].1 = n
    · simp [hp]
    · simp [hp]
  · rw [List.drop_eq_nil_of_le h, List.getElem?_eq_none h]
    rfl
theorem len_setE (l : Ents) (n : Bs) (z : Int) : (setE l n z).length ≤ l.length + 1 := by
  have h1 : (aheadE l n).length + (fromE l n).length = l.length := by
    unfold aheadE fromE
    rw [← List.length_append, List.takeWhile_append_dropWhile]
  have h2 : ∀ q : Ents, (skipE q n).length ≤ q.length := by
    intro q
    cases q with
    | nil => exact Nat.le_refl _
    | cons p r =>
      unfold skipE
      dsimp only
      split
      · simp
      · exact Nat.le_refl _
  have h2 := h2 (fromE l n)
  unfold setE
  simp only [List.length_append]
  split <;> simp <;> omega
theorem setE_cons {p : Bs × Int} {l : Ents} {n : Bs} {z : Int} (h : bytesBefore p.1 n = true) : setE (p :: l) n z = p :: setE l n z := by
  unfold setE aheadE fromE
  simp [h]
theorem del_rise {l : Dir} {n : Bs} (h : Rise l) (hn : ∀ p ∈ l, bytesBefore p.1 n = false) : dirE (del l n) = skipE (dirE l) n := by
  cases l with
  | nil => rfl
  | cons p r =>
    obtain ⟨h1, h2⟩ := List.pairwise_cons.1 h
    have hr : ∀ q ∈ r, q.1 ≠ n := fun q hq e => by
      have h3 := h1 q hq
      rw [e] at h3
      have := hn p (by simp)
      rw [h3] at this; cases this
    have hdel : del r n = r := del_same (find_none.2 hr)
    unfold skipE dirE
    by_cases hp : p.1 = n
    · have : del (p :: r) n = r := by unfold del at hdel ⊢; rw [List.filter_cons, if_neg (by simp [hp])]; exact hdel
      rw [this]
      simp [hp]
    · have : del (p :: r) n = p :: r := by unfold del at hdel ⊢; rw [List.filter_cons, if_pos (by simp [hp]), hdel]
      rw [this]
      simp [hp]
/-- The document's set is the rising list's put. -/
theorem setE_dir : ∀ {l : Dir}, Rise l → ∀ (n : Bs) (to : Option Nat), setE (dirE l) n (zOf to) = dirE (put l n to)
  | [], _, n, to => by
    cases to with
    | none => rfl
    | some b =>
      show setE [] n (b : Int) = dirE (ins (n, b) (del [] n))
      unfold setE aheadE fromE
      simp [skipE, del, ins, dirE]
  | p :: r, h, n, to => by
    obtain ⟨h1, h2⟩ := List.pairwise_cons.1 h
    by_cases hp : bytesBefore p.1 n = true
    · have hne : p.1 ≠ n := before_ne hp
      have hd : del (p :: r) n = p :: del r n := by unfold del; rw [List.filter_cons, if_pos (by simp [hne])]
      have hput : put (p :: r) n to = p :: put r n to := by
        cases to with
        | none => exact hd
        | some b =>
          show ins (n, b) (del (p :: r) n) = _
          rw [hd]
          show (if bytesBefore n p.1 then _ else p :: ins (n, b) (del r n)) = _
          rw [if_neg (by rw [before_asymm hp]; simp)]
          rfl
      rw [hput]
      show setE ((p.1, (p.2 : Int)) :: dirE r) n (zOf to) = (p.1, (p.2 : Int)) :: dirE (put r n to)
      rw [setE_cons (by exact hp), setE_dir h2 n to]
    · have hp : bytesBefore p.1 n = false := by simpa using hp
      have hall : ∀ q ∈ p :: r, bytesBefore q.1 n = false := by
        intro q hq
        rcases List.mem_cons.1 hq with rfl | hq
        · exact hp
        · cases hb : bytesBefore q.1 n with
          | false => rfl
          | true =>
            have := before_trans (h1 q hq) hb
            rw [hp] at this; cases this
      have hah : aheadE (dirE (p :: r)) n = [] ∧ fromE (dirE (p :: r)) n = dirE (p :: r) := by
        unfold aheadE fromE
        simp [dirE, hp]
      unfold setE
      rw [hah.1, hah.2, ← del_rise h hall]
      cases to with
      | none => rfl
      | some b =>
        have hi : ins (n, b) (del (p :: r) n) = (n, b) :: del (p :: r) n := by
          cases hd : del (p :: r) n with
          | nil => rfl
          | cons q t =>
            have hq : q ∈ del (p :: r) n := by rw [hd]; simp
            obtain ⟨hq1, hq2⟩ := mem_del.1 hq
            show (if bytesBefore n q.1 then _ else _) = _
            rw [if_pos (before_total (hall q hq1) (fun e => hq2 e))]
        show _ = dirE (ins (n, b) (del (p :: r) n))
        rw [hi]
        have : (0 : Int) ≤ zOf (some b) := by show (0 : Int) ≤ (b : Int); omega
        rw [if_pos this]
        rfl
theorem madeE_dir : ∀ (c : List (Bs × Option Nat)) {l : Dir}, Rise l → madeE (dirE l) (chgE c) = dirE (apply l c)
  | [], l, h => rfl
  | s :: c, l, h => by
    show madeE (setE (dirE l) s.1 (zOf s.2)) (chgE c) = dirE (apply (put l s.1 s.2) c)
    rw [setE_dir h, madeE_dir c (rise_put h s.1 s.2)]
end Go.Proofs.Ytelgcmcnebncmaa.Dr
