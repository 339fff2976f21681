/- Values by keys, the one used last first, in plain words; and what of it lies in memory. Over any program. -/
import Derived.Test.YtpppgdfgbhglbaaRing
namespace Go.Proofs.Ytpppgdfgbhglbaa
open Go.RowKit Go.Proofs

namespace Lru
structure It (κ ν : Type) where
  key : κ
  val : ν
  wt : Nat

section
variable {κ ν : Type}
def sumW : List (It κ ν) → Nat
  | [] => 0
  | e :: r => e.wt + sumW r
def out [DecidableEq κ] (k : κ) (l : List (It κ ν)) : List (It κ ν) := l.filter fun e => decide (e.key ≠ k)
def trim (room w : Nat) : Nat → List (It κ ν) → List (It κ ν)
  | 0, l => l
  | n + 1, l => if sumW l + w > room then trim room w n l.dropLast else l
def seek [DecidableEq κ] (k : κ) (l : List (It κ ν)) : Option (It κ ν) := l.find? fun e => decide (e.key = k)
def put [DecidableEq κ] (room : Nat) (k : κ) (v : ν) (w : Nat) (l : List (It κ ν)) : List (It κ ν) := ⟨k, v, w⟩ :: trim room w (out k l).length (out k l)
def get [DecidableEq κ] (k : κ) (l : List (It κ ν)) : List (It κ ν) :=
  match seek k l with
  | none => l
  | some e => e :: out k l
/-- Put, as it is called. -/
def putI [DecidableEq κ] (room : Nat) (k : κ) (v : ν) (w : Int) (l : List (It κ ν)) : List (It κ ν) := if 0 ≤ w ∧ w ≤ (room : Int) then put room k v w.toNat l else out k l

theorem sumW_append (a b : List (It κ ν)) : sumW (a ++ b) = sumW a + sumW b := by
  induction a with
  | nil => simp [sumW]
  | cons e r ih => simp [sumW, ih]; omega
theorem out_none [DecidableEq κ] {k : κ} {l : List (It κ ν)} (h : ∀ e ∈ l, e.key ≠ k) : out k l = l := by
  unfold out
  rw [List.filter_eq_self]
  intro e he
  simpa using h e he
theorem out_mid [DecidableEq κ] {l1 l2 : List (It κ ν)} {e : It κ ν} (h : ((l1 ++ e :: l2).map (·.key)).Nodup) : out e.key (l1 ++ e :: l2) = l1 ++ l2 := by
  have h1 : ∀ a ∈ l1 ++ l2, a.key ≠ e.key := by
    rw [List.map_append, List.map_cons, List.nodup_append] at h
    obtain ⟨_, h2, h3⟩ := h
    rw [List.nodup_cons] at h2
    intro a ha
    rcases List.mem_append.1 ha with h4 | h4
    · exact h3 _ (List.mem_map_of_mem h4) _ (by simp)
    · intro h5
      exact h2.1 (h5 ▸ List.mem_map_of_mem h4)
  have e1 : out e.key (l1 ++ e :: l2) = out e.key (l1 ++ l2) := by simp [out]
  rw [e1, out_none h1]
theorem seek_none [DecidableEq κ] {k : κ} {l : List (It κ ν)} (h : seek k l = none) : ∀ e ∈ l, e.key ≠ k := by
  intro e he
  have := List.find?_eq_none.1 h e he
  simpa using this
theorem seek_some [DecidableEq κ] {k : κ} {l : List (It κ ν)} {e : It κ ν} (h : seek k l = some e) : e.key = k ∧ e ∈ l := ⟨by simpa using List.find?_some h, List.mem_of_find?_eq_some h⟩
theorem out_keys [DecidableEq κ] {k : κ} {l : List (It κ ν)} (h : (l.map (·.key)).Nodup) : ((out k l).map (·.key)).Nodup := by
  unfold out
  exact h.sublist (List.filter_sublist.map _)
theorem out_ne [DecidableEq κ] {k : κ} {l : List (It κ ν)} : ∀ e ∈ out k l, e.key ≠ k := by
  intro e he
  simpa using (List.mem_filter.1 he).2
theorem trim_sub (room w n : Nat) (l : List (It κ ν)) : (trim room w n l).Sublist l := by
  induction n generalizing l with
  | zero => exact List.Sublist.refl _
  | succ n ih =>
    unfold trim
    split
    · exact (ih _).trans (List.dropLast_sublist _)
    · exact List.Sublist.refl _
theorem sumW_dropLast_le (l : List (It κ ν)) : sumW l.dropLast ≤ sumW l := by
  rcases List.eq_nil_or_concat l with h | ⟨r, e, h⟩
  · subst h; simp [sumW]
  · subst h; simp [sumW_append]
/-- A trimmed order fits. -/
theorem trim_fits {room w : Nat} (hw : w ≤ room) : ∀ (n : Nat) (l : List (It κ ν)), l.length ≤ n → sumW (trim room w n l) + w ≤ room := by
  intro n
  induction n with
  | zero => intro l hl; obtain rfl : l = [] := List.eq_nil_of_length_eq_zero (by omega); simpa [trim, sumW] using hw
  | succ n ih =>
    intro l hl
    unfold trim
    split
    · exact ih _ (by simp; omega)
    · omega
/-- One step of the trimming. -/
theorem trim_step {room w : Nat} (hw : w ≤ room) {l : List (It κ ν)} (h : sumW l + w > room) : trim room w l.length l = trim room w l.dropLast.length l.dropLast := by
  cases l with
  | nil => simp [sumW] at h; omega
  | cons e r =>
    have : (e :: r).length = r.length + 1 := rfl
    rw [this]
    conv => lhs; unfold trim
    rw [if_pos h]
    simp
theorem trim_done {room w : Nat} {l : List (It κ ν)} (h : ¬ sumW l + w > room) : trim room w l.length l = l := by
  cases hl : l.length with
  | zero => rfl
  | succ n => unfold trim; rw [if_neg h]
theorem put_keys [DecidableEq κ] {room w : Nat} {k : κ} {v : ν} {l : List (It κ ν)} (h : (l.map (·.key)).Nodup) : ((put room k v w l).map (·.key)).Nodup := by
  have hs := trim_sub room w (out k l).length (out k l)
  unfold put
  rw [List.map_cons, List.nodup_cons]
  refine ⟨fun hm => ?_, (out_keys h).sublist (hs.map _)⟩
  obtain ⟨e, he, hk⟩ := List.mem_map.1 hm
  exact out_ne e (hs.subset he) hk
theorem sumW_sub {a b : List (It κ ν)} (h : a.Sublist b) : sumW a ≤ sumW b := by
  induction h with
  | slnil => exact Nat.le_refl _
  | cons _ _ ih => simp only [sumW]; omega
  | cons_cons _ _ ih => simp only [sumW]; omega
end
end Lru

namespace Ring
open Lru
section
variable {κ ν : Type}
def En.it (e : En κ ν) : It κ ν := ⟨e.key, e.val, e.wt⟩
def its (L : List (En κ ν)) : List (It κ ν) := L.map En.it
theorem its_append (a b : List (En κ ν)) : its (a ++ b) = its a ++ its b := List.map_append
theorem its_cons (e : En κ ν) (b : List (En κ ν)) : its (e :: b) = e.it :: its b := rfl
theorem its_keys (L : List (En κ ν)) : (its L).map (·.key) = L.map (·.key) := by simp [its, En.it, Function.comp_def]
/-- Where a key's entry lies. -/
def place [DecidableEq κ] (L : List (En κ ν)) (k : κ) : Option Nat :=
  match L with
  | [] => none
  | e :: r => if e.key = k then some e.b else place r k
theorem place_none [DecidableEq κ] {L : List (En κ ν)} {k : κ} (h : place L k = none) : ∀ e ∈ L, e.key ≠ k := by
  induction L with
  | nil => intro e he; cases he
  | cons a r ih =>
    unfold place at h
    split at h
    · cases h
    · rename_i hne
      intro e he
      rcases List.mem_cons.1 he with h1 | h1
      · subst h1; exact hne
      · exact ih h e h1
theorem place_some [DecidableEq κ] {L : List (En κ ν)} {k : κ} {b : Nat} (h : place L k = some b) : ∃ l1 e l2, L = l1 ++ e :: l2 ∧ e.b = b ∧ e.key = k ∧ ∀ a ∈ l1, a.key ≠ k := by
  induction L with
  | nil => cases h
  | cons a r ih =>
    unfold place at h
    split at h
    · rename_i he
      injection h with h
      exact ⟨[], a, r, rfl, h, he, by simp⟩
    · rename_i hne
      obtain ⟨l1, e, l2, rfl, h1, h2, h3⟩ := ih h
      refine ⟨a :: l1, e, l2, rfl, h1, h2, fun x hx => ?_⟩
      rcases List.mem_cons.1 hx with h4 | h4
      · subst h4; exact hne
      · exact h3 x h4
theorem seek_its_none [DecidableEq κ] {L : List (En κ ν)} {k : κ} (h : place L k = none) : seek k (its L) = none := by
  refine List.find?_eq_none.2 fun x hx => ?_
  obtain ⟨a, ha, rfl⟩ := List.mem_map.1 hx
  have h3 : ¬ a.it.key = k := place_none h a ha
  simpa using h3
theorem seek_its_mid [DecidableEq κ] {l1 l2 : List (En κ ν)} {e : En κ ν} {k : κ} (he : e.key = k) (h : ∀ a ∈ l1, a.key ≠ k) : seek k (its (l1 ++ e :: l2)) = some e.it := by
  unfold seek
  rw [its_append, List.find?_append, its_cons, List.find?_cons]
  have h1 : (its l1).find? (fun x => decide (x.key = k)) = none := by
    refine List.find?_eq_none.2 fun x hx => ?_
    obtain ⟨a, ha, rfl⟩ := List.mem_map.1 hx
    have h3 : ¬ a.it.key = k := h a ha
    simpa using h3
  have h2 : decide (e.it.key = k) = true := decide_eq_true (show e.key = k from he)
  rw [h1, h2]
  rfl
theorem place_miss [DecidableEq κ] {L : List (En κ ν)} {k : κ} (h : ∀ e ∈ L, e.key ≠ k) : place L k = none := by
  induction L with
  | nil => rfl
  | cons a r ih =>
    unfold place
    rw [if_neg (h a (by simp))]
    exact ih fun e he => h e (by simp [he])
theorem place_mid [DecidableEq κ] {l1 l2 : List (En κ ν)} {e : En κ ν} (h : ∀ a ∈ l1, a.key ≠ e.key) (x : κ) : place (l1 ++ e :: l2) x = if x = e.key then some e.b else place (l1 ++ l2) x := by
  induction l1 with
  | nil =>
    show (if e.key = x then some e.b else place l2 x) = _
    by_cases hx : x = e.key
    · subst hx; simp
    · rw [if_neg (fun h => hx h.symm), if_neg hx]; rfl
  | cons a r ih =>
    show (if a.key = x then some a.b else place (r ++ e :: l2) x) = if x = e.key then some e.b else (if a.key = x then some a.b else place (r ++ l2) x)
    rw [ih fun y hy => h y (by simp [hy])]
    by_cases hx : x = e.key
    · subst hx
      rw [if_neg (h a (by simp)), if_pos rfl, if_pos rfl]
    · rw [if_neg hx, if_neg hx]
/-- Without one entry. -/
theorem place_cut [DecidableEq κ] {l1 l2 : List (En κ ν)} {e : En κ ν} (h : ((l1 ++ e :: l2).map (·.key)).Nodup) (x : κ) : place (l1 ++ l2) x = if x = e.key then none else place (l1 ++ e :: l2) x := by
  have hd : (∀ a ∈ l1, a.key ≠ e.key) ∧ (∀ a ∈ l1 ++ l2, a.key ≠ e.key) := by
    rw [List.map_append, List.map_cons, List.nodup_append] at h
    obtain ⟨_, h2, h3⟩ := h
    rw [List.nodup_cons] at h2
    refine ⟨fun a ha => h3 _ (List.mem_map_of_mem ha) _ (by simp), fun a ha => ?_⟩
    rcases List.mem_append.1 ha with h4 | h4
    · exact h3 _ (List.mem_map_of_mem h4) _ (by simp)
    · intro h5
      exact h2.1 (h5 ▸ List.mem_map_of_mem h4)
  by_cases hx : x = e.key
  · subst hx; rw [if_pos rfl, place_miss hd.2]
  · rw [if_neg hx, place_mid hd.1, if_neg hx]
theorem place_lead [DecidableEq κ] {l1 l2 : List (En κ ν)} {e : En κ ν} (h : ((l1 ++ e :: l2).map (·.key)).Nodup) (x : κ) : place (e :: (l1 ++ l2)) x = place (l1 ++ e :: l2) x := by
  have hd : (∀ a ∈ l1, a.key ≠ e.key) := by
    rw [List.map_append, List.map_cons, List.nodup_append] at h
    exact fun a ha => h.2.2 _ (List.mem_map_of_mem ha) _ (by simp)
  rw [place_mid hd]
  exact place_mid (l1 := []) (by simp) x
theorem place_new [DecidableEq κ] {L : List (En κ ν)} {e : En κ ν} (x : κ) : place (e :: L) x = if x = e.key then some e.b else place L x := place_mid (l1 := []) (by simp) x
theorem nodup_cut {β : Type} {f : En κ ν → β} {l1 l2 : List (En κ ν)} {e : En κ ν} (h : ((l1 ++ e :: l2).map f).Nodup) : ((l1 ++ l2).map f).Nodup :=
  h.sublist ((List.Sublist.append (List.Sublist.refl _) (List.sublist_cons_self _ _)).map f)
theorem nodup_lead {β : Type} {f : En κ ν → β} {l1 l2 : List (En κ ν)} {e : En κ ν} (h : ((l1 ++ e :: l2).map f).Nodup) : ((e :: (l1 ++ l2)).map f).Nodup := by
  have : List.Perm (l1 ++ e :: l2) (e :: (l1 ++ l2)) := List.perm_middle
  exact (this.map f).nodup_iff.1 h
theorem nodup_ne [DecidableEq κ] {β : Type} {f : En κ ν → β} {l1 l2 : List (En κ ν)} {e : En κ ν} (h : ((l1 ++ e :: l2).map f).Nodup) : ∀ a ∈ l1 ++ l2, f a ≠ f e := by
  have := nodup_lead h
  rw [List.map_cons, List.nodup_cons] at this
  intro a ha h2
  exact this.1 (h2 ▸ List.mem_map_of_mem ha)
theorem sumW_its_lead [DecidableEq κ] (l1 l2 : List (En κ ν)) (e : En κ ν) : sumW (its (l1 ++ e :: l2)) = e.wt + sumW (its (l1 ++ l2)) := by
  rw [its_append, its_append, sumW_append, sumW_append, its_cons]
  show sumW (its l1) + (e.wt + sumW (its l2)) = _
  omega
end

section
variable {κ ν : Type} [DecidableEq κ]
/-- What is said of a cache's types. -/
structure Kind (κ ν : Type) where
  P : Program
  ek : κ → ν → Value
  ev : ν → Value
  t : TypeId
  tc : TypeId
  kt : TypeId
  kl : κ → Lit
  ok : κ → ν → Prop

/-- A cache: in blocks of S, with its room, its entries, the one used last first. -/
structure CacheAt (T : Kind κ ν) (w : World) (S : Nat → Prop) (c room : Nat) (L : List (En κ ν)) (cnt : Nat) (mv : Value) : Prop where
  ring : RingAt T.ek T.ev T.t T.tc w c (.int .i64 (room : Int)) (.int .i64 (sumW (its L) : Int)) mv L
  map : MapOk T.P T.kt T.kl ptrs none w mv cnt (place L)
  keys : (L.map (·.key)).Nodup
  oks : ∀ e ∈ L, T.ok e.key e.val
  fits : sumW (its L) ≤ room
  len : L.length ≤ cnt
  mine : S c
  ents : ∀ e ∈ L, S e.b
  maps : ∀ b, mapBlock mv = some b → S b
  low : ∀ k, S k → k < w.heap.size

variable {T : Kind κ ν} {w w' : World} {S : Nat → Prop} {c room cnt : Nat} {L : List (En κ ν)} {mv : Value}
theorem CacheAt.kept (h : CacheAt T w S c room L cnt mv) {U : Nat → Prop} (hk : Kept w w' U) (hd : ∀ k, S k → ¬ U k) : CacheAt T w' S c room L cnt mv := by
  have hb : ∀ k, S k → w'.heap[k]? = w.heap[k]? := fun k hs => hk.block k (h.low k hs) (hd k hs)
  exact ⟨h.ring.same (hb c h.mine) fun e he => hb _ (h.ents e he), h.map.same fun b hm => hb b (h.maps b hm), h.keys, h.oks, h.fits, h.len, h.mine, h.ents, h.maps, fun k hs => Nat.lt_of_lt_of_le (h.low k hs) hk.size⟩

/-- A cache, as its callers see it. -/
def Cache (T : Kind κ ν) (w : World) (S : Nat → Prop) (c room : Nat) (l : List (It κ ν)) (cnt : Nat) : Prop := ∃ L mv, CacheAt T w S c room L cnt mv ∧ its L = l
theorem Cache.kept {l : List (It κ ν)} (h : Cache T w S c room l cnt) {U : Nat → Prop} (hk : Kept w w' U) (hd : ∀ k, S k → ¬ U k) : Cache T w' S c room l cnt := by
  obtain ⟨L, mv, h1, h2⟩ := h
  exact ⟨L, mv, h1.kept hk hd, h2⟩
theorem Cache.below {l : List (It κ ν)} (h : Cache T w S c room l cnt) (hb : Below w.heap.size w w') : Cache T w' S c room l cnt := h.kept (U := fun _ => False) (Kept.of_below _ hb) fun _ _ h => h
/-- What a call does to a cache: it turns blocks of its own alone. -/
def Turned (T : Kind κ ν) (w w' : World) (S : Nat → Prop) (c room : Nat) (l : List (It κ ν)) (cnt : Nat) : Prop :=
  ∃ S', Cache T w' S' c room l cnt ∧ Kept w w' S ∧ ∀ k, S' k → S k ∨ w.heap.size ≤ k
end
end Ring
end Go.Proofs.Ytpppgdfgbhglbaa
