/- The inclusion of least recently used, in plain words: what less room holds, more room holds too, in the same order. -/
import Derived.Test.YtpppgdfgbhglbaaLru
namespace Go.Proofs.Ytpppgdfgbhglbaa
open Go.RowKit Go.Proofs
namespace Lru
section
variable {κ ν : Type}
theorem one_sum {l : List (It κ ν)} (h : ∀ e ∈ l, e.wt = 1) : sumW l = l.length := by
  induction l with
  | nil => rfl
  | cons e r ih =>
    have h1 := h e (by simp)
    have h2 := ih fun x hx => h x (by simp [hx])
    simp only [sumW, h1, h2, List.length_cons]
    omega
theorem put_one [DecidableEq κ] {r : Nat} {k : κ} {v : ν} {l : List (It κ ν)} (hr : 1 ≤ r) (h : ∀ e ∈ l, e.wt = 1) (hl : l.length ≤ r) :
    putI r k v 1 l = ⟨k, v, 1⟩ :: (if (out k l).length = r then (out k l).dropLast else out k l) := by
  have ho : ∀ e ∈ out k l, e.wt = 1 := fun e he => h e (List.mem_filter.1 he).1
  have hs := one_sum ho
  have hle : (out k l).length ≤ r := Nat.le_trans (List.length_filter_le _ _) hl
  unfold putI put
  rw [if_pos ⟨by omega, by omega⟩]
  congr 1
  show trim r 1 _ _ = _
  split
  · rename_i he
    rw [trim_step hr (by omega)]
    apply trim_done
    have hd := one_sum (l := (out k l).dropLast) fun e he => ho e (List.dropLast_subset _ he)
    rw [hd, List.length_dropLast]
    omega
  · exact trim_done (by omega)
theorem putI_keys [DecidableEq κ] {room : Nat} {k : κ} {v : ν} {w : Int} {l : List (It κ ν)} (h : (l.map (·.key)).Nodup) : ((putI room k v w l).map (·.key)).Nodup := by
  unfold putI
  split
  · exact put_keys h
  · exact out_keys h
/-- What is so all the time. -/
structure Incl (r s : Nat) (l m : List (It κ ν)) : Prop where
  sub : l.Sublist m
  ones : ∀ e ∈ m, e.wt = 1
  keys : (m.map (·.key)).Nodup
  less : l.length ≤ r
  more : m.length ≤ s
  near : m.length ≤ l.length + (s - r)
  room : r ≤ s
theorem Incl.nil {r s : Nat} (h : r ≤ s) : Incl r s ([] : List (It κ ν)) [] := ⟨List.Sublist.refl _, by simp, by simp, by simp, by simp, by simp, h⟩
variable {r s : Nat} {l m : List (It κ ν)}
theorem Incl.ones' (h : Incl r s l m) : ∀ e ∈ l, e.wt = 1 := fun e he => h.ones e (h.sub.subset he)
theorem Incl.keys' (h : Incl r s l m) : (l.map (·.key)).Nodup := h.keys.sublist (h.sub.map _)
theorem out_sub [DecidableEq κ] (k : κ) {l m : List (It κ ν)} (h : l.Sublist m) : (out k l).Sublist (out k m) := h.filter _
/-- A list without a key is shorter by one, if the key is there. -/
theorem out_len [DecidableEq κ] {k : κ} {l : List (It κ ν)} (h : (l.map (·.key)).Nodup) : (out k l).length = l.length - (if (seek k l).isSome then 1 else 0) := by
  cases hs : seek k l with
  | none => rw [out_none (seek_none hs)]; rfl
  | some e =>
    obtain ⟨rfl, he⟩ := seek_some hs
    obtain ⟨l1, l2, rfl⟩ := List.append_of_mem he
    rw [out_mid h]
    simp
theorem seek_up [DecidableEq κ] {k : κ} {e : It κ ν} (h : Incl r s l m) (hs : seek k l = some e) : seek k m = some e := by
  obtain ⟨rfl, he⟩ := seek_some hs
  have hm := h.sub.subset he
  obtain ⟨m1, m2, rfl⟩ := List.append_of_mem hm
  unfold seek
  rw [List.find?_append]
  have h1 : m1.find? (fun x => decide (x.key = e.key)) = none := by
    refine List.find?_eq_none.2 fun x hx hk => ?_
    have hk' : x.key = e.key := by simpa using hk
    have := h.keys
    rw [List.map_append, List.nodup_append] at this
    exact this.2.2 _ (List.mem_map_of_mem hx) _ (by simp) hk'
  rw [h1]
  simp
theorem Incl.drop [DecidableEq κ] (h : Incl r s l m) (k : κ) : Incl r s (out k l) (out k m) := by
  have hl := List.length_filter_le (fun e => decide (e.key ≠ k)) l
  have hm := List.length_filter_le (fun e => decide (e.key ≠ k)) m
  refine ⟨out_sub k h.sub, fun e he => h.ones e (List.mem_filter.1 he).1, out_keys h.keys, Nat.le_trans hl h.less, Nat.le_trans hm h.more, ?_, h.room⟩
  rw [out_len h.keys, out_len h.keys']
  have := h.near
  cases hs : seek k l with
  | none => simp; omega
  | some e =>
    rw [seek_up h hs]
    obtain ⟨_, he⟩ := seek_some hs
    have := List.length_pos_of_mem he
    simp; omega
theorem sub_last {a b : List (It κ ν)} (h : a.Sublist b) : a.dropLast.Sublist b.dropLast := by
  have := (List.reverse_sublist.2 h).drop 1
  have h2 := List.reverse_sublist.2 this
  simpa [List.dropLast_eq_take, List.reverse_drop, List.length_reverse, List.reverse_reverse] using h2
theorem Incl.put [DecidableEq κ] (h : Incl r s l m) (k : κ) (v : ν) : Incl r s (putI r k v 1 l) (putI s k v 1 m) := by
  have hd := h.drop k
  have hmk := putI_keys h.keys (room := s) (k := k) (v := v) (w := 1)
  rcases Nat.eq_zero_or_pos r with h0 | h0
  · subst h0
    have hl : l = [] := List.eq_nil_of_length_eq_zero (by have := h.less; omega)
    subst hl
    have e1 : putI 0 k v 1 ([] : List (It κ ν)) = [] := by unfold putI; rw [if_neg (by omega)]; rfl
    rw [e1]
    rcases Nat.eq_zero_or_pos s with h1 | h1
    · subst h1
      have hm : m = [] := List.eq_nil_of_length_eq_zero (by have := h.more; omega)
      subst hm
      rw [e1]
      exact h
    · rw [put_one h1 h.ones h.more] at hmk ⊢
      have hml := hd.more
      refine ⟨List.nil_sublist _, ?_, hmk, by simp, ?_, ?_, by omega⟩
      · intro e he
        rcases List.mem_cons.1 he with h2 | h2
        · rw [h2]
        · refine hd.ones e ?_
          split at h2
          · exact List.dropLast_subset _ h2
          · exact h2
      · split <;> simp <;> omega
      · split <;> simp <;> omega
  · have h1 : 1 ≤ s := by have := h.room; omega
    rw [put_one h1 h.ones h.more] at hmk ⊢
    rw [put_one h0 h.ones' h.less]
    have hml := hd.more
    have hll := hd.less
    have hne := hd.near
    have hro := h.room
    refine ⟨List.cons_sublist_cons.2 ?_, ?_, hmk, ?_, ?_, ?_, hro⟩
    · split
      · split
        · exact sub_last hd.sub
        · exact (List.dropLast_sublist _).trans hd.sub
      · split
        · omega
        · exact hd.sub
    · intro e he
      rcases List.mem_cons.1 he with h2 | h2
      · rw [h2]
      · refine hd.ones e ?_
        split at h2
        · exact List.dropLast_subset _ h2
        · exact h2
    · split <;> simp <;> omega
    · split <;> simp <;> omega
    · split <;> split <;> simp <;> omega
theorem Incl.get [DecidableEq κ] (h : Incl r s l m) (k : κ) : Incl r s (Lru.get k l) (Lru.get k m) := by
  unfold Lru.get
  have hml : ∀ (e : It κ ν) (x : List (It κ ν)), (x.map (·.key)).Nodup → seek k x = some e → (e :: out k x).length = x.length := by
    intro e x hx hs
    have := out_len (k := k) hx
    rw [hs] at this
    have := List.length_pos_of_mem (seek_some hs).2
    simp at *
    omega
  have hmk : ∀ (e : It κ ν), seek k m = some e → ((e :: out k m).map (·.key)).Nodup := by
    intro e hs
    rw [List.map_cons, List.nodup_cons]
    refine ⟨fun hm => ?_, out_keys h.keys⟩
    obtain ⟨a, ha, hk⟩ := List.mem_map.1 hm
    exact out_ne a ha (hk.trans (seek_some hs).1)
  have hone : ∀ (e : It κ ν), seek k m = some e → ∀ a ∈ e :: out k m, a.wt = 1 := by
    intro e hs a ha
    rcases List.mem_cons.1 ha with h2 | h2
    · rw [h2]; exact h.ones e (seek_some hs).2
    · exact h.ones a (List.mem_filter.1 h2).1
  cases hs : seek k l with
  | none =>
    cases hs2 : seek k m with
    | none => exact h
    | some e =>
      have := hml e m h.keys hs2
      refine ⟨?_, hone e hs2, hmk e hs2, h.less, by rw [this]; exact h.more, by rw [this]; exact h.near, h.room⟩
      have h3 := out_sub k h.sub
      rw [out_none (seek_none hs)] at h3
      exact h3.trans (List.sublist_cons_self _ _)
  | some e =>
    have hs2 := seek_up h hs
    rw [hs2]
    have h1 := hml e m h.keys hs2
    have h2 := hml e l h.keys' hs
    simp only
    refine ⟨List.cons_sublist_cons.2 (out_sub k h.sub), hone e hs2, hmk e hs2, by rw [h2]; exact h.less, by rw [h1]; exact h.more, by rw [h1, h2]; exact h.near, h.room⟩
end
end Lru
end Go.Proofs.Ytpppgdfgbhglbaa
