/- An entry taken out of the order, and one put ahead of it: what the stores do. Over any program. -/
import Derived.Test.YtpppgdfgbhglbaaLru
namespace Go.Proofs.Ytpppgdfgbhglbaa.Ring
open Go.RowKit Go.Proofs
open Go.Proofs.Ytpppgdfgbhglbaa.Lru
set_option linter.unusedSectionVars false
section
variable {κ ν : Type} [DecidableEq κ] {ek : κ → ν → Value} {ev : ν → Value} {t tc : TypeId} {w w' : World} {c : Nat} {r0 r1 r2 : Value}

def cut1 (w : World) (c : Nat) (x y : Option Nat) : World :=
  match x with
  | none => w.setCell ⟨c, 3, none⟩ (ptr y)
  | some a => w.setCell ⟨a, 4, none⟩ (ptr y)
def cut2 (w : World) (c : Nat) (x y : Option Nat) : World :=
  match y with
  | none => w.setCell ⟨c, 4, none⟩ (ptr x)
  | some b => w.setCell ⟨b, 3, none⟩ (ptr x)
def cutW (w : World) (c b : Nat) (x y : Option Nat) : World := ((cut2 (cut1 w c x y) c x y).setCell ⟨b, 3, none⟩ (ptr none)).setCell ⟨b, 4, none⟩ (ptr none)
def lead1 (w : World) (c b : Nat) (x : Option Nat) : World :=
  match x with
  | none => w.setCell ⟨c, 4, none⟩ (ptr (some b))
  | some a => w.setCell ⟨a, 3, none⟩ (ptr (some b))
def leadW (w : World) (c b : Nat) (x : Option Nat) : World := (lead1 (w.setCell ⟨b, 4, none⟩ (ptr x)) c b x).setCell ⟨c, 3, none⟩ (ptr (some b))

theorem size_set (w : World) (p : Addr) (v : Value) : (w.setCell p v).heap.size = w.heap.size := by simp [World.setCell]
theorem size_cut1 (w : World) (c : Nat) (x y : Option Nat) : (cut1 w c x y).heap.size = w.heap.size := by cases x <;> exact size_set _ _ _
theorem size_cut2 (w : World) (c : Nat) (x y : Option Nat) : (cut2 w c x y).heap.size = w.heap.size := by cases y <;> exact size_set _ _ _
theorem size_cutW (w : World) (c b : Nat) (x y : Option Nat) : (cutW w c b x y).heap.size = w.heap.size := by
  unfold cutW; rw [size_set, size_set, size_cut2, size_cut1]
theorem size_leadW (w : World) (c b : Nat) (x : Option Nat) : (leadW w c b x).heap.size = w.heap.size := by
  unfold leadW lead1; rw [size_set]; cases x <;> simp only [size_set]

theorem hd_eq (l : List (En κ ν)) : hd l none = (l.head?).map (·.b) := by cases l <;> rfl

theorem seg_last {l : List (En κ ν)} {a : En κ ν} {p n : Option Nat} (h : Seg ek ev t w p (l ++ [a]) n) (hd : ∀ z ∈ l, z.b ≠ a.b) (n' : Option Nat) : Seg ek ev t (w.setCell ⟨a.b, 4, none⟩ (ptr n')) p (l ++ [a]) n' := by
  rw [seg_append] at h ⊢
  exact ⟨seg_off h.1 hd 4 _, h.2.1.set4 n', trivial⟩
theorem seg_first {l : List (En κ ν)} {b : En κ ν} {p n : Option Nat} (h : Seg ek ev t w p (b :: l) n) (hd : ∀ z ∈ l, z.b ≠ b.b) (p' : Option Nat) : Seg ek ev t (w.setCell ⟨b.b, 3, none⟩ (ptr p')) p' (b :: l) n :=
  ⟨h.1.set3 p', seg_off h.2 hd 3 _⟩

theorem snoc_cases (l : List (En κ ν)) : l = [] ∨ ∃ r a, l = r ++ [a] := by
  rcases List.eq_nil_or_concat l with h | ⟨r, a, h⟩
  · exact .inl h
  · exact .inr ⟨r, a, by simpa using h⟩

set_option maxHeartbeats 2000000 in
theorem ring_cut (ht : t ≠ tc) {l1 l2 : List (En κ ν)} {e : En κ ν} (h : RingAt ek ev t tc w c r0 r1 r2 (l1 ++ e :: l2)) :
    RingAt ek ev t tc (cutW w c e.b (lst none l1) (hd l2 none)) c r0 r1 r2 (l1 ++ l2) ∧ EnAt ek ev t (cutW w c e.b (lst none l1) (hd l2 none)) e none none ∧
    Kept w (cutW w c e.b (lst none l1) (hd l2 none)) (fun k => k = c ∨ ∃ a ∈ l1 ++ e :: l2, k = a.b) := by
  unfold cutW
  obtain ⟨hh, hs, hn⟩ := h
  have hap : ∀ z ∈ l1 ++ e :: l2, z.b ≠ c := fun z hz => by
    obtain ⟨x, y, h1⟩ := seg_mem hs hz
    exact apart_of ht h1 hh
  have hne := nodup_ne hn
  have hec : e.b ≠ c := hap e (by simp)
  rw [seg_append] at hs
  obtain ⟨s1, se, s2⟩ := hs
  -- the first store
  have A : HdAt tc (cut1 w c (lst none l1) (hd l2 none)) c r0 r1 r2 (hd (l1 ++ l2) none) (lst none (l1 ++ e :: l2)) ∧ Seg ek ev t (cut1 w c (lst none l1) (hd l2 none)) none l1 (hd l2 none) ∧
      EnAt ek ev t (cut1 w c (lst none l1) (hd l2 none)) e (lst none l1) (hd l2 none) ∧ Seg ek ev t (cut1 w c (lst none l1) (hd l2 none)) (some e.b) l2 none ∧ Kept w (cut1 w c (lst none l1) (hd l2 none)) (fun k => k = c ∨ ∃ a ∈ l1 ++ e :: l2, k = a.b) := by
    rcases snoc_cases l1 with rfl | ⟨r, a, rfl⟩
    · exact ⟨hh.set3 _, trivial, se.off hec 3 _, seg_off s2 (fun z hz => hap z (by simp [hz])) 3 _, (Kept.refl _ _).set (.inl rfl) _⟩
    · have hna : ∀ z ∈ r ++ (e :: l2), z.b ≠ a.b := nodup_ne (f := En.b) (by simpa using hn)
      rw [lst_snoc]
      refine ⟨?_, seg_last s1 (fun z hz => hna z (by simp [hz])) _, ?_, seg_off s2 (fun z hz => hna z (by simp [hz])) 4 _, (Kept.refl _ _).set (.inr ⟨a, by simp, rfl⟩) _⟩
      · have e1 : hd (r ++ [a] ++ l2) none = hd (r ++ [a] ++ e :: l2) none := by rw [hd_append, hd_append, hd_append, hd_append]; rfl
        rw [e1]
        exact hh.off (fun e2 => hap a (by simp) e2.symm) 4 _
      · have := se
        rw [lst_snoc] at this
        exact this.off (hna e (by simp)) 4 _
  obtain ⟨a1, a2, a3, a4, a5⟩ := A
  generalize cut1 w c (lst none l1) (hd l2 none) = w1 at *
  have B : HdAt tc (cut2 w1 c (lst none l1) (hd l2 none)) c r0 r1 r2 (hd (l1 ++ l2) none) (lst none (l1 ++ l2)) ∧ Seg ek ev t (cut2 w1 c (lst none l1) (hd l2 none)) none l1 (hd l2 none) ∧
      EnAt ek ev t (cut2 w1 c (lst none l1) (hd l2 none)) e (lst none l1) (hd l2 none) ∧ Seg ek ev t (cut2 w1 c (lst none l1) (hd l2 none)) (lst none l1) l2 none ∧ Kept w (cut2 w1 c (lst none l1) (hd l2 none)) (fun k => k = c ∨ ∃ a ∈ l1 ++ e :: l2, k = a.b) := by
    cases l2 with
    | nil =>
      refine ⟨?_, seg_off a2 (fun z hz => hap z (by simp [hz])) 4 _, a3.off hec 4 _, trivial, a5.set (.inl rfl) _⟩
      rw [List.append_nil]
      rw [List.append_nil] at a1
      exact a1.set4 _
    | cons b r =>
      have hnb : ∀ z ∈ (l1 ++ [e]) ++ r, z.b ≠ b.b := nodup_ne (f := En.b) (by simpa using hn)
      refine ⟨?_, seg_off a2 (fun z hz => hnb z (by simp [hz])) 3 _, a3.off (hnb e (by simp)) 3 _, seg_first a4 (fun z hz => hnb z (by simp [hz])) _, a5.set (.inr ⟨b, by simp, rfl⟩) _⟩
      have e1 : lst none (l1 ++ b :: r) = lst none (l1 ++ e :: b :: r) := by rw [lst_append, lst_append]; rfl
      rw [e1]
      exact a1.off (fun e2 => hap b (by simp) e2.symm) 3 _
  obtain ⟨b1, b2, b3, b4, b5⟩ := B
  generalize cut2 w1 c (lst none l1) (hd l2 none) = w2 at *
  refine ⟨⟨(b1.off hec.symm 3 _).off hec.symm 4 _, ?_, nodup_cut hn⟩, (b3.set3 none).set4 none, (b5.set (.inr ⟨e, by simp, rfl⟩) _).set (.inr ⟨e, by simp, rfl⟩) _⟩
  rw [seg_append]
  exact ⟨seg_off (seg_off b2 (fun z hz => hne z (by simp [hz])) 3 _) (fun z hz => hne z (by simp [hz])) 4 _, seg_off (seg_off b4 (fun z hz => hne z (by simp [hz])) 3 _) (fun z hz => hne z (by simp [hz])) 4 _⟩

set_option maxHeartbeats 2000000 in
theorem ring_lead (ht : t ≠ tc) {L : List (En κ ν)} {e : En κ ν} (h : RingAt ek ev t tc w c r0 r1 r2 L) {o : Option Nat} (he : EnAt ek ev t w e none o) (hn : ∀ z ∈ L, z.b ≠ e.b) :
    RingAt ek ev t tc (leadW w c e.b (hd L none)) c r0 r1 r2 (e :: L) ∧ Kept w (leadW w c e.b (hd L none)) (fun k => k = c ∨ k = e.b ∨ ∃ a ∈ L, k = a.b) := by
  obtain ⟨hh, hs, hnd⟩ := h
  have hap : ∀ z ∈ L, z.b ≠ c := fun z hz => by
    obtain ⟨x, y, h1⟩ := seg_mem hs hz
    exact apart_of ht h1 hh
  have hec : e.b ≠ c := apart_of ht he hh
  have a1 := hh.off hec.symm 4 (ptr (hd L none))
  have a2 := seg_off hs hn 4 (ptr (hd L none))
  have a3 := he.set4 (hd L none)
  have a4 : Kept w (w.setCell ⟨e.b, 4, none⟩ (ptr (hd L none))) (fun k => k = c ∨ k = e.b ∨ ∃ a ∈ L, k = a.b) := (Kept.refl _ _).set (.inr (.inl rfl)) _
  unfold leadW
  generalize w.setCell ⟨e.b, 4, none⟩ (ptr (hd L none)) = w1 at *
  have B : HdAt tc (lead1 w1 c e.b (hd L none)) c r0 r1 r2 (hd L none) (lst none (e :: L)) ∧ Seg ek ev t (lead1 w1 c e.b (hd L none)) (some e.b) L none ∧ EnAt ek ev t (lead1 w1 c e.b (hd L none)) e none (hd L none) ∧ Kept w (lead1 w1 c e.b (hd L none)) (fun k => k = c ∨ k = e.b ∨ ∃ a ∈ L, k = a.b) := by
    cases L with
    | nil => exact ⟨a1.set4 _, trivial, a3.off hec 4 _, a4.set (.inl rfl) _⟩
    | cons b r =>
      have hnb : ∀ z ∈ [] ++ r, z.b ≠ b.b := nodup_ne (f := En.b) (l1 := []) hnd
      exact ⟨a1.off (fun e2 => hap b (by simp) e2.symm) 3 _, seg_first a2 (fun z hz => hnb z (by simpa using hz)) _, a3.off (fun e2 => hn b (by simp) e2.symm) 3 _, a4.set (.inr (.inr ⟨b, by simp, rfl⟩)) _⟩
  obtain ⟨b1, b2, b3, b4⟩ := B
  generalize lead1 w1 c e.b (hd L none) = w2 at *
  refine ⟨⟨b1.set3 (some e.b), ⟨b3.off hec 3 _, seg_off b2 hap 3 _⟩, ?_⟩, b4.set (.inl rfl) _⟩
  rw [List.map_cons, List.nodup_cons]
  refine ⟨fun hm => ?_, hnd⟩
  obtain ⟨z, hz, h1⟩ := List.mem_map.1 hm
  exact hn z hz h1
end
end Go.Proofs.Ytpppgdfgbhglbaa.Ring
