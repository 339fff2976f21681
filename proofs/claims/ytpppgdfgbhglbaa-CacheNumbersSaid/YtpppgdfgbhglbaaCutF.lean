/- The walks of a cache's 'cut' and 'lead'. -/
import Derived.Test.YtpppgdfgbhglbaaRingCut
import Derived.Test.YtpppgdfgbhglbaaFmap
import Derived.Test.YtpppgdfgbhglbaaProg
namespace Go.Proofs.Ytpppgdfgbhglbaa.CaF
open Go.RowKit Go.Proofs Go.Proofs.Ytpppgdfgbhglbaa.Fl Go.Proofs.Ytpppgdfgbhglbaa.Ring Go.Proofs.Ytpppgdfgbhglbaa.Lru

abbrev Bs := List UInt8
/-- A number as it was put, and its text. -/
abbrev Fv := Nat × Bs
abbrev tE : TypeId := 94
abbrev tC : TypeId := 84
theorem tne : tE ≠ tC := by decide
abbrev Rg (w : World) (c : Nat) (r0 r1 r2 : Value) (L : List (En Nat Fv)) : Prop := RingAt (fun (_ : Nat) (v : Fv) => Value.float .f64 v.1) (fun (v : Fv) => encStr v.2) tE tC w c r0 r1 r2 L
abbrev Ea (w : World) (e : En Nat Fv) (n o : Option Nat) : Prop := EnAt (fun (_ : Nat) (v : Fv) => Value.float .f64 v.1) (fun (v : Fv) => encStr v.2) tE w e n o

set_option maxRecDepth 100000 in
set_option maxHeartbeats 1000000 in
theorem cut_walk {c b : Nat} {x y : Option Nat} {w : World} {u v : Value} (hb3 : w.cell? ⟨b, 3, none⟩ = some (ptr x)) (hb4 : w.cell? ⟨b, 4, none⟩ = some (ptr y)) (hfb : ∀ i, w.frozen? ⟨b, i, none⟩ = false)
    (hc3 : w.cell? ⟨c, 3, none⟩ = some u) (hc4 : w.cell? ⟨c, 4, none⟩ = some v) (hfc : ∀ i, w.frozen? ⟨c, i, none⟩ = false) (hbc : b ≠ c)
    (hx : ∀ a, x = some a → (∃ u, w.cell? ⟨a, 4, none⟩ = some u) ∧ (∀ i, w.frozen? ⟨a, i, none⟩ = false) ∧ a ≠ b ∧ a ≠ c) (hy : ∀ a, y = some a → (∃ u, w.cell? ⟨a, 3, none⟩ = some u) ∧ (∀ i, w.frozen? ⟨a, i, none⟩ = false) ∧ a ≠ b ∧ a ≠ c) :
    Calls Try.prog 45 #[.pointer (some ⟨c, 0, none⟩), .pointer (some ⟨b, 0, none⟩)] w fun e w' => e = .returned (.tuple #[]) ∧ ∃ n, w' = (cutW w c b x y).drewN n := by
  have fb3 := hfb 3
  have fb4 := hfb 4
  have fc3 := hfc 3
  have fc4 := hfc 4
  clear hfb hfc
  cases x with
  | none =>
    cases y with
    | none =>
      simp only [ptr] at hb3 hb4
      go_enter Try.func45, Try.ntmps45
      go_wp2
      go_end0
      exact ⟨rfl, 0, rfl⟩
    | some d =>
      obtain ⟨⟨u2, hd3⟩, fd, hdb, hdc⟩ := hy d rfl
      have fd3 := fd 3
      simp only [ptr] at hb3 hb4
      clear hx hy fd
      go_enter Try.func45, Try.ntmps45
      go_wp2
      go_region
      go_wp2
      go_end0
      exact ⟨rfl, 1, rfl⟩
  | some a =>
    obtain ⟨⟨u1, ha4⟩, fa, hab, hac⟩ := hx a rfl
    have fa4 := fa 4
    clear hx fa
    cases y with
    | none =>
      simp only [ptr] at hb3 hb4
      clear hy
      go_enter Try.func45, Try.ntmps45
      go_wp2
      go_region
      go_wp2
      go_end0
      exact ⟨rfl, 1, rfl⟩
    | some d =>
      obtain ⟨⟨u2, hd3⟩, fd, hdb, hdc⟩ := hy d rfl
      have fd3 := fd 3
      simp only [ptr] at hb3 hb4
      clear hy fd
      go_enter Try.func45, Try.ntmps45
      go_wp2
      go_region
      go_wp2
      go_region
      go_wp2
      go_end0
      exact ⟨rfl, 2, rfl⟩

set_option maxRecDepth 100000 in
set_option maxHeartbeats 1000000 in
theorem lead_walk {c b : Nat} {x : Option Nat} {w : World} {u v : Value} (hb4 : w.cell? ⟨b, 4, none⟩ = some u) (hfb : ∀ i, w.frozen? ⟨b, i, none⟩ = false)
    (hc3 : w.cell? ⟨c, 3, none⟩ = some (ptr x)) (hc4 : w.cell? ⟨c, 4, none⟩ = some v) (hfc : ∀ i, w.frozen? ⟨c, i, none⟩ = false) (hbc : b ≠ c)
    (hx : ∀ a, x = some a → (∃ u, w.cell? ⟨a, 3, none⟩ = some u) ∧ (∀ i, w.frozen? ⟨a, i, none⟩ = false) ∧ a ≠ b ∧ a ≠ c) :
    Calls Try.prog 44 #[.pointer (some ⟨c, 0, none⟩), .pointer (some ⟨b, 0, none⟩)] w fun e w' => e = .returned (.tuple #[]) ∧ ∃ n, w' = (leadW w c b x).drewN n := by
  have fb4 := hfb 4
  have fc3 := hfc 3
  have fc4 := hfc 4
  clear hfb hfc
  cases x with
  | none =>
    simp only [ptr] at hc3
    clear hx
    go_enter Try.func44, Try.ntmps44
    go_wp2
    go_end0
    exact ⟨rfl, 0, rfl⟩
  | some a =>
    obtain ⟨⟨u1, ha3⟩, fa, hab, hac⟩ := hx a rfl
    have fa3 := fa 3
    simp only [ptr] at hc3
    clear hx fa
    go_enter Try.func44, Try.ntmps44
    go_wp2
    go_end0
    exact ⟨rfl, 0, rfl⟩

theorem cut_any {c : Nat} {r0 r1 r2 : Value} {l1 l2 : List (En Nat Fv)} {e : En Nat Fv} {w : World} (h : Rg w c r0 r1 r2 (l1 ++ e :: l2)) :
    Calls Try.prog 45 #[.pointer (some ⟨c, 0, none⟩), .pointer (some ⟨e.b, 0, none⟩)] w fun x w' => x = .returned (.tuple #[]) ∧ Rg w' c r0 r1 r2 (l1 ++ l2) ∧ Ea w' e none none ∧
      Kept w w' (fun k => k = c ∨ ∃ a ∈ l1 ++ e :: l2, k = a.b) ∧ w'.heap.size = w.heap.size := by
  have hs := h.seg
  rw [seg_append] at hs
  obtain ⟨s1, se, s2⟩ := hs
  have hap : ∀ z ∈ l1 ++ e :: l2, z.b ≠ c := fun z hz => h.apart tne hz
  have hn := h.nodup
  have hne := nodup_ne hn
  refine (cut_walk (b := e.b) (se.cell 3) (se.cell 4) (fun i => se.frozen i) (h.head.cell 3) (h.head.cell 4) (fun i => h.head.frozen i) (hap e (by simp)) ?_ ?_).mono ?_
  · intro a ha
    rcases snoc_cases l1 with rfl | ⟨r, a', rfl⟩
    · cases ha
    · rw [lst_snoc] at ha
      injection ha with ha
      subst ha
      rw [seg_append] at s1
      have ea := s1.2.1
      exact ⟨⟨_, ea.cell 4⟩, fun i => ea.frozen i, hne a' (by simp), hap a' (by simp)⟩
  · intro a ha
    cases l2 with
    | nil => cases ha
    | cons a' r =>
      have ha : some a'.b = some a := ha
      injection ha with ha
      subst ha
      have ea := s2.1
      exact ⟨⟨_, ea.cell 3⟩, fun i => ea.frozen i, hne a' (by simp), hap a' (by simp)⟩
  · rintro x w' ⟨rfl, n, rfl⟩
    obtain ⟨p1, p2, p3⟩ := ring_cut tne h
    exact ⟨rfl, p1.same rfl (fun _ _ => rfl), p2, ⟨p3.os, p3.tape, p3.output, p3.size, p3.block⟩, size_cutW _ _ _ _ _⟩

theorem lead_any {c : Nat} {r0 r1 r2 : Value} {L : List (En Nat Fv)} {e : En Nat Fv} {w : World} (h : Rg w c r0 r1 r2 L) {o : Option Nat} (he : Ea w e none o) (hn : ∀ z ∈ L, z.b ≠ e.b) :
    Calls Try.prog 44 #[.pointer (some ⟨c, 0, none⟩), .pointer (some ⟨e.b, 0, none⟩)] w fun x w' => x = .returned (.tuple #[]) ∧ Rg w' c r0 r1 r2 (e :: L) ∧
      Kept w w' (fun k => k = c ∨ k = e.b ∨ ∃ a ∈ L, k = a.b) ∧ w'.heap.size = w.heap.size := by
  refine (lead_walk (b := e.b) (he.cell 4) (fun i => he.frozen i) (h.head.cell 3) (h.head.cell 4) (fun i => h.head.frozen i) (apart_of tne he h.head) ?_).mono ?_
  · intro a ha
    cases L with
    | nil => cases ha
    | cons a' r =>
      have ha : some a'.b = some a := ha
      injection ha with ha
      subst ha
      have ea := h.seg.1
      exact ⟨⟨_, ea.cell 3⟩, fun i => ea.frozen i, hn a' (by simp), h.apart tne (by simp)⟩
  · rintro x w' ⟨rfl, n, rfl⟩
    obtain ⟨p1, p3⟩ := ring_lead tne h he hn
    exact ⟨rfl, p1.same rfl (fun _ _ => rfl), ⟨p3.os, p3.tape, p3.output, p3.size, p3.block⟩, size_leadW _ _ _ _⟩
end Go.Proofs.Ytpppgdfgbhglbaa.CaF
