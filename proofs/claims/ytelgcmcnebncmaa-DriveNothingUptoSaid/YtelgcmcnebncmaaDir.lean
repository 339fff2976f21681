/- Directories as rising lists, bodies, drives: the plain side of layer 11. No program. -/
import GoSem.ClaimWide
namespace Go.Proofs.Ytelgcmcnebncmaa.Dr
open Go

abbrev Bs := List UInt8
/-- Names that lead to numbers, rising. -/
abbrev Dir := List (Bs × Nat)

section
variable {α : Type}
def ins (x : Bs × α) : List (Bs × α) → List (Bs × α)
  | [] => [x]
  | y :: r => if bytesBefore x.1 y.1 then x :: y :: r else y :: ins x r
def del (l : List (Bs × α)) (k : Bs) : List (Bs × α) := l.filter fun p => decide (p.1 ≠ k)
def put (l : List (Bs × α)) (k : Bs) (to : Option α) : List (Bs × α) :=
  match to with
  | none => del l k
  | some b => ins (k, b) (del l k)
def find (l : List (Bs × α)) (k : Bs) : Option α := (l.find? fun p => decide (p.1 = k)).map (·.2)
def apply (l : List (Bs × α)) (c : List (Bs × Option α)) : List (Bs × α) := c.foldl (fun l s => put l s.1 s.2) l
/-- The list rises, no name twice. -/
def Rise (l : List (Bs × α)) : Prop := l.Pairwise fun p q => bytesBefore p.1 q.1 = true

theorem before_irrefl (a : Bs) : bytesBefore a a = false := by
  induction a with
  | nil => rfl
  | cons x r ih => simp [bytesBefore, ih]
theorem before_trans : ∀ {a b c : Bs}, bytesBefore a b = true → bytesBefore b c = true → bytesBefore a c = true
  | [], [], _, h, _ => by simp [bytesBefore] at h
  | [], _ :: _, [], _, h => by simp [bytesBefore] at h
  | [], _ :: _, _ :: _, _, _ => rfl
  | _ :: _, [], _, h, _ => by simp [bytesBefore] at h
  | _ :: _, _ :: _, [], _, h => by simp [bytesBefore] at h
  | x :: a, y :: b, z :: c, h1, h2 => by
    simp only [bytesBefore, Bool.or_eq_true, Bool.and_eq_true, beq_iff_eq, decide_eq_true_eq] at h1 h2 ⊢
    rcases h1 with h1 | ⟨rfl, h1⟩
    · rcases h2 with h2 | ⟨rfl, _⟩
      · exact .inl (UInt8.lt_trans h1 h2)
      · exact .inl h1
    · rcases h2 with h2 | ⟨rfl, h2⟩
      · exact .inl h2
      · exact .inr ⟨rfl, before_trans h1 h2⟩
theorem before_total : ∀ {a b : Bs}, bytesBefore a b = false → a ≠ b → bytesBefore b a = true
  | [], [], _, h => absurd rfl h
  | [], _ :: _, h, _ => by simp [bytesBefore] at h
  | _ :: _, [], _, _ => rfl
  | x :: a, y :: b, h, hne => by
    simp only [bytesBefore, Bool.or_eq_false_iff, Bool.and_eq_false_iff, beq_eq_false_iff_ne, decide_eq_false_iff_not] at h
    simp only [bytesBefore, Bool.or_eq_true, Bool.and_eq_true, beq_iff_eq, decide_eq_true_eq]
    by_cases hxy : x = y
    · subst hxy
      refine .inr ⟨rfl, before_total ?_ (fun e => hne (by rw [e]))⟩
      rcases h.2 with h2 | h2
      · exact absurd rfl h2
      · exact h2
    · refine .inl ?_
      have h1 : ¬ x.toNat < y.toNat := h.1
      have h2 : x.toNat ≠ y.toNat := fun e => hxy (UInt8.toNat_inj.1 e)
      show y.toNat < x.toNat
      omega
theorem before_ne {a b : Bs} (h : bytesBefore a b = true) : a ≠ b := fun e => by rw [e, before_irrefl] at h; cases h
theorem before_asymm {a b : Bs} (h : bytesBefore a b = true) : bytesBefore b a = false := by
  cases h2 : bytesBefore b a
  · rfl
  · have := before_trans h h2; rw [before_irrefl] at this; cases this

theorem mem_ins {x y : Bs × α} {l : List (Bs × α)} : y ∈ ins x l ↔ y = x ∨ y ∈ l := by
  induction l with
  | nil => simp [ins]
  | cons z r ih =>
    unfold ins
    split
    · simp
    · simp [ih]; grind
theorem mem_del {y : Bs × α} {l : List (Bs × α)} {k : Bs} : y ∈ del l k ↔ y ∈ l ∧ y.1 ≠ k := by simp [del]
theorem mem_put {y : Bs × α} {l : List (Bs × α)} {k : Bs} {to : Option α} : y ∈ put l k to ↔ (y ∈ l ∧ y.1 ≠ k) ∨ (y.1 = k ∧ to = some y.2) := by
  cases to with
  | none => simp [put, mem_del]
  | some b =>
    simp only [put, mem_ins, mem_del, Option.some.injEq]
    constructor
    · rintro (rfl | h)
      · exact .inr ⟨rfl, rfl⟩
      · exact .inl h
    · rintro (h | ⟨h1, h2⟩)
      · exact .inr h
      · exact .inl (Prod.ext h1 h2.symm)
theorem rise_ins {x : Bs × α} {l : List (Bs × α)} (h : Rise l) (hx : ∀ y ∈ l, y.1 ≠ x.1) : Rise (ins x l) := by
  induction l with
  | nil => simp [ins, Rise]
  | cons z r ih =>
    obtain ⟨h1, h2⟩ := List.pairwise_cons.1 h
    unfold ins
    split
    · rename_i hb
      refine List.pairwise_cons.2 ⟨fun y hy => ?_, h⟩
      rcases List.mem_cons.1 hy with rfl | hy
      · exact hb
      · exact before_trans hb (h1 y hy)
    · rename_i hb
      refine List.pairwise_cons.2 ⟨fun y hy => ?_, ih h2 fun y hy => hx y (by simp [hy])⟩
      rcases mem_ins.1 hy with rfl | hy
      · exact before_total (by simpa using hb) (fun e => hx z (by simp) e.symm)
      · exact h1 y hy
theorem rise_del {l : List (Bs × α)} (h : Rise l) (k : Bs) : Rise (del l k) := h.filter _
theorem rise_put {l : List (Bs × α)} (h : Rise l) (k : Bs) (to : Option α) : Rise (put l k to) := by
  cases to with
  | none => exact rise_del h k
  | some b => exact rise_ins (rise_del h k) fun y hy => (mem_del.1 hy).2
theorem rise_apply {l : List (Bs × α)} (h : Rise l) (c : List (Bs × Option α)) : Rise (apply l c) := by
  induction c generalizing l with
  | nil => exact h
  | cons s r ih => exact ih (rise_put h s.1 s.2)
theorem find_some {l : List (Bs × α)} (h : Rise l) {k : Bs} {b : α} : find l k = some b ↔ (k, b) ∈ l := by
  induction l with
  | nil => simp [find]
  | cons z r ih =>
    obtain ⟨h1, h2⟩ := List.pairwise_cons.1 h
    have ih := ih h2
    unfold find at ih ⊢
    rw [List.find?_cons]
    by_cases hz : z.1 = k
    · rw [decide_eq_true hz]
      simp only [Option.map_some, Option.some.injEq, List.mem_cons]
      constructor
      · rintro rfl; exact .inl (Prod.ext hz.symm rfl)
      · rintro (h3 | h3)
        · rw [← h3]
        · have := before_ne (h1 _ h3); exact absurd hz this
    · rw [decide_eq_false hz]
      simp only [List.mem_cons]
      rw [ih]
      constructor
      · exact .inr
      · rintro (h3 | h3)
        · rw [← h3] at hz; exact absurd rfl hz
        · exact h3
theorem find_none {l : List (Bs × α)} {k : Bs} : find l k = none ↔ ∀ y ∈ l, y.1 ≠ k := by
  unfold find
  rw [Option.map_eq_none_iff, List.find?_eq_none]
  simp
theorem find_put {l : List (Bs × α)} (h : Rise l) (k : Bs) (to : Option α) (x : Bs) : find (put l k to) x = if x = k then to else find l x := by
  by_cases hx : x = k
  · subst hx
    rw [if_pos rfl]
    cases to with
    | none => exact find_none.2 fun y hy => (mem_del.1 hy).2
    | some b => exact (find_some (rise_put h x (some b))).2 (mem_put.2 (.inr ⟨rfl, rfl⟩))
  · rw [if_neg hx]
    cases hf : find l x with
    | none =>
      refine find_none.2 fun y hy => ?_
      rcases mem_put.1 hy with ⟨h1, _⟩ | ⟨h1, _⟩
      · exact find_none.1 hf y h1
      · rw [h1]; exact fun e => hx e.symm
    | some b => exact (find_some (rise_put h k to)).2 (mem_put.2 (.inl ⟨(find_some h).1 hf, hx⟩))
theorem len_ins (x : Bs × α) (l : List (Bs × α)) : (ins x l).length = l.length + 1 := by
  induction l with
  | nil => rfl
  | cons z r ih => unfold ins; split <;> simp [ih]
theorem len_del_le (l : List (Bs × α)) (k : Bs) : (del l k).length ≤ l.length := List.length_filter_le _ _
theorem len_put_le (l : List (Bs × α)) (k : Bs) (to : Option α) : (put l k to).length ≤ l.length + 1 := by
  have := len_del_le l k
  cases to with
  | none => simp only [put]; omega
  | some b => simp only [put, len_ins]; omega
theorem ext_rise : ∀ {a b : List (Bs × α)}, Rise a → Rise b → (∀ x, x ∈ a ↔ x ∈ b) → a = b
  | [], [], _, _, _ => rfl
  | [], y :: r, _, _, h => by have := (h y).2 (by simp); cases this
  | x :: a, [], _, _, h => by have := (h x).1 (by simp); cases this
  | x :: a, y :: b, ha, hb, h => by
    obtain ⟨a1, a2⟩ := List.pairwise_cons.1 ha
    obtain ⟨b1, b2⟩ := List.pairwise_cons.1 hb
    have hxy : x = y := by
      rcases List.mem_cons.1 ((h x).1 (by simp)) with e | h1
      · exact e
      · rcases List.mem_cons.1 ((h y).2 (by simp)) with e | h2
        · exact e.symm
        · have := before_asymm (b1 x h1); rw [a1 y h2] at this; cases this
    subst hxy
    congr 1
    refine ext_rise a2 b2 fun z => ⟨fun hz => ?_, fun hz => ?_⟩
    · rcases List.mem_cons.1 ((h z).1 (by simp [hz])) with e | h1
      · subst e; exact absurd rfl (before_ne (a1 z hz))
      · exact h1
    · rcases List.mem_cons.1 ((h z).2 (by simp [hz])) with e | h1
      · subst e; exact absurd rfl (before_ne (b1 z hz))
      · exact h1
end
end Go.Proofs.Ytelgcmcnebncmaa.Dr
