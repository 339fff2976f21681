/- Floating-point numbers of 64 bits: when two are equal. -/
import GoSem.Op.Equal
namespace Go.Proofs.Ytpppgdfgbhglbaa.Fl

/-- A number's value counted in the least place, from its rung. -/
def V (r : Nat) : Nat := if r < 4503599627370496 then r else (4503599627370496 + r % 4503599627370496) * 2 ^ (r / 4503599627370496 - 1)
theorem V_low {r : Nat} (h : 4503599627370496 ≤ r) : 4503599627370496 * 2 ^ (r / 4503599627370496 - 1) ≤ V r := by
  unfold V
  rw [if_neg (by omega)]
  exact Nat.mul_le_mul_right _ (Nat.le_add_right _ _)
theorem V_high {r : Nat} (h : 4503599627370496 ≤ r) : V r < 4503599627370496 * 2 ^ (r / 4503599627370496) := by
  unfold V
  rw [if_neg (by omega)]
  have h1 : 1 ≤ r / 4503599627370496 := (Nat.le_div_iff_mul_le (by omega)).2 (by omega)
  obtain ⟨e, he⟩ : ∃ e, r / 4503599627370496 = e + 1 := ⟨r / 4503599627370496 - 1, by omega⟩
  rw [he, Nat.add_sub_cancel, Nat.pow_succ, Nat.mul_comm (2 ^ e) 2, ← Nat.mul_assoc]
  exact Nat.mul_lt_mul_of_pos_right (by have := Nat.mod_lt r (show 0 < 4503599627370496 by omega); omega) (Nat.pow_pos (by omega))
theorem V_lt_of_rung {r s : Nat} (h : r / 4503599627370496 < s / 4503599627370496) : V r < V s := by
  have hs : 4503599627370496 ≤ s := by
    have : 1 ≤ s / 4503599627370496 := by omega
    have := (Nat.le_div_iff_mul_le (show 0 < 4503599627370496 by omega)).1 this
    omega
  have h2 := V_low hs
  by_cases hr : r < 4503599627370496
  · have h3 : V r = r := by unfold V; rw [if_pos hr]
    have h4 : 4503599627370496 * 1 ≤ 4503599627370496 * 2 ^ (s / 4503599627370496 - 1) := Nat.mul_le_mul_left _ (Nat.pow_pos (by omega))
    omega
  · have h3 := V_high (show 4503599627370496 ≤ r by omega)
    have h4 : 4503599627370496 * 2 ^ (r / 4503599627370496) ≤ 4503599627370496 * 2 ^ (s / 4503599627370496 - 1) := Nat.mul_le_mul_left _ (Nat.pow_le_pow_right (by omega) (by omega))
    omega
theorem V_inj {r s : Nat} (h : V r = V s) : r = s := by
  rcases Nat.lt_trichotomy (r / 4503599627370496) (s / 4503599627370496) with h1 | h1 | h1
  · have := V_lt_of_rung h1; omega
  · by_cases hr : r < 4503599627370496
    · have hr0 : r / 4503599627370496 = 0 := Nat.div_eq_of_lt hr
      have hs : s < 4503599627370496 := by
        have : s / 4503599627370496 = 0 := by omega
        exact Nat.lt_of_div_eq_zero (by omega) this
      unfold V at h
      rwa [if_pos hr, if_pos hs] at h
    · have hs : ¬ s < 4503599627370496 := by
        intro hs
        have := Nat.div_eq_of_lt hs
        have h2 : 1 ≤ r / 4503599627370496 := (Nat.le_div_iff_mul_le (by omega)).2 (by omega)
        omega
      unfold V at h
      rw [if_neg hr, if_neg hs, h1] at h
      have h2 := Nat.eq_of_mul_eq_mul_right (Nat.pow_pos (by omega)) h
      have h3 := Nat.div_add_mod r 4503599627370496
      have h4 := Nat.div_add_mod s 4503599627370496
      rw [h1] at h3
      omega
  · have := V_lt_of_rung h1; omega

def fnan (x : Nat) : Prop := 9218868437227405312 < x % 9223372036854775808
instance (x : Nat) : Decidable (fnan x) := by unfold fnan; infer_instance
/-- The class of a number: the two zeros are one. -/
def fcls (x : Nat) : Nat := if x % 9223372036854775808 = 0 then 0 else x
def sgn (x : Nat) : Bool := x / 9223372036854775808 % 2 == 1
/-- How a word reads: a number's digits and how far up they stand. -/
def dig (r : Nat) : Nat := if r < 4503599627370496 then r else 4503599627370496 + r % 4503599627370496
def up (r : Nat) : Nat := if r < 4503599627370496 then 0 else r / 4503599627370496 - 1
theorem V_eq (r : Nat) : V r = dig r * 2 ^ up r := by
  unfold V dig up
  split
  · simp
  · rfl
theorem read_num {x : Nat} (h : x % 9223372036854775808 < 9218868437227405312) : Ieee.double.read x = .number (sgn x) (dig (x % 9223372036854775808)) (-1074 + (up (x % 9223372036854775808) : Int)) := by
  unfold Ieee.Format.read
  have e1 : Ieee.double.signWeight = 9223372036854775808 := by decide
  have e2 : Ieee.double.binade = 4503599627370496 := by decide
  have e3 : Ieee.double.infRung = 9218868437227405312 := by decide
  have e4 : Ieee.double.leastPlace = -1074 := by decide
  simp only [e1, e2, e3, e4]
  unfold dig up sgn
  split
  · simp
  · rfl
theorem read_inf {x : Nat} (h : x % 9223372036854775808 = 9218868437227405312) : Ieee.double.read x = .infinity (sgn x) := by
  unfold Ieee.Format.read
  have e1 : Ieee.double.signWeight = 9223372036854775808 := by decide
  have e2 : Ieee.double.binade = 4503599627370496 := by decide
  have e3 : Ieee.double.infRung = 9218868437227405312 := by decide
  simp only [e1, e2, e3]
  unfold sgn
  rw [if_neg (by omega), if_neg (by omega), if_pos h]
theorem read_nan {x : Nat} (h : fnan x) : ∃ s t, Ieee.double.read x = .nan s t := by
  unfold fnan at h
  unfold Ieee.Format.read
  have e1 : Ieee.double.signWeight = 9223372036854775808 := by decide
  have e2 : Ieee.double.binade = 4503599627370496 := by decide
  have e3 : Ieee.double.infRung = 9218868437227405312 := by decide
  simp only [e1, e2, e3]
  rw [if_neg (by omega), if_neg (by omega), if_neg (by omega)]
  exact ⟨_, _, rfl⟩
/-- Magnitudes moved up by what is over agree where the values do. -/
theorem mag_eq (m n a b : Nat) : (m <<< (a - min a b) = n <<< (b - min a b)) ↔ m * 2 ^ a = n * 2 ^ b := by
  rw [Nat.shiftLeft_eq, Nat.shiftLeft_eq]
  rcases Nat.le_total a b with h | h
  · rw [Nat.min_eq_left h, Nat.sub_self, Nat.pow_zero, Nat.mul_one]
    have e : 2 ^ b = 2 ^ (b - a) * 2 ^ a := by rw [← Nat.pow_add]; congr 1; omega
    rw [e, ← Nat.mul_assoc]
    exact ⟨fun h => by rw [h], fun h => Nat.eq_of_mul_eq_mul_right (Nat.pow_pos (by omega)) h⟩
  · rw [Nat.min_eq_right h, Nat.sub_self, Nat.pow_zero, Nat.mul_one]
    have e : 2 ^ a = 2 ^ (a - b) * 2 ^ b := by rw [← Nat.pow_add]; congr 1; omega
    rw [e, ← Nat.mul_assoc]
    exact ⟨fun h => by rw [h], fun h => Nat.eq_of_mul_eq_mul_right (Nat.pow_pos (by omega)) h⟩
theorem V_zero (r : Nat) : V r = 0 ↔ r = 0 := by
  constructor
  · intro h; exact V_inj (h.trans (by decide : (0 : Nat) = V 0))
  · rintro rfl; decide
theorem word_split {x : Nat} (h : x < 18446744073709551616) : x = (if sgn x then 9223372036854775808 else 0) + x % 9223372036854775808 := by
  unfold sgn
  split
  · rename_i h1; simp at h1; omega
  · rename_i h1; simp at h1; omega
theorem cls_iff {x y : Nat} (hx : x < 18446744073709551616) (hy : y < 18446744073709551616) : fcls x = fcls y ↔ x % 9223372036854775808 = y % 9223372036854775808 ∧ (x % 9223372036854775808 = 0 ∨ sgn x = sgn y) := by
  have h1 := word_split hx
  have h2 := word_split hy
  unfold fcls
  split
  · split
    · omega
    · constructor
      · intro h; omega
      · intro h; omega
  · split
    · constructor
      · intro h; omega
      · intro h; omega
    · constructor
      · rintro rfl; exact ⟨rfl, .inr rfl⟩
      · rintro ⟨h3, h4 | h4⟩
        · omega
        · rw [h1, h2, h3, h4]
theorem cmp_eq (a b : Int) : (compare a b = .eq) ↔ a = b := by
  constructor
  · intro h; exact Std.LawfulEqCmp.eq_of_compare h
  · rintro rfl; exact Std.ReflCmp.compare_self
theorem signed_eq (s t : Bool) (m n a b : Nat) : Ieee.signed s m (a - min a b) = Ieee.signed t n (b - min a b) ↔ m * 2 ^ a = n * 2 ^ b ∧ (m * 2 ^ a = 0 ∨ s = t) := by
  have h0 := mag_eq m n a b
  have hz : m <<< (a - min a b) = 0 ↔ m * 2 ^ a = 0 := by rw [Nat.shiftLeft_eq, Nat.mul_eq_zero, Nat.mul_eq_zero]; simp
  have hz2 : n <<< (b - min a b) = 0 ↔ n * 2 ^ b = 0 := by rw [Nat.shiftLeft_eq, Nat.mul_eq_zero, Nat.mul_eq_zero]; simp
  unfold Ieee.signed
  generalize m <<< (a - min a b) = M at *
  generalize n <<< (b - min a b) = N at *
  generalize m * 2 ^ a = P at *
  generalize n * 2 ^ b = Q at *
  cases s <;> cases t <;> simp <;> constructor <;> intro h <;> (try omega)
theorem toNat_cmp (s t : Bool) : (compare t.toNat s.toNat = .eq) ↔ s = t := by cases s <;> cases t <;> decide
/-- When two are equal. -/
theorem feq {x y : Nat} (hx : x < 18446744073709551616) (hy : y < 18446744073709551616) : (Ieee.double.order x y == some .eq) = decide (¬ fnan x ∧ ¬ fnan y ∧ fcls x = fcls y) := by
  unfold Ieee.Format.order
  by_cases nx : fnan x
  · obtain ⟨s, t, h⟩ := read_nan nx
    rw [h]
    simp [Ieee.Datum.order, nx]
  by_cases ny : fnan y
  · obtain ⟨s, t, h⟩ := read_nan ny
    rw [h]
    cases Ieee.double.read x <;> simp [Ieee.Datum.order, ny]
  have nx' := nx
  have ny' := ny
  unfold fnan at nx' ny'
  have hc := cls_iff hx hy
  have key : (Ieee.Datum.order (Ieee.double.read x) (Ieee.double.read y) = some .eq) ↔ fcls x = fcls y := by
    rcases Nat.lt_or_ge (x % 9223372036854775808) 9218868437227405312 with x1 | x1
    · rcases Nat.lt_or_ge (y % 9223372036854775808) 9218868437227405312 with y1 | y1
      · rw [read_num x1, read_num y1]
        simp only [Ieee.Datum.order, Option.some.injEq]
        rw [cmp_eq]
        have e1 : (-1074 + (up (x % 9223372036854775808) : Int) - min (-1074 + (up (x % 9223372036854775808) : Int)) (-1074 + (up (y % 9223372036854775808) : Int))).toNat = up (x % 9223372036854775808) - min (up (x % 9223372036854775808)) (up (y % 9223372036854775808)) := by omega
        have e2 : (-1074 + (up (y % 9223372036854775808) : Int) - min (-1074 + (up (x % 9223372036854775808) : Int)) (-1074 + (up (y % 9223372036854775808) : Int))).toNat = up (y % 9223372036854775808) - min (up (x % 9223372036854775808)) (up (y % 9223372036854775808)) := by omega
        rw [e1, e2, signed_eq, ← V_eq, ← V_eq, V_zero, hc]
        exact ⟨fun ⟨h1, h2⟩ => ⟨V_inj h1, h2⟩, fun ⟨h1, h2⟩ => ⟨congrArg V h1, h2⟩⟩
      · rw [read_num x1, read_inf (by omega)]
        simp only [Ieee.Datum.order, Option.some.injEq]
        rw [hc]
        constructor
        · intro h; split at h <;> cases h
        · intro h; omega
    · rcases Nat.lt_or_ge (y % 9223372036854775808) 9218868437227405312 with y1 | y1
      · rw [read_inf (by omega), read_num y1]
        simp only [Ieee.Datum.order, Option.some.injEq]
        rw [hc]
        constructor
        · intro h; split at h <;> cases h
        · intro h; omega
      · rw [read_inf (by omega), read_inf (by omega)]
        simp only [Ieee.Datum.order, Option.some.injEq]
        rw [toNat_cmp, hc]
        exact ⟨fun h => ⟨by omega, .inr h⟩, fun ⟨_, h⟩ => h.elim (fun h => by omega) id⟩
  rw [Bool.eq_iff_iff]
  simp only [beq_iff_eq, decide_eq_true_eq]
  rw [key]
  exact ⟨fun h => ⟨nx, ny, h⟩, fun h => h.2.2⟩
end Go.Proofs.Ytpppgdfgbhglbaa.Fl
