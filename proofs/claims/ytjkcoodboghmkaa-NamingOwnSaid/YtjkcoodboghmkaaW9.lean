/- The walk that puts a text at its place in a rising list. -/
import Derived.Test.YtjkcoodboghmkaaW8
import Derived.Sort.Walk0
namespace Go.Proofs.Ytjkcoodboghmkaa.Nm
open Go.RowKit Go.Proofs

def anyGt (l : List Bs) (t : Bs) : Bool := l.any fun x => decide (t < x)
/-- The list while it is walked through. -/
def insTo (l : List Bs) (t : Bs) : List Bs := if anyGt l t then ins l t else l
theorem ins_snoc (l : List Bs) (t x : Bs) : ins (l ++ [x]) t = if anyGt l t then ins l t ++ [x] else if t < x then l ++ [t, x] else l ++ [x, t] := by
  induction l with
  | nil => simp [ins, anyGt]
  | cons y r ih =>
    simp only [List.cons_append, ins]
    by_cases h : t < y
    · simp [h, anyGt]
    · rw [if_neg h, if_neg h, ih]
      have e : anyGt (y :: r) t = anyGt r t := by simp [anyGt, h]
      rw [e]
      split
      · rfl
      · split <;> rfl
theorem anyGt_snoc (l : List Bs) (t x : Bs) : anyGt (l ++ [x]) t = (anyGt l t || decide (t < x)) := by simp [anyGt]
theorem ins_none (l : List Bs) (t : Bs) (h : anyGt l t = false) : ins l t = l ++ [t] := by
  induction l with
  | nil => rfl
  | cons y r ih =>
    have hy : ¬ t < y := fun hh => by simp [anyGt, hh] at h
    have hr : anyGt r t = false := by simpa [anyGt, hy] using h
    rw [ins, if_neg hy, ih hr]; rfl
theorem insTo_put {l : List Bs} {t x : Bs} (h : anyGt l t = true) : insTo (l ++ [x]) t = insTo l t ++ [x] ∧ anyGt (l ++ [x]) t = true := by
  have h2 : anyGt (l ++ [x]) t = true := by rw [anyGt_snoc, h]; rfl
  exact ⟨by unfold insTo; rw [if_pos h, if_pos h2, ins_snoc, if_pos h], h2⟩
theorem insTo_here {l : List Bs} {t x : Bs} (h : anyGt l t = false) (hx : t < x) : insTo (l ++ [x]) t = insTo l t ++ [t, x] ∧ anyGt (l ++ [x]) t = true := by
  have h2 : anyGt (l ++ [x]) t = true := by rw [anyGt_snoc, h]; simp [hx]
  exact ⟨by unfold insTo; rw [h2, h, ins_snoc, h]; simp [hx], h2⟩
theorem insTo_not {l : List Bs} {t x : Bs} (h : anyGt l t = false) (hx : ¬ t < x) : insTo (l ++ [x]) t = insTo l t ++ [x] ∧ anyGt (l ++ [x]) t = false := by
  have h2 : anyGt (l ++ [x]) t = false := by rw [anyGt_snoc, h]; simp [hx]
  exact ⟨by unfold insTo; rw [h2, h]; simp, h2⟩
theorem insTo_len (l : List Bs) (t : Bs) : (insTo l t).length = l.length + (if anyGt l t then 1 else 0) := by
  have : ∀ l : List Bs, (ins l t).length = l.length + 1 := by
    intro l; induction l with
    | nil => rfl
    | cons y r ih => unfold ins; split <;> simp [ih]
  unfold insTo
  split <;> rename_i h <;> simp [this]
theorem ins_len (l : List Bs) (t : Bs) : (ins l t).length = l.length + 1 := by
  induction l with
  | nil => rfl
  | cons y r ih => unfold ins; split <;> simp [ih]

theorem cStr_get {xs : List Bs} {i : Nat} {x : Bs} (hx : xs[i]? = some x) : (cStr xs)[i]? = some (encStr x) := by rw [List.getElem?_map, hx]; rfl

set_option maxRecDepth 100000 in
set_option maxHeartbeats 1000000 in
theorem with_any (A : Option Addr) (n c : Nat) (xs : List Bs) (s : ByteArray) (B : Nat) (hn : n + 1 ≤ 8796093022208) (w : World) (hB : B ≤ w.heap.size) (hr : Rd w B 1 A n (cStr xs)) :
    Calls Try.prog 35 #[.slice A n c, .string s] w fun e w' => ∃ v, e = .returned v ∧ w'.ownsRow w.heap.size 9 1 v (n + 1) (cStr (ins xs s.data.toList)) ∧ Below w.heap.size w w' := by
  obtain ⟨i0, hi, hz0, hz1, hz2⟩ := info_parts infoStr
  have hxl : xs.length = n := by simpa using hr.1
  have HR := Lib.hid hr
  have HX := Lib.hid hxl
  clear hr hxl
  obtain ⟨t, rfl⟩ : ∃ t : Bs, s = ⟨t.toArray⟩ := ⟨s.data.toList, ba_eq s _ rfl⟩
  show Calls _ _ _ _ fun e w' => ∃ v, e = .returned v ∧ w'.ownsRow w.heap.size 9 1 v (n + 1) (cStr (ins xs t)) ∧ Below w.heap.size w w'
  go_enter Try.func35, Try.ntmps35
  go_wp2
  go_loopw [5, 6, 7] (fun v p iv wr => ∃ (i : Nat) (b : Bool) (l : List Bs), iv = .int .i64 i ∧ i ≤ n ∧ p = .bool b ∧ anyGt (xs.take i) t = b ∧ insTo (xs.take i) t = l ∧ wr.ownsRow w.heap.size 9 1 v l.length (cStr l) ∧ Below w.heap.size w wr) (fun _ _ iv _ => n - (intOf iv).toNat)
  case atStart => exact ⟨0, false, [], rfl, by omega, rfl, rfl, rfl, World.ownsRow_nil _ _ _ _, Below.refl _ _⟩
  case round =>
    obtain ⟨i, b, l, rfl, hin, rfl, hb, hl, hown, hnx⟩ := hrel
    have hlen : l.length ≤ n + 1 := by rw [← hl, insTo_len, List.length_take]; split <;> omega
    have HB := Lib.hid hb
    have HL := Lib.hid hl
    clear hb hl
    by_cases hlt : i < n
    · obtain ⟨ad, x, rfl, hc, hx⟩ := str_at (HR.out.below (hnx.mono hB)) hlt
      have HXX := Lib.hid hx
      have hlt2 : (i : Int) < (n : Int) := by omega
      have hll : l.length ≤ i + 1 := by rw [← HL.out, insTo_len, List.length_take]; split <;> omega
      clear hx hlen
      cases b with
      | true =>
        go_wp2_with (at_builtin; refine wpList_append_own _ rfl (.tmp 28) (.tmp 33) 30 rfl w.heap.size 9 i0 (.string ⟨#[]⟩) 1 16 Try.underlying30 hi hz0 hz1 hz2 rfl (by decide) u5 _ _ rfl (hown.alloc _) ⟨wr.heap.size, 0, none⟩ 1 1 [encStr x] rfl rfl (cell_one_new _ _ _) (by simp [Value.oneCell', encStr]) (by unfold maxLen; omega) (by omega) (by have := hnx.size; simp; omega) ?_; intro v2 w2 hrow2 hg2 _)
        go_roundw
        case rel =>
          obtain ⟨e1, e2⟩ := insTo_put (x := x) HB.out
          rw [← take_snoc_l HXX.out] at e1 e2
          exact ⟨i + 1, true, l ++ [x], by go_num, by omega, rfl, e2, by rw [e1, HL.out], by simpa using hrow2, (hnx.alloc hnx.size _).grown hg2 (by have := hnx.size; simp; omega) (fun j hj => (hown.lt j hj).1)⟩
        case measure => simp [intOf]; omega
      | false =>
        have hll2 : l.length ≤ i := by rw [← HL.out, insTo_len, HB.out, List.length_take]; simp; omega
        by_cases htx : t < x
        · have hbl : Op.bytesLess t x = true := by rw [bytesLess_eq]; simpa using htx
          have HTX := Lib.hid htx
          clear htx
          go_wp2_with (first
            | (at_builtin; refine wpList_append_own _ rfl (.tmp 24) (.tmp 26) 30 rfl w.heap.size 9 i0 (.string ⟨#[]⟩) 1 16 Try.underlying30 hi hz0 hz1 hz2 rfl (by decide) u5 _ _ rfl (hown.alloc _) ⟨wr.heap.size, 0, none⟩ 1 1 [encStr t] rfl rfl (cell_one_new _ _ _) (by simp [Value.oneCell', encStr]) (by unfold maxLen; omega) (by omega) (by have := hnx.size; simp; omega) ?_; intro v1 w1 hrow1 hg1 _; have hnx1 := (hnx.alloc hnx.size (.cells #[encStr t] 9)).grown hg1 (by have := hnx.size; simp; omega) (fun j hj => (hown.lt j hj).1); have hc1 := (HR.out.below (hnx1.mono hB)).cell rfl hlt (cStr_get HXX.out))
            | (at_builtin; refine wpList_append_own _ rfl (.tmp 28) (.tmp 33) 30 rfl w.heap.size 9 i0 (.string ⟨#[]⟩) 1 16 Try.underlying30 hi hz0 hz1 hz2 rfl (by decide) v1 _ _ rfl (hrow1.alloc _) ⟨w1.heap.size, 0, none⟩ 1 1 [encStr x] rfl rfl (cell_one_new _ _ _) (by simp [Value.oneCell', encStr]) (by unfold maxLen; omega) (by omega) (by have := hnx.size; have := hg1.size; simp at this ⊢; omega) ?_; intro v2 w2 hrow2 hg2 _))
          go_roundw
          case rel =>
            obtain ⟨e1, e2⟩ := insTo_here HB.out HTX.out
            rw [← take_snoc_l HXX.out] at e1 e2
            exact ⟨i + 1, true, l ++ [t, x], by go_num, by omega, rfl, e2, by rw [e1, HL.out], by simpa using hrow2, ((((hnx.alloc hnx.size _).grown hg1 (by have := hnx.size; simp; omega) (fun j hj => (hown.lt j hj).1))).alloc (by have := hnx.size; have := hg1.size; simp at this; omega) _).grown hg2 (by have := hnx.size; have := hg1.size; simp at this ⊢; omega) (fun j hj => (hrow1.lt j hj).1)⟩
          case measure => simp [intOf]; omega
        · have hbl : Op.bytesLess t x = false := by rw [bytesLess_eq]; simpa using htx
          have HTX := Lib.hid htx
          clear htx
          go_wp2_with (at_builtin; refine wpList_append_own _ rfl (.tmp 28) (.tmp 33) 30 rfl w.heap.size 9 i0 (.string ⟨#[]⟩) 1 16 Try.underlying30 hi hz0 hz1 hz2 rfl (by decide) u5 _ _ rfl (hown.alloc _) ⟨wr.heap.size, 0, none⟩ 1 1 [encStr x] rfl rfl (cell_one_new _ _ _) (by simp [Value.oneCell', encStr]) (by unfold maxLen; omega) (by omega) (by have := hnx.size; simp; omega) ?_; intro v2 w2 hrow2 hg2 _)
          go_roundw
          case rel =>
            obtain ⟨e1, e2⟩ := insTo_not HB.out HTX.out
            rw [← take_snoc_l HXX.out] at e1 e2
            exact ⟨i + 1, false, l ++ [x], by go_num, by omega, rfl, e2, by rw [e1, HL.out], by simpa using hrow2, (hnx.alloc hnx.size _).grown hg2 (by have := hnx.size; simp; omega) (fun j hj => (hown.lt j hj).1)⟩
          case measure => simp [intOf]; omega
    · obtain rfl : i = n := by omega
      have htk : xs.take i = xs := List.take_of_length_le (by have := HX.out; omega)
      rw [htk] at HB HL
      cases b with
      | true =>
        have e1 : ins xs t = l := by have h1 := HL.out; unfold insTo at h1; rw [HB.out] at h1; simpa using h1
        have e2 : l.length = i + 1 := by rw [← e1, ins_len, HX.out]
        have HE := Lib.hid e1
        have HE2 := Lib.hid e2
        clear htk e1 e2 hlen
        go_wp2
        go_ret
        exact ⟨_, rfl, by rw [HE.out, ← HE2.out]; exact hown, hnx⟩
      | false =>
        have e1 : ins xs t = l ++ [t] := by have h1 := HL.out; unfold insTo at h1; rw [HB.out] at h1; rw [ins_none _ _ HB.out]; simpa using h1
        have e2 : l.length = i := by have := congrArg List.length e1; rw [ins_len, HX.out] at this; simp at this; omega
        have HE := Lib.hid e1
        have HE2 := Lib.hid e2
        have hll2 : l.length ≤ i := by omega
        clear htk e1 e2
        go_wp2_with (at_builtin; refine wpList_append_own _ rfl (.tmp 37) (.tmp 39) 30 rfl w.heap.size 9 i0 (.string ⟨#[]⟩) 1 16 Try.underlying30 hi hz0 hz1 hz2 rfl (by decide) u5 _ _ rfl (hown.alloc _) ⟨wr.heap.size, 0, none⟩ 1 1 [encStr t] rfl rfl (cell_one_new _ _ _) (by simp [Value.oneCell', encStr]) (by unfold maxLen; omega) (by omega) (by have := hnx.size; simp; omega) ?_; intro v2 w2 hrow2 hg2 _)
        go_ret
        exact ⟨_, rfl, by rw [HE.out, ← HE2.out]; simpa using hrow2, (hnx.alloc hnx.size _).grown hg2 (by have := hnx.size; simp; omega) (fun j hj => (hown.lt j hj).1)⟩
end Go.Proofs.Ytjkcoodboghmkaa.Nm
