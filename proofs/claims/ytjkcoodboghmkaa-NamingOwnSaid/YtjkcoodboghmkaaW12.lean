/- The walk of what every right program says first. -/
import Derived.Test.YtjkcoodboghmkaaW11
namespace Go.Proofs.Ytjkcoodboghmkaa.Nm
open Go.RowKit Go.Proofs

def kNames : List Bs := [[111, 54, 50], [108], [111, 54, 49], [111, 54, 50, 54, 49], [111, 54, 50], [120]]
theorem k1 : objName [65, 32, 98] = [111, 52, 49, 50, 48, 54, 50] := by decide
theorem k2 : objErr [65, 32, 98] = 0 := by decide
theorem k3 : keyOf [111, 48, 48, 102, 102] = [0, 255] := by decide
theorem k4 : keyOk [111, 48, 48, 102, 102] = true := by decide
theorem k5 : kind [111, 54, 49] = 1 := by decide
theorem k6 : kind [116] = 2 := by decide
theorem k7 : kind [108] = 3 := by decide
theorem k8 : under kNames [] = [[97], [98], [98, 97]] := by decide

theorem object_k (w : World) : Calls Try.prog 16 #[.string ⟨#[65, 32, 98]⟩] w fun e w' => e = .returned (.tuple #[.string ⟨#[111, 52, 49, 50, 48, 54, 50]⟩, .int .i64 0]) ∧ Below w.heap.size w w' :=
  (object_any ⟨#[65, 32, 98]⟩ (by decide) w).mono fun _ _ ⟨he, hb⟩ => ⟨by rw [he]; show Ending.returned (.tuple #[.string ⟨(objName [65, 32, 98]).toArray⟩, .int .i64 (objErr [65, 32, 98])]) = _; rw [k1, k2], hb⟩
theorem key_k (w : World) : Calls Try.prog 18 #[.string ⟨#[111, 48, 48, 102, 102]⟩] w fun e w' => e = .returned (.tuple #[.string ⟨#[0, 255]⟩, .bool true]) ∧ Below w.heap.size w w' :=
  (key_any ⟨#[111, 48, 48, 102, 102]⟩ (by decide) w).mono fun _ _ ⟨he, hb⟩ => ⟨by rw [he]; show Ending.returned (.tuple #[.string ⟨(keyOf [111, 48, 48, 102, 102]).toArray⟩, .bool (keyOk [111, 48, 48, 102, 102])]) = _; rw [k3, k4], hb⟩
theorem kind_k (l : Bs) (n : Int) (h : kind l = n) (hl : l.length ≤ 100) (w : World) : Calls Try.prog 19 #[.string ⟨l.toArray⟩] w fun e w' => e = .returned (.int .i64 n) ∧ Below w.heap.size w w' :=
  (kind_any ⟨l.toArray⟩ (by show l.length ≤ _; unfold maxLen; omega) w).mono fun _ _ ⟨he, hb⟩ => ⟨by rw [he]; show Ending.returned (.int .i64 (kind l)) = _; rw [h], hb⟩

/-- A list just written out, read. -/
theorem rd_new (w : World) (l : List Bs) (e : TypeId) (n : Nat) (h : l.length = n) : Rd (w.alloc (.cells (cStr l).toArray e)) (w.heap.size + 1) 1 (some ⟨w.heap.size, 0, none⟩) n (cStr l) :=
  ⟨by simp [h], fun _ => ⟨_, rfl, Nat.lt_succ_self _, new_cells w (cStr l) e⟩⟩
theorem kNames_le : ∀ x ∈ kNames, x.length ≤ maxLen := by
  intro x hx
  have : x.length ≤ 5 := by
    simp only [kNames, List.mem_cons, List.not_mem_nil, or_false] at hx
    rcases hx with rfl | rfl | rfl | rfl | rfl | rfl <;> decide
  unfold maxLen; omega

def kKeys : List Bs := [[97], [98], [98, 97]]
theorem under_k (w : World) : Calls Try.prog 23 #[.slice (some ⟨w.heap.size, 0, none⟩) 6 6, .string ⟨#[]⟩] (w.alloc (.cells (cStr kNames).toArray 9)) fun e w' =>
    ∃ A c, e = .returned (.slice A 3 c) ∧ Rd w' w'.heap.size 1 A 3 (cStr kKeys) ∧ Below w.heap.size w w' := by
  refine (under_any _ 6 6 kNames ⟨#[]⟩ (w.heap.size + 1) (by omega) kNames_le _ (by simp) (rd_new w kNames _ 6 rfl)).mono ?_
  rintro e w' ⟨v, rfl, hown, hb⟩
  have e1 : under kNames (⟨#[]⟩ : ByteArray).data.toList = kKeys := k8
  rw [e1] at hown
  obtain ⟨A, c, rfl, _, _⟩ := own_form hown
  exact ⟨A, c, rfl, Rd.of_own hown, ((Below.refl _ _).alloc (Nat.le_refl _) _).trans (hb.mono (by simp))⟩
theorem like_k (w : World) (A : Option Addr) (c : Nat) (hr : Rd w w.heap.size 1 A 3 (cStr kKeys)) : Calls Try.prog 22 #[.slice A 3 c, .slice (some ⟨w.heap.size, 0, none⟩) 3 3] (w.alloc (.cells (cStr kKeys).toArray 9)) fun e w' =>
    e = .returned (.bool true) ∧ Below w.heap.size w w' := by
  refine (like_any A 3 c kKeys _ 3 3 kKeys w.heap.size (w.heap.size + 1) (by unfold maxLen; omega) (by unfold maxLen; omega) _ (hr.alloc (Nat.le_refl _) _) (rd_new w kKeys _ 3 rfl)).mono ?_
  rintro e w' ⟨rfl, hq⟩
  exact ⟨by simp, ((Below.refl _ _).alloc (Nat.le_refl _) _).trans (below_same hq _)⟩

set_option maxRecDepth 100000 in
set_option maxHeartbeats 2000000 in
theorem known_any (w : World) : Calls Try.prog 14 #[] w fun e w' => e = .returned (.bool true) ∧ Below w.heap.size w w' := by
  go_enter Try.func14, Try.ntmps14
  go_wp2_with (first
    | (go_at_call 16; refine (object_k _).mono ?_; rintro e w1 ⟨rfl, hb1⟩)
    | (go_at_call 18; refine (key_k _).mono ?_; rintro e w2 ⟨rfl, hb2⟩)
    | (go_at_call 23; refine (under_k w2).mono ?_; rintro e w3 ⟨A, c, rfl, hr, hb3⟩)
    | (go_at_call_of 19 (#[(111 : UInt8), 54, 49]); refine (kind_k [111, 54, 49] 1 k5 (by decide) _).mono ?_; rintro e w4 ⟨rfl, hb4⟩)
    | (go_at_call_of 19 (#[(116 : UInt8)]); refine (kind_k [116] 2 k6 (by decide) _).mono ?_; rintro e w5 ⟨rfl, hb5⟩)
    | (go_at_call_of 19 (#[(108 : UInt8)]); refine (kind_k [108] 3 k7 (by decide) _).mono ?_; rintro e w6 ⟨rfl, hb6⟩)
    | (go_at_call 22; refine (like_k w6 A c (((hr.below (hb4.trans (hb5.mono hb4.size))).below (hb6.mono (Nat.le_trans hb4.size hb5.size))).more (Nat.le_trans (Nat.le_trans hb4.size hb5.size) hb6.size))).mono ?_; rintro e w7 ⟨rfl, hb7⟩))
  go_ret
  exact ⟨rfl, bch (bch (bch (bch (bch (bch hb1 hb2) hb3) hb4) hb5) hb6) hb7⟩
end Go.Proofs.Ytjkcoodboghmkaa.Nm
