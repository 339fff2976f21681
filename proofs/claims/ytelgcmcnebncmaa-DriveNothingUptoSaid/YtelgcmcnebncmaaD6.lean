/- The walks of Used, Pending, Loose, Struck, Rest, Read, List, SyncDir, Wipe. -/
import Derived.Test.YtelgcmcnebncmaaD5
import Derived.Test.YtelgcmcnebncmaaNames
namespace Go.Proofs.Ytelgcmcnebncmaa.Dr
open Go.RowKit Go.Proofs Go.Proofs.Ytelgcmcnebncmaa.Ring

section
variable {w w' : World} {S : Nat → Prop} {d : Nat} {D : Dr.D} {u : Int} {β : Nat → Nat} {vs : Nat → Value} {nv kv pv : Value} {ss : List Value} {m N : Nat}
theorem used_any (h : Dv w S d D m N) : Calls Try.prog 23 #[.pointer (some ⟨d, 0, none⟩)] w fun x w' => x = .returned (.int .i64 (wrap64 (D.used : Int))) ∧ w = w' := by
  obtain ⟨ho, β, vs, nv, kv, pv, ss, h⟩ := h
  obtain ⟨_, c1, _⟩ := h.cells
  clear h ho
  go_enter Try.func23, Try.ntmps23
  go_wp2
  go_ret
  exact ⟨rfl, rfl⟩
theorem pending_any (h : Dv w S d D m N) : Calls Try.prog 22 #[.pointer (some ⟨d, 0, none⟩)] w fun x w' => x = .returned (.int .i64 (D.pend.length : Int)) ∧ w = w' := by
  obtain ⟨ho, β, vs, nv, kv, pv, ss, h⟩ := h
  obtain ⟨_, _, _, _, c4, _⟩ := h.cells
  obtain ⟨A, c, rfl, _, _⟩ := own_form h.pend
  clear h ho
  go_enter Try.func22, Try.ntmps22
  go_wp2
  go_ret
  exact ⟨rfl, rfl⟩
theorem struck_any (p : Option Addr) : Calls Try.prog 53 #[.pointer p] w fun x w' => x = .returned (.bool false) ∧ w = w' := by
  go_enter Try.func53, Try.ntmps53
  go_wp2
  go_ret
  exact ⟨rfl, rfl⟩
theorem rest_any (p : Option Addr) (b : Bool) : Calls Try.prog 81 #[.pointer p, .bool b] w fun x w' => x = .returned (.tuple #[]) ∧ w = w' := by
  go_enter Try.func81, Try.ntmps81
  go_wp2
  refine bodyPost_end (v := .tuple #[]) (by simp [results, Try.results81, go_sem]) rfl ?_
  exact ⟨rfl, rfl⟩
/-- What 'Loose' tells. -/
def looseV (D : Dr.D) (n : Bs) : Value :=
  match D.look n with
  | .ok i => .tuple #[.int .i64 ((D.at i).data.length - (D.at i).safe : Int), .int .i64 0]
  | .error e => .tuple #[.int .i64 0, .int .i64 e]
set_option maxRecDepth 100000 in
theorem loose_any (h : Dv w S d D m N) (hm : m ≤ 140737488355328) (n : Bs) : Calls Try.prog 34 #[.pointer (some ⟨d, 0, none⟩), encStr n] w fun x w' => x = .returned (looseV D n) ∧ Below w.heap.size w w' := by
  obtain ⟨ho, β, vs, nv, kv, pv, ss, h⟩ := h
  unfold looseV
  cases hl : D.look n with
  | error e =>
    have hne := look_ne hl
    have H := Lib.hid h
    have HL := Lib.hid hl
    clear h ho hl
    go_enter Try.func34, Try.ntmps34
    go_wp2_with (go_at_call 90; refine (find_any H.out n).mono ?_; rintro x w1 ⟨rfl, rfl⟩; rw [HL.out]; simp only [found])
    refine bodyPost_ret (v := .tuple #[.int .i64 0, .int .i64 e]) (by simp [results, Try.results34, go_sem]) rfl ?_
    exact ⟨rfl, Below.refl _ _⟩
  | ok i =>
    have hi := (look_in ho hl).2
    have hai := ho.at_ok i
    obtain ⟨A, c, hv, _, _⟩ := own_form (h.row i hi)
    obtain ⟨c0, c1, f0, f1⟩ := c_body (w := w.drew) (h.body i hi)
    rw [hv] at c0
    have H := Lib.hid h
    have HL := Lib.hid hl
    clear h ho hl hv
    go_enter Try.func34, Try.ntmps34
    go_upto_region 4 with (go_at_call 90; refine (find_any H.out n).mono ?_; rintro x w1 ⟨rfl, rfl⟩; rw [HL.out]; simp only [found])
    go_region
    go_wp2
    refine bodyPost_ret (v := .tuple #[.int .i64 ((D.at i).data.length - (D.at i).safe : Int), .int .i64 0]) (by simp [results, Try.results34, go_sem]) rfl ?_
    exact ⟨rfl, (Below.refl _ _).drew⟩
theorem clone_any {w : World} {base n : Nat} {v : Value} {x : Bs} (h : w.ownsRow base tU8 1 v n (cU8 x)) (hn : n ≤ 140737488355328) : Calls Try.prog 87 #[v] w fun e w' => ∃ v', e = .returned v' ∧ w'.ownsRow w.heap.size tU8 1 v' n (cU8 x) ∧ Below w.heap.size w w' := by
  have hl : x.length = n := by simpa using h.1
  obtain ⟨A, c, rfl, _, _⟩ := own_form h
  have hr := Rd.of_own h
  cases A with
  | none =>
    have h0 : n = 0 := by
      rcases h.2 with ⟨_, h0⟩ | ⟨g, cap, cur, e, _⟩
      · exact h0
      · cases e
    subst h0
    obtain rfl : x = [] := List.eq_nil_of_length_eq_zero hl
    refine (Try.bytes_Clone_nil 0 c w).mono ?_
    rintro e w' ⟨rfl, rfl⟩
    exact ⟨_, rfl, World.ownsRow_nil _ _ _ _, Below.refl _ _⟩
  | some a =>
    refine (Try.bytes_Clone_at a n c (x.map fun b => (b.toNat : Int)) w (by simpa using hl) hn (fun i hi => ?_)).mono ?_
    · refine hr.cell rfl hi ?_
      rw [List.getElem?_map, List.getElem?_eq_getElem (by omega), List.getD_eq_getElem?_getD, List.getElem?_map, List.getElem?_eq_getElem (by omega)]
      rfl
    · rintro e w' ⟨v', rfl, h1, _, h2⟩
      refine ⟨v', rfl, ?_, h2⟩
      rw [List.map_map] at h1
      exact h1
set_option maxRecDepth 100000 in
theorem read_any (h : Dv w S d D m N) (hm : m ≤ 140737488355328) (n : Bs) : Calls Try.prog 77 #[.pointer (some ⟨d, 0, none⟩), encStr n] w fun x w' => Below w.heap.size w w' ∧
    ((∃ e, D.look n = .error e ∧ x = .returned (.tuple #[.slice none 0 0, .int .i64 e])) ∨ ∃ i v, D.look n = .ok i ∧ x = .returned (.tuple #[v, .int .i64 0]) ∧ w'.ownsRow w.heap.size tU8 1 v (D.at i).data.length (cU8 (D.at i).data)) := by
  obtain ⟨ho, β, vs, nv, kv, pv, ss, h⟩ := h
  cases hl : D.look n with
  | error e =>
    have hne := look_ne hl
    have H := Lib.hid h
    have HL := Lib.hid hl
    clear h ho hl
    go_enter Try.func77, Try.ntmps77
    go_wp2_with (go_at_call 90; refine (find_any H.out n).mono ?_; rintro x w1 ⟨rfl, rfl⟩; rw [HL.out]; simp only [found])
    refine bodyPost_ret (v := .tuple #[.slice none 0 0, .int .i64 e]) (by simp [results, Try.results77, go_sem]) rfl ?_
    exact ⟨Below.refl _ _, .inl ⟨e, rfl, rfl⟩⟩
  | ok i =>
    have hi := (look_in ho hl).2
    have hai := (ho.at_ok i).2
    obtain ⟨c0, _, _, _⟩ := c_body (h.body i hi)
    have hrow := h.row i hi
    have H := Lib.hid h
    have HL := Lib.hid hl
    have HR := Lib.hid hrow
    clear h ho hl hrow
    go_enter Try.func77, Try.ntmps77
    go_wp2_with (first
      | (go_at_call 90; refine (find_any H.out n).mono ?_; rintro x w1 ⟨rfl, rfl⟩; rw [HL.out]; simp only [found])
      | (go_at_call 87; refine (clone_any HR.out (by omega)).mono ?_; rintro x w2 ⟨v2, rfl, hv2, hb2⟩))
    refine bodyPost_ret (v := .tuple #[v2, .int .i64 0]) (by simp [results, Try.results77, go_sem]) rfl ?_
    exact ⟨hb2, .inr ⟨i, v2, rfl, rfl, hv2⟩⟩
set_option maxRecDepth 100000 in
theorem list_any (h : Dv w S d D m N) (hN : N * 16 ≤ 140737488355328) : Calls Try.prog 78 #[.pointer (some ⟨d, 0, none⟩)] w fun x w' => ∃ v, x = .returned (.tuple #[v, .int .i64 0]) ∧ w'.ownsRow w.heap.size kStr 1 v D.now.length (cStr (D.now.map (·.1))) ∧ Below w.heap.size w w' := by
  obtain ⟨ho, β, vs, nv, kv, pv, ss, h⟩ := h
  obtain ⟨_, _, c2, _⟩ := h.cells
  have hn := h.now
  have hr : Rise (at_ β D.now) := rise_names ho.now (by simp [at_, Function.comp_def])
  have hl : (at_ β D.now).length * 16 ≤ 140737488355328 := by have := ho.lenN; simp only [at_, List.length_map]; omega
  have HN := Lib.hid hn
  have HR := Lib.hid hr
  clear h ho hn hr
  go_enter Try.func78, Try.ntmps78
  go_wp2_with (go_at_call 86; refine (names_any HN.out HR.out hl).mono ?_; rintro x w2 ⟨v2, rfl, hv2, hb2⟩)
  refine bodyPost_ret (v := .tuple #[v2, .int .i64 0]) (by simp [results, Try.results78, go_sem]) rfl ?_
  refine ⟨v2, rfl, ?_, hb2⟩
  simpa [at_, Function.comp_def] using hv2
end
end Go.Proofs.Ytelgcmcnebncmaa.Dr
