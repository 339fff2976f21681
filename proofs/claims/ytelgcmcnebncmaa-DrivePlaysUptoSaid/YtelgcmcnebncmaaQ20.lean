/- XL6, XL7, XL8, XSame, XL9: merged by tools/merge.py. -/
import Derived.Test.YtelgcmcnebncmaaQ19
import Derived.Test.YtelgcmcnebncmaaQ03
namespace Go.Proofs.Ytelgcmcnebncmaa.Dr
open Go.RowKit Go.Proofs Go.Proofs.Ytelgcmcnebncmaa.Ring

/-- The drive at d was made since w0, and nothing that lay there then has changed. -/
def Own (w0 w : World) (d : Nat) (D : Dr.D) (m N : Nat) : Prop := ∃ S, Dv w S d D m N ∧ Below w0.heap.size w0 w ∧ ∀ k, S k → w0.heap.size ≤ k
section
variable {w0 w w' : World} {d m N m1 N1 : Nat} {D D1 : Dr.D}
theorem Own.back (h : Own w0 w d D m N) : Below w0.heap.size w0 w := by obtain ⟨_, _, h, _⟩ := h; exact h
theorem Own.below (h : Own w0 w d D m N) (hb : Below w.heap.size w w') : Own w0 w' d D m N := by
  obtain ⟨S, h1, h2, h3⟩ := h
  exact ⟨S, h1.below hb, h2.trans (hb.mono h2.size), h3⟩
theorem Own.mono (h : Own w0 w d D m N) (hm : m ≤ m1) (hN : N ≤ N1) : Own w0 w d D m1 N1 := by
  obtain ⟨S, h1, h2, h3⟩ := h
  exact ⟨S, h1.mono hm hN, h2, h3⟩
theorem Own.ok (h : Own w0 w d D m N) : D.Ok m N := by obtain ⟨S, h1, _⟩ := h; exact h1.1
theorem Own.drew (h : Own w0 w d D m N) : Own w0 w.drew d D m N := h.below ⟨rfl, rfl, rfl, Nat.le_refl _, fun _ _ => rfl⟩
/-- A call that turns the drive. -/
theorem Own.call {f : FuncId} {args : Array Value} {R : Ending → Prop} (h : Own w0 w d D m N)
    (hc : ∀ S, Dv w S d D m N → (∀ k, S k → w0.heap.size ≤ k) → Calls Try.prog f args w fun x w' => R x ∧ Turn w w' S d D1 m1 N1) :
    Calls Try.prog f args w fun x w' => R x ∧ Own w0 w' d D1 m1 N1 := by
  obtain ⟨S, h1, h2, h3⟩ := h
  refine (hc S h1 h3).mono ?_
  rintro x w' ⟨hr, S1, a1, a2, a3⟩
  refine ⟨hr, S1, a1, h2.trans (a2.to_below h2.size fun k hk => h3 k hk), fun k hk => ?_⟩
  rcases a3 k hk with h | h
  · exact h3 k h
  · exact Nat.le_trans h2.size h
theorem Own.create (h : Own w0 w d D m N) (hN : (N + 1) * 24 ≤ 140737488355328) (n : Bs) {r : Dr.D × Int} (hr : D.create n = r) : Calls Try.prog 28 #[.pointer (some ⟨d, 0, none⟩), encStr n] w fun x w' => x = .returned (.int .i64 r.2) ∧ Own w0 w' d r.1 m (N + 1) := by
  subst hr
  exact h.call fun S hD _ => create_any hD hN n
theorem Own.append (h : Own w0 w d D m N) (n : Bs) {A : Option Addr} {k c : Nat} {x : Bs} (hx : Rd w w.heap.size 1 A k (cU8 x)) (hm : m + k ≤ 140737488355328) {r : Dr.D × Int} (hr : D.append n x = r) :
    Calls Try.prog 29 #[.pointer (some ⟨d, 0, none⟩), encStr n, .slice A k c] w fun y w' => y = .returned (.int .i64 r.2) ∧ Own w0 w' d r.1 (m + k) N := by
  subst hr
  exact h.call fun S hD _ => append_any hD n hx hm
theorem Own.sync (h : Own w0 w d D m N) (n : Bs) {r : Dr.D × Int} (hr : D.sync n = r) : Calls Try.prog 30 #[.pointer (some ⟨d, 0, none⟩), encStr n] w fun x w' => x = .returned (.int .i64 r.2) ∧ Own w0 w' d r.1 m N := by
  subst hr
  exact h.call fun S hD _ => sync_any hD n
theorem Own.syncDir (h : Own w0 w d D m N) {r : Dr.D} (hr : D.syncDir = r) : Calls Try.prog 31 #[.pointer (some ⟨d, 0, none⟩)] w fun x w' => x = .returned (.int .i64 0) ∧ Own w0 w' d r m N := by
  subst hr
  exact h.call fun S hD _ => syncDir_any hD
theorem Own.shows (h : Own w0 w d D m N) (hm : m ≤ 140737488355328) {n x : Bs} {i : Nat} (hl : D.look n = .ok i) (hx : (D.at i).data = x) :
    Calls Try.prog 33 #[.pointer (some ⟨d, 0, none⟩), encStr n, encStr x] w fun y w' => y = .returned (.bool true) ∧ Own w0 w' d D m N := by
  have h0 := h
  obtain ⟨S, h1, _⟩ := h
  refine (shows_yes h1 hm hl hx).mono ?_
  rintro y w' ⟨rfl, hb⟩
  exact ⟨rfl, h0.below hb⟩
theorem Own.pending (h : Own w0 w d D m N) {k : Nat} (hk : D.pend.length = k) : Calls Try.prog 22 #[.pointer (some ⟨d, 0, none⟩)] w fun x w' => x = .returned (.int .i64 (k : Int)) ∧ w = w' := by
  subst hk
  obtain ⟨S, h1, _⟩ := h
  exact pending_any h1
theorem Own.used (h : Own w0 w d D m N) {k : Int} (hk : wrap64 (D.used : Int) = k) : Calls Try.prog 23 #[.pointer (some ⟨d, 0, none⟩)] w fun x w' => x = .returned (.int .i64 k) ∧ w = w' := by
  subst hk
  obtain ⟨S, h1, _⟩ := h
  exact used_any h1
/-- A fate that lies below, where the drive lies above. -/
theorem Own.crash (h : Own w0 w d D m N) (hm : m ≤ 140737488355328) (hN : N * 24 ≤ 140737488355328) {Ad Ac : Option Addr} {nd cd nc cc : Nat} {dirs : List Bool} {cuts : List Int} (hf : FateIn w w0.heap.size dirs cuts Ad nd cd Ac nc cc) {r : Dr.D} (hr : D.crash dirs cuts = r) :
    Calls Try.prog 16 #[.pointer (some ⟨d, 0, none⟩), .agg #[.slice Ad nd cd, .slice Ac nc cc]] w fun x w' => x = .returned (.int .i64 0) ∧ Own w0 w' d r m N := by
  subst hr
  have hs := h.back.size
  refine h.call fun S hD hS => crash_any hD hm hN (hf.dirs.more hs) (hf.cuts.more hs) hf.cut ?_ ?_
  · intro ad h0 e hk
    obtain ⟨ad', e', hb, _⟩ := hf.dirs.2 h0
    rw [e] at e'
    injection e' with e'
    have := hS _ hk
    rw [← e'] at hb
    omega
  · intro ad h0 e hk
    obtain ⟨ad', e', hb, _⟩ := hf.cuts.2 h0
    rw [e] at e'
    injection e' with e'
    have := hS _ hk
    rw [← e'] at hb
    omega
theorem FateIn.none_ (w : World) (B : Nat) : FateIn w B [] [] none 0 0 none 0 0 :=
  ⟨Rd.none_, Rd.none_, fun _ => rfl, fun _ => rfl, Nat.zero_le _, Nat.zero_le _, fun x h => by cases h⟩
theorem Own.list (h : Own w0 w d D m N) (hN : N * 16 ≤ 140737488355328) : Calls Try.prog 78 #[.pointer (some ⟨d, 0, none⟩)] w fun x w' => ∃ A c, x = .returned (.tuple #[.slice A D.now.length c, .int .i64 0]) ∧ w'.ownsRow w.heap.size kStr 1 (.slice A D.now.length c) D.now.length (cStr (D.now.map (·.1))) ∧ Own w0 w' d D m N := by
  have h0 := h
  obtain ⟨S, h1, _⟩ := h
  refine (list_any h1 hN).mono ?_
  rintro x w' ⟨v, rfl, ho, hb⟩
  obtain ⟨A, c, rfl, _, _⟩ := own_form ho
  exact ⟨A, c, rfl, ho, h0.below hb⟩
end
theorem rd_new (w : World) (x : Bs) : Rd (w.alloc (.cells (cU8 x).toArray tU8)) (w.alloc (.cells (cU8 x).toArray tU8)).heap.size 1 (some ⟨w.heap.size, 0, none⟩) x.length (cU8 x) :=
  ⟨by simp, fun h => ⟨_, rfl, by simp, new_cells w (cU8 x) tU8⟩⟩
abbrev aw1 : Dr.D := ⟨10, [⟨[], 0⟩], [([97], 0)], [], [[([97], some 0)]]⟩
abbrev aw2 : Dr.D := ⟨10, [⟨[1, 2], 0⟩], [([97], 0)], [], [[([97], some 0)]]⟩
abbrev aw3 : Dr.D := ⟨10, [⟨[1, 2], 2⟩], [([97], 0)], [], [[([97], some 0)]]⟩
abbrev aw4 : Dr.D := ⟨10, [⟨[1, 2], 2⟩], [([97], 0)], [([97], 0)], []⟩
abbrev aw5 : Dr.D := ⟨10, [⟨[1, 2, 3], 2⟩], [([97], 0)], [([97], 0)], []⟩
abbrev aw6 : Dr.D := ⟨10, [⟨[1, 2, 3], 2⟩, ⟨[], 0⟩], [([97], 0), ([98], 1)], [([97], 0)], [[([98], some 1)]]⟩
abbrev aw7 : Dr.D := ⟨10, [⟨[1, 2], 2⟩], [([97], 0)], [([97], 0)], []⟩
theorem aw_1 : (Dr.D.fresh 10).create [97] = (aw1, 0) := by kernel_rfl
theorem aw_2 : aw1.append [97] [1, 2] = (aw2, 0) := by kernel_rfl
theorem aw_3 : aw2.sync [97] = (aw3, 0) := by kernel_rfl
theorem aw_4 : aw3.syncDir = aw4 := by kernel_rfl
theorem aw_5 : aw4.append [97] [3] = (aw5, 0) := by kernel_rfl
theorem aw_6 : aw5.create [98] = (aw6, 0) := by kernel_rfl
theorem aw_7 : aw6.crash [] [] = aw7 := by kernel_rfl
theorem aw_l6 : aw6.look [97] = .ok 0 := by kernel_rfl
theorem aw_l7 : aw7.look [97] = .ok 0 := by kernel_rfl
theorem aw_u6 : wrap64 (aw6.used : Int) = 3 := by
  rw [show aw6.used = 3 by kernel_rfl]
  exact IntWalk.wrap64_in _ (by omega)
set_option maxRecDepth 100000 in
set_option maxHeartbeats 4000000 in
theorem awake_any (w : World) : Calls Try.prog 25 #[] w fun x w' => x = .returned (.bool true) ∧ Below w.heap.size w w' := by
  go_enter Try.func25, Try.ntmps25
  go_upto_region 4 with (go_at_call 57; refine (new_any 10 (by omega) 0 0 w).mono ?_; rintro x w1 ⟨d, rfl, _, hD, hb⟩; have H0 := Lib.hid (show Own w w1 d (Dr.D.fresh 10) 0 0 from ⟨_, hD, hb, fun k hk => hk.1⟩); clear hD hb)
  go_upto_region 6 with (first
    | (go_at_call 28; refine (Own.create H0.out (by omega) [97] aw_1).mono ?_; rintro x w2 ⟨rfl, h⟩; have H1 := Lib.hid h; clear h H0)
    | (go_at_call 29; refine (Own.append (H1.out.below ((Below.refl _ _).alloc (Nat.le_refl _) _)) [97] (rd_new _ [1, 2]) (by simp) aw_2).mono ?_; rintro x w3 ⟨rfl, h⟩; have H2 := Lib.hid h; clear h H1)
    | (go_at_call 30; refine (Own.sync H2.out [97] aw_3).mono ?_; rintro x w4 ⟨rfl, h⟩; have H3 := Lib.hid h; clear h H2)
    | (go_at_call 31; refine (Own.syncDir H3.out aw_4).mono ?_; rintro x w5 ⟨rfl, h⟩; have H4 := Lib.hid h; clear h H3)
    | (go_at_call 29; refine (Own.append (H4.out.below ((Below.refl _ _).alloc (Nat.le_refl _) _)) [97] (rd_new _ [3]) (by simp) aw_5).mono ?_; rintro x w6 ⟨rfl, h⟩; have H5 := Lib.hid h; clear h H4)
    | (go_at_call 28; refine (Own.create H5.out (by omega) [98] aw_6).mono ?_; rintro x w7 ⟨rfl, h⟩; have H6 := Lib.hid h; clear h H5))
  go_upto_region 8 with (first
    | (go_at_call 33; refine (Own.shows H6.out (by simp) aw_l6 (x := [1, 2, 3]) rfl).mono ?_; rintro x w8 ⟨rfl, h⟩; have H7 := Lib.hid h; clear h H6)
    | (go_at_call 22; refine (Own.pending H7.out (k := 1) rfl).mono ?_; rintro x w9 ⟨rfl, rfl⟩)
    | (go_at_call 23; refine (Own.used H7.out aw_u6).mono ?_; rintro x w9 ⟨rfl, rfl⟩))
  go_upto_region 9 with (go_at_call 16; refine (Own.crash H7.out (by simp) (by simp) (FateIn.none_ _ _) aw_7).mono ?_; rintro x w10 ⟨rfl, h⟩; have H8 := Lib.hid h; clear h H7)
  go_upto_region 10 with (go_at_call 78; refine (Own.list H8.out (by simp)).mono ?_; rintro x w11 ⟨A, c, rfl, ho, h⟩; obtain ⟨g, rfl⟩ := own_some ho (by show 0 < 1; omega); have HO := Lib.hid ho; have H9 := Lib.hid h; clear ho h H8)
  have e0 : w11.cell? ⟨g, 0, none⟩ = some (encStr [97]) := own_cell HO.out (k := 0) (by show 0 < 1; omega) rfl
  go_wp2_with (go_at_call 33; refine (Own.shows H9.out (by simp) aw_l7 (x := [1, 2]) rfl).mono ?_; rintro x w12 ⟨rfl, h⟩; have H10 := Lib.hid h; clear h)
  go_ret
  exact ⟨rfl, H10.out.back⟩
end Go.Proofs.Ytelgcmcnebncmaa.Dr
namespace Go.Proofs.Ytelgcmcnebncmaa.Dr
open Go.RowKit Go.Proofs Go.Proofs.Ytelgcmcnebncmaa.Ring

set_option maxRecDepth 100000 in
set_option maxHeartbeats 4000000 in
theorem touches_any (x : Av) (n : Bs) (w : World) : Calls Try.prog 32 #[actV x.a x.A x.n x.c x.Ad x.nd x.cd x.Au x.nu x.cu, encStr n] w fun y w' => y = .returned (.bool (touches x.a n)) ∧ Below w.heap.size w w' := by
  obtain ⟨a, A, na, c, Ad, nd, cd, Au, nu, cu⟩ := x
  show Calls Try.prog 32 #[actV a A na c Ad nd cd Au nu cu, encStr n] w fun y w' => y = .returned (.bool (touches a n)) ∧ Below w.heap.size w w'
  obtain ⟨r, hr⟩ : ∃ r, touches a n = r := ⟨_, rfl⟩
  rw [hr]
  have HR := Lib.hid hr
  clear hr
  obtain ⟨V, hV⟩ : ∃ V, w.heap.size = V := ⟨_, rfl⟩
  rw [hV]
  go_enter Try.func32, Try.ntmps32
  go_upto_region 1 with (fail)
  obtain ⟨w1, hw1⟩ : ∃ w1, w.alloc (.cells #[.int .i64 a.kind, encStr a.name, encStr a.dst, .int .i64 a.n, .slice A na c, .slice Ad nd cd, .slice Au nu cu] tAct) = w1 := ⟨_, rfl⟩
  have hA1 : w1.heap[V]? = some (.cells #[.int .i64 a.kind, encStr a.name, encStr a.dst, .int .i64 a.n, .slice A na c, .slice Ad nd cd, .slice Au nu cu] tAct (0, 0)) := by
    rw [← hw1, ← hV]
    exact heap_alloc_new _ _
  have hb1 : Below V w w1 := by
    rw [← hw1, ← hV]
    exact (Below.refl _ _).alloc (Nat.le_refl _) _
  rw [hw1]
  clear hw1 hV
  have f0 : w1.cell? ⟨V, 0, none⟩ = some (.int .i64 a.kind) := by rw [cell_of_row w1 V _ _ _ _ hA1]; rfl
  have f1 : w1.cell? ⟨V, 1, none⟩ = some (encStr a.name) := by rw [cell_of_row w1 V _ _ _ _ hA1]; rfl
  have f2 : w1.cell? ⟨V, 2, none⟩ = some (encStr a.dst) := by rw [cell_of_row w1 V _ _ _ _ hA1]; rfl
  have HB := Lib.hid hb1
  clear hA1 hb1
  by_cases k1 : a.kind = 0 ∨ a.kind = 1 ∨ a.kind = 4 ∨ a.kind = 14 ∨ a.kind = 15
  · have h1 : decide (a.name = n) = r := by have := HR.out; unfold touches at this; rwa [if_pos k1] at this
    by_cases hn : a.name = n
    · obtain rfl : r = true := by rw [← h1]; exact decide_eq_true hn
      clear h1
      rcases k1 with k | k | k | k | k
      all_goals
        go_wp2
        go_ret
        exact ⟨rfl, HB.out⟩
    · obtain rfl : r = false := by rw [← h1]; exact decide_eq_false hn
      have hq : (a.name == n) = false := by simpa using hn
      clear h1
      rcases k1 with k | k | k | k | k
      all_goals
        go_wp2
        go_ret
        exact ⟨rfl, HB.out⟩
  · have k10 : ¬ a.kind = 0 := fun h => k1 (.inl h)
    have k11 : ¬ a.kind = 1 := fun h => k1 (.inr (.inl h))
    have k12 : ¬ a.kind = 4 := fun h => k1 (.inr (.inr (.inl h)))
    have k13 : ¬ a.kind = 14 := fun h => k1 (.inr (.inr (.inr (.inl h))))
    have k14 : ¬ a.kind = 15 := fun h => k1 (.inr (.inr (.inr (.inr h))))
    by_cases k3 : a.kind = 3
    · have h1 : (decide (a.name = n) || decide (a.dst = n)) = r := by have := HR.out; unfold touches at this; rwa [if_neg k1, if_pos k3] at this
      clear k1
      by_cases hn : a.name = n
      · obtain rfl : r = true := by rw [← h1, decide_eq_true hn]; rfl
        clear h1
        go_wp2
        go_ret
        exact ⟨rfl, HB.out⟩
      · by_cases hd : a.dst = n
        · obtain rfl : r = true := by rw [← h1, decide_eq_true hd]; simp
          have hq : (a.name == n) = false := by simpa using hn
          clear h1
          go_wp2
          go_ret
          exact ⟨rfl, HB.out⟩
        · obtain rfl : r = false := by rw [← h1, decide_eq_false hn, decide_eq_false hd]; rfl
          have hq : (a.name == n) = false := by simpa using hn
          have hq2 : (a.dst == n) = false := by simpa using hd
          clear h1
          go_wp2
          go_ret
          exact ⟨rfl, HB.out⟩
    · have h1 : decide (a.kind = 16) = r := by have := HR.out; unfold touches at this; rwa [if_neg k1, if_neg k3] at this
      clear k1
      by_cases k16 : a.kind = 16
      · obtain rfl : r = true := by rw [← h1]; exact decide_eq_true k16
        clear h1
        go_wp2
        go_ret
        exact ⟨rfl, HB.out⟩
      · obtain rfl : r = false := by rw [← h1]; exact decide_eq_false k16
        clear h1
        go_wp2
        go_ret
        exact ⟨rfl, HB.out⟩
end Go.Proofs.Ytelgcmcnebncmaa.Dr
namespace Go.Proofs.Ytelgcmcnebncmaa.Dr
open Go.RowKit Go.Proofs Go.Proofs.Ytelgcmcnebncmaa.Ring

section
variable {w0 w w' : World} {d m N m1 N1 : Nat} {D D1 : Dr.D}
theorem Own.played (h : Own w0 w d D m N) {B : Nat} (hB : B ≤ w0.heap.size) {A : Option Addr} {n c : Nat} {l : List Av} (ha : Acts w B A n l) (hm : m ≤ 35184372088832) (hN : N ≤ 17592186044) :
    Calls Try.prog 27 #[.pointer (some ⟨d, 0, none⟩), .slice A n c] w fun x w' => x = .returned (.tuple #[]) ∧ Own w0 w' d (plays D (l.map (·.a))) (m + 1099511627776) (N + 1048576) := by
  have hs := h.back.size
  exact h.call fun S hD hS => played_any hD (Nat.le_trans hB hs) (fun k hk => Nat.le_trans hB (hS k hk)) ha hm hN
theorem Own.loose (h : Own w0 w d D m N) (hm : m ≤ 140737488355328) (n : Bs) {i : Nat} (hl : D.look n = .ok i) {q : Int} (hq : ((D.at i).data.length : Int) - (D.at i).safe = q) : Calls Try.prog 34 #[.pointer (some ⟨d, 0, none⟩), encStr n] w fun x w' => x = .returned (.tuple #[.int .i64 q, .int .i64 0]) ∧ Own w0 w' d D m N := by
  have h0 := h
  obtain ⟨S, h1, _⟩ := h
  refine (loose_any h1 hm n).mono ?_
  rintro x w' ⟨rfl, hb⟩
  refine ⟨?_, h0.below hb⟩
  unfold looseV
  rw [hl, ← hq]
/-- An act is done to a drive that was made since: what is answered lies in new memory. -/
theorem Own.act (h : Own w0 w d D m N) {B : Nat} (hB : B ≤ w0.heap.size) {x : Av} (hx : x.In w B) (hm : m ≤ 70368744177664) (hN : (N + 1) * 40 ≤ 70368744177664) :
    Calls Try.prog 14 #[.pointer (some ⟨d, 0, none⟩), actV x.a x.A x.n x.c x.Ad x.nd x.cd x.Au x.nu x.cu] w fun y w' => ∃ vd vn vf dv,
      y = .returned (.tuple #[.agg #[.int .i64 (D.step x.a).2.code, .int .i64 (D.step x.a).2.n, vd, vn, vf], .bool true]) ∧ AnAt w' w.heap.size vd vn vf dv (D.step x.a).2 ∧ Own w0 w' d (D.step x.a).1 (m + 1048576) (N + 1) := by
  have hs := h.back.size
  obtain ⟨S, h1, h2, h3⟩ := h
  refine (do_any h1 (Nat.le_trans hB hs) (fun k hk => Nat.le_trans hB (h3 k hk)) hx hm hN).mono ?_
  rintro y w' ⟨vd, vn, vf, dv, rfl, han, S1, a1, a2, a3⟩
  refine ⟨vd, vn, vf, dv, rfl, han, S1, a1.mono (by have := hx.n_le; omega) (Nat.le_refl _), h2.trans (a2.to_below h2.size fun k hk => h3 k hk), fun k hk => ?_⟩
  rcases a3 k hk with h | h
  · exact h3 k h
  · exact Nat.le_trans h2.size h
end
theorem FateIn.below {w w' : World} {B : Nat} {ds : List Bool} {us : List Int} {Ad Au : Option Addr} {nd cd nu cu : Nat} (h : FateIn w B ds us Ad nd cd Au nu cu) (hb : Below B w w') : FateIn w' B ds us Ad nd cd Au nu cu :=
  ⟨h.dirs.below hb, h.cuts.below hb, h.nilD, h.nilC, h.nd_le, h.nu_le, h.cut⟩
theorem FateIn.more {w : World} {B B' : Nat} {ds : List Bool} {us : List Int} {Ad Au : Option Addr} {nd cd nu cu : Nat} (h : FateIn w B ds us Ad nd cd Au nu cu) (hb : B ≤ B') : FateIn w B' ds us Ad nd cd Au nu cu :=
  ⟨h.dirs.more hb, h.cuts.more hb, h.nilD, h.nilC, h.nd_le, h.nu_le, h.cut⟩
abbrev tKeep := 53
/-- A Keep as it came in. -/
structure Kv where
  how : Int
  room : Int
  Af : Option Addr
  nf : Nat
  cf : Nat
  fl : List Fl
  Aa : Option Addr
  na : Nat
  ca : Nat
  la : List Av
  name : Bs
  Ax : Option Addr
  nx : Nat
  cx : Nat
  data : Bs
  Am : Option Addr
  nm : Nat
  cm : Nat
  lm : List Av
  dirs : List Bool
  cuts : List Int
  Ad : Option Addr
  nd : Nat
  cd : Nat
  Au : Option Addr
  nu : Nat
  cu : Nat
def Kv.cells (k : Kv) : List Value := [.int .i64 k.how, .int .i64 k.room, .slice k.Af k.nf k.cf, .slice k.Aa k.na k.ca, encStr k.name, .slice k.Ax k.nx k.cx, .slice k.Am k.nm k.cm, .slice k.Ad k.nd k.cd, .slice k.Au k.nu k.cu]
structure Kv.In (w : World) (B : Nat) (k : Kv) : Prop where
  files : Files w B k.Af k.nf k.fl
  acts : Acts w B k.Aa k.na k.la
  name : k.name.length ≤ 1048576
  data : Rd w B 1 k.Ax k.nx (cU8 k.data)
  nil : k.Ax = none → k.cx = 0
  n_le : k.nx ≤ 1048576
  more : Acts w B k.Am k.nm k.lm
  fate : FateIn w B k.dirs k.cuts k.Ad k.nd k.cd k.Au k.nu k.cu
theorem Kv.In.below {w w' : World} {B : Nat} {k : Kv} (h : k.In w B) (hb : Below B w w') : k.In w' B :=
  ⟨h.files.below hb, h.acts.below hb, h.name, h.data.below hb, h.nil, h.n_le, h.more.below hb, h.fate.below hb⟩
/-- What 'made' gives, as one pointer. -/
def MadeP (w w' : World) (how room : Int) (fs : List (Bs × Bs)) (p : Option Addr) : Prop := Below w.heap.size w w' ∧
  ((begun how room fs = none ∧ p = none) ∨ ∃ D d, begun how room fs = some D ∧ p = some ⟨d, 0, none⟩ ∧ Own w w' d D 1099511627776 1048576)
theorem Made.ptr {w w' : World} {how room : Int} {fs : List (Bs × Bs)} {x : Ending} (h : Made w w' how room fs x) : ∃ p, x = .returned (.tuple #[.pointer p, .bool true]) ∧ MadeP w w' how room fs p := by
  obtain ⟨hb, (⟨h1, rfl⟩ | ⟨D, d, S, h1, rfl, h2, h3⟩)⟩ := h
  · exact ⟨_, rfl, hb, .inl ⟨h1, rfl⟩⟩
  · exact ⟨_, rfl, hb, .inr ⟨D, d, h1, rfl, S, h2, hb, h3⟩⟩
section
variable {H : Type} {enc : TypeId × Value → H} {W : World}
set_option maxRecDepth 100000 in
theorem open_keep {fuel : Nat} {cs : List Value} {x : DataW H × List MemPlace} (h : DataW.trod enc Try.prog W 0 (fun _ => true) true fuel 53 cs = some x) (hb : Rows.uptoBulk x.1 ≤ 1048576) :
    ∃ k : Kv, cs = k.cells ∧ k.In W W.heap.size := by
  obtain ⟨xs, n, _, hx, hlen, hxl, hf⟩ := DataW.trod_struct Try.underlying53 h
  rw [show Try.prog.cellsOf 53 = 9 by kernel_rfl] at hlen
  obtain ⟨c0, c1, c2, c3, c4, c5, c6, c7, c8, rfl⟩ : ∃ a b c d e f g h i, cs = [a, b, c, d, e, f, g, h, i] := by
    match cs, hlen with
    | [a, b, c, d, e, f, g, h, i], _ => exact ⟨a, b, c, d, e, f, g, h, i, rfl⟩
  rw [hx] at hb
  dsimp only at hb
  obtain ⟨y0, e0, t0⟩ := field hxl hf (i := 0) rfl (t := 24) (k := 3) (o := 0) rfl rfl (by kernel_rfl)
  obtain ⟨y1, e1, t1⟩ := field hxl hf (i := 1) rfl (t := 25) (k := 1) (o := 3) rfl rfl (by kernel_rfl)
  obtain ⟨y2, e2, t2⟩ := field hxl hf (i := 2) rfl (t := 9) (k := 1) (o := 4) rfl rfl (by kernel_rfl)
  obtain ⟨y3, e3, t3⟩ := field hxl hf (i := 3) rfl (t := 35) (k := 1) (o := 5) rfl rfl (by kernel_rfl)
  obtain ⟨y4, e4, t4⟩ := field hxl hf (i := 4) rfl (t := 25) (k := 1) (o := 6) rfl rfl (by kernel_rfl)
  obtain ⟨y5, e5, t5⟩ := field hxl hf (i := 5) rfl (t := 29) (k := 2) (o := 7) rfl rfl (by kernel_rfl)
  have b0 := part_bulk e0
  have b1 := part_bulk e1
  have b2 := part_bulk e2
  have b3 := part_bulk e3
  have b4 := part_bulk e4
  have b5 := part_bulk e5
  obtain ⟨how, room, Af, nf, cf, fl, v0, hfl, _, _⟩ := open_start t0 (by omega)
  obtain ⟨Aa, na, ca, la, v1, hla⟩ := open_acts t1 (by omega)
  obtain ⟨nm, v2, l2⟩ := open_text Try.underlying9 t2 (by omega)
  obtain ⟨A, n3, c, b, v3, r3, z3, l3⟩ := open_bytes Try.underlying35 t3 (by omega)
  obtain ⟨Am, nm2, cm, lm, v4, hlm⟩ := open_acts t4 (by omega)
  obtain ⟨dirs, cuts, Ad, nd, cd, Au, nu, cu, v5, hfa⟩ := open_fate t5 (by omega)
  simp at v0 v1 v2 v3 v4 v5
  obtain ⟨v0, v6, v7⟩ := v0
  obtain ⟨v5, v8⟩ := v5
  subst v0 v1 v2 v3 v4 v5 v6 v7 v8
  exact ⟨⟨how, room, Af, nf, cf, fl, Aa, na, ca, la, nm, A, n3, c, b, Am, nm2, cm, lm, dirs, cuts, Ad, nd, cd, Au, nu, cu⟩, rfl, hfl, hla, l2, r3, z3, l3, hlm, hfa⟩
end
theorem agg_of {cs : Array Value} {l : List Value} (h : (Value.agg cs).cells.toList = l) : cs = l.toArray := by
  subst h
  simp [Value.cells]
/-- The cells of a Keep that was boxed. -/
theorem keep_box {w : World} {V : Nat} {k : Kv} (h : w.heap[V]? = some (.cells k.cells.toArray tKeep (0, 0))) : w.rangeAt V 0 k.cells := by
  intro j v hv
  rw [Nat.zero_add, cell_of_row w V _ _ _ _ h]
  simpa using hv
theorem keep_cells {w : World} {V : Nat} {k : Kv} (h : w.rangeAt V 0 k.cells) : w.cell? ⟨V, 3, none⟩ = some (.slice k.Aa k.na k.ca) ∧ w.cell? ⟨V, 4, none⟩ = some (encStr k.name) ∧ w.cell? ⟨V, 5, none⟩ = some (.slice k.Ax k.nx k.cx) ∧ w.cell? ⟨V, 6, none⟩ = some (.slice k.Am k.nm k.cm) ∧
    w.rangeAt V 7 [.slice k.Ad k.nd k.cd, .slice k.Au k.nu k.cu] := by
  refine ⟨h 3 _ rfl, h 4 _ rfl, h 5 _ rfl, h 6 _ rfl, ?_⟩
  intro j v hv
  match j, hv with
  | 0, hv => cases hv; exact h 7 _ rfl
  | 1, hv => cases hv; exact h 8 _ rfl
  | j + 2, hv => cases hv
end Go.Proofs.Ytelgcmcnebncmaa.Dr
namespace Go.Proofs.Ytelgcmcnebncmaa.Dr
open Go.RowKit Go.Proofs Go.Proofs.Ytelgcmcnebncmaa.Ring

theorem FilesRd.below {w w' : World} {A : Option Addr} {n : Nat} {fs : List (Bs × Bs)} (h : FilesRd w A n fs) (hb : Below w.heap.size w w') : FilesRd w' A n fs := by
  refine ⟨h.1, fun i f hf => ?_⟩
  obtain ⟨g, Af, cf, e, hg, h1, h2, h3⟩ := h.2 i f hf
  exact ⟨g, Af, cf, e, Nat.lt_of_lt_of_le hg hb.size, (hb.cell (p := ⟨g, i * 2, none⟩) hg).trans h1, (hb.cell (p := ⟨g, i * 2 + 1, none⟩) hg).trans h2, h3.next hb⟩
theorem FilesAt.rd {w : World} {base n c : Nat} {A : Option Addr} {dv : List Value} {fs : List (Bs × Bs)} (h : FilesAt w base (.slice A n c) dv fs) (hn : fs.length = n) : FilesRd w A n fs := by
  refine ⟨hn, fun i f hf => ?_⟩
  have hi := (List.getElem?_eq_some_iff.1 hf).1
  have hr := h.row
  rw [hn] at hr
  obtain ⟨g, rfl⟩ := own_some hr (by omega)
  obtain ⟨x, hx⟩ : ∃ x, dv[i]? = some x := ⟨_, List.getElem?_eq_getElem (by have := h.len; omega)⟩
  obtain ⟨c0, c1⟩ := cF_at fs dv i f x hf hx
  have hd := h.data i f x hf hx
  obtain ⟨Af, cf, rfl, _, _⟩ := own_form hd
  obtain ⟨cur, hcur⟩ := own_lt hr (g := g) rfl
  exact ⟨g, Af, cf, rfl, (Array.getElem?_eq_some_iff.1 hcur).1, own_cellS hr c0, own_cellS hr c1, Rd.of_own hd⟩
set_option maxRecDepth 100000 in
set_option maxHeartbeats 4000000 in
theorem sameFiles_any {w : World} {A A' : Option Addr} {n c c' : Nat} {fs : List (Bs × Bs)} (h : FilesRd w A n fs) (h' : FilesRd w A' n fs) (hn : n ≤ 17592186044416) :
    Calls Try.prog 19 #[.slice A n c, .slice A' n c'] w fun x w' => x = .returned (.bool true) ∧ Below w.heap.size w w' := by
  have H := Lib.hid h
  have H' := Lib.hid h'
  clear h h'
  go_enter Try.func19, Try.ntmps19
  go_upto_region 4 with (fail)
  go_loopw [5] (fun iv wr => ∃ i : Nat, iv = .int .i64 (i : Int) ∧ i ≤ n ∧ Below w.heap.size w wr) (fun iv _ => n - (intOf iv).toNat)
  case atStart => exact ⟨0, rfl, by omega, Below.refl _ _⟩
  case round =>
    obtain ⟨i, rfl, hi, hb⟩ := hrel
    by_cases hlt : i < n
    · obtain ⟨f, hf⟩ : ∃ f, fs[i]? = some f := ⟨_, List.getElem?_eq_getElem (by have := H.out.1; omega)⟩
      obtain ⟨g, Af, cf, rfl, hg, a0, a1, ar⟩ := (H.out.below hb).2 i f hf
      obtain ⟨g', Af', cf', rfl, hg', b0, b1, br⟩ := (H'.out.below hb).2 i f hf
      have t1 := run_text (P := Try.prog) wr.drew 35 9 5 Try.underlying35 Try.underlying5 Try.underlying9 cf ar.drew
      have t2 := run_text (P := Try.prog) wr.drew 35 9 5 Try.underlying35 Try.underlying5 Try.underlying9 cf' br.drew
      have d1 : wr.drew.cell? ⟨g, i * 2, none⟩ = _ := a0
      have d2 : wr.drew.cell? ⟨g, i * 2 + 1, none⟩ = _ := a1
      have d3 : wr.drew.cell? ⟨g', i * 2, none⟩ = _ := b0
      have d4 : wr.drew.cell? ⟨g', i * 2 + 1, none⟩ = _ := b1
      have hlt2 : (i : Int) < (n : Int) := by omega
      have HB := Lib.hid hb
      clear hb hf hg hg' ar br
      go_upto_region 6 with (fail)
      go_region
      go_wp2
      have hb2 : Below w.heap.size w wr.drew := HB.out.trans ⟨rfl, rfl, rfl, Nat.le_refl _, fun _ _ => rfl⟩
      have HB2 := Lib.hid hb2
      clear hb2 a0 a1 b0 b1 d1 d2 d3 d4 t1 t2
      go_roundw
      case rel => exact ⟨i + 1, by go_num, by omega, HB2.out⟩
      case measure => simp [intOf]; omega
    · obtain rfl : n = i := by omega
      have HB := Lib.hid hb
      clear hb
      go_wp2
      go_ret
      exact ⟨rfl, HB.out⟩
/-- A drive that was made since w0, beside memory from block lo to wh's end, which stands as it stood in wh. -/
def Beside (w0 wh w : World) (lo d : Nat) (D : Dr.D) (m N : Nat) : Prop := ∃ S, Dv w S d D m N ∧ Below w0.heap.size w0 w ∧ (∀ k, S k → w0.heap.size ≤ k) ∧ (∀ k, S k → k < lo ∨ wh.heap.size ≤ k) ∧ wh.heap.size ≤ w.heap.size ∧ ∀ k, lo ≤ k → k < wh.heap.size → w.heap[k]? = wh.heap[k]?
section
variable {w0 w w' wh : World} {lo d m N m1 N1 : Nat} {D D1 : Dr.D}
theorem Own.beside (h : Own w0 w d D m N) (hb : Below w.heap.size w wh) : Beside w0 wh wh w.heap.size d D m N := by
  obtain ⟨S, h1, h2, h3⟩ := h
  exact ⟨S, h1.below hb, h2.trans (hb.mono h2.size), h3, fun k hk => .inl (h1.low k hk), Nat.le_refl _, fun _ _ _ => rfl⟩
theorem Beside.own (h : Beside w0 wh w lo d D m N) : Own w0 w d D m N := by
  obtain ⟨S, h1, h2, h3, _⟩ := h
  exact ⟨S, h1, h2, h3⟩
theorem Beside.below (h : Beside w0 wh w lo d D m N) (hb : Below w.heap.size w w') : Beside w0 wh w' lo d D m N := by
  obtain ⟨S, h1, h2, h3, h4, h5, h6⟩ := h
  exact ⟨S, h1.below hb, h2.trans (hb.mono h2.size), h3, h4, Nat.le_trans h5 hb.size, fun k hk1 hk2 => (hb.block k (by omega)).trans (h6 k hk1 hk2)⟩
theorem Beside.mono (h : Beside w0 wh w lo d D m N) (hm : m ≤ m1) (hN : N ≤ N1) : Beside w0 wh w lo d D m1 N1 := by
  obtain ⟨S, h1, h2, h3, h4⟩ := h
  exact ⟨S, h1.mono hm hN, h2, h3, h4⟩
/-- A call that turns the drive leaves the memory beside it alone. -/
theorem Beside.call {f : FuncId} {args : Array Value} {R : Ending → Prop} (h : Beside w0 wh w lo d D m N)
    (hc : ∀ S, Dv w S d D m N → (∀ k, S k → w0.heap.size ≤ k) → Calls Try.prog f args w fun x w' => R x ∧ Turn w w' S d D1 m1 N1) :
    Calls Try.prog f args w fun x w' => R x ∧ Beside w0 wh w' lo d D1 m1 N1 := by
  obtain ⟨S, h1, h2, h3, h4, h5, h6⟩ := h
  refine (hc S h1 h3).mono ?_
  rintro x w' ⟨hr, S1, a1, a2, a3⟩
  refine ⟨hr, S1, a1, h2.trans (a2.to_below h2.size fun k hk => h3 k hk), fun k hk => ?_, fun k hk => ?_, Nat.le_trans h5 a2.size, fun k hk1 hk2 => ?_⟩
  · rcases a3 k hk with h | h
    · exact h3 k h
    · exact Nat.le_trans h2.size h
  · rcases a3 k hk with h | h
    · exact h4 k h
    · exact .inr (Nat.le_trans h5 h)
  · refine (a2.block k (by omega) fun hs => ?_).trans (h6 k hk1 hk2)
    rcases h4 k hs with h | h <;> omega
theorem FilesAt.beside {v : Value} {dv : List Value} {fs : List (Bs × Bs)} (h : FilesAt wh lo v dv fs) (hs : Beside w0 wh w lo d D m N) : FilesAt w lo v dv fs := by
  obtain ⟨S, _, _, _, _, h5, h6⟩ := hs
  exact h.same fun k hk1 hk2 => h6 k hk1 hk2
end
end Go.Proofs.Ytelgcmcnebncmaa.Dr
namespace Go.Proofs.Ytelgcmcnebncmaa.Dr
open Go.RowKit Go.Proofs Go.Proofs.Ytelgcmcnebncmaa.Ring

section
variable {w0 w w' wh : World} {lo d m N m1 N1 : Nat} {D D1 : Dr.D}
theorem image_len : D.image.length = D.now.length := by simp [Dr.D.image, Dr.D.files]
theorem safe_len : D.safe.length = D.kept.length := by simp [Dr.D.safe, Dr.D.files]
theorem image_form (h : ∃ S, Dv w S d D m N) (hm : m ≤ 140737488355328) (hN : N * 40 ≤ 140737488355328) {n : Nat} {fs : List (Bs × Bs)} (hfs : D.image = fs) (hn : fs.length = n) : Calls Try.prog 20 #[.pointer (some ⟨d, 0, none⟩)] w fun x w' => ∃ A c dv, x = .returned (.slice A n c) ∧ FilesAt w' w.heap.size (.slice A n c) dv fs ∧ Below w.heap.size w w' := by
  subst hfs hn
  obtain ⟨S, h⟩ := h
  refine (image_any h hm hN).mono ?_
  rintro x w' ⟨v, dv, rfl, hf, hb⟩
  obtain ⟨A, c, rfl, _, _⟩ := own_form hf.row
  exact ⟨A, c, dv, rfl, hf, hb⟩
theorem safe_form (h : ∃ S, Dv w S d D m N) (hm : m ≤ 140737488355328) (hN : N * 40 ≤ 140737488355328) {n : Nat} {fs : List (Bs × Bs)} (hfs : D.safe = fs) (hn : fs.length = n) : Calls Try.prog 21 #[.pointer (some ⟨d, 0, none⟩)] w fun x w' => ∃ A c dv, x = .returned (.slice A n c) ∧ FilesAt w' w.heap.size (.slice A n c) dv fs ∧ Below w.heap.size w w' := by
  subst hfs hn
  obtain ⟨S, h⟩ := h
  refine (safe_any h hm hN).mono ?_
  rintro x w' ⟨v, dv, rfl, hf, hb⟩
  obtain ⟨A, c, rfl, _, _⟩ := own_form hf.row
  exact ⟨A, c, dv, rfl, hf, hb⟩
theorem Own.dv (h : Own w0 w d D m N) : ∃ S, Dv w S d D m N := by obtain ⟨S, h1, _⟩ := h; exact ⟨S, h1⟩
theorem Beside.dv (h : Beside w0 wh w lo d D m N) : ∃ S, Dv w S d D m N := h.own.dv
theorem Beside.pending (h : Beside w0 wh w lo d D m N) {k : Nat} (hk : D.pend.length = k) : Calls Try.prog 22 #[.pointer (some ⟨d, 0, none⟩)] w fun x w' => x = .returned (.int .i64 (k : Int)) ∧ w = w' := h.own.pending hk
/-- A loss of power with a fate that lies beside. -/
theorem Beside.crash (h : Beside w0 wh w lo d D m N) (hm : m ≤ 140737488355328) (hN : N * 24 ≤ 140737488355328) {Ad Ac : Option Addr} {nd cd nc cc : Nat} {dirs : List Bool} {cuts : List Int} (hd : Rd w w.heap.size 1 Ad nd (cBool dirs)) (hc : Rd w w.heap.size 1 Ac nc (cInt cuts))
    (hcb : ∀ x ∈ cuts, -9223372036854775808 ≤ x ∧ x ≤ 9223372036854775807) (hdS : ∀ ad, Ad = some ad → lo ≤ ad.block ∧ ad.block < wh.heap.size) (hcS : ∀ ad, Ac = some ad → lo ≤ ad.block ∧ ad.block < wh.heap.size) {r : Dr.D} (hr : D.crash dirs cuts = r) :
    Calls Try.prog 16 #[.pointer (some ⟨d, 0, none⟩), .agg #[.slice Ad nd cd, .slice Ac nc cc]] w fun x w' => x = .returned (.int .i64 0) ∧ Beside w0 wh w' lo d r m N := by
  subst hr
  have h4 := h
  obtain ⟨S, h1, h2, h3, h5, _⟩ := h4
  have key : ∃ S, Dv w S d D m N ∧ (∀ k, S k → w0.heap.size ≤ k) ∧ ∀ k, S k → k < lo ∨ wh.heap.size ≤ k := ⟨S, h1, h3, h5⟩
  obtain ⟨S, h1, h2, h3, h5, h6, h7⟩ := h
  refine (crash_any h1 hm hN hd hc hcb (fun ad _ e hk => ?_) (fun ad _ e hk => ?_)).mono ?_
  · have := hdS ad e; rcases h5 _ hk with h | h <;> omega
  · have := hcS ad e; rcases h5 _ hk with h | h <;> omega
  · rintro x w' ⟨hr, S1, a1, a2, a3⟩
    refine ⟨hr, S1, a1, h2.trans (a2.to_below h2.size fun k hk => h3 k hk), fun k hk => ?_, fun k hk => ?_, Nat.le_trans h6 a2.size, fun k hk1 hk2 => ?_⟩
    · rcases a3 k hk with h | h
      · exact h3 k h
      · exact Nat.le_trans h2.size h
    · rcases a3 k hk with h | h
      · exact h5 k h
      · exact .inr (Nat.le_trans h6 h)
    · refine (a2.block k (by omega) fun hs => ?_).trans (h7 k hk1 hk2)
      rcases h5 k hs with h | h <;> omega
/-- A fate that came in, and lies below the drive. -/
theorem Beside.crash_in (h : Beside w0 wh w lo d D m N) (hm : m ≤ 140737488355328) (hN : N * 24 ≤ 140737488355328) {Ad Ac : Option Addr} {nd cd nc cc : Nat} {dirs : List Bool} {cuts : List Int} (hf : FateIn w w0.heap.size dirs cuts Ad nd cd Ac nc cc) {r : Dr.D} (hr : D.crash dirs cuts = r) :
    Calls Try.prog 16 #[.pointer (some ⟨d, 0, none⟩), .agg #[.slice Ad nd cd, .slice Ac nc cc]] w fun x w' => x = .returned (.int .i64 0) ∧ Beside w0 wh w' lo d r m N := by
  subst hr
  have hs := h.own.back.size
  refine h.call fun S hD hS => crash_any hD hm hN (hf.dirs.more hs) (hf.cuts.more hs) hf.cut ?_ ?_
  · intro ad h0 e hk
    obtain ⟨ad', e', hb, _⟩ := hf.dirs.2 h0
    rw [e] at e'
    injection e' with e'
    have := hS _ hk
    rw [← e'] at hb
    omega
  · intro ad h0 e hk
    obtain ⟨ad', e', hb, _⟩ := hf.cuts.2 h0
    rw [e] at e'
    injection e' with e'
    have := hS _ hk
    rw [← e'] at hb
    omega
/-- What stands on a drive is loaded into another. -/
theorem load_back (ho : D.Ok m N) (hm : m ≤ 140737488355328) (hN : N ≤ 4398046511104) {A : Option Addr} {n c : Nat} (hf : FilesRd w A n D.image) :
    Calls Try.prog 39 #[.int .i64 1048576, .slice A n c] w fun x w' => ∃ L l, x = .returned (.pointer (some ⟨l, 0, none⟩)) ∧ Own w w' l L m N ∧ L.image = D.image ∧ L.safe = D.image ∧ L.pend = [] := by
  have hf' := hf
  obtain ⟨L, e, h1, h2, h3⟩ := load_image (d := D) ho (room := 1048576) (by rfl)
  refine (load_any (m := m) 1048576 hf (fun f hf => ?_) (fun f hf => ?_) hm (Nat.le_trans (Nat.le_of_eq (hf.1.symm.trans image_len)) (Nat.le_trans ho.lenN hN))).mono ?_
  · obtain ⟨p, hp, rfl⟩ := mem_files.1 hf
    exact named_len (ho.namN p hp)
  · obtain ⟨p, hp, rfl⟩ := mem_files.1 hf
    exact (ho.at_ok p.2).2
  · rintro x w' ⟨hb, (⟨h4, _⟩ | ⟨D', d', S, h4, rfl, h5, h6⟩)⟩
    · rw [e] at h4; cases h4
    · rw [e] at h4
      injection h4 with h4
      subst h4
      exact ⟨_, d', rfl, ⟨S, h5.mono (Nat.le_refl _) (Nat.le_trans (Nat.le_of_eq (hf'.1.symm.trans image_len)) ho.lenN), hb, h6⟩, h1, h2, h3⟩
end
end Go.Proofs.Ytelgcmcnebncmaa.Dr
