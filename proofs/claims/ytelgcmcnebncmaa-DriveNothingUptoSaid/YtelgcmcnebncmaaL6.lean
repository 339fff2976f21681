/- The law's own awake, touches; a drive that was made since. -/
import Derived.Test.YtelgcmcnebncmaaL5
namespace Go.Proofs.Ytelgcmcnebncmaa.Dr
open Go.RowKit Go.Proofs Go.Proofs.Ytelgcmcnebncmaa.Ring

/-- The drive at d was made since w0, and nothing that lay there then has changed. -/
def Own (w0 w : World) (d : Nat) (D : Dr.D) (m N : Nat) : Prop := ∃ S, Dv w S d D m N ∧ Below w0.heap.size w0 w ∧ ∀ k, S k → w0.heap.size ≤ k
section
variable {w0 w w' : World} {d m N m1 N1 : Nat} {D D1 : Dr.D}
theorem Own.back (h : Own w0 w d D m N) : Below w0.heap.size w0 w := by obtain ⟨_, _, h, _⟩ := h; exact h
theorem Own.below (h : Own w0 w d D m N) (hb : Below w.heap.size w w') : Own w0 w' d D m N := by
  obtain ⟨S, h1, h2, h3⟩ := h
  exact ⟨S, h1.below hb, h2.trans (hb.mono h2.size), h3⟩
theorem Own.mono (h : Own w0 w d D m N) (hm : m ≤ m1) (hN : N ≤ N1) : Own w0 w d D m1 N1 := by
  obtain ⟨S, h1, h2, h3⟩ := h
  exact ⟨S, h1.mono hm hN, h2, h3⟩
theorem Own.ok (h : Own w0 w d D m N) : D.Ok m N := by obtain ⟨S, h1, _⟩ := h; exact h1.1
theorem Own.drew (h : Own w0 w d D m N) : Own w0 w.drew d D m N := h.below ⟨rfl, rfl, rfl, Nat.le_refl _, fun _ _ => rfl⟩
/-- A call that turns the drive. -/
theorem Own.call {f : FuncId} {args : Array Value} {R : Ending → Prop} (h : Own w0 w d D m N)
    (hc : ∀ S, Dv w S d D m N → (∀ k, S k → w0.heap.size ≤ k) → Calls Try.prog f args w fun x w' => R x ∧ Turn w w' S d D1 m1 N1) :
    Calls Try.prog f args w fun x w' => R x ∧ Own w0 w' d D1 m1 N1 := by
  obtain ⟨S, h1, h2, h3⟩ := h
  refine (hc S h1 h3).mono ?_
  rintro x w' ⟨hr, S1, a1, a2, a3⟩
  refine ⟨hr, S1, a1, h2.trans (a2.to_below h2.size fun k hk => h3 k hk), fun k hk => ?_⟩
  rcases a3 k hk with h | h
  · exact h3 k h
  · exact Nat.le_trans h2.size h
theorem Own.create (h : Own w0 w d D m N) (hN : (N + 1) * 24 ≤ 140737488355328) (n : Bs) {r : Dr.D × Int} (hr : D.create n = r) : Calls Try.prog 28 #[.pointer (some ⟨d, 0, none⟩), encStr n] w fun x w' => x = .returned (.int .i64 r.2) ∧ Own w0 w' d r.1 m (N + 1) := by
  subst hr
  exact h.call fun S hD _ => create_any hD hN n
theorem Own.append (h : Own w0 w d D m N) (n : Bs) {A : Option Addr} {k c : Nat} {x : Bs} (hx : Rd w w.heap.size 1 A k (cU8 x)) (hm : m + k ≤ 140737488355328) {r : Dr.D × Int} (hr : D.append n x = r) :
    Calls Try.prog 29 #[.pointer (some ⟨d, 0, none⟩), encStr n, .slice A k c] w fun y w' => y = .returned (.int .i64 r.2) ∧ Own w0 w' d r.1 (m + k) N := by
  subst hr
  exact h.call fun S hD _ => append_any hD n hx hm
theorem Own.sync (h : Own w0 w d D m N) (n : Bs) {r : Dr.D × Int} (hr : D.sync n = r) : Calls Try.prog 30 #[.pointer (some ⟨d, 0, none⟩), encStr n] w fun x w' => x = .returned (.int .i64 r.2) ∧ Own w0 w' d r.1 m N := by
  subst hr
  exact h.call fun S hD _ => sync_any hD n
theorem Own.syncDir (h : Own w0 w d D m N) {r : Dr.D} (hr : D.syncDir = r) : Calls Try.prog 31 #[.pointer (some ⟨d, 0, none⟩)] w fun x w' => x = .returned (.int .i64 0) ∧ Own w0 w' d r m N := by
  subst hr
  exact h.call fun S hD _ => syncDir_any hD
theorem Own.shows (h : Own w0 w d D m N) (hm : m ≤ 140737488355328) {n x : Bs} {i : Nat} (hl : D.look n = .ok i) (hx : (D.at i).data = x) :
    Calls Try.prog 33 #[.pointer (some ⟨d, 0, none⟩), encStr n, encStr x] w fun y w' => y = .returned (.bool true) ∧ Own w0 w' d D m N := by
  have h0 := h
  obtain ⟨S, h1, _⟩ := h
  refine (shows_yes h1 hm hl hx).mono ?_
  rintro y w' ⟨rfl, hb⟩
  exact ⟨rfl, h0.below hb⟩
theorem Own.pending (h : Own w0 w d D m N) {k : Nat} (hk : D.pend.length = k) : Calls Try.prog 22 #[.pointer (some ⟨d, 0, none⟩)] w fun x w' => x = .returned (.int .i64 (k : Int)) ∧ w = w' := by
  subst hk
  obtain ⟨S, h1, _⟩ := h
  exact pending_any h1
theorem Own.used (h : Own w0 w d D m N) {k : Int} (hk : wrap64 (D.used : Int) = k) : Calls Try.prog 23 #[.pointer (some ⟨d, 0, none⟩)] w fun x w' => x = .returned (.int .i64 k) ∧ w = w' := by
  subst hk
  obtain ⟨S, h1, _⟩ := h
  exact used_any h1
/-- A fate that lies below, where the drive lies above. -/
theorem Own.crash (h : Own w0 w d D m N) (hm : m ≤ 140737488355328) (hN : N * 24 ≤ 140737488355328) {Ad Ac : Option Addr} {nd cd nc cc : Nat} {dirs : List Bool} {cuts : List Int} (hf : FateIn w w0.heap.size dirs cuts Ad nd cd Ac nc cc) {r : Dr.D} (hr : D.crash dirs cuts = r) :
    Calls Try.prog 16 #[.pointer (some ⟨d, 0, none⟩), .agg #[.slice Ad nd cd, .slice Ac nc cc]] w fun x w' => x = .returned (.int .i64 0) ∧ Own w0 w' d r m N := by
  subst hr
  have hs := h.back.size
  refine h.call fun S hD hS => crash_any hD hm hN (hf.dirs.more hs) (hf.cuts.more hs) hf.cut ?_ ?_
  · intro ad h0 e hk
    obtain ⟨ad', e', hb, _⟩ := hf.dirs.2 h0
    rw [e] at e'
    injection e' with e'
    have := hS _ hk
    rw [← e'] at hb
    omega
  · intro ad h0 e hk
    obtain ⟨ad', e', hb, _⟩ := hf.cuts.2 h0
    rw [e] at e'
    injection e' with e'
    have := hS _ hk
    rw [← e'] at hb
    omega
theorem FateIn.none_ (w : World) (B : Nat) : FateIn w B [] [] none 0 0 none 0 0 :=
  ⟨Rd.none_, Rd.none_, fun _ => rfl, fun _ => rfl, Nat.zero_le _, Nat.zero_le _, fun x h => by cases h⟩
theorem Own.list (h : Own w0 w d D m N) (hN : N * 16 ≤ 140737488355328) : Calls Try.prog 78 #[.pointer (some ⟨d, 0, none⟩)] w fun x w' => ∃ A c, x = .returned (.tuple #[.slice A D.now.length c, .int .i64 0]) ∧ w'.ownsRow w.heap.size kStr 1 (.slice A D.now.length c) D.now.length (cStr (D.now.map (·.1))) ∧ Own w0 w' d D m N := by
  have h0 := h
  obtain ⟨S, h1, _⟩ := h
  refine (list_any h1 hN).mono ?_
  rintro x w' ⟨v, rfl, ho, hb⟩
  obtain ⟨A, c, rfl, _, _⟩ := own_form ho
  exact ⟨A, c, rfl, ho, h0.below hb⟩
end
theorem rd_new (w : World) (x : Bs) : Rd (w.alloc (.cells (cU8 x).toArray tU8)) (w.alloc (.cells (cU8 x).toArray tU8)).heap.size 1 (some ⟨w.heap.size, 0, none⟩) x.length (cU8 x) :=
  ⟨by simp, fun h => ⟨_, rfl, by simp, new_cells w (cU8 x) tU8⟩⟩
abbrev aw1 : Dr.D := ⟨10, [⟨[], 0⟩], [([97], 0)], [], [[([97], some 0)]]⟩
abbrev aw2 : Dr.D := ⟨10, [⟨[1, 2], 0⟩], [([97], 0)], [], [[([97], some 0)]]⟩
abbrev aw3 : Dr.D := ⟨10, [⟨[1, 2], 2⟩], [([97], 0)], [], [[([97], some 0)]]⟩
abbrev aw4 : Dr.D := ⟨10, [⟨[1, 2], 2⟩], [([97], 0)], [([97], 0)], []⟩
abbrev aw5 : Dr.D := ⟨10, [⟨[1, 2, 3], 2⟩], [([97], 0)], [([97], 0)], []⟩
abbrev aw6 : Dr.D := ⟨10, [⟨[1, 2, 3], 2⟩, ⟨[], 0⟩], [([97], 0), ([98], 1)], [([97], 0)], [[([98], some 1)]]⟩
abbrev aw7 : Dr.D := ⟨10, [⟨[1, 2], 2⟩], [([97], 0)], [([97], 0)], []⟩
theorem aw_1 : (Dr.D.fresh 10).create [97] = (aw1, 0) := by kernel_rfl
theorem aw_2 : aw1.append [97] [1, 2] = (aw2, 0) := by kernel_rfl
theorem aw_3 : aw2.sync [97] = (aw3, 0) := by kernel_rfl
theorem aw_4 : aw3.syncDir = aw4 := by kernel_rfl
theorem aw_5 : aw4.append [97] [3] = (aw5, 0) := by kernel_rfl
theorem aw_6 : aw5.create [98] = (aw6, 0) := by kernel_rfl
theorem aw_7 : aw6.crash [] [] = aw7 := by kernel_rfl
theorem aw_l6 : aw6.look [97] = .ok 0 := by kernel_rfl
theorem aw_l7 : aw7.look [97] = .ok 0 := by kernel_rfl
theorem aw_u6 : wrap64 (aw6.used : Int) = 3 := by
  rw [show aw6.used = 3 by kernel_rfl]
  exact IntWalk.wrap64_in _ (by omega)
set_option maxRecDepth 100000 in
set_option maxHeartbeats 4000000 in
theorem awake_any (w : World) : Calls Try.prog 25 #[] w fun x w' => x = .returned (.bool true) ∧ Below w.heap.size w w' := by
  go_enter Try.func25, Try.ntmps25
  go_upto_region 4 with (go_at_call 57; refine (new_any 10 (by omega) 0 0 w).mono ?_; rintro x w1 ⟨d, rfl, _, hD, hb⟩; have H0 := Lib.hid (show Own w w1 d (Dr.D.fresh 10) 0 0 from ⟨_, hD, hb, fun k hk => hk.1⟩); clear hD hb)
  go_upto_region 6 with (first
    | (go_at_call 28; refine (Own.create H0.out (by omega) [97] aw_1).mono ?_; rintro x w2 ⟨rfl, h⟩; have H1 := Lib.hid h; clear h H0)
    | (go_at_call 29; refine (Own.append (H1.out.below ((Below.refl _ _).alloc (Nat.le_refl _) _)) [97] (rd_new _ [1, 2]) (by simp) aw_2).mono ?_; rintro x w3 ⟨rfl, h⟩; have H2 := Lib.hid h; clear h H1)
    | (go_at_call 30; refine (Own.sync H2.out [97] aw_3).mono ?_; rintro x w4 ⟨rfl, h⟩; have H3 := Lib.hid h; clear h H2)
    | (go_at_call 31; refine (Own.syncDir H3.out aw_4).mono ?_; rintro x w5 ⟨rfl, h⟩; have H4 := Lib.hid h; clear h H3)
    | (go_at_call 29; refine (Own.append (H4.out.below ((Below.refl _ _).alloc (Nat.le_refl _) _)) [97] (rd_new _ [3]) (by simp) aw_5).mono ?_; rintro x w6 ⟨rfl, h⟩; have H5 := Lib.hid h; clear h H4)
    | (go_at_call 28; refine (Own.create H5.out (by omega) [98] aw_6).mono ?_; rintro x w7 ⟨rfl, h⟩; have H6 := Lib.hid h; clear h H5))
  go_upto_region 8 with (first
    | (go_at_call 33; refine (Own.shows H6.out (by simp) aw_l6 (x := [1, 2, 3]) rfl).mono ?_; rintro x w8 ⟨rfl, h⟩; have H7 := Lib.hid h; clear h H6)
    | (go_at_call 22; refine (Own.pending H7.out (k := 1) rfl).mono ?_; rintro x w9 ⟨rfl, rfl⟩)
    | (go_at_call 23; refine (Own.used H7.out aw_u6).mono ?_; rintro x w9 ⟨rfl, rfl⟩))
  go_upto_region 9 with (go_at_call 16; refine (Own.crash H7.out (by simp) (by simp) (FateIn.none_ _ _) aw_7).mono ?_; rintro x w10 ⟨rfl, h⟩; have H8 := Lib.hid h; clear h H7)
  go_upto_region 10 with (go_at_call 78; refine (Own.list H8.out (by simp)).mono ?_; rintro x w11 ⟨A, c, rfl, ho, h⟩; obtain ⟨g, rfl⟩ := own_some ho (by show 0 < 1; omega); have HO := Lib.hid ho; have H9 := Lib.hid h; clear ho h H8)
  have e0 : w11.cell? ⟨g, 0, none⟩ = some (encStr [97]) := own_cell HO.out (k := 0) (by show 0 < 1; omega) rfl
  go_wp2_with (go_at_call 33; refine (Own.shows H9.out (by simp) aw_l7 (x := [1, 2]) rfl).mono ?_; rintro x w12 ⟨rfl, h⟩; have H10 := Lib.hid h; clear h)
  go_ret
  exact ⟨rfl, H10.out.back⟩
end Go.Proofs.Ytelgcmcnebncmaa.Dr
