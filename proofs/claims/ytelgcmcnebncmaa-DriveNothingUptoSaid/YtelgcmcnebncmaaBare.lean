/- The law's own 'bare': a call of a drive with the very lists that are handed in. -/
import Derived.Test.YtelgcmcnebncmaaOff
import Derived.Test.YtelgcmcnebncmaaL5
import Derived.Deep.WholeRow
namespace Go.Proofs.Ytelgcmcnebncmaa.Dr
open Go.RowKit Go.Proofs Go.Deep Go.Proofs.Ytelgcmcnebncmaa.Ring

theorem rd_off {w w' : World} {B size n : Nat} {A : Option Addr} {xs : List Value} (h : Rd w B size A n xs) (hk : ∀ ad, A = some ad → ad.block < B → w'.heap[ad.block]? = w.heap[ad.block]?) : Rd w' B size A n xs :=
  ⟨h.1, fun hn => by
    obtain ⟨ad, e, hb, hc⟩ := h.2 hn
    exact ⟨ad, e, hb, fun j u hu => (World.cell?_of_block (by rw [add_block]; exact hk ad e hb)).trans (hc j u hu)⟩⟩
/-- An act whose lists lie off the blocks of S. -/
structure Lies (w : World) (S : Nat → Prop) (x : Av) : Prop where
  act : x.In w w.heap.size
  cap : x.n ≤ x.c ∧ x.c ≤ maxLen
  offA : ∀ ad, x.A = some ad → ¬ S ad.block
  offD : ∀ ad, x.Ad = some ad → ¬ S ad.block
  offU : ∀ ad, x.Au = some ad → ¬ S ad.block
theorem Lies.keep {w w' : World} {S : Nat → Prop} {x : Av} (h : Lies w S x) (hk : ∀ k, k < w.heap.size → ¬ S k → w'.heap[k]? = w.heap[k]?) : x.In w' w.heap.size :=
  ⟨rd_off h.act.data fun ad e hb => hk _ hb (h.offA ad e), rd_off h.act.dirs fun ad e hb => hk _ hb (h.offD ad e), rd_off h.act.cuts fun ad e hb => hk _ hb (h.offU ad e), h.act.nil, h.act.nilD, h.act.nilC, h.act.n_le, h.act.nd_le, h.act.nu_le, h.act.kind, h.act.num, h.act.cut⟩
theorem ActIn.more {w : World} {B B' : Nat} {a : Ac} {A : Option Addr} {n c : Nat} {Ad : Option Addr} {nd cd : Nat} {Au : Option Addr} {nu cu : Nat} (h : ActIn w B a A n c Ad nd cd Au nu cu) (hb : B ≤ B') : ActIn w B' a A n c Ad nd cd Au nu cu :=
  ⟨h.data.more hb, h.dirs.more hb, h.cuts.more hb, h.nil, h.nilD, h.nilC, h.n_le, h.nd_le, h.nu_le, h.kind, h.num, h.cut⟩
theorem Lies.moved {w w' : World} {S S' : Nat → Prop} {x : Av} (h : Lies w S x) (hk : ∀ k, k < w.heap.size → ¬ S k → w'.heap[k]? = w.heap[k]?) (hs : w.heap.size ≤ w'.heap.size) (hS : ∀ k, k < w.heap.size → S' k → S k) : Lies w' (fun k => S' k ∧ k < w.heap.size) x := by
  have h1 := ActIn.more (h.keep hk) hs
  exact ⟨h1, h.cap, fun ad e hb => h.offA ad e (hS _ hb.2 hb.1), fun ad e hb => h.offD ad e (hS _ hb.2 hb.1), fun ad e hb => h.offU ad e (hS _ hb.2 hb.1)⟩
theorem Lies.below {w w' : World} {S : Nat → Prop} {x : Av} (h : Lies w S x) (hb : Below w.heap.size w w') : Lies w' S x :=
  ⟨ActIn.more (h.keep fun k hk _ => hb.block k hk) hb.size, h.cap, h.offA, h.offD, h.offU⟩
theorem answer_store (w : World) (code n : Int) (xd xn xf : Option Addr) (ld yd ln yn lf yf : Nat) : (storeCells ⟨w.heap.size, 0, none⟩ [.int .i64 code, .int .i64 n, .slice xd ld yd, .slice xn ln yn, .slice xf lf yf] 0).run Try.prog (w.alloc (.cells #[.int .i64 0, .int .i64 0, .slice none 0 0, .slice none 0 0, .slice none 0 0] tAnswer)) =
    .ok () (w.alloc (.cells #[.int .i64 code, .int .i64 n, .slice xd ld yd, .slice xn ln yn, .slice xf lf yf] tAnswer)) :=
  run_storeCells_new (P := Try.prog) w tAnswer #[.int .i64 0, .int .i64 0, .slice none 0 0, .slice none 0 0, .slice none 0 0] #[.int .i64 code, .int .i64 n, .slice xd ld yd, .slice xn ln yn, .slice xf lf yf] (by kernel_rfl) rfl (by simp [Value.oneCell'])
section
variable {w : World} {S : Nat → Prop} {d m N : Nat} {D : Dr.D}
set_option maxRecDepth 100000 in
set_option maxHeartbeats 4000000 in
theorem bare_any (h : Dv w S d D m N) {x : Av} (hx : Lies w S x) (hm : m ≤ 70368744177664) (hN : (N + 1) * 40 ≤ 70368744177664) :
    Calls Try.prog 50 #[.pointer (some ⟨d, 0, none⟩), actV x.a x.A x.n x.c x.Ad x.nd x.cd x.Au x.nu x.cu] w fun y w' => y = .returned (.int .i64 (D.step x.a).2.code) ∧ Turn w w' S d (D.step x.a).1 (m + 1048576) (N + 1) := by
  obtain ⟨a, A, n, c, Ad, nd, cd, Au, nu, cu⟩ := x
  obtain ⟨V, hV⟩ : ∃ V, w.heap.size = V := ⟨_, rfl⟩
  have H := Lib.hid h
  have HX := Lib.hid hx
  have HV := Lib.hid hV
  clear h hx hV
  dsimp only
  go_enter Try.func50, Try.ntmps50
  go_upto_region 1 with (fail)
  obtain ⟨w1, hw1⟩ : ∃ w1, w.alloc (.cells #[.int .i64 a.kind, encStr a.name, encStr a.dst, .int .i64 a.n, .slice A n c, .slice Ad nd cd, .slice Au nu cu] tAct) = w1 := ⟨_, rfl⟩
  have hA1 : w1.heap[V]? = some (.cells #[.int .i64 a.kind, encStr a.name, encStr a.dst, .int .i64 a.n, .slice A n c, .slice Ad nd cd, .slice Au nu cu] tAct (0, 0)) := by
    rw [← hw1, ← HV.out]
    exact heap_alloc_new _ _
  have hb1 : Below w.heap.size w w1 := by
    rw [← hw1]
    exact (Below.refl _ _).alloc (Nat.le_refl _) _
  have h1 : Dv w1 S d D m N := H.out.below hb1
  have hx1 : Lies w1 S ⟨a, A, n, c, Ad, nd, cd, Au, nu, cu⟩ := HX.out.below hb1
  have hfin : ∀ (D' : Dr.D) (m' N' : Nat) (w2 : World), Turn w1 w2 S d D' m' N' → m' ≤ m + 1048576 → N' ≤ N + 1 → Turn w w2 S d D' (m + 1048576) (N + 1) := fun _ _ _ _ ht h2 h3 =>
    (Turn.after (Kept.of_below _ hb1) (fun _ hk => .inl hk) ht).mono h2 h3
  have f0 : w1.cell? ⟨V, 0, none⟩ = some (.int .i64 a.kind) := by rw [cell_of_row w1 V _ _ _ _ hA1]; rfl
  have f1 : w1.cell? ⟨V, 1, none⟩ = some (encStr a.name) := by rw [cell_of_row w1 V _ _ _ _ hA1]; rfl
  have f3 : w1.cell? ⟨V, 3, none⟩ = some (.int .i64 a.n) := by rw [cell_of_row w1 V _ _ _ _ hA1]; rfl
  have f4 : w1.cell? ⟨V, 4, none⟩ = some (.slice A n c) := by rw [cell_of_row w1 V _ _ _ _ hA1]; rfl
  have f5 : w1.cell? ⟨V, 5, none⟩ = some (.slice Ad nd cd) := by rw [cell_of_row w1 V _ _ _ _ hA1]; rfl
  have f6 : w1.cell? ⟨V, 6, none⟩ = some (.slice Au nu cu) := by rw [cell_of_row w1 V _ _ _ _ hA1]; rfl
  have hrange : w1.rangeAt V 0 (Av.cells ⟨a, A, n, c, Ad, nd, cd, Au, nu, cu⟩) := by
    intro j v hv
    rw [Nat.zero_add, cell_of_row w1 V _ _ _ _ hA1]
    simpa [Av.cells] using hv
  rw [hw1, HV.out]
  have H1 := Lib.hid h1
  have HX1 := Lib.hid hx1
  have HFIN := Lib.hid hfin
  have HR := Lib.hid hrange
  clear hw1 hA1 hb1 h1 hx1 hfin hrange H HX HV
  by_cases k1 : a.kind = 1
  · have hst : D.step a = ((D.append a.name a.data).1, { code := (D.append a.name a.data).2 }) := by
      unfold Dr.D.step
      rw [if_neg (by omega), if_pos k1]
    have HST := Lib.hid hst
    clear hst
    go_wp2_with (first
      | (go_at_call 29; refine (append_any H1.out a.name HX1.out.act.data (by have := HX1.out.act.n_le; dsimp only at this ⊢; omega)).mono ?_; rintro y w2 ⟨rfl, ht⟩; have HT := Lib.hid ht; clear ht)
      | (go_at_call 18; refine (num_any _ _).mono ?_; rintro y w3 ⟨rfl, rfl⟩))
    go_ret
    rw [HST.out]
    exact ⟨rfl, HFIN.out _ _ _ _ HT.out (by have := HX1.out.act.n_le; dsimp only at this ⊢; omega) (by omega)⟩
  by_cases k2 : a.kind = 14
  · have hst : D.step a = ((D.flip a.name a.n a.data).1, { code := (D.flip a.name a.n a.data).2 }) := by
      unfold Dr.D.step
      rw [if_neg (by omega), if_neg (by omega), if_neg (by omega), if_neg (by omega), if_neg (by omega), if_neg (by omega), if_neg (by omega), if_neg (by omega), if_neg (by omega), if_neg (by omega), if_neg (by omega), if_neg (by omega), if_neg (by omega), if_neg (by omega), if_pos k2]
    have HST := Lib.hid hst
    clear hst
    go_wp2_with (first
      | (go_at_call 79; refine (flip_any H1.out (by omega) a.name a.n HX1.out.act.data HX1.out.cap.1 HX1.out.cap.2 (fun ad _ e => HX1.out.offA ad e)).mono ?_; rintro y w2 ⟨rfl, ht⟩; have HT := Lib.hid ht; clear ht)
      | (go_at_call 18; refine (num_any _ _).mono ?_; rintro y w3 ⟨rfl, rfl⟩))
    go_ret
    rw [HST.out]
    exact ⟨rfl, HFIN.out _ _ _ _ HT.out (by omega) (by omega)⟩
  by_cases k3 : a.kind = 13
  · have hst : D.step a = (D.crash a.dirs a.cuts, {}) := by
      unfold Dr.D.step
      rw [if_neg (by omega), if_neg (by omega), if_neg (by omega), if_neg (by omega), if_neg (by omega), if_neg (by omega), if_neg (by omega), if_neg (by omega), if_neg (by omega), if_neg (by omega), if_neg (by omega), if_neg (by omega), if_neg (by omega), if_pos k3]
    have HST := Lib.hid hst
    clear hst
    go_wp2_with (first
      | (go_at_call 16; refine (crash_any H1.out (by omega) (by omega) HX1.out.act.dirs HX1.out.act.cuts HX1.out.act.cut (fun ad _ e => HX1.out.offD ad e) (fun ad _ e => HX1.out.offU ad e)).mono ?_; rintro y w2 ⟨rfl, ht⟩; have HT := Lib.hid ht; clear ht)
      | (go_at_call 18; refine (num_any _ _).mono ?_; rintro y w3 ⟨rfl, rfl⟩))
    go_ret
    rw [HST.out]
    exact ⟨rfl, HFIN.out _ _ _ _ HT.out (by omega) (by omega)⟩
  have hdo := do_off H1.out (Nat.le_refl _) HX1.out.act (fun w' hk => HX1.out.keep hk) hm hN
  have HDO := Lib.hid hdo
  clear hdo
  go_upto_region 8 with (fail)
  go_upto_region 9 with (first
    | (refine loadAct rfl (.tmp 3) rfl V 0 rfl HR.out ?_)
    | (go_at_call 14; refine HDO.out.mono ?_; rintro y w2 ⟨vd, vn, vf, dv, rfl, han, ht⟩; obtain ⟨xd, yd, rfl, _, _⟩ := own_form han.data; obtain ⟨xn, yn, rfl, _, _⟩ := own_form han.names; obtain ⟨xf, yf, rfl, _, _⟩ := own_form han.files.row; have hst := answer_store w2 (D.step a).2.code (D.step a).2.n xd xn xf (D.step a).2.data.length yd (D.step a).2.names.length yn (D.step a).2.files.length yf; have HT := Lib.hid ht; clear ht han))
  go_wp2
  go_ret
  exact ⟨rfl, HFIN.out _ _ _ _ (HT.out.then ((Below.refl _ _).alloc (Nat.le_refl _) _)) (by have := HX1.out.act.n_le; dsimp only at this ⊢; omega) (by omega)⟩
end
end Go.Proofs.Ytelgcmcnebncmaa.Dr
