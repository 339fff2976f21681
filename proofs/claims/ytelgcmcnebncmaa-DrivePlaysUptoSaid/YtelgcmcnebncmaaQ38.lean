/- XRf17, XRf18: merged by tools/merge.py. -/
import Derived.Test.YtelgcmcnebncmaaQ36
import Derived.Test.YtelgcmcnebncmaaQ37
import Derived.Test.YtelgcmcnebncmaaQ20
namespace Go.Proofs.Ytelgcmcnebncmaa.Dr
set_option linter.unusedVariables false
open Go.RowKit Go.Proofs Go.Proofs.Ytelgcmcnebncmaa.Ring

/-- An answer's lists can be read. -/
structure SayR (w : World) (Ad : Option Addr) (ld : Nat) (An_ : Option Addr) (ln : Nat) (Af : Option Addr) (lf : Nat) (x : An) : Prop where
  data : Rd w w.heap.size 1 Ad ld (cU8 x.data)
  names : Rd w w.heap.size 1 An_ ln (cStr x.names)
  files : FilesRd w Af lf x.files
theorem SayR.below {w w' : World} {Ad An_ Af : Option Addr} {ld ln lf : Nat} {x : An} (h : SayR w Ad ld An_ ln Af lf x) (hb : Below w.heap.size w w') : SayR w' Ad ld An_ ln Af lf x :=
  ⟨h.data.next hb, h.names.next hb, h.files.below hb⟩
theorem AnAt.say {w : World} {base : Nat} {vd vn vf : Value} {dv : List Value} {x : An} (h : AnAt w base vd vn vf dv x) :
    ∃ Ad cd An_ cn Af cf, vd = .slice Ad x.data.length cd ∧ vn = .slice An_ x.names.length cn ∧ vf = .slice Af x.files.length cf ∧ SayR w Ad x.data.length An_ x.names.length Af x.files.length x := by
  obtain ⟨Ad, cd, rfl, _, _⟩ := own_form h.data
  obtain ⟨An_, cn, rfl, _, _⟩ := own_form h.names
  obtain ⟨Af, cf, rfl, _, _⟩ := own_form h.files.row
  exact ⟨Ad, cd, An_, cn, Af, cf, rfl, rfl, rfl, Rd.of_own h.data, Rd.of_own h.names, h.files.rd rfl⟩
set_option maxRecDepth 100000 in
set_option maxHeartbeats 4000000 in
theorem same_any {w : World} {Ad An_ Af Bd_ Bn Bf : Option Addr} {ld ln lf cd cn cf dd dn df : Nat} {x : An} {q0 q1 : Int} (h : SayR w Ad ld An_ ln Af lf x) (h' : SayR w Bd_ ld Bn ln Bf lf x) (hn2 : ln ≤ 17592186044416) (hf2 : lf ≤ 17592186044416) :
    Calls Try.prog 52 #[.agg #[.int .i64 q0, .int .i64 q1, .slice Ad ld cd, .slice An_ ln cn, .slice Af lf cf], .agg #[.int .i64 q0, .int .i64 q1, .slice Bd_ ld dd, .slice Bn ln dn, .slice Bf lf df]] w fun e w' => e = .returned (.bool true) ∧ Below w.heap.size w w' := by
  obtain ⟨V, hV⟩ : ∃ V, w.heap.size = V := ⟨_, rfl⟩
  obtain ⟨w1, hw1⟩ : ∃ w1, (w.alloc (.cells #[.int .i64 q0, .int .i64 q1, .slice Ad ld cd, .slice An_ ln cn, .slice Af lf cf] tAnswer)).alloc (.cells #[.int .i64 q0, .int .i64 q1, .slice Bd_ ld dd, .slice Bn ln dn, .slice Bf lf df] tAnswer) = w1 := ⟨_, rfl⟩
  have hb1 : Below w.heap.size w w1 := by rw [← hw1]; exact ((Below.refl _ _).alloc (Nat.le_refl _) _).alloc (by simp) _
  have hA : w1.heap[V]? = some (.cells #[.int .i64 q0, .int .i64 q1, .slice Ad ld cd, .slice An_ ln cn, .slice Af lf cf] tAnswer (0, 0)) := by
    rw [← hw1, ← hV]
    exact (heap_alloc_old _ _ (by simp)).trans (heap_alloc_new _ _)
  have hB : w1.heap[V + 1]? = some (.cells #[.int .i64 q0, .int .i64 q1, .slice Bd_ ld dd, .slice Bn ln dn, .slice Bf lf df] tAnswer (0, 0)) := by
    have := heap_alloc_new (w.alloc (.cells #[.int .i64 q0, .int .i64 q1, .slice Ad ld cd, .slice An_ ln cn, .slice Af lf cf] tAnswer)) (.cells #[.int .i64 q0, .int .i64 q1, .slice Bd_ ld dd, .slice Bn ln dn, .slice Bf lf df] tAnswer)
    rw [← hw1, ← hV]
    simpa using this
  have hsV : V + 2 ≤ w1.heap.size := by rw [← hw1, ← hV]; simp
  have hc : ∀ W, Below w1.heap.size w1 W → W.heap[V]? = some (.cells #[.int .i64 q0, .int .i64 q1, .slice Ad ld cd, .slice An_ ln cn, .slice Af lf cf] tAnswer (0, 0)) ∧ W.heap[V + 1]? = some (.cells #[.int .i64 q0, .int .i64 q1, .slice Bd_ ld dd, .slice Bn ln dn, .slice Bf lf df] tAnswer (0, 0)) := fun W hb => ⟨(hb.block V (by omega)).trans hA, (hb.block (V + 1) (by omega)).trans hB⟩
  have h1 := h.below hb1
  have h1' := h'.below hb1
  have t1 := run_text (P := Try.prog) w1 35 9 5 Try.underlying35 Try.underlying5 Try.underlying9 cd h1.data
  have t2 := run_text (P := Try.prog) w1 35 9 5 Try.underlying35 Try.underlying5 Try.underlying9 dd h1'.data
  obtain ⟨X, hX⟩ : ∃ X : ByteArray, (⟨x.data.toArray⟩ : ByteArray) = X := ⟨_, rfl⟩
  rw [hX] at t1 t2
  have H1 := Lib.hid h1
  have H2 := Lib.hid h1'
  have HC := Lib.hid hc
  have HB1 := Lib.hid hb1
  have HSV := Lib.hid hsV
  have a0 : w1.cell? ⟨V, 0, none⟩ = some (.int .i64 q0) := by rw [cell_of_row w1 V _ _ _ _ hA]; rfl
  have a1 : w1.cell? ⟨V, 1, none⟩ = some (.int .i64 q1) := by rw [cell_of_row w1 V _ _ _ _ hA]; rfl
  have a2 : w1.cell? ⟨V, 2, none⟩ = some (.slice Ad ld cd) := by rw [cell_of_row w1 V _ _ _ _ hA]; rfl
  have a3 : w1.cell? ⟨V, 3, none⟩ = some (.slice An_ ln cn) := by rw [cell_of_row w1 V _ _ _ _ hA]; rfl
  have b0 : w1.cell? ⟨V + 1, 0, none⟩ = some (.int .i64 q0) := by rw [cell_of_row w1 (V + 1) _ _ _ _ hB]; rfl
  have b1 : w1.cell? ⟨V + 1, 1, none⟩ = some (.int .i64 q1) := by rw [cell_of_row w1 (V + 1) _ _ _ _ hB]; rfl
  have b2 : w1.cell? ⟨V + 1, 2, none⟩ = some (.slice Bd_ ld dd) := by rw [cell_of_row w1 (V + 1) _ _ _ _ hB]; rfl
  have b3 : w1.cell? ⟨V + 1, 3, none⟩ = some (.slice Bn ln dn) := by rw [cell_of_row w1 (V + 1) _ _ _ _ hB]; rfl
  clear h h' h1 h1' hc hb1 hsV hA hB hX
  go_enter Try.func52, Try.ntmps52
  go_upto_region 1 with (fail)
  try simp only [hV, hw1]
  clear hw1 hV
  go_wp2_with (first
    | (go_at_call 96; refine (Ap.sameNames_any H1.out.names H2.out.names hn2).mono ?_; rintro e w2 ⟨rfl, hb⟩; have hh := HC.out w2 hb; have a4 : w2.cell? ⟨V, 4, none⟩ = some (.slice Af lf cf) := (by rw [cell_of_row w2 V _ _ _ _ hh.1]; rfl); have b4 : w2.cell? ⟨V + 1, 4, none⟩ = some (.slice Bf lf df) := (by rw [cell_of_row w2 (V + 1) _ _ _ _ hh.2]; rfl); have HB2 := Lib.hid hb; clear hb hh)
    | (go_at_call 19; refine (sameFiles_any (H1.out.below HB2.out).files (H2.out.below HB2.out).files hf2).mono ?_; rintro e w3 ⟨rfl, hb⟩; have hbb := HB2.out.trans (hb.mono HB2.out.size); have HB3 := Lib.hid hbb; clear hb hbb HB2))
  go_ret
  exact ⟨rfl, bch HB1.out HB3.out⟩
theorem Files.ro {w : World} {B n : Nat} {A : Option Addr} {l : List Fl} (h : Files w B A n l) (hB : B ≤ w.heap.size) : FilesRo w A n (l.map Fl.file) := by
  refine ⟨by rw [List.length_map]; exact h.1.1, fun i f hf => ?_⟩
  have hi : i < n := by have := (List.getElem?_eq_some_iff.1 hf).1; have h1 := h.1.1; simp at this; omega
  obtain ⟨b, o, x, e, hb, hx, hr⟩ := h.1.at_ hi
  rw [List.getElem?_map, hx] at hf
  injection hf with hf
  subst hf
  have hin := h.2.1 x (List.mem_of_getElem? hx)
  have hl : x.data.length = x.n := by simpa using hin.data.1
  refine ⟨b, o, x.A, x.c, e, by omega, hr 0 _ rfl, ?_, ?_, hin.nil⟩
  · show w.cell? _ = some (.slice x.A x.data.length x.c)
    rw [hl]; exact hr 1 _ rfl
  · show Rd w w.heap.size 1 x.A x.data.length (cU8 x.data)
    rw [hl]; exact hin.data.more hB
theorem LdR.more {w w' : World} {o : Option Dr.D} {m n N : Nat} {p : Option Addr} (h : LdR w w' o m n p) (hn : n ≤ N) : LdR w w' o m N p := by
  rcases h with h | ⟨D, d, S, h1, h2, h3, h4⟩
  · exact .inl h
  · exact .inr ⟨D, d, S, h1, h2, h3.mono (Nat.le_refl _) hn, h4⟩
theorem rnew_ptr (room : Int) (m N : Nat) (w : World) : Calls Try.prog 55 #[.int .i64 room] w fun x w' => ∃ p, x = .returned (.pointer p) ∧ Below w.heap.size w w' ∧ LdR w w' (Dr.D.new room) m N p := by
  unfold Dr.D.new
  cases hr : okRoom room with
  | false =>
    refine (rnew_not room hr w).mono ?_
    rintro x w' ⟨rfl, rfl⟩
    exact ⟨none, rfl, Below.refl _ _, .inl ⟨by rw [if_neg (by simp)], rfl⟩⟩
  | true =>
    obtain ⟨q, rfl⟩ : ∃ q : Nat, room = (q : Int) := ⟨room.toNat, by have := of_decide_eq_true hr; omega⟩
    have hq : q ≤ 1073741824 := by have := of_decide_eq_true hr; omega
    refine (rnew_any q hq w).mono ?_
    rintro x w' ⟨r, rfl, hr2, hA, hb⟩
    exact ⟨_, rfl, hb, .inr ⟨Dr.D.fresh q, r, _, by rw [if_pos rfl]; rfl, rfl, ⟨D.Ok.fresh hq m N, Nat.zero_le _, _, _, _, _, _, _, hA⟩, fun k hk => by rw [hk]; exact Nat.le_refl _⟩⟩
set_option maxRecDepth 100000 in
set_option maxHeartbeats 4000000 in
theorem rbegun_any {w : World} {how room : Int} {A : Option Addr} {n c B : Nat} {l : List Fl} (hf : Files w B A n l) (hB : B ≤ w.heap.size) :
    Calls Try.prog 11 #[.agg #[.int .i64 how, .int .i64 room, .slice A n c]] w fun x w' => ∃ p, x = .returned (.pointer p) ∧ Below w.heap.size w w' ∧ LdR w w' (begun how room (l.map Fl.file)) 1048576 1048576 p := by
  obtain ⟨V, hV⟩ : ∃ V, w.heap.size = V := ⟨_, rfl⟩
  obtain ⟨w0, hw0⟩ : ∃ w0, w.alloc (.cells #[.int .i64 how, .int .i64 room, .slice A n c] tStart) = w0 := ⟨_, rfl⟩
  have hA0 : w0.heap[V]? = some (.cells #[.int .i64 how, .int .i64 room, .slice A n c] tStart (0, 0)) := by rw [← hw0, ← hV]; exact heap_alloc_new _ _
  have hb0 : Below w.heap.size w w0 := by rw [← hw0]; exact (Below.refl _ _).alloc (Nat.le_refl _) _
  have hs0 : w.heap.size ≤ w0.heap.size := hb0.size
  have c0 : w0.cell? ⟨V, 0, none⟩ = some (.int .i64 how) := by rw [cell_of_row w0 V _ _ _ _ hA0]; rfl
  have c1 : w0.cell? ⟨V, 1, none⟩ = some (.int .i64 room) := by rw [cell_of_row w0 V _ _ _ _ hA0]; rfl
  have c2 : w0.cell? ⟨V, 2, none⟩ = some (.slice A n c) := by rw [cell_of_row w0 V _ _ _ _ hA0]; rfl
  have hro := Files.ro (hf.below (hb0.mono hB)) (Nat.le_trans hB hs0)
  have hdl : ∀ f ∈ l.map Fl.file, f.2.length ≤ 1048576 := by
    intro f hm
    obtain ⟨x, hx, rfl⟩ := List.mem_map.1 hm
    have hin := hf.2.1 x hx
    have hl : x.data.length = x.n := by simpa using hin.data.1
    show x.data.length ≤ _
    rw [hl]; exact hin.n_le
  have hn := hf.2.2
  have fin : ∀ {w' : World} {o : Option Dr.D} {p : Option Addr}, begun how room (l.map Fl.file) = o → Below w0.heap.size w0 w' → LdR w0 w' o 1048576 1048576 p → Below w.heap.size w w' ∧ LdR w w' (begun how room (l.map Fl.file)) 1048576 1048576 p := by
    intro w' o p ho hb h
    subst ho
    refine ⟨hb0.trans (hb.mono hs0), ?_⟩
    rcases h with h | ⟨D, d, S, h1, h2, h3, h4⟩
    · exact .inl h
    · exact .inr ⟨D, d, S, h1, h2, h3, fun k hk => Nat.le_trans hs0 (h4 k hk)⟩
  have HRO := Lib.hid hro
  have HDL := Lib.hid hdl
  have HFIN := Lib.hid (show ∀ (w' : World) (o : Option Dr.D) (p : Option Addr), begun how room (l.map Fl.file) = o → Below w0.heap.size w0 w' → LdR w0 w' o 1048576 1048576 p → Below w.heap.size w w' ∧ LdR w w' (begun how room (l.map Fl.file)) 1048576 1048576 p from fun _ _ _ => fin)
  clear hA0 hb0 hs0 hro hdl hf fin
  go_enter Try.func11, Try.ntmps11
  go_upto_region 1 with (fail)
  try simp only [hV, hw0]
  clear hw0 hV
  by_cases h0 : how = 0
  · have hbg : begun how room (l.map Fl.file) = Dr.D.new room := by unfold begun; rw [if_pos h0]
    have HBG := Lib.hid hbg
    clear hbg
    go_wp2_with (go_at_call 55; refine (rnew_ptr room 1048576 1048576 _).mono ?_; rintro x w1 ⟨p, rfl, hb, hl⟩; have HL := Lib.hid (HFIN.out _ _ _ HBG.out hb hl); clear hb hl)
    go_ret
    exact ⟨_, rfl, HL.out⟩
  · by_cases h1 : how = 1
    · have hbg : begun how room (l.map Fl.file) = Dr.D.load room (l.map Fl.file) := by unfold begun; rw [if_neg h0, if_pos h1]
      have HBG := Lib.hid hbg
      clear hbg h0
      go_wp2_with (go_at_call 56; refine (rload_any room HRO.out HDL.out (by omega) (by omega)).mono ?_; rintro x w1 ⟨hb, p, rfl, hl⟩; have HL := Lib.hid (HFIN.out _ _ _ HBG.out hb (LdR.more hl hn)); clear hb hl)
      go_ret
      exact ⟨_, rfl, HL.out⟩
    · have hbg : begun how room (l.map Fl.file) = Dr.D.new 0 := by unfold begun; rw [if_neg h0, if_neg h1]; rfl
      have HBG := Lib.hid hbg
      clear hbg
      go_wp2_with (go_at_call 55; refine (rnew_ptr 0 1048576 1048576 _).mono ?_; rintro x w1 ⟨p, rfl, hb, hl⟩; have HL := Lib.hid (HFIN.out _ _ _ HBG.out hb hl); clear hb hl)
      go_ret
      exact ⟨_, rfl, HL.out⟩
end Go.Proofs.Ytelgcmcnebncmaa.Dr
namespace Go.Proofs.Ytelgcmcnebncmaa.Dr
set_option linter.unusedVariables false
open Go.RowKit Go.Proofs Go.Proofs.Ytelgcmcnebncmaa.Ring

/-- The document's drive (at pr) shows oR, the program's (at pd) shows oD, in blocks of their own from w0 on, the program's below b. -/
def Pair (w0 w : World) (b : Nat) (pr pd : Option Addr) (oR oD : Option Dr.D) (m N : Nat) : Prop :=
  Below w0.heap.size w0 w ∧ b ≤ w.heap.size ∧
  ((oR = none ∧ oD = none ∧ pr = none ∧ pd = none) ∨ ∃ R D r d SR SD, oR = some R ∧ oD = some D ∧ pr = some ⟨r, 0, none⟩ ∧ pd = some ⟨d, 0, none⟩ ∧ Rv w SR r R m N ∧ Dv w SD d D m N ∧ (∀ k, SR k → ¬ SD k) ∧ (∀ k, SR k → w0.heap.size ≤ k) ∧ (∀ k, SD k → w0.heap.size ≤ k ∧ k < b))
def stepO (o : Option Dr.D) (a : Ac) : Option Dr.D := o.map fun D => (D.step a).1
def ansO (o : Option Dr.D) (a : Ac) : An := match o with
  | none => nilStep a
  | some D => (D.step a).2
def imgO (o : Option Dr.D) : List (Bs × Bs) := match o with
  | none => []
  | some D => D.image
def safO (o : Option Dr.D) : List (Bs × Bs) := match o with
  | none => []
  | some D => D.safe
def pendO (o : Option Dr.D) : Int := match o with
  | none => 0
  | some D => (D.pend.length : Int)
def usedO (o : Option Dr.D) : Int := match o with
  | none => 0
  | some D => wrap64 (D.used : Int)
def crashO (o : Option Dr.D) (dirs : List Bool) (cuts : List Int) : Option Dr.D := o.map fun D => D.crash dirs cuts
def codeO (o : Option Dr.D) : Int := match o with
  | none => 1
  | some _ => 0
section
variable {w0 w w1 w' : World} {b : Nat} {pr pd : Option Addr} {oR oD : Option Dr.D} {m N m' N' : Nat}
theorem Pair.back (h : Pair w0 w b pr pd oR oD m N) : Below w0.heap.size w0 w := h.1
theorem Pair.below (h : Pair w0 w b pr pd oR oD m N) (hb : Below w.heap.size w w') : Pair w0 w' b pr pd oR oD m N := by
  obtain ⟨h1, h2, h3⟩ := h
  refine ⟨h1.trans (hb.mono h1.size), Nat.le_trans h2 hb.size, ?_⟩
  rcases h3 with h3 | ⟨R, D, r, d, SR, SD, e1, e2, e3, e4, hr, hd, hdis, l1, l2⟩
  · exact .inl h3
  · exact .inr ⟨R, D, r, d, SR, SD, e1, e2, e3, e4, hr.below hb, hd.below hb, hdis, l1, l2⟩
theorem Pair.mono (h : Pair w0 w b pr pd oR oD m N) (hm : m ≤ m') (hN : N ≤ N') : Pair w0 w b pr pd oR oD m' N' := by
  obtain ⟨h1, h2, h3⟩ := h
  refine ⟨h1, h2, ?_⟩
  rcases h3 with h3 | ⟨R, D, r, d, SR, SD, e1, e2, e3, e4, hr, hd, hdis, l1, l2⟩
  · exact .inl h3
  · exact .inr ⟨R, D, r, d, SR, SD, e1, e2, e3, e4, hr.mono hm hN, hd.mono hm hN, hdis, l1, l2⟩
theorem Pair.now (h : Pair w0 w b pr pd oR oD m N) : Pair w0 w w.heap.size pr pd oR oD m N := by
  obtain ⟨h1, h2, h3⟩ := h
  refine ⟨h1, Nat.le_refl _, ?_⟩
  rcases h3 with h3 | ⟨R, D, r, d, SR, SD, e1, e2, e3, e4, hr, hd, hdis, l1, l2⟩
  · exact .inl h3
  · exact .inr ⟨R, D, r, d, SR, SD, e1, e2, e3, e4, hr, hd, hdis, l1, fun k hk => ⟨(l2 k hk).1, Nat.lt_of_lt_of_le (l2 k hk).2 h2⟩⟩
theorem Pair.nil (h : Pair w0 w b pr pd oR oD m N) : pr.isNone = pd.isNone := by
  obtain ⟨_, _, (⟨_, _, rfl, rfl⟩ | ⟨R, D, r, d, SR, SD, _, _, rfl, rfl, _⟩)⟩ := h <;> rfl
/-- Both begin. -/
theorem Pair.start {how room : Int} {fs : List (Bs × Bs)} (hb1 : Below w0.heap.size w0 w1) (h1 : LdR w0 w1 (begun how room fs) 1048576 1048576 pr) (h2 : MadeP w1 w how room fs pd) : Pair w0 w w.heap.size pr pd (begun how room fs) (begun how room fs) 1099511627776 1048576 := by
  obtain ⟨hb2, h2⟩ := h2
  refine ⟨hb1.trans (hb2.mono hb1.size), Nat.le_refl _, ?_⟩
  rcases h1 with ⟨e1, rfl⟩ | ⟨R, r, SR, e1, rfl, hr, hl⟩
  · rcases h2 with ⟨_, rfl⟩ | ⟨D, d, e2, _⟩
    · exact .inl ⟨e1, e1, rfl, rfl⟩
    · rw [e1] at e2; cases e2
  · rcases h2 with ⟨e2, _⟩ | ⟨D, d, e2, rfl, SD, hd, _, hs⟩
    · rw [e1] at e2; cases e2
    · exact .inr ⟨R, D, r, d, SR, SD, e1, e2, rfl, rfl, (hr.mono (by decide) (Nat.le_refl _)).below hb2, hd, fun k hk hk2 => by have := hr.low k hk; have := hs k hk2; omega, hl, fun k hk => ⟨Nat.le_trans hb1.size (hs k hk), hd.low k hk⟩⟩
theorem pair_do_r (h : Pair w0 w b pr pd oR oD m N) {B : Nat} (hB : B ≤ w0.heap.size) {a : Ac} {A Ad Au : Option Addr} {n c nd cd nu cu : Nat} (ha : ActIn w B a A n c Ad nd cd Au nu cu) (hm : m ≤ 70368744177664) (hN : N ≤ 1099511627776) :
    Calls Try.prog 13 #[.pointer pr, actV a A n c Ad nd cd Au nu cu] w fun x w' => ∃ vd vn vf dv,
      x = .returned (.agg #[.int .i64 (ansO oR a).code, .int .i64 (ansO oR a).n, vd, vn, vf]) ∧ AnAt w' w.heap.size vd vn vf dv (ansO oR a) ∧ Pair w0 w' b pr pd (stepO oR a) oD (m + n) (N + 1) := by
  have hBw : B ≤ w.heap.size := Nat.le_trans hB h.back.size
  have h0 := h
  obtain ⟨h1, h2, h3⟩ := h
  rcases h3 with ⟨rfl, rfl, rfl, rfl⟩ | ⟨R, D, r, d, SR, SD, rfl, rfl, rfl, rfl, hr, hd, hdis, l1, l2⟩
  · refine (rdo_nil hBw ha).mono ?_
    rintro x w' ⟨vd, vn, vf, dv, rfl, hat, hb⟩
    exact ⟨vd, vn, vf, dv, rfl, hat, (h0.below hb).mono (by omega) (by omega)⟩
  · refine (rdo_any hr hBw ha hm hN).mono ?_
    rintro x w' ⟨vd, vn, vf, dv, rfl, hat, S', t1, t2, t3⟩
    refine ⟨vd, vn, vf, dv, rfl, hat, h1.trans (t2.to_below h1.size l1), Nat.le_trans h2 t2.size, .inr ⟨_, D, r, d, S', SD, rfl, rfl, rfl, rfl, t1, (hd.kept t2 fun k hk hk2 => hdis k hk2 hk).mono (by omega) (by omega), fun k hk hk2 => ?_, fun k hk => ?_, l2⟩⟩
    · rcases t3 k hk with h | h
      · exact hdis k h hk2
      · have := hd.low k hk2; omega
    · rcases t3 k hk with h | h
      · exact l1 k h
      · exact Nat.le_trans h1.size h
theorem pair_do_d (h : Pair w0 w b pr pd oR oD m N) {B : Nat} (hB : B ≤ w0.heap.size) {a : Ac} {A Ad Au : Option Addr} {n c nd cd nu cu : Nat} (ha : ActIn w B a A n c Ad nd cd Au nu cu) (hm : m ≤ 70368744177664) (hN : (N + 1) * 40 ≤ 70368744177664) :
    Calls Try.prog 14 #[.pointer pd, actV a A n c Ad nd cd Au nu cu] w fun x w' => ∃ vd vn vf dv,
      x = .returned (.tuple #[.agg #[.int .i64 (ansO oD a).code, .int .i64 (ansO oD a).n, vd, vn, vf], .bool true]) ∧ AnAt w' w.heap.size vd vn vf dv (ansO oD a) ∧ Pair w0 w' w'.heap.size pr pd oR (stepO oD a) (m + n) (N + 1) ∧ w.heap.size ≤ w'.heap.size ∧ ∀ k, b ≤ k → k < w.heap.size → w'.heap[k]? = w.heap[k]? := by
  have hBw : B ≤ w.heap.size := Nat.le_trans hB h.back.size
  have h0 := h
  obtain ⟨h1, h2, h3⟩ := h
  rcases h3 with ⟨rfl, rfl, rfl, rfl⟩ | ⟨R, D, r, d, SR, SD, rfl, rfl, rfl, rfl, hr, hd, hdis, l1, l2⟩
  · refine (do_nil hBw ha).mono ?_
    rintro x w' ⟨vd, vn, vf, dv, rfl, hat, hb⟩
    exact ⟨vd, vn, vf, dv, rfl, hat, ((h0.below hb).mono (by omega) (by omega)).now, hb.size, fun k _ hk => hb.block k hk⟩
  · refine (do_any hd hBw (fun k hk => Nat.le_trans hB (l2 k hk).1) ha hm hN).mono ?_
    rintro x w' ⟨vd, vn, vf, dv, rfl, hat, S', t1, t2, t3⟩
    refine ⟨vd, vn, vf, dv, rfl, hat, ⟨h1.trans (t2.to_below h1.size fun k hk => (l2 k hk).1), Nat.le_refl _, .inr ⟨R, _, r, d, SR, S', rfl, rfl, rfl, rfl, (hr.kept t2 fun k hk hk2 => hdis k hk hk2).mono (by omega) (by omega), t1, fun k hk hk2 => ?_, l1, fun k hk => ⟨?_, t1.low k hk⟩⟩⟩, t2.size, fun k hk hk2 => t2.block k hk2 fun h => by have := (l2 k h).2; omega⟩
    · rcases t3 k hk2 with h | h
      · exact hdis k hk h
      · have := hr.low k hk; omega
    · rcases t3 k hk with h | h
      · exact (l2 k h).1
      · exact Nat.le_trans h1.size h
theorem pair_image_r (h : Pair w0 w b pr pd oR oD m N) (hm : m ≤ 140737488355328) (hN : N ≤ 1099511627776) {fs0 : List (Bs × Bs)} (hfs : imgO oR = fs0) {n0 : Nat} (hn0 : fs0.length = n0) :
    Calls Try.prog 17 #[.pointer pr] w fun x w' => ∃ A c dv, x = .returned (.slice A n0 c) ∧ FilesAt w' w.heap.size (.slice A n0 c) dv fs0 ∧ Below w.heap.size w w' := by
  obtain ⟨_, _, (⟨rfl, rfl, rfl, rfl⟩ | ⟨R, D, r, d, SR, SD, rfl, rfl, rfl, rfl, hr, _⟩)⟩ := h
  · subst hfs
    obtain rfl : n0 = 0 := hn0.symm
    refine (rnil_Image w).mono ?_
    rintro x w' ⟨rfl, hb⟩
    exact ⟨none, 0, [], rfl, FilesAt.nil _ _, hb⟩
  · exact rimage_any hr hm hN hfs hn0
theorem pair_safe_r (h : Pair w0 w b pr pd oR oD m N) (hm : m ≤ 140737488355328) (hN : N ≤ 1099511627776) {fs0 : List (Bs × Bs)} (hfs : safO oR = fs0) {n0 : Nat} (hn0 : fs0.length = n0) :
    Calls Try.prog 54 #[.pointer pr] w fun x w' => ∃ A c dv, x = .returned (.slice A n0 c) ∧ FilesAt w' w.heap.size (.slice A n0 c) dv fs0 ∧ Below w.heap.size w w' := by
  obtain ⟨_, _, (⟨rfl, rfl, rfl, rfl⟩ | ⟨R, D, r, d, SR, SD, rfl, rfl, rfl, rfl, hr, _⟩)⟩ := h
  · subst hfs
    obtain rfl : n0 = 0 := hn0.symm
    refine (rnil_Safe w).mono ?_
    rintro x w' ⟨rfl, hb⟩
    exact ⟨none, 0, [], rfl, FilesAt.nil _ _, hb⟩
  · exact rsafe_any hr hm hN hfs hn0
theorem pair_image_d (h : Pair w0 w b pr pd oR oD m N) (hm : m ≤ 140737488355328) (hN : N * 40 ≤ 140737488355328) {fs0 : List (Bs × Bs)} (hfs : imgO oD = fs0) {n0 : Nat} (hn0 : fs0.length = n0) :
    Calls Try.prog 20 #[.pointer pd] w fun x w' => ∃ A c dv, x = .returned (.slice A n0 c) ∧ FilesAt w' w.heap.size (.slice A n0 c) dv fs0 ∧ Below w.heap.size w w' := by
  obtain ⟨_, _, (⟨rfl, rfl, rfl, rfl⟩ | ⟨R, D, r, d, SR, SD, rfl, rfl, rfl, rfl, _, hd, _⟩)⟩ := h
  · subst hfs
    obtain rfl : n0 = 0 := hn0.symm
    refine (nil_Image w).mono ?_
    rintro x w' ⟨rfl, hb⟩
    exact ⟨none, 0, [], rfl, FilesAt.nil _ _, hb⟩
  · refine (image_any hd hm hN).mono ?_
    rintro x w' ⟨v, dv, rfl, ho, hb⟩
    obtain ⟨A, c, rfl, _, _⟩ := own_form ho.row
    subst hfs
    subst hn0
    exact ⟨A, c, dv, rfl, ho, hb⟩
theorem pair_safe_d (h : Pair w0 w b pr pd oR oD m N) (hm : m ≤ 140737488355328) (hN : N * 40 ≤ 140737488355328) {fs0 : List (Bs × Bs)} (hfs : safO oD = fs0) {n0 : Nat} (hn0 : fs0.length = n0) :
    Calls Try.prog 21 #[.pointer pd] w fun x w' => ∃ A c dv, x = .returned (.slice A n0 c) ∧ FilesAt w' w.heap.size (.slice A n0 c) dv fs0 ∧ Below w.heap.size w w' := by
  obtain ⟨_, _, (⟨rfl, rfl, rfl, rfl⟩ | ⟨R, D, r, d, SR, SD, rfl, rfl, rfl, rfl, _, hd, _⟩)⟩ := h
  · subst hfs
    obtain rfl : n0 = 0 := hn0.symm
    refine (nil_Safe w).mono ?_
    rintro x w' ⟨rfl, hb⟩
    exact ⟨none, 0, [], rfl, FilesAt.nil _ _, hb⟩
  · refine (safe_any hd hm hN).mono ?_
    rintro x w' ⟨v, dv, rfl, ho, hb⟩
    obtain ⟨A, c, rfl, _, _⟩ := own_form ho.row
    subst hfs
    subst hn0
    exact ⟨A, c, dv, rfl, ho, hb⟩
theorem pair_pending_d (h : Pair w0 w b pr pd oR oD m N) : Calls Try.prog 22 #[.pointer pd] w fun x w' => x = .returned (.int .i64 (pendO oD)) ∧ Below w.heap.size w w' := by
  obtain ⟨_, _, (⟨rfl, rfl, rfl, rfl⟩ | ⟨R, D, r, d, SR, SD, rfl, rfl, rfl, rfl, _, hd, _⟩)⟩ := h
  · exact nil_Pending w
  · refine (pending_any hd).mono ?_
    rintro x w' ⟨rfl, rfl⟩
    exact ⟨rfl, Below.refl _ _⟩
theorem pair_used_d (h : Pair w0 w b pr pd oR oD m N) : Calls Try.prog 23 #[.pointer pd] w fun x w' => x = .returned (.int .i64 (usedO oD)) ∧ Below w.heap.size w w' := by
  obtain ⟨_, _, (⟨rfl, rfl, rfl, rfl⟩ | ⟨R, D, r, d, SR, SD, rfl, rfl, rfl, rfl, _, hd, _⟩)⟩ := h
  · exact nil_Used w
  · refine (used_any hd).mono ?_
    rintro x w' ⟨rfl, rfl⟩
    exact ⟨rfl, Below.refl _ _⟩
theorem pair_used_r (h : Pair w0 w b pr pd oR oD m N) : Calls Try.prog 24 #[.pointer pr] w fun x w' => x = .returned (.int .i64 (usedO oR)) ∧ Below w.heap.size w w' := by
  obtain ⟨_, _, (⟨rfl, rfl, rfl, rfl⟩ | ⟨R, D, r, d, SR, SD, rfl, rfl, rfl, rfl, hr, _⟩)⟩ := h
  · exact rnil_Used w
  · refine (rused_any hr).mono ?_
    rintro x w' ⟨rfl, q, rfl⟩
    exact ⟨rfl, below_drewN (Below.refl _ _) q⟩
theorem pair_crash_r (h : Pair w0 w b pr pd oR oD m N) (hm : m ≤ 140737488355328) (hN : N ≤ 1099511627776) {Ad Ac : Option Addr} {nd cd nc cc : Nat} {dirs : List Bool} {cuts : List Int}
    (hd0 : Rd w w.heap.size 1 Ad nd (cBool dirs)) (hc : Rd w w.heap.size 1 Ac nc (cInt cuts)) (hcb : ∀ x ∈ cuts, -9223372036854775808 ≤ x ∧ x ≤ 9223372036854775807) :
    Calls Try.prog 15 #[.pointer pr, .agg #[.slice Ad nd cd, .slice Ac nc cc]] w fun x w' => x = .returned (.int .i64 (codeO oR)) ∧ Pair w0 w' b pr pd (crashO oR dirs cuts) oD m N := by
  have h0 := h
  obtain ⟨h1, h2, h3⟩ := h
  rcases h3 with ⟨rfl, rfl, rfl, rfl⟩ | ⟨R, D, r, d, SR, SD, rfl, rfl, rfl, rfl, hr, hd, hdis, l1, l2⟩
  · refine (rnil_Crash _ _ _ _ _ _ w).mono ?_
    rintro x w' ⟨rfl, hb⟩
    exact ⟨rfl, h0.below hb⟩
  · refine (rcrash_any hr hm hN hd0 hc hcb).mono ?_
    rintro x w' ⟨rfl, S', t1, t2, t3⟩
    refine ⟨rfl, h1.trans (t2.to_below h1.size l1), Nat.le_trans h2 t2.size, .inr ⟨_, D, r, d, S', SD, rfl, rfl, rfl, rfl, t1, hd.kept t2 fun k hk hk2 => hdis k hk2 hk, fun k hk hk2 => ?_, fun k hk => ?_, l2⟩⟩
    · rcases t3 k hk with h | h
      · exact hdis k h hk2
      · have := hd.low k hk2; omega
    · rcases t3 k hk with h | h
      · exact l1 k h
      · exact Nat.le_trans h1.size h
theorem pair_crash_d (h : Pair w0 w b pr pd oR oD m N) (hm : m ≤ 140737488355328) (hN : N * 24 ≤ 140737488355328) {B : Nat} (hB : B ≤ w0.heap.size) {Ad Ac : Option Addr} {nd cd nc cc : Nat} {dirs : List Bool} {cuts : List Int}
    (hf : FateIn w B dirs cuts Ad nd cd Ac nc cc) :
    Calls Try.prog 16 #[.pointer pd, .agg #[.slice Ad nd cd, .slice Ac nc cc]] w fun x w' => x = .returned (.int .i64 (codeO oD)) ∧ Pair w0 w' w'.heap.size pr pd oR (crashO oD dirs cuts) m N := by
  have h0 := h
  obtain ⟨h1, h2, h3⟩ := h
  rcases h3 with ⟨rfl, rfl, rfl, rfl⟩ | ⟨R, D, r, d, SR, SD, rfl, rfl, rfl, rfl, hr, hd, hdis, l1, l2⟩
  · refine (nil_Crash _ _ _ _ _ _ w).mono ?_
    rintro x w' ⟨rfl, hb⟩
    exact ⟨rfl, (h0.below hb).now⟩
  · have hBw : B ≤ w.heap.size := Nat.le_trans hB h1.size
    refine (crash_any hd hm hN (hf.dirs.more hBw) (hf.cuts.more hBw) hf.cut (fun ad h0 e hk => ?_) (fun ad h0 e hk => ?_)).mono ?_
    · obtain ⟨ad', e', hb, _⟩ := hf.dirs.2 h0
      rw [e] at e'
      injection e' with e'
      have := (l2 _ hk).1
      rw [← e'] at hb
      omega
    · obtain ⟨ad', e', hb, _⟩ := hf.cuts.2 h0
      rw [e] at e'
      injection e' with e'
      have := (l2 _ hk).1
      rw [← e'] at hb
      omega
    · rintro x w' ⟨rfl, S', t1, t2, t3⟩
      refine ⟨rfl, h1.trans (t2.to_below h1.size fun k hk => (l2 k hk).1), Nat.le_refl _, .inr ⟨R, _, r, d, SR, S', rfl, rfl, rfl, rfl, hr.kept t2 fun k hk hk2 => hdis k hk hk2, t1, fun k hk hk2 => ?_, l1, fun k hk => ⟨?_, t1.low k hk⟩⟩⟩
      · rcases t3 k hk2 with h | h
        · exact hdis k hk h
        · have := hr.low k hk; omega
      · rcases t3 k hk with h | h
        · exact (l2 k h).1
        · exact Nat.le_trans h1.size h
end
end Go.Proofs.Ytelgcmcnebncmaa.Dr
