/- Two drives at once, beside memory that neither of them touches (the hand, acts whose lists lie there). -/
import Derived.Test.YtelgcmcnebncmaaFill
import Derived.Test.YtelgcmcnebncmaaL9
namespace Go.Proofs.Ytelgcmcnebncmaa.Dr
set_option linter.unusedVariables false
open Go.RowKit Go.Proofs Go.Deep Go.Proofs.Ytelgcmcnebncmaa.Ring

/-- Two drives that were made since w0, the hand beside them; the blocks of H are none of the drives'. -/
structure Now (w0 w : World) (H : Nat → Prop) (d e g gb gd gc : Nat) (D E : Dr.D) (m N m' N' : Nat) : Prop where
  drives : ∃ S T, Dv w S d D m N ∧ Dv w T e E m' N' ∧ (∀ k, S k → w0.heap.size ≤ k ∧ ¬ H k ∧ ¬ T k) ∧ (∀ k, T k → w0.heap.size ≤ k ∧ ¬ H k ∧ ¬ S k)
  back : Below w0.heap.size w0 w
  side : ∀ k, H k → w0.heap.size ≤ k ∧ k < w.heap.size
  hand : HandAt w g gb gd gc
  in_ : H g ∧ H gb ∧ H gd ∧ H gc
/-- The blocks of H stand as they stood. -/
def Keeps (H : Nat → Prop) (w w' : World) : Prop := w.heap.size ≤ w'.heap.size ∧ ∀ k, H k → k < w.heap.size → w'.heap[k]? = w.heap[k]?
/-- An act whose lists lie in H. -/
structure Aside (w : World) (H : Nat → Prop) (x : Av) : Prop where
  act : x.In w w.heap.size
  cap : x.n ≤ x.c ∧ x.c ≤ maxLen
  a : ∀ ad, x.A = some ad → H ad.block
  d : ∀ ad, x.Ad = some ad → H ad.block
  u : ∀ ad, x.Au = some ad → H ad.block
section
variable {w0 w w' w'' : World} {H H' : Nat → Prop} {d e g gb gd gc m N m' N' m1 N1 : Nat} {D E : Dr.D} {x : Av}
theorem Keeps.trans (h : Keeps H w w') (h' : Keeps H w' w'') : Keeps H w w'' := ⟨Nat.le_trans h.1 h'.1, fun k hk hl => (h'.2 k hk (Nat.lt_of_lt_of_le hl h.1)).trans (h.2 k hk hl)⟩
theorem Keeps.refl : Keeps H w w := ⟨Nat.le_refl _, fun _ _ _ => rfl⟩
theorem Keeps.below (hb : Below w.heap.size w w') : Keeps H w w' := ⟨hb.size, fun k _ hl => hb.block k hl⟩
theorem Keeps.less (h : Keeps H' w w') (hs : ∀ k, H k → H' k) : Keeps H w w' := ⟨h.1, fun k hk => h.2 k (hs k hk)⟩
theorem Aside.keep (h : Aside w H x) (hk : Keeps H w w') : Aside w' H x := by
  refine ⟨⟨Rd.more (rd_off h.act.data fun ad e hb => hk.2 _ (h.a ad e) hb) hk.1, Rd.more (rd_off h.act.dirs fun ad e hb => hk.2 _ (h.d ad e) hb) hk.1, Rd.more (rd_off h.act.cuts fun ad e hb => hk.2 _ (h.u ad e) hb) hk.1, h.act.nil, h.act.nilD, h.act.nilC, h.act.n_le, h.act.nd_le, h.act.nu_le, h.act.kind, h.act.num, h.act.cut⟩, h.cap, h.a, h.d, h.u⟩
theorem Aside.more (h : Aside w H x) (hs : ∀ k, H k → H' k) : Aside w H' x := ⟨h.act, h.cap, fun ad e => hs _ (h.a ad e), fun ad e => hs _ (h.d ad e), fun ad e => hs _ (h.u ad e)⟩
theorem HandAt.keep (h : HandAt w g gb gd gc) (hw : ∀ k, k = g ∨ k = gb ∨ k = gd ∨ k = gc → w'.heap[k]? = w.heap[k]?) : HandAt w' g gb gd gc := by
  obtain ⟨lb, hb⟩ := h.data
  obtain ⟨ld, hd⟩ := h.dirs
  obtain ⟨lc, hc⟩ := h.cuts
  refine ⟨(hw g (.inl rfl)).trans h.head, ⟨lb, own_same hb fun k hk => hw k ?_⟩, ⟨ld, own_same hd fun k hk => hw k ?_⟩, ⟨lc, own_same hc fun k hk => hw k ?_⟩⟩
  · have : gb = k := by simpa [Value.ownBlock] using hk
    omega
  · have : gd = k := by simpa [Value.ownBlock] using hk
    omega
  · have : gc = k := by simpa [Value.ownBlock] using hk
    omega
theorem Now.swap (h : Now w0 w H d e g gb gd gc D E m N m' N') : Now w0 w H e d g gb gd gc E D m' N' m N := by
  obtain ⟨S, T, h1, h2, h3, h4⟩ := h.drives
  exact ⟨⟨T, S, h2, h1, h4, h3⟩, h.back, h.side, h.hand, h.in_⟩
theorem Now.mono (h : Now w0 w H d e g gb gd gc D E m N m' N') (hm : m ≤ m1) (hN : N ≤ N1) : Now w0 w H d e g gb gd gc D E m1 N1 m' N' := by
  obtain ⟨S, T, h1, h2, h3, h4⟩ := h.drives
  exact ⟨⟨S, T, h1.mono hm hN, h2, h3, h4⟩, h.back, h.side, h.hand, h.in_⟩
theorem Now.dv (h : Now w0 w H d e g gb gd gc D E m N m' N') : ∃ S, Dv w S d D m N := by
  obtain ⟨S, T, h1, _⟩ := h.drives
  exact ⟨S, h1⟩
theorem Now.ok (h : Now w0 w H d e g gb gd gc D E m N m' N') : D.Ok m N := by
  obtain ⟨S, h1⟩ := h.dv
  exact h1.1
/-- What does nothing to the drives: new blocks are aside. -/
theorem Now.hold (h : Now w0 w H d e g gb gd gc D E m N m' N') (hk : Kept w w' H) (hh : HandAt w' g gb gd gc) : Now w0 w' (fun k => H k ∨ (w.heap.size ≤ k ∧ k < w'.heap.size)) d e g gb gd gc D E m N m' N' := by
  obtain ⟨S, T, h1, h2, h3, h4⟩ := h.drives
  have hs := h.back.size
  refine ⟨⟨S, T, h1.kept hk fun k hS hH => (h3 k hS).2.1 hH, h2.kept hk fun k hT hH => (h4 k hT).2.1 hH, fun k hS => ⟨(h3 k hS).1, ?_, (h3 k hS).2.2⟩, fun k hT => ⟨(h4 k hT).1, ?_, (h4 k hT).2.2⟩⟩, h.back.trans (hk.to_below hs fun k hH => (h.side k hH).1), ?_, hh, .inl h.in_.1, .inl h.in_.2.1, .inl h.in_.2.2.1, .inl h.in_.2.2.2⟩
  · rintro (hH | hH)
    · exact (h3 k hS).2.1 hH
    · have := h1.low k hS; omega
  · rintro (hH | hH)
    · exact (h4 k hT).2.1 hH
    · have := h2.low k hT; omega
  · rintro k (hH | hH)
    · have := h.side k hH; have := hk.size; omega
    · omega
theorem Now.below (h : Now w0 w H d e g gb gd gc D E m N m' N') (hb : Below w.heap.size w w') : Now w0 w' (fun k => H k ∨ (w.heap.size ≤ k ∧ k < w'.heap.size)) d e g gb gd gc D E m N m' N' :=
  h.hold (Kept.of_below _ hb) (h.hand.keep fun k hk => hb.block k (by
    rcases hk with rfl | rfl | rfl | rfl
    · exact (h.side _ h.in_.1).2
    · exact (h.side _ h.in_.2.1).2
    · exact (h.side _ h.in_.2.2.1).2
    · exact (h.side _ h.in_.2.2.2).2))
theorem Now.less (h : Now w0 w H d e g gb gd gc D E m N m' N') (hs : ∀ k, H' k → H k) (hi : H' g ∧ H' gb ∧ H' gd ∧ H' gc) : Now w0 w H' d e g gb gd gc D E m N m' N' := by
  obtain ⟨S, T, h1, h2, h3, h4⟩ := h.drives
  exact ⟨⟨S, T, h1, h2, fun k hS => ⟨(h3 k hS).1, fun hH => (h3 k hS).2.1 (hs k hH), (h3 k hS).2.2⟩, fun k hT => ⟨(h4 k hT).1, fun hH => (h4 k hT).2.1 (hs k hH), (h4 k hT).2.2⟩⟩, h.back, fun k hk => h.side k (hs k hk), h.hand, hi⟩
theorem Now.same (h : Now w0 w H d e g gb gd gc D E m N m' N') (hb : Below w.heap.size w w') : Now w0 w' H d e g gb gd gc D E m N m' N' := (h.below hb).less (fun k hk => .inl hk) h.in_
/-- A call of the first drive. -/
theorem Now.first (h : Now w0 w H d e g gb gd gc D E m N m' N') (hx : Aside w H x) (hm : m ≤ 70368744177664) (hN : (N + 1) * 40 ≤ 70368744177664) :
    Calls Try.prog 50 #[.pointer (some ⟨d, 0, none⟩), actV x.a x.A x.n x.c x.Ad x.nd x.cd x.Au x.nu x.cu] w fun y w' => y = .returned (.int .i64 (D.step x.a).2.code) ∧ Now w0 w' H d e g gb gd gc (D.step x.a).1 E (m + 1048576) (N + 1) m' N' ∧ Keeps H w w' := by
  obtain ⟨S, T, h1, h2, h3, h4⟩ := h.drives
  refine (bare_any h1 ⟨hx.act, hx.cap, fun ad e hS => (h3 _ hS).2.1 (hx.a ad e), fun ad e hS => (h3 _ hS).2.1 (hx.d ad e), fun ad e hS => (h3 _ hS).2.1 (hx.u ad e)⟩ hm hN).mono ?_
  rintro y w' ⟨rfl, S1, a1, a2, a3⟩
  have hkeep : Keeps H w w' := ⟨a2.size, fun k hH hl => a2.block k hl fun hS => (h3 k hS).2.1 hH⟩
  have hs := h.back.size
  refine ⟨rfl, ⟨⟨S1, T, a1, h2.kept a2 fun k hT hS => (h3 k hS).2.2 hT, fun k hk => ?_, fun k hT => ⟨(h4 k hT).1, (h4 k hT).2.1, fun hk => ?_⟩⟩, h.back.trans (a2.to_below hs fun k hk => (h3 k hk).1), fun k hk => ⟨(h.side k hk).1, Nat.lt_of_lt_of_le (h.side k hk).2 a2.size⟩, h.hand.keep fun k hk => ?_, h.in_⟩, hkeep⟩
  · rcases a3 k hk with hS | hge
    · exact h3 k hS
    · exact ⟨by omega, fun hH => by have := h.side k hH; omega, fun hT => by have := h2.low k hT; omega⟩
  · rcases a3 k hk with hS | hge
    · exact (h3 k hS).2.2 hT
    · have := h2.low k hT; omega
  · have hi := h.in_
    rcases hk with rfl | rfl | rfl | rfl
    · exact hkeep.2 _ hi.1 (h.side _ hi.1).2
    · exact hkeep.2 _ hi.2.1 (h.side _ hi.2.1).2
    · exact hkeep.2 _ hi.2.2.1 (h.side _ hi.2.2.1).2
    · exact hkeep.2 _ hi.2.2.2 (h.side _ hi.2.2.2).2
theorem Now.second (h : Now w0 w H d e g gb gd gc D E m N m' N') (hx : Aside w H x) (hm : m' ≤ 70368744177664) (hN : (N' + 1) * 40 ≤ 70368744177664) :
    Calls Try.prog 50 #[.pointer (some ⟨e, 0, none⟩), actV x.a x.A x.n x.c x.Ad x.nd x.cd x.Au x.nu x.cu] w fun y w' => y = .returned (.int .i64 (E.step x.a).2.code) ∧ Now w0 w' H d e g gb gd gc D (E.step x.a).1 m N (m' + 1048576) (N' + 1) ∧ Keeps H w w' := by
  refine (h.swap.first hx hm hN).mono ?_
  rintro y w' ⟨hy, h1, h2⟩
  exact ⟨hy, h1.swap, h2⟩
/-- The hand is filled. -/
theorem Now.filled (h : Now w0 w H d e g gb gd gc D E m N m' N') (hx : x.In w w0.heap.size) (q : Nat) (hq : q ≤ 1) (hf : x.n ≤ 4096 ∧ x.nd ≤ 64 ∧ x.nu ≤ 64) :
    Calls Try.prog 48 #[.pointer (some ⟨g, 0, none⟩), actV x.a x.A x.n x.c x.Ad x.nd x.cd x.Au x.nu x.cu, .int .u8 (q : Int)] w fun y w' =>
      y = .returned (.tuple #[actV (fillA q x.a) (some ⟨gb, 0, none⟩) x.n 4096 (some ⟨gd, 0, none⟩) x.nd 64 (some ⟨gc, 0, none⟩) x.nu 64, .bool true]) ∧ Now w0 w' (fun k => H k ∨ (w.heap.size ≤ k ∧ k < w'.heap.size)) d e g gb gd gc D E m N m' N' ∧
      Kept w w' (fun k => k = gb ∨ k = gd ∨ k = gc) ∧ Aside w' H ⟨fillA q x.a, some ⟨gb, 0, none⟩, x.n, 4096, some ⟨gd, 0, none⟩, x.nd, 64, some ⟨gc, 0, none⟩, x.nu, 64⟩ := by
  have hi := h.in_
  refine (filled_any q hq h.hand ⟨(h.side _ hi.1).1, (h.side _ hi.2.1).1, (h.side _ hi.2.2.1).1, (h.side _ hi.2.2.2).1⟩ hx hf).mono ?_
  rintro y w' ⟨rfl, hh, hk, r1, r2, r3⟩
  refine ⟨rfl, h.hold (hk.mono fun k hk => ?_) hh, hk, ⟨r1, r2, r3, (fun e => by cases e), (fun e => by cases e), (fun e => by cases e), hx.n_le, hx.nd_le, hx.nu_le, hx.kind, hx.num, fun z hz => ?_⟩, ⟨hf.1, show 4096 ≤ maxLen by unfold maxLen; decide⟩, ?_, ?_, ?_⟩
  · rcases hk with rfl | rfl | rfl
    · exact hi.2.1
    · exact hi.2.2.1
    · exact hi.2.2.2
  · unfold fillA at hz
    dsimp only at hz
    rw [List.mem_mapIdx] at hz
    obtain ⟨i, hi2, rfl⟩ := hz
    unfold fC
    split
    · omega
    · exact hx.cut _ (List.getElem_mem hi2)
  · rintro ad e
    injection e with e
    subst e
    exact hi.2.1
  · rintro ad e
    injection e with e
    subst e
    exact hi.2.2.1
  · rintro ad e
    injection e with e
    subst e
    exact hi.2.2.2
/-- A twin of an act that lies aside. -/
theorem Now.twin (h : Now w0 w H d e g gb gd gc D E m N m' N') (hx : Aside w H x) :
    Calls Try.prog 49 #[actV x.a x.A x.n x.c x.Ad x.nd x.cd x.Au x.nu x.cu] w fun y w' => ∃ A c Ad cd Au cu, y = .returned (actV x.a A x.n c Ad x.nd cd Au x.nu cu) ∧ Now w0 w' (fun k => H k ∨ (w.heap.size ≤ k ∧ k < w'.heap.size)) d e g gb gd gc D E m N m' N' ∧
      Below w.heap.size w w' ∧ Aside w' (fun k => w.heap.size ≤ k ∧ k < w'.heap.size) ⟨x.a, A, x.n, c, Ad, x.nd, cd, Au, x.nu, cu⟩ := by
  refine (twin_any hx.act).mono ?_
  rintro y w' ⟨v, rfl, A, c, Ad, cd, Au, cu, rfl, r1, r2, r3, hb⟩
  have key : ∀ {e : TypeId} {n c : Nat} {A : Option Addr} {xs : List Value}, w'.ownsRow w.heap.size e 1 (.slice A n c) n xs → ∀ ad, A = some ad → w.heap.size ≤ ad.block ∧ ad.block < w'.heap.size := by
    rintro e n c A xs hr ad rfl
    rcases hr.2 with ⟨hv, _⟩ | ⟨g, cap, cur, hv, hge, hcur, _⟩
    · cases hv
    · injection hv with hv
      injection hv with hv
      subst hv
      exact ⟨hge, (Array.getElem?_eq_some_iff.1 hcur).1⟩
  exact ⟨A, c, Ad, cd, Au, cu, rfl, h.below hb, hb, ⟨Rd.of_own r1, Rd.of_own r2, Rd.of_own r3, own_none r1, own_none r2, own_none r3, hx.act.n_le, hx.act.nd_le, hx.act.nu_le, hx.act.kind, hx.act.num, hx.act.cut⟩, own_form_le r1, key r1, key r2, key r3⟩
end
end Go.Proofs.Ytelgcmcnebncmaa.Dr
