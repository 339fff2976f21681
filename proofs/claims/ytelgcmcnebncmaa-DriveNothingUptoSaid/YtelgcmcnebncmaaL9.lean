/- Image, Safe, Crash of drives that were made since; Load of what a call built. -/
import Derived.Test.YtelgcmcnebncmaaSame
import Derived.Test.YtelgcmcnebncmaaPCalm
namespace Go.Proofs.Ytelgcmcnebncmaa.Dr
open Go.RowKit Go.Proofs Go.Proofs.Ytelgcmcnebncmaa.Ring

section
variable {w0 w w' wh : World} {lo d m N m1 N1 : Nat} {D D1 : Dr.D}
theorem image_len : D.image.length = D.now.length := by simp [Dr.D.image, Dr.D.files]
theorem safe_len : D.safe.length = D.kept.length := by simp [Dr.D.safe, Dr.D.files]
theorem image_form (h : ∃ S, Dv w S d D m N) (hm : m ≤ 140737488355328) (hN : N * 40 ≤ 140737488355328) {n : Nat} {fs : List (Bs × Bs)} (hfs : D.image = fs) (hn : fs.length = n) : Calls Try.prog 20 #[.pointer (some ⟨d, 0, none⟩)] w fun x w' => ∃ A c dv, x = .returned (.slice A n c) ∧ FilesAt w' w.heap.size (.slice A n c) dv fs ∧ Below w.heap.size w w' := by
  subst hfs hn
  obtain ⟨S, h⟩ := h
  refine (image_any h hm hN).mono ?_
  rintro x w' ⟨v, dv, rfl, hf, hb⟩
  obtain ⟨A, c, rfl, _, _⟩ := own_form hf.row
  exact ⟨A, c, dv, rfl, hf, hb⟩
theorem safe_form (h : ∃ S, Dv w S d D m N) (hm : m ≤ 140737488355328) (hN : N * 40 ≤ 140737488355328) {n : Nat} {fs : List (Bs × Bs)} (hfs : D.safe = fs) (hn : fs.length = n) : Calls Try.prog 21 #[.pointer (some ⟨d, 0, none⟩)] w fun x w' => ∃ A c dv, x = .returned (.slice A n c) ∧ FilesAt w' w.heap.size (.slice A n c) dv fs ∧ Below w.heap.size w w' := by
  subst hfs hn
  obtain ⟨S, h⟩ := h
  refine (safe_any h hm hN).mono ?_
  rintro x w' ⟨v, dv, rfl, hf, hb⟩
  obtain ⟨A, c, rfl, _, _⟩ := own_form hf.row
  exact ⟨A, c, dv, rfl, hf, hb⟩
theorem Own.dv (h : Own w0 w d D m N) : ∃ S, Dv w S d D m N := by obtain ⟨S, h1, _⟩ := h; exact ⟨S, h1⟩
theorem Beside.dv (h : Beside w0 wh w lo d D m N) : ∃ S, Dv w S d D m N := h.own.dv
theorem Beside.pending (h : Beside w0 wh w lo d D m N) {k : Nat} (hk : D.pend.length = k) : Calls Try.prog 22 #[.pointer (some ⟨d, 0, none⟩)] w fun x w' => x = .returned (.int .i64 (k : Int)) ∧ w = w' := h.own.pending hk
/-- A loss of power with a fate that lies beside. -/
theorem Beside.crash (h : Beside w0 wh w lo d D m N) (hm : m ≤ 140737488355328) (hN : N * 24 ≤ 140737488355328) {Ad Ac : Option Addr} {nd cd nc cc : Nat} {dirs : List Bool} {cuts : List Int} (hd : Rd w w.heap.size 1 Ad nd (cBool dirs)) (hc : Rd w w.heap.size 1 Ac nc (cInt cuts))
    (hcb : ∀ x ∈ cuts, -9223372036854775808 ≤ x ∧ x ≤ 9223372036854775807) (hdS : ∀ ad, Ad = some ad → lo ≤ ad.block ∧ ad.block < wh.heap.size) (hcS : ∀ ad, Ac = some ad → lo ≤ ad.block ∧ ad.block < wh.heap.size) {r : Dr.D} (hr : D.crash dirs cuts = r) :
    Calls Try.prog 16 #[.pointer (some ⟨d, 0, none⟩), .agg #[.slice Ad nd cd, .slice Ac nc cc]] w fun x w' => x = .returned (.int .i64 0) ∧ Beside w0 wh w' lo d r m N := by
  subst hr
  have h4 := h
  obtain ⟨S, h1, h2, h3, h5, _⟩ := h4
  have key : ∃ S, Dv w S d D m N ∧ (∀ k, S k → w0.heap.size ≤ k) ∧ ∀ k, S k → k < lo ∨ wh.heap.size ≤ k := ⟨S, h1, h3, h5⟩
  obtain ⟨S, h1, h2, h3, h5, h6, h7⟩ := h
  refine (crash_any h1 hm hN hd hc hcb (fun ad _ e hk => ?_) (fun ad _ e hk => ?_)).mono ?_
  · have := hdS ad e; rcases h5 _ hk with h | h <;> omega
  · have := hcS ad e; rcases h5 _ hk with h | h <;> omega
  · rintro x w' ⟨hr, S1, a1, a2, a3⟩
    refine ⟨hr, S1, a1, h2.trans (a2.to_below h2.size fun k hk => h3 k hk), fun k hk => ?_, fun k hk => ?_, Nat.le_trans h6 a2.size, fun k hk1 hk2 => ?_⟩
    · rcases a3 k hk with h | h
      · exact h3 k h
      · exact Nat.le_trans h2.size h
    · rcases a3 k hk with h | h
      · exact h5 k h
      · exact .inr (Nat.le_trans h6 h)
    · refine (a2.block k (by omega) fun hs => ?_).trans (h7 k hk1 hk2)
      rcases h5 k hs with h | h <;> omega
/-- A fate that came in, and lies below the drive. -/
theorem Beside.crash_in (h : Beside w0 wh w lo d D m N) (hm : m ≤ 140737488355328) (hN : N * 24 ≤ 140737488355328) {Ad Ac : Option Addr} {nd cd nc cc : Nat} {dirs : List Bool} {cuts : List Int} (hf : FateIn w w0.heap.size dirs cuts Ad nd cd Ac nc cc) {r : Dr.D} (hr : D.crash dirs cuts = r) :
    Calls Try.prog 16 #[.pointer (some ⟨d, 0, none⟩), .agg #[.slice Ad nd cd, .slice Ac nc cc]] w fun x w' => x = .returned (.int .i64 0) ∧ Beside w0 wh w' lo d r m N := by
  subst hr
  have hs := h.own.back.size
  refine h.call fun S hD hS => crash_any hD hm hN (hf.dirs.more hs) (hf.cuts.more hs) hf.cut ?_ ?_
  · intro ad h0 e hk
    obtain ⟨ad', e', hb, _⟩ := hf.dirs.2 h0
    rw [e] at e'
    injection e' with e'
    have := hS _ hk
    rw [← e'] at hb
    omega
  · intro ad h0 e hk
    obtain ⟨ad', e', hb, _⟩ := hf.cuts.2 h0
    rw [e] at e'
    injection e' with e'
    have := hS _ hk
    rw [← e'] at hb
    omega
/-- What stands on a drive is loaded into another. -/
theorem load_back (ho : D.Ok m N) (hm : m ≤ 140737488355328) (hN : N ≤ 4398046511104) {A : Option Addr} {n c : Nat} (hf : FilesRd w A n D.image) :
    Calls Try.prog 39 #[.int .i64 1048576, .slice A n c] w fun x w' => ∃ L l, x = .returned (.pointer (some ⟨l, 0, none⟩)) ∧ Own w w' l L m N ∧ L.image = D.image ∧ L.safe = D.image ∧ L.pend = [] := by
  have hf' := hf
  obtain ⟨L, e, h1, h2, h3⟩ := load_image (d := D) ho (room := 1048576) (by rfl)
  refine (load_any (m := m) 1048576 hf (fun f hf => ?_) (fun f hf => ?_) hm (Nat.le_trans (Nat.le_of_eq (hf.1.symm.trans image_len)) (Nat.le_trans ho.lenN hN))).mono ?_
  · obtain ⟨p, hp, rfl⟩ := mem_files.1 hf
    exact named_len (ho.namN p hp)
  · obtain ⟨p, hp, rfl⟩ := mem_files.1 hf
    exact (ho.at_ok p.2).2
  · rintro x w' ⟨hb, (⟨h4, _⟩ | ⟨D', d', S, h4, rfl, h5, h6⟩)⟩
    · rw [e] at h4; cases h4
    · rw [e] at h4
      injection h4 with h4
      subst h4
      exact ⟨_, d', rfl, ⟨S, h5.mono (Nat.le_refl _) (Nat.le_trans (Nat.le_of_eq (hf'.1.symm.trans image_len)) ho.lenN), hb, h6⟩, h1, h2, h3⟩
end
end Go.Proofs.Ytelgcmcnebncmaa.Dr
