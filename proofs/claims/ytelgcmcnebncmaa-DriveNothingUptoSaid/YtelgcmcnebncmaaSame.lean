/- SameFiles of files that are the same. Files that a call built are files that can be handed in. A drive beside memory that its calls leave alone. -/
import Derived.Test.YtelgcmcnebncmaaL8
namespace Go.Proofs.Ytelgcmcnebncmaa.Dr
open Go.RowKit Go.Proofs Go.Proofs.Ytelgcmcnebncmaa.Ring

theorem FilesRd.below {w w' : World} {A : Option Addr} {n : Nat} {fs : List (Bs × Bs)} (h : FilesRd w A n fs) (hb : Below w.heap.size w w') : FilesRd w' A n fs := by
  refine ⟨h.1, fun i f hf => ?_⟩
  obtain ⟨g, Af, cf, e, hg, h1, h2, h3⟩ := h.2 i f hf
  exact ⟨g, Af, cf, e, Nat.lt_of_lt_of_le hg hb.size, (hb.cell (p := ⟨g, i * 2, none⟩) hg).trans h1, (hb.cell (p := ⟨g, i * 2 + 1, none⟩) hg).trans h2, h3.next hb⟩
theorem FilesAt.rd {w : World} {base n c : Nat} {A : Option Addr} {dv : List Value} {fs : List (Bs × Bs)} (h : FilesAt w base (.slice A n c) dv fs) (hn : fs.length = n) : FilesRd w A n fs := by
  refine ⟨hn, fun i f hf => ?_⟩
  have hi := (List.getElem?_eq_some_iff.1 hf).1
  have hr := h.row
  rw [hn] at hr
  obtain ⟨g, rfl⟩ := own_some hr (by omega)
  obtain ⟨x, hx⟩ : ∃ x, dv[i]? = some x := ⟨_, List.getElem?_eq_getElem (by have := h.len; omega)⟩
  obtain ⟨c0, c1⟩ := cF_at fs dv i f x hf hx
  have hd := h.data i f x hf hx
  obtain ⟨Af, cf, rfl, _, _⟩ := own_form hd
  obtain ⟨cur, hcur⟩ := own_lt hr (g := g) rfl
  exact ⟨g, Af, cf, rfl, (Array.getElem?_eq_some_iff.1 hcur).1, own_cellS hr c0, own_cellS hr c1, Rd.of_own hd⟩
set_option maxRecDepth 100000 in
set_option maxHeartbeats 4000000 in
theorem sameFiles_any {w : World} {A A' : Option Addr} {n c c' : Nat} {fs : List (Bs × Bs)} (h : FilesRd w A n fs) (h' : FilesRd w A' n fs) (hn : n ≤ 17592186044416) :
    Calls Try.prog 19 #[.slice A n c, .slice A' n c'] w fun x w' => x = .returned (.bool true) ∧ Below w.heap.size w w' := by
  have H := Lib.hid h
  have H' := Lib.hid h'
  clear h h'
  go_enter Try.func19, Try.ntmps19
  go_upto_region 4 with (fail)
  go_loopw [5] (fun iv wr => ∃ i : Nat, iv = .int .i64 (i : Int) ∧ i ≤ n ∧ Below w.heap.size w wr) (fun iv _ => n - (intOf iv).toNat)
  case atStart => exact ⟨0, rfl, by omega, Below.refl _ _⟩
  case round =>
    obtain ⟨i, rfl, hi, hb⟩ := hrel
    by_cases hlt : i < n
    · obtain ⟨f, hf⟩ : ∃ f, fs[i]? = some f := ⟨_, List.getElem?_eq_getElem (by have := H.out.1; omega)⟩
      obtain ⟨g, Af, cf, rfl, hg, a0, a1, ar⟩ := (H.out.below hb).2 i f hf
      obtain ⟨g', Af', cf', rfl, hg', b0, b1, br⟩ := (H'.out.below hb).2 i f hf
      have t1 := run_text (P := Try.prog) wr.drew 35 9 5 Try.underlying35 Try.underlying5 Try.underlying9 cf ar.drew
      have t2 := run_text (P := Try.prog) wr.drew 35 9 5 Try.underlying35 Try.underlying5 Try.underlying9 cf' br.drew
      have d1 : wr.drew.cell? ⟨g, i * 2, none⟩ = _ := a0
      have d2 : wr.drew.cell? ⟨g, i * 2 + 1, none⟩ = _ := a1
      have d3 : wr.drew.cell? ⟨g', i * 2, none⟩ = _ := b0
      have d4 : wr.drew.cell? ⟨g', i * 2 + 1, none⟩ = _ := b1
      have hlt2 : (i : Int) < (n : Int) := by omega
      have HB := Lib.hid hb
      clear hb hf hg hg' ar br
      go_upto_region 6 with (fail)
      go_region
      go_wp2
      have hb2 : Below w.heap.size w wr.drew := HB.out.trans ⟨rfl, rfl, rfl, Nat.le_refl _, fun _ _ => rfl⟩
      have HB2 := Lib.hid hb2
      clear hb2 a0 a1 b0 b1 d1 d2 d3 d4 t1 t2
      go_roundw
      case rel => exact ⟨i + 1, by go_num, by omega, HB2.out⟩
      case measure => simp [intOf]; omega
    · obtain rfl : n = i := by omega
      have HB := Lib.hid hb
      clear hb
      go_wp2
      go_ret
      exact ⟨rfl, HB.out⟩
/-- A drive that was made since w0, beside memory from block lo to wh's end, which stands as it stood in wh. -/
def Beside (w0 wh w : World) (lo d : Nat) (D : Dr.D) (m N : Nat) : Prop := ∃ S, Dv w S d D m N ∧ Below w0.heap.size w0 w ∧ (∀ k, S k → w0.heap.size ≤ k) ∧ (∀ k, S k → k < lo ∨ wh.heap.size ≤ k) ∧ wh.heap.size ≤ w.heap.size ∧ ∀ k, lo ≤ k → k < wh.heap.size → w.heap[k]? = wh.heap[k]?
section
variable {w0 w w' wh : World} {lo d m N m1 N1 : Nat} {D D1 : Dr.D}
theorem Own.beside (h : Own w0 w d D m N) (hb : Below w.heap.size w wh) : Beside w0 wh wh w.heap.size d D m N := by
  obtain ⟨S, h1, h2, h3⟩ := h
  exact ⟨S, h1.below hb, h2.trans (hb.mono h2.size), h3, fun k hk => .inl (h1.low k hk), Nat.le_refl _, fun _ _ _ => rfl⟩
theorem Beside.own (h : Beside w0 wh w lo d D m N) : Own w0 w d D m N := by
  obtain ⟨S, h1, h2, h3, _⟩ := h
  exact ⟨S, h1, h2, h3⟩
theorem Beside.below (h : Beside w0 wh w lo d D m N) (hb : Below w.heap.size w w') : Beside w0 wh w' lo d D m N := by
  obtain ⟨S, h1, h2, h3, h4, h5, h6⟩ := h
  exact ⟨S, h1.below hb, h2.trans (hb.mono h2.size), h3, h4, Nat.le_trans h5 hb.size, fun k hk1 hk2 => (hb.block k (by omega)).trans (h6 k hk1 hk2)⟩
theorem Beside.mono (h : Beside w0 wh w lo d D m N) (hm : m ≤ m1) (hN : N ≤ N1) : Beside w0 wh w lo d D m1 N1 := by
  obtain ⟨S, h1, h2, h3, h4⟩ := h
  exact ⟨S, h1.mono hm hN, h2, h3, h4⟩
/-- A call that turns the drive leaves the memory beside it alone. -/
theorem Beside.call {f : FuncId} {args : Array Value} {R : Ending → Prop} (h : Beside w0 wh w lo d D m N)
    (hc : ∀ S, Dv w S d D m N → (∀ k, S k → w0.heap.size ≤ k) → Calls Try.prog f args w fun x w' => R x ∧ Turn w w' S d D1 m1 N1) :
    Calls Try.prog f args w fun x w' => R x ∧ Beside w0 wh w' lo d D1 m1 N1 := by
  obtain ⟨S, h1, h2, h3, h4, h5, h6⟩ := h
  refine (hc S h1 h3).mono ?_
  rintro x w' ⟨hr, S1, a1, a2, a3⟩
  refine ⟨hr, S1, a1, h2.trans (a2.to_below h2.size fun k hk => h3 k hk), fun k hk => ?_, fun k hk => ?_, Nat.le_trans h5 a2.size, fun k hk1 hk2 => ?_⟩
  · rcases a3 k hk with h | h
    · exact h3 k h
    · exact Nat.le_trans h2.size h
  · rcases a3 k hk with h | h
    · exact h4 k h
    · exact .inr (Nat.le_trans h5 h)
  · refine (a2.block k (by omega) fun hs => ?_).trans (h6 k hk1 hk2)
    rcases h4 k hs with h | h <;> omega
theorem FilesAt.beside {v : Value} {dv : List Value} {fs : List (Bs × Bs)} (h : FilesAt wh lo v dv fs) (hs : Beside w0 wh w lo d D m N) : FilesAt w lo v dv fs := by
  obtain ⟨S, _, _, _, _, h5, h6⟩ := hs
  exact h.same fun k hk1 hk2 => h6 k hk1 hk2
end
end Go.Proofs.Ytelgcmcnebncmaa.Dr
