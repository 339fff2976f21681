/- XL3, XBulk: merged by tools/merge.py. -/
import Derived.Test.YtelgcmcnebncmaaQ16
import Derived.Deep.CutRange
import Derived.Deep.CutBlock
import Derived.Test.YtelgcmcnebncmaaRows
namespace Go.Proofs.Ytelgcmcnebncmaa.Dr
set_option linter.unusedVariables false
open Go.RowKit Go.Proofs Go.Proofs.Ytelgcmcnebncmaa.Ring

abbrev tAct := 41
abbrev tAnswer := 38
/-- An act that came in: its lists lie below block B. -/
structure ActIn (w : World) (B : Nat) (a : Ac) (A : Option Addr) (n c : Nat) (Ad : Option Addr) (nd cd : Nat) (Au : Option Addr) (nu cu : Nat) : Prop where
  data : Rd w B 1 A n (cU8 a.data)
  dirs : Rd w B 1 Ad nd (cBool a.dirs)
  cuts : Rd w B 1 Au nu (cInt a.cuts)
  nil : A = none → c = 0
  nilD : Ad = none → cd = 0
  nilC : Au = none → cu = 0
  n_le : n ≤ 1048576
  nd_le : nd ≤ 1048576
  nu_le : nu ≤ 1048576
  kind : -9223372036854775808 ≤ a.kind ∧ a.kind ≤ 9223372036854775807
  num : -9223372036854775808 ≤ a.n ∧ a.n ≤ 9223372036854775807
  cut : ∀ x ∈ a.cuts, -9223372036854775808 ≤ x ∧ x ≤ 9223372036854775807
/-- The act as a value. -/
abbrev actV (a : Ac) (A : Option Addr) (n c : Nat) (Ad : Option Addr) (nd cd : Nat) (Au : Option Addr) (nu cu : Nat) : Value :=
  .agg #[.int .i64 a.kind, encStr a.name, encStr a.dst, .int .i64 a.n, .slice A n c, .slice Ad nd cd, .slice Au nu cu]
/-- An answer's lists lie in memory from base on, each in memory of its own. -/
structure AnAt (w : World) (base : Nat) (vd vn vf : Value) (dv : List Value) (x : An) : Prop where
  data : w.ownsRow base tU8 1 vd x.data.length (cU8 x.data)
  names : w.ownsRow base kStr 1 vn x.names.length (cStr x.names)
  files : FilesAt w base vf dv x.files
theorem AnAt.none_ (w : World) (base : Nat) (x : An) (h1 : x.data = []) (h2 : x.names = []) (h3 : x.files = []) : AnAt w base (.slice none 0 0) (.slice none 0 0) (.slice none 0 0) [] x := by
  refine ⟨?_, ?_, ?_⟩
  · rw [h1]; exact World.ownsRow_nil _ _ _ _
  · rw [h2]; exact World.ownsRow_nil _ _ _ _
  · rw [h3]; exact FilesAt.nil _ _
theorem own_low {w w' : World} {base : Nat} {e : TypeId} {size n : Nat} {v : Value} {xs : List Value} (h : w.ownsRow base e size v n xs) (hw : ∀ k, base ≤ k → k < w.heap.size → w'.heap[k]? = w.heap[k]?) : w'.ownsRow base e size v n xs :=
  own_same h fun g hg => by
    obtain ⟨cur, h1⟩ := own_lt h hg
    exact hw g (own_ge h hg) (Array.getElem?_eq_some_iff.1 h1).1
theorem FilesAt.same {w w' : World} {base : Nat} {v : Value} {dv : List Value} {fs : List (Bs × Bs)} (h : FilesAt w base v dv fs) (hw : ∀ k, base ≤ k → k < w.heap.size → w'.heap[k]? = w.heap[k]?) : FilesAt w' base v dv fs :=
  ⟨own_low h.row hw, h.len, fun j f x hf hx => own_low (h.data j f x hf hx) hw, h.own⟩
theorem AnAt.same {w w' : World} {base : Nat} {vd vn vf : Value} {dv : List Value} {x : An} (h : AnAt w base vd vn vf dv x) (hw : ∀ k, base ≤ k → k < w.heap.size → w'.heap[k]? = w.heap[k]?) : AnAt w' base vd vn vf dv x :=
  ⟨own_low h.data hw, own_low h.names hw, h.files.same hw⟩
theorem AnAt.lower {w : World} {base b2 : Nat} {vd vn vf : Value} {dv : List Value} {x : An} (h : AnAt w base vd vn vf dv x) (hb : b2 ≤ base) : AnAt w b2 vd vn vf dv x :=
  ⟨own_base h.data hb, own_base h.names hb, h.files.lower hb⟩
theorem results_row_tmp {P : Program} {fn : Func} {p u : Tmp} {ty : TypeId} (h : fn.results = #[.cell p ty, .tmp u]) (tmps : Array Value) (w : World) (g : Nat) (t : TypeId) (cs : Array Value) (fr : Nat × Nat) (d : TypeDesc)
    (hp : tmps.getD p undef = .pointer (some ⟨g, 0, none⟩)) (hg : w.heap[g]? = some (.cells cs t fr))
    (hu : P.underlying ty = some d) (hd : (match d with | .struct _ | .array _ _ => true | _ => false) = true) (hi : (P.info? ty).map (·.size) = some cs.size) :
    (results fn tmps).run P w = .ok (.tuple #[.agg cs, tmps.getD u undef]) w := by
  rw [results_cell_tmp h tmps P w, hp]
  simp [asAddr, run_loadVar_row w g t ty cs fr d hg hu hd hi]
theorem own_form_le {w : World} {base : Nat} {e : TypeId} {size n c : Nat} {A : Option Addr} {xs : List Value} (h : w.ownsRow base e size (.slice A n c) n xs) : n ≤ c ∧ c ≤ maxLen := by
  obtain ⟨_, c', hv, h1, h2⟩ := own_form h
  obtain rfl : c = c' := by injection hv
  exact ⟨h1, h2⟩
/-- Where the ways through the switch meet. -/
abbrev Meet (w4 wr : World) (S : Nat → Prop) (d : Nat) (D' : Dr.D) (m N P F : Nat) (ev : Value) (x : An) : Prop :=
  ∃ S' vd vn vf dv, ev = .int .i64 x.code ∧ Dv wr S' d D' m N ∧ Kept w4 wr (fun k => S k ∨ k = P) ∧ (∀ k, S' k → S k ∨ F + 1 ≤ k) ∧ wr.heap[P]? = some (.cells #[.int .i64 0, .int .i64 x.n, vd, vn, vf] tAnswer (0, 0)) ∧ AnAt wr (F + 1) vd vn vf dv x
/-- The ways through the switch meet: a call that answers a code alone. -/
theorem meet_turn {w4 wr : World} {S : Nat → Prop} {d m N m' N' P F : Nat} {D' : Dr.D} {e : Int} (hs : w4.heap.size = F + 1) (hP : w4.heap[P]? = some (.cells #[.int .i64 0, .int .i64 0, .slice none 0 0, .slice none 0 0, .slice none 0 0] tAnswer (0, 0))) (hPS : ¬ S P) (ht : Turn w4 wr S d D' m N)
    (hm : m ≤ m') (hN : N ≤ N') : Meet w4 wr S d D' m' N' P F (.int .i64 e) { code := e } := by
  obtain ⟨S', t1, t2, t3⟩ := ht
  refine ⟨S', _, _, _, [], rfl, t1.mono hm hN, t2.mono fun k hk => .inl hk, fun k hk => by rw [← hs]; exact t3 k hk, ?_, AnAt.none_ _ _ _ rfl rfl rfl⟩
  exact (t2.block P (Array.getElem?_eq_some_iff.1 hP).1 hPS).trans hP
/-- The same: a call that reads, and whose answer has been stored into the answer's place. -/
theorem meet_read {w4 w1 wr : World} {S : Nat → Prop} {d m N m' N' P F : Nat} {D : Dr.D} {x : An} {e : Int} {vd vn vf : Value} {dv : List Value} (hs : w4.heap.size = F + 1) (h : Dv w4 S d D m N) (hPS : ¬ S P) (hb : Below w4.heap.size w4 w1) (hk : Kept w1 wr (fun k => k = P))
    (hPF : P < F + 1) (hm : m ≤ m') (hN : N ≤ N') (hP : wr.heap[P]? = some (.cells #[.int .i64 0, .int .i64 x.n, vd, vn, vf] tAnswer (0, 0))) (ha : AnAt w1 (F + 1) vd vn vf dv x) (he : e = x.code) : Meet w4 wr S d D m' N' P F (.int .i64 e) x := by
  subst he
  have hk2 : Kept w4 wr (fun k => k = P) := (Kept.of_below _ hb).trans hk (fun k hk => .inl hk)
  refine ⟨S, vd, vn, vf, dv, rfl, (h.kept hk2 fun k h1 h2 => hPS (h2 ▸ h1)).mono hm hN, hk2.mono fun k hk => .inr hk, fun k hk => .inl hk, hP, ha.same fun k h1 h2 => hk.block k h2 fun e => by omega⟩
theorem unfrozen {w : World} {g : Nat} {cs : Array Value} {t : TypeId} (h : w.heap[g]? = some (.cells cs t (0, 0))) (k : Nat) : w.frozen? ⟨g, k, none⟩ = false := by
  unfold World.frozen?; rw [show w.heap[(⟨g, k, none⟩ : Addr).block]? = _ from h]; simp
theorem read_ok {w : World} {S : Nat → Prop} {d m N : Nat} {D : Dr.D} (h : Dv w S d D m N) (hm : m ≤ 140737488355328) {n : Bs} {i : Nat} (hl : D.look n = .ok i) : Calls Try.prog 77 #[.pointer (some ⟨d, 0, none⟩), encStr n] w fun x w' => Below w.heap.size w w' ∧
    ∃ A c, x = .returned (.tuple #[.slice A (D.at i).data.length c, .int .i64 0]) ∧ w'.ownsRow w.heap.size tU8 1 (.slice A (D.at i).data.length c) (D.at i).data.length (cU8 (D.at i).data) := by
  refine (read_any h hm n).mono ?_
  rintro x w' ⟨hb, (⟨e, h1, rfl⟩ | ⟨j, v, h1, rfl, ho⟩)⟩
  · rw [hl] at h1; cases h1
  · rw [hl] at h1; injection h1 with h1; subst h1
    obtain ⟨A, c, rfl, _, _⟩ := own_form ho
    exact ⟨hb, A, c, rfl, ho⟩
theorem read_no {w : World} {S : Nat → Prop} {d m N : Nat} {D : Dr.D} (h : Dv w S d D m N) (hm : m ≤ 140737488355328) {n : Bs} {e : Int} (hl : D.look n = .error e) : Calls Try.prog 77 #[.pointer (some ⟨d, 0, none⟩), encStr n] w fun x w' => Below w.heap.size w w' ∧
    x = .returned (.tuple #[.slice none 0 0, .int .i64 e]) := by
  refine (read_any h hm n).mono ?_
  rintro x w' ⟨hb, (⟨e, h1, rfl⟩ | ⟨j, v, h1, rfl, ho⟩)⟩
  · rw [hl] at h1; injection h1 with h1; subst h1; exact ⟨hb, rfl⟩
  · rw [hl] at h1; cases h1
section
variable {w : World} {S : Nat → Prop} {d m N : Nat} {D : Dr.D}
set_option maxRecDepth 100000 in
set_option maxHeartbeats 4000000 in
theorem do_any (h : Dv w S d D m N) {B : Nat} (hB : B ≤ w.heap.size) (hS : ∀ k, S k → B ≤ k) {a : Ac} {A Ad Au : Option Addr} {n c nd cd nu cu : Nat} (ha : ActIn w B a A n c Ad nd cd Au nu cu) (hm : m ≤ 70368744177664) (hN : (N + 1) * 40 ≤ 70368744177664) :
    Calls Try.prog 14 #[.pointer (some ⟨d, 0, none⟩), actV a A n c Ad nd cd Au nu cu] w fun x w' => ∃ vd vn vf dv,
      x = .returned (.tuple #[.agg #[.int .i64 (D.step a).2.code, .int .i64 (D.step a).2.n, vd, vn, vf], .bool true]) ∧ AnAt w' w.heap.size vd vn vf dv (D.step a).2 ∧ Turn w w' S d (D.step a).1 (m + n) (N + 1) := by
  obtain ⟨V, hV⟩ : ∃ V, w.heap.size = V := ⟨_, rfl⟩
  rw [hV] at hB ⊢
  have H := Lib.hid h
  have HS := Lib.hid hS
  have HA := Lib.hid ha
  have HV := Lib.hid hV
  clear h hS ha hV
  go_enter Try.func14, Try.ntmps14
  go_upto_region 2 with (fail)
  obtain ⟨w1, hw1⟩ : ∃ w1, ((w.alloc (.cells #[.int .i64 a.kind, encStr a.name, encStr a.dst, .int .i64 a.n, .slice A n c, .slice Ad nd cd, .slice Au nu cu] tAct)).alloc (.cells #[.int .i64 0, .int .i64 0, .slice none 0 0, .slice none 0 0, .slice none 0 0] tAnswer)).alloc
    (.cells #[.int .i64 0, .int .i64 0, .slice none 0 0, .slice none 0 0, .slice none 0 0] tAnswer) = w1 := ⟨_, rfl⟩
  have hs1 : w1.heap.size = V + 3 := by rw [← hw1, ← HV.out]; simp
  have hA1 : w1.heap[V]? = some (.cells #[.int .i64 a.kind, encStr a.name, encStr a.dst, .int .i64 a.n, .slice A n c, .slice Ad nd cd, .slice Au nu cu] tAct (0, 0)) := by
    rw [← hw1, ← HV.out]
    exact (heap_alloc_old _ _ (by simp; omega)).trans ((heap_alloc_old _ _ (by simp)).trans (heap_alloc_new _ _))
  have hR1 : w1.heap[V + 1]? = some (.cells #[.int .i64 0, .int .i64 0, .slice none 0 0, .slice none 0 0, .slice none 0 0] tAnswer (0, 0)) := by
    rw [← hw1, ← HV.out]
    exact (heap_alloc_old _ _ (by simp)).trans (heap_alloc2_new _ _ _)
  have hP1 : w1.heap[V + 2]? = some (.cells #[.int .i64 0, .int .i64 0, .slice none 0 0, .slice none 0 0, .slice none 0 0] tAnswer (0, 0)) := by
    rw [← hw1, ← HV.out]
    have := heap_alloc_new ((w.alloc (.cells #[.int .i64 a.kind, encStr a.name, encStr a.dst, .int .i64 a.n, .slice A n c, .slice Ad nd cd, .slice Au nu cu] tAct)).alloc (.cells #[.int .i64 0, .int .i64 0, .slice none 0 0, .slice none 0 0, .slice none 0 0] tAnswer)) (.cells #[.int .i64 0, .int .i64 0, .slice none 0 0, .slice none 0 0, .slice none 0 0] tAnswer)
    rwa [show ((w.alloc (.cells #[.int .i64 a.kind, encStr a.name, encStr a.dst, .int .i64 a.n, .slice A n c, .slice Ad nd cd, .slice Au nu cu] tAct)).alloc (.cells #[.int .i64 0, .int .i64 0, .slice none 0 0, .slice none 0 0, .slice none 0 0] tAnswer)).heap.size = w.heap.size + 2 by simp] at this
  have hb1 : Below V w w1 := by
    rw [← hw1, ← HV.out]
    exact (((Below.refl _ _).alloc (Nat.le_refl _) _).alloc (by simp) _).alloc (by simp; omega) _
  rw [hw1, HV.out]
  clear hw1
  have f4 : w1.cell? ⟨V, 4, none⟩ = some (.slice A n c) := by rw [cell_of_row w1 V _ _ _ _ hA1]; rfl
  have HS1 := Lib.hid hs1
  have HA1 := Lib.hid hA1
  have HR1 := Lib.hid hR1
  have HP1 := Lib.hid hP1
  have HB1 := Lib.hid hb1
  clear hs1 hA1 hR1 hP1 hb1
  go_upto_region 3 with (first
    | (go_at_call 58; refine (lent_any (HA.out.data.below (HB1.out.mono hB)) (by have := HS1.out; omega) HA.out.nil (by have := HA.out.n_le; omega)).mono ?_; rintro x w2 ⟨g, cap, rfl, hl2, hl2b, hb2⟩))
  have HL2 := Lib.hid hl2
  have HNL := Lib.hid hl2b
  have HB2 := Lib.hid hb2
  have hA2 := (hb2.block V (by have := HS1.out; omega)).trans HA1.out
  have f5 : w2.cell? ⟨V, 5, none⟩ = some (.slice Ad nd cd) := by rw [cell_of_row w2 V _ _ _ _ hA2]; rfl
  have f6 : w2.cell? ⟨V, 6, none⟩ = some (.slice Au nu cu) := by rw [cell_of_row w2 V _ _ _ _ hA2]; rfl
  clear hl2 hl2b hb2 hA2 f4
  have hbw2 : Below V w w2 := HB1.out.trans (HB2.out.mono (by have := HS1.out; omega))
  have HBW2 := Lib.hid hbw2
  clear hbw2
  go_upto_region 4 with (first
    | (go_at_call 74; refine (lentFate_any (HA.out.dirs.below (HBW2.out.mono hB)) (HA.out.cuts.below (HBW2.out.mono hB)) (by have := HS1.out; have := HB2.out.size; omega) HA.out.nilD HA.out.nilC HA.out.nd_le HA.out.nu_le).mono ?_; rintro x w3 ⟨gd, cd', gc, cc', rfl, hl3, hb3⟩))
  have hF : V + 3 ≤ w3.heap.size := by have := HS1.out; have := HB2.out.size; have := hb3.size; omega
  have hb4 : Below V w (w3.alloc (.cells #[.slice (some ⟨gd, 0, none⟩) nd cd', .slice (some ⟨gc, 0, none⟩) nu cc'] tFate)) := (HBW2.out.trans (hb3.mono (by have := HS1.out; have := HB2.out.size; omega))).alloc (by omega) _
  have hold : ∀ k, k < w1.heap.size → (w3.alloc (.cells #[.slice (some ⟨gd, 0, none⟩) nd cd', .slice (some ⟨gc, 0, none⟩) nu cc'] tFate)).heap[k]? = w1.heap[k]? := fun k hk =>
    (heap_alloc_old _ _ (by have := HB2.out.size; have := hb3.size; omega)).trans ((hb3.block k (by have := HB2.out.size; omega)).trans (HB2.out.block k hk))
  have hF4 := heap_alloc_new w3 (.cells #[.slice (some ⟨gd, 0, none⟩) nd cd', .slice (some ⟨gc, 0, none⟩) nu cc'] tFate)
  have hl4 : Lent (w3.alloc (.cells #[.slice (some ⟨gd, 0, none⟩) nd cd', .slice (some ⟨gc, 0, none⟩) nu cc'] tFate)) (V + 3) g cap a.data := by
    have := HL2.out
    unfold Lent at this ⊢
    rw [← HS1.out]
    exact own_alloc (own_below this hb3) _
  have hl4b : LentF (w3.alloc (.cells #[.slice (some ⟨gd, 0, none⟩) nd cd', .slice (some ⟨gc, 0, none⟩) nu cc'] tFate)) (V + 3) gd cd' gc cc' a.dirs a.cuts :=
    ⟨own_base (own_alloc hl3.1 _) (by have := HS1.out; have := HB2.out.size; omega), own_base (own_alloc hl3.2 _) (by have := HS1.out; have := HB2.out.size; omega)⟩
  have hne : g ≠ gd ∧ g ≠ gc := by
    refine ⟨fun e => ?_, fun e => ?_⟩
    · exact own_types hl4 hl4b.1 (by decide) (g := g) rfl (by rw [e]; rfl)
    · exact own_types hl4 hl4b.2 (by decide) (g := g) rfl (by rw [e]; rfl)
  obtain ⟨w4, hw4⟩ : ∃ w4, w3.alloc (.cells #[.slice (some ⟨gd, 0, none⟩) nd cd', .slice (some ⟨gc, 0, none⟩) nu cc'] tFate) = w4 := ⟨_, rfl⟩
  obtain ⟨F, hFF⟩ : ∃ F, w3.heap.size = F := ⟨_, rfl⟩
  have hs4 : w4.heap.size = F + 1 := by rw [← hw4, ← hFF]; simp
  rw [hw4] at hb4 hold hF4 hl4 hl4b ⊢
  rw [hFF] at hF hF4 ⊢
  have hA4 := (hold V (by have := HS1.out; omega)).trans HA1.out
  have hR4 := (hold (V + 1) (by have := HS1.out; omega)).trans HR1.out
  have hP4 := (hold (V + 2) (by have := HS1.out; omega)).trans HP1.out
  have h4 : Dv w4 S d D m N := H.out.below (hb4.mono (by have := HV.out; omega))
  clear hw4 hFF hold hb3 hl3 f5 f6
  have f0 : w4.cell? ⟨V, 0, none⟩ = some (.int .i64 a.kind) := by rw [cell_of_row w4 V _ _ _ _ hA4]; rfl
  have HB4 := Lib.hid hb4
  have HF4 := Lib.hid hF4
  have HL4 := Lib.hid hl4
  have HLF := Lib.hid hl4b
  have HNE := Lib.hid hne
  have HS4 := Lib.hid hs4
  have HA4 := Lib.hid hA4
  have HR4 := Lib.hid hR4
  have HP4 := Lib.hid hP4
  have H4 := Lib.hid h4
  have HF := Lib.hid hF
  clear hb4 hF4 hl4 hl4b hne hs4 hA4 hR4 hP4 h4 hF HL2 HB2 HBW2 HA1 HR1 HP1 HB1 HS1
  go_upto_block 0 with (fail)
  go_cut [9] from 17 to 155 (fun ev wr => ∃ S' vd vn vf dv, ev = .int .i64 (D.step a).2.code ∧ Dv wr S' d (D.step a).1 (m + n) (N + 1) ∧ Kept w4 wr (fun k => S k ∨ k = V + 2) ∧ (∀ k, S' k → S k ∨ F + 1 ≤ k) ∧
    wr.heap[V + 2]? = some (.cells #[.int .i64 0, .int .i64 (D.step a).2.n, vd, vn, vf] tAnswer (0, 0)) ∧ AnAt wr (F + 1) vd vn vf dv (D.step a).2)
  case rest =>
    obtain ⟨S', vd, vn, vf, dv, rfl, hD, hK, hS', hP, hAn⟩ := hcut
    obtain ⟨xd, yd, rfl, _, _⟩ := own_form hAn.data
    obtain ⟨xn, yn, rfl, _, _⟩ := own_form hAn.names
    obtain ⟨xf, yf, rfl, _, _⟩ := own_form hAn.files.row
    obtain ⟨ld, hld⟩ : ∃ l, (D.step a).2.data.length = l := ⟨_, rfl⟩
    obtain ⟨ln, hln⟩ : ∃ l, (D.step a).2.names.length = l := ⟨_, rfl⟩
    obtain ⟨lf, hlf⟩ : ∃ l, (D.step a).2.files.length = l := ⟨_, rfl⟩
    rw [hld, hln, hlf] at hP hAn
    obtain ⟨vd, hvd⟩ : ∃ v, Value.slice xd ld yd = v := ⟨_, rfl⟩
    obtain ⟨vn, hvn⟩ : ∃ v, Value.slice xn ln yn = v := ⟨_, rfl⟩
    obtain ⟨vf, hvf⟩ : ∃ v, Value.slice xf lf yf = v := ⟨_, rfl⟩
    rw [hvd, hvn, hvf] at hP hAn
    have hk4 : ∀ k, k < F + 1 → B ≤ k ∨ True → ¬ S k → k ≠ V + 2 → wc.heap[k]? = w4.heap[k]? := fun k hk _ h1 h2 => hK.block k (by rw [HS4.out]; exact hk) (fun h => h.elim h1 h2)
    have hnS : ∀ k, V ≤ k → ¬ S k := fun k hk h => by have := H.out.low k h; have := HV.out; omega
    have hbc : Below B w4 wc := hK.to_below (by rw [HS4.out]; have := HF.out; omega) (fun k hk => hk.elim (HS.out k) (fun e => by omega))
    have hgV : V + 3 ≤ g ∧ V + 3 ≤ gd ∧ V + 3 ≤ gc ∧ g < F + 1 ∧ gd < F + 1 ∧ gc < F + 1 := by
      have h1 := own_ge (show World.ownsRow _ _ _ _ _ _ _ from HL4.out) (g := g) rfl
      have h2 := own_ge HLF.out.1 (g := gd) rfl
      have h3 := own_ge HLF.out.2 (g := gc) rfl
      obtain ⟨_, h4⟩ := own_lt (show World.ownsRow _ _ _ _ _ _ _ from HL4.out) (g := g) rfl
      obtain ⟨_, h5⟩ := own_lt HLF.out.1 (g := gd) rfl
      obtain ⟨_, h6⟩ := own_lt HLF.out.2 (g := gc) rfl
      have h4 := (Array.getElem?_eq_some_iff.1 h4).1
      have h5 := (Array.getElem?_eq_some_iff.1 h5).1
      have h6 := (Array.getElem?_eq_some_iff.1 h6).1
      rw [HS4.out] at h4 h5 h6
      exact ⟨h1, h2, h3, h4, h5, h6⟩
    have hlc : Lent wc (V + 3) g cap a.data := own_same (show World.ownsRow _ _ _ _ _ _ _ from HL4.out) (fun k hk => by
      obtain rfl : g = k := by simpa [Value.ownBlock] using hk
      exact hk4 g (by omega) (.inr trivial) (hnS _ (by omega)) (by omega))
    have hlfc : LentF wc (V + 3) gd cd' gc cc' a.dirs a.cuts := ⟨own_same HLF.out.1 (fun k hk => by
      obtain rfl : gd = k := by simpa [Value.ownBlock] using hk
      exact hk4 gd (by omega) (.inr trivial) (hnS _ (by omega)) (by omega)), own_same HLF.out.2 (fun k hk => by
      obtain rfl : gc = k := by simpa [Value.ownBlock] using hk
      exact hk4 gc (by omega) (.inr trivial) (hnS _ (by omega)) (by omega))⟩
    have hAc := (hk4 V (by have := HF.out; omega) (.inr trivial) (hnS _ (by omega)) (by omega)).trans HA4.out
    have hRc := (hk4 (V + 1) (by have := HF.out; omega) (.inr trivial) (hnS _ (by omega)) (by omega)).trans HR4.out
    have hFc := (hk4 F (by omega) (.inr trivial) (hnS _ (by have := HF.out; omega)) (by have := HF.out; omega)).trans HF4.out
    have HBC := Lib.hid hbc
    have HGV := Lib.hid hgV
    have HLC := Lib.hid hlc
    have HLFC := Lib.hid hlfc
    have HAC := Lib.hid hAc
    have HRC := Lib.hid hRc
    have HFC := Lib.hid hFc
    have HPC := Lib.hid hP
    have HD := Lib.hid hD
    have HK := Lib.hid hK
    have HSS := Lib.hid hS'
    have HAN := Lib.hid hAn
    have HNS := Lib.hid hnS
    have e0 : wc.cell? ⟨V + 1 + 1, 0, none⟩ = some (.int .i64 0) := by rw [cell_of_row wc (V + 2) _ _ _ _ hP]; rfl
    have e1 : wc.frozen? ⟨V + 1 + 1, 0, none⟩ = false := by unfold World.frozen?; rw [show wc.heap[(⟨V + 1 + 1, 0, none⟩ : Addr).block]? = _ from hP]; simp
    clear hk4 hnS hbc hgV hlc hlfc hAc hRc hFc hP hD hK hS' hAn f0
    go_upto_region 43 with (first | (go_at_call 18; refine (num_any _ _).mono ?_; rintro x w' ⟨rfl, rfl⟩))
    clear e0 e1
    have hP5 := heap_same HPC.out (i := 0) (.int .i64 (D.step a).2.code)
    have hold5 : ∀ k, k ≠ V + 2 → (wc.setCell ⟨V + 1 + 1, 0, none⟩ (.int .i64 (D.step a).2.code)).heap[k]? = wc.heap[k]? := fun k hk => Below.heap_setCell wc _ _ k hk
    have hsz5 : (wc.setCell ⟨V + 1 + 1, 0, none⟩ (.int .i64 (D.step a).2.code)).heap.size = wc.heap.size := by simp [World.setCell]
    have hK5 : Kept wc (wc.setCell ⟨V + 1 + 1, 0, none⟩ (.int .i64 (D.step a).2.code)) (fun k => k = V + 2) := (Kept.refl wc (fun k => k = V + 2)).set (p := ⟨V + 1 + 1, 0, none⟩) (show V + 1 + 1 = V + 2 from rfl) _
    obtain ⟨w5, hw5⟩ : ∃ w5, wc.setCell ⟨V + 1 + 1, 0, none⟩ (.int .i64 (D.step a).2.code) = w5 := ⟨_, rfl⟩
    rw [hw5] at hP5 hold5 hsz5 hK5 ⊢
    have hwc : F + 1 ≤ wc.heap.size := by have := HK.out.size; rw [HS4.out] at this; exact this
    have hb5 : Below B w w5 := (HB4.out.mono hB).trans (HBC.out.trans (hK5.to_below (by have := HF.out; omega) (fun k hk => by omega)))
    have hA5 := (hold5 V (by omega)).trans HAC.out
    have hR5 := (hold5 (V + 1) (by omega)).trans HRC.out
    have hF5 := (hold5 F (by have := HF.out; omega)).trans HFC.out
    have hl5 : Lent w5 (V + 3) g cap a.data := own_same (show World.ownsRow _ _ _ _ _ _ _ from HLC.out) (fun k hk => by
      obtain rfl : g = k := by simpa [Value.ownBlock] using hk
      exact hold5 g (by have := HGV.out; omega))
    have hlf5 : LentF w5 (V + 3) gd cd' gc cc' a.dirs a.cuts := ⟨own_same HLFC.out.1 (fun k hk => by
      obtain rfl : gd = k := by simpa [Value.ownBlock] using hk
      exact hold5 gd (by have := HGV.out; omega)), own_same HLFC.out.2 (fun k hk => by
      obtain rfl : gc = k := by simpa [Value.ownBlock] using hk
      exact hold5 gc (by have := HGV.out; omega))⟩
    have e4 : w5.cell? ⟨V, 4, none⟩ = some (.slice A n c) := by rw [cell_of_row w5 V _ _ _ _ hA5]; rfl
    have HP5 := Lib.hid hP5
    have HK5 := Lib.hid hK5
    have HSZ5 := Lib.hid hsz5
    have HB5 := Lib.hid hb5
    have HA5 := Lib.hid hA5
    have HR5 := Lib.hid hR5
    have HF5 := Lib.hid hF5
    have HL5 := Lib.hid hl5
    have HLF5 := Lib.hid hlf5
    have HWC := Lib.hid hwc
    clear hP5 hold5 hsz5 hK5 hw5 hb5 hA5 hR5 hF5 hl5 hlf5 hwc
    go_upto_region 44 with (first
      | (go_at_call 59; refine (kept_any (HA.out.data.below HB5.out) HL5.out (by have := HA.out.n_le; omega)).mono ?_; rintro x w6 ⟨rfl, hb6⟩; have hA6 := (hb6.block V (by have := HSZ5.out; have := HWC.out; have := HF.out; omega)).trans HA5.out; have hF6 := (hb6.block F (by have := HSZ5.out; have := HWC.out; omega)).trans HF5.out; have q1 := (c_fate hF6).1; have q2 := (c_fate hF6).2; have q3 : w6.cell? ⟨V, 5, none⟩ = some (.slice Ad nd cd) := (by rw [cell_of_row w6 V _ _ _ _ hA6]; rfl); have q4 : w6.cell? ⟨V, 6, none⟩ = some (.slice Au nu cu) := (by rw [cell_of_row w6 V _ _ _ _ hA6]; rfl); have HB6 := Lib.hid hb6; clear hb6 hA6 hF6)
      | (go_at_call 82; refine (keptFate_any (B := B) ((HA.out.dirs.below HB5.out).below (HB6.out.mono (by have := HSZ5.out; have := HWC.out; have := HF.out; omega))) ((HA.out.cuts.below HB5.out).below (HB6.out.mono (by have := HSZ5.out; have := HWC.out; have := HF.out; omega))) ⟨own_below HLF5.out.1 HB6.out, own_below HLF5.out.2 HB6.out⟩ (by have := HSZ5.out; have := HWC.out; have := HF.out; have := HB6.out.size; omega) HA.out.nd_le HA.out.nu_le).mono ?_; rintro x w7 ⟨rfl, hK7⟩; have HK7 := Lib.hid hK7; clear hK7))
    clear e4 q1 q2 q3 q4
    have hsz7 : F + 1 ≤ w7.heap.size := by have := HSZ5.out; have := HWC.out; have := HB6.out.size; have := HK7.out.size; omega
    have h57 : ∀ k, k < w5.heap.size → k ≠ gd → k ≠ gc → w7.heap[k]? = w5.heap[k]? := fun k hk h1 h2 => (HK7.out.block k (by have := HB6.out.size; omega) (fun h => h.elim h1 h2)).trans (HB6.out.block k hk)
    have hl7 : Lent w7 (V + 3) g cap a.data := own_same (show World.ownsRow _ _ _ _ _ _ _ from HL5.out) (fun k hk => by
      obtain rfl : g = k := by simpa [Value.ownBlock] using hk
      exact h57 g (by have := HGV.out; have := HSZ5.out; have := HWC.out; omega) HNE.out.1 HNE.out.2)
    have hsp := spoil_any hl7 (by rw [HNL.out]; have := HA.out.n_le; omega)
    rw [HNL.out] at hsp
    have HSP := Lib.hid hsp
    have H57 := Lib.hid h57
    have HSZ7 := Lib.hid hsz7
    clear h57 hl7 hsp hsz7
    go_upto_region 46 with (first
      | (go_at_call 60; refine HSP.out.mono ?_; rintro x w8 ⟨rfl, hK8⟩; have HK8 := Lib.hid hK8; clear hK8))
    have h58 : ∀ k, k < w5.heap.size → k ≠ gd → k ≠ gc → k ≠ g → w8.heap[k]? = w5.heap[k]? := fun k hk h1 h2 h3 => (HK8.out.block k (by have := HB6.out.size; have := HK7.out.size; omega) h3).trans (H57.out k hk h1 h2)
    have hw5 : F + 1 ≤ w5.heap.size := by have := HSZ5.out; have := HWC.out; omega
    have hP8 := (h58 (V + 2) (by have := HF.out; omega) (by have := HGV.out; omega) (by have := HGV.out; omega) (by have := HGV.out; omega)).trans HP5.out
    have hR8 := (h58 (V + 1) (by have := HF.out; omega) (by have := HGV.out; omega) (by have := HGV.out; omega) (by have := HGV.out; omega)).trans HR5.out
    have c0 : w8.cell? ⟨V + 1 + 1, 0, none⟩ = some (.int .i64 (D.step a).2.code) := by rw [cell_of_row w8 (V + 2) _ _ _ _ hP8]; rfl
    have c1 : w8.cell? ⟨V + 1 + 1, 1, none⟩ = some (.int .i64 (D.step a).2.n) := by rw [cell_of_row w8 (V + 2) _ _ _ _ hP8]; rfl
    have c2 : w8.cell? ⟨V + 1 + 1, 2, none⟩ = some vd := by rw [cell_of_row w8 (V + 2) _ _ _ _ hP8]; rfl
    have c3 : w8.cell? ⟨V + 1 + 1, 3, none⟩ = some vn := by rw [cell_of_row w8 (V + 2) _ _ _ _ hP8]; rfl
    have c4 : w8.cell? ⟨V + 1 + 1, 4, none⟩ = some vf := by rw [cell_of_row w8 (V + 2) _ _ _ _ hP8]; rfl
    have r0 : w8.cell? ⟨V + 1, 0, none⟩ = some (.int .i64 0) := by rw [cell_of_row w8 (V + 1) _ _ _ _ hR8]; rfl
    have r1 : w8.cell? ⟨V + 1, 1, none⟩ = some (.int .i64 0) := by rw [cell_of_row w8 (V + 1) _ _ _ _ hR8]; rfl
    have r2 : w8.cell? ⟨V + 1, 2, none⟩ = some (.slice none 0 0) := by rw [cell_of_row w8 (V + 1) _ _ _ _ hR8]; rfl
    have r3 : w8.cell? ⟨V + 1, 3, none⟩ = some (.slice none 0 0) := by rw [cell_of_row w8 (V + 1) _ _ _ _ hR8]; rfl
    have r4 : w8.cell? ⟨V + 1, 4, none⟩ = some (.slice none 0 0) := by rw [cell_of_row w8 (V + 1) _ _ _ _ hR8]; rfl
    have z0 : w8.frozen? ⟨V + 1, 0, none⟩ = false := by unfold World.frozen?; rw [show w8.heap[(⟨V + 1, 0, none⟩ : Addr).block]? = _ from hR8]; simp
    have z1 : w8.frozen? ⟨V + 1, 1, none⟩ = false := by unfold World.frozen?; rw [show w8.heap[(⟨V + 1, 1, none⟩ : Addr).block]? = _ from hR8]; simp
    have z2 : w8.frozen? ⟨V + 1, 2, none⟩ = false := by unfold World.frozen?; rw [show w8.heap[(⟨V + 1, 2, none⟩ : Addr).block]? = _ from hR8]; simp
    have z3 : w8.frozen? ⟨V + 1, 3, none⟩ = false := by unfold World.frozen?; rw [show w8.heap[(⟨V + 1, 3, none⟩ : Addr).block]? = _ from hR8]; simp
    have z4 : w8.frozen? ⟨V + 1, 4, none⟩ = false := by unfold World.frozen?; rw [show w8.heap[(⟨V + 1, 4, none⟩ : Addr).block]? = _ from hR8]; simp
    have HR8 := Lib.hid hR8
    have H58 := Lib.hid h58
    have HW5 := Lib.hid hw5
    clear hP8 hR8 h58 hw5
    rw [← hvd] at c2
    rw [← hvn] at c3
    rw [← hvf] at c4
    have HVD := Lib.hid hvd
    have HVN := Lib.hid hvn
    have HVF := Lib.hid hvf
    clear hvd hvn hvf hld hln hlf
    go_wp2
    clear c0 c1 c2 c3 c4 r0 r1 r2 r3 r4 z0 z1 z2 z3 z4
    have hR9 := heap_same (heap_same (heap_same (heap_same (heap_same HR8.out (i := 0) (.int .i64 (D.step a).2.code)) (i := 1) (.int .i64 (D.step a).2.n)) (i := 2) (.slice xd ld yd)) (i := 3) (.slice xn ln yn)) (i := 4) (.slice xf lf yf)
    refine bodyPost_ret (results_row_tmp Try.results14 _ _ (V + 1) tAnswer _ _ _ rfl hR9 Try.underlying38 rfl (by kernel_rfl)) rfl ?_
    have hk89 := ((((((Kept.refl w8 (fun k => k = V + 1)).set (p := ⟨V + 1, 0, none⟩) rfl (.int .i64 (D.step a).2.code)).set (p := ⟨V + 1, 1, none⟩) rfl (.int .i64 (D.step a).2.n)).set (p := ⟨V + 1, 2, none⟩) rfl (.slice xd ld yd)).set (p := ⟨V + 1, 3, none⟩) rfl (.slice xn ln yn)).set (p := ⟨V + 1, 4, none⟩) rfl (.slice xf lf yf))
    obtain ⟨w9, hw9⟩ : ∃ w9, ((((w8.setCell ⟨V + 1, 0, none⟩ (.int .i64 (D.step a).2.code)).setCell ⟨V + 1, 1, none⟩ (.int .i64 (D.step a).2.n)).setCell ⟨V + 1, 2, none⟩ (.slice xd ld yd)).setCell ⟨V + 1, 3, none⟩ (.slice xn ln yn)).setCell ⟨V + 1, 4, none⟩ (.slice xf lf yf) = w9 := ⟨_, rfl⟩
    rw [hw9] at hk89 ⊢
    have hV3 := HF.out
    obtain ⟨x1, x2, x3, x4, x5, x6⟩ := HGV.out
    have hc9 : Kept wc w9 (fun k => V ≤ k ∧ k < F + 1) :=
      ((((HK5.out.mono fun k hk => (by subst hk; omega)).below HB6.out).trans (HK7.out.mono (T := fun k => V ≤ k ∧ k < F + 1) fun k hk => (by rcases hk with rfl | rfl <;> omega)) (fun k hk => .inl hk)).trans (HK8.out.mono (T := fun k => V ≤ k ∧ k < F + 1) fun k hk => (by subst hk; omega)) (fun k hk => .inl hk)).trans
        (hk89.mono (T := fun k => V ≤ k ∧ k < F + 1) fun k hk => (by subst hk; omega)) (fun k hk => .inl hk)
    have hsz : wc.heap.size = w5.heap.size := HSZ5.out.symm
    refine ⟨_, _, _, dv, rfl, ?_, S', ?_, ?_, ?_⟩
    · rw [HVD.out, HVN.out, HVF.out]
      exact (HAN.out.same fun k h1 h2 => hc9.block k h2 (by omega)).lower (by omega)
    · refine HD.out.kept hc9 fun k hk h => ?_
      rcases HSS.out k hk with h1 | h1
      · exact HNS.out k h.1 h1
      · omega
    · have hw4 : Kept w w4 S := (Kept.of_below _ (HB4.out.mono (by have := HV.out; omega)))
      refine (hw4.trans (HK.out.mono (T := fun k => S k ∨ V ≤ k) fun k hk => hk.elim .inl (fun e => .inr (by omega))) (fun k hk => hk.elim .inl fun e => .inr (by rw [HV.out]; exact e))).trans hc9 (fun k hk => .inr (by rw [HV.out]; exact hk.1))
    · intro k hk
      rcases HSS.out k hk with h1 | h1
      · exact .inl h1
      · exact .inr (by rw [HV.out]; omega)
  case first =>
    have f1 : w4.cell? ⟨V, 1, none⟩ = some (encStr a.name) := by rw [cell_of_row w4 V _ _ _ _ HA4.out]; rfl
    have f2 : w4.cell? ⟨V, 2, none⟩ = some (encStr a.dst) := by rw [cell_of_row w4 V _ _ _ _ HA4.out]; rfl
    have f3 : w4.cell? ⟨V, 3, none⟩ = some (.int .i64 a.n) := by rw [cell_of_row w4 V _ _ _ _ HA4.out]; rfl
    have hPS : ¬ S (V + 2) := fun h => by have := H.out.low _ h; have := HV.out; omega
    have HPS := Lib.hid hPS
    clear hPS
    have hfr : w4.ownsRow (V + 3) tU8 1 (.slice (some ⟨g, 0, none⟩) n cap) n (cU8 a.data) := by
      have h1 := HL4.out
      unfold Lent at h1
      have h2 := own_front h1 (q := n) (by have := HNL.out; omega)
      rwa [show (cU8 (a.data ++ marks)).take n = cU8 a.data by simp [cU8, ← HNL.out]] at h2
    have hfd : w4.ownsRow (V + 3) tBool 1 (.slice (some ⟨gd, 0, none⟩) nd cd') nd (cBool a.dirs) := by
      have hl : a.dirs.length = nd := by simpa using HA.out.dirs.1
      have h2 := own_front HLF.out.1 (q := nd) (by omega)
      rwa [show (cBool (a.dirs ++ cB4)).take nd = cBool a.dirs by simp [cBool, ← hl]] at h2
    have hfc : w4.ownsRow (V + 3) tInt 1 (.slice (some ⟨gc, 0, none⟩) nu cc') nu (cInt a.cuts) := by
      have hl : a.cuts.length = nu := by simpa using HA.out.cuts.1
      have h2 := own_front HLF.out.2 (q := nu) (by omega)
      rwa [show (cInt (a.cuts ++ cI4)).take nu = cInt a.cuts by simp [cInt, ← hl]] at h2
    have HFR := Lib.hid hfr
    have HFD := Lib.hid hfd
    have HFCU := Lib.hid hfc
    clear hfr hfd hfc
    have hpc : ∀ (w1 : World), Below (F + 1) w4 w1 → w1.heap[V + 2]? = some (.cells #[.int .i64 0, .int .i64 0, .slice none 0 0, .slice none 0 0, .slice none 0 0] tAnswer (0, 0)) := fun _ hb => (hb.block (V + 2) (by have := HF.out; omega)).trans HP4.out
    have HPC := Lib.hid hpc
    clear hpc
    have hgS : ∀ (j g' : Nat) (ad : Addr), V ≤ g' → 0 < j → some (⟨g', 0, none⟩ : Addr) = some ad → ¬ S ad.block := by
      intro j g' ad hg' _ e h
      injection e with e
      subst e
      have h2 : g' < w.heap.size := H.out.low g' h
      have := HV.out
      omega
    have hgV : V ≤ g ∧ V ≤ gd ∧ V ≤ gc := by
      have h1 := own_ge HFR.out (g := g) rfl
      have h2 := own_ge HFD.out (g := gd) rfl
      have h3 := own_ge HFCU.out (g := gc) rfl
      omega
    have HGS := Lib.hid hgS
    have HGV := Lib.hid hgV
    clear hgS hgV
    by_cases k0 : a.kind = 0
    · have hst : D.step a = ((D.create a.name).1, { code := (D.create a.name).2 }) := by
        unfold Dr.D.step
        rw [if_pos k0]
      have HST := Lib.hid hst
      clear hst
      go_wp2_with (first | (go_at_call 28; refine (create_any H4.out (by omega) a.name).mono ?_; rintro x w' ⟨rfl, ht⟩; have HT := Lib.hid ht; clear ht))
      go_meet
      rw [HST.out]
      exact meet_turn HS4.out HP4.out HPS.out HT.out (by omega) (by omega)
    by_cases k1 : a.kind = 1
    · have hst : D.step a = ((D.append a.name a.data).1, { code := (D.append a.name a.data).2 }) := by
        unfold Dr.D.step
        rw [if_neg k0, if_pos k1]
      have HST := Lib.hid hst
      clear hst
      go_wp2_with (first | (go_at_call 29; refine (append_any H4.out a.name (Rd.of_own HFR.out) (by have := HA.out.n_le; omega)).mono ?_; rintro x w' ⟨rfl, ht⟩; have HT := Lib.hid ht; clear ht))
      go_meet
      rw [HST.out]
      exact meet_turn HS4.out HP4.out HPS.out HT.out (by omega) (by omega)
    by_cases k2 : a.kind = 2
    · have hst : D.step a = ((D.sync a.name).1, { code := (D.sync a.name).2 }) := by
        unfold Dr.D.step
        rw [if_neg k0, if_neg k1, if_pos k2]
      have HST := Lib.hid hst
      clear hst
      go_wp2_with (first | (go_at_call 30; refine (sync_any H4.out a.name).mono ?_; rintro x w' ⟨rfl, ht⟩; have HT := Lib.hid ht; clear ht))
      go_meet
      rw [HST.out]
      exact meet_turn HS4.out HP4.out HPS.out HT.out (by omega) (by omega)
    by_cases k3 : a.kind = 3
    · have hst : D.step a = ((D.rename a.name a.dst).1, { code := (D.rename a.name a.dst).2 }) := by
        unfold Dr.D.step
        rw [if_neg k0, if_neg k1, if_neg k2, if_pos k3]
      have HST := Lib.hid hst
      clear hst
      go_wp2_with (first | (go_at_call 75; refine (rename_any H4.out (by omega) a.name a.dst).mono ?_; rintro x w' ⟨rfl, ht⟩; have HT := Lib.hid ht; clear ht))
      go_meet
      rw [HST.out]
      exact meet_turn HS4.out HP4.out HPS.out HT.out (by omega) (by omega)
    by_cases k4 : a.kind = 4
    · have hst : D.step a = ((D.remove a.name).1, { code := (D.remove a.name).2 }) := by
        unfold Dr.D.step
        rw [if_neg k0, if_neg k1, if_neg k2, if_neg k3, if_pos k4]
      have HST := Lib.hid hst
      clear hst
      go_wp2_with (first | (go_at_call 76; refine (remove_any H4.out (by omega) a.name).mono ?_; rintro x w' ⟨rfl, ht⟩; have HT := Lib.hid ht; clear ht))
      go_meet
      rw [HST.out]
      exact meet_turn HS4.out HP4.out HPS.out HT.out (by omega) (by omega)
    by_cases k5 : a.kind = 5
    · have hst : D.step a = (D.syncDir, {}) := by
        unfold Dr.D.step
        rw [if_neg k0, if_neg k1, if_neg k2, if_neg k3, if_neg k4, if_pos k5]
      have HST := Lib.hid hst
      clear hst
      go_wp2_with (first | (go_at_call 31; refine (syncDir_any H4.out).mono ?_; rintro x w' ⟨rfl, ht⟩; have HT := Lib.hid ht; clear ht))
      go_meet
      rw [HST.out]
      exact meet_turn HS4.out HP4.out HPS.out HT.out (by omega) (by omega)
    by_cases k6 : a.kind = 6
    · have hst : D.step a = (D, match D.look a.name with | .error e => { code := e } | .ok i => { data := (D.at i).data }) := by
        unfold Dr.D.step
        rw [if_neg k0, if_neg k1, if_neg k2, if_neg k3, if_neg k4, if_neg k5, if_pos k6]
        cases D.look a.name <;> rfl
      have HST := Lib.hid hst
      clear hst
      cases hlk : D.look a.name with
      | error e =>
        have HLK := Lib.hid hlk
        clear hlk
        go_wp2_with (first | (go_at_call 77; refine (read_no H4.out (by omega) HLK.out).mono ?_; rintro x w' ⟨hb, rfl⟩; have hP5 := HPC.out _ (HS4.out ▸ hb); have r5 : w'.cell? ⟨V + 2, 2, none⟩ = some (.slice none 0 0) := by { rw [cell_of_row w' (V + 2) _ _ _ _ hP5]; rfl }; have z5 := unfrozen hP5 2; have HP5 := Lib.hid hP5; have HB5 := Lib.hid hb; clear hP5 hb))
        clear r5 z5
        go_meet
        rw [HST.out, HLK.out]
        exact meet_read (dv := []) HS4.out H4.out HPS.out HB5.out ((Kept.refl _ (fun k => k = V + 2)).set (p := ⟨V + 2, 2, none⟩) rfl (.slice none 0 0)) (by have := HF.out; omega) (by omega) (by omega) (heap_same HP5.out (i := 2) (.slice none 0 0)) (AnAt.none_ _ _ _ rfl rfl rfl) rfl
      | ok i =>
        have HLK := Lib.hid hlk
        clear hlk
        go_wp2_with (first | (go_at_call 77; refine (read_ok H4.out (by omega) HLK.out).mono ?_; rintro x w' ⟨hb, A', c', rfl, ho⟩; have HO := Lib.hid ho; clear ho; have hP5 := HPC.out _ (HS4.out ▸ hb); have r5 : w'.cell? ⟨V + 2, 2, none⟩ = some (.slice none 0 0) := by { rw [cell_of_row w' (V + 2) _ _ _ _ hP5]; rfl }; have z5 := unfrozen hP5 2; have HP5 := Lib.hid hP5; have HB5 := Lib.hid hb; clear hP5 hb))
        clear r5 z5
        go_meet
        rw [HST.out, HLK.out]
        exact meet_read (dv := []) HS4.out H4.out HPS.out HB5.out ((Kept.refl _ (fun k => k = V + 2)).set (p := ⟨V + 2, 2, none⟩) rfl (.slice A' (D.at i).data.length c')) (by have := HF.out; omega) (by omega) (by omega) (heap_same HP5.out (i := 2) (.slice A' (D.at i).data.length c')) ⟨HS4.out ▸ HO.out, World.ownsRow_nil _ _ _ _, FilesAt.nil _ _⟩ rfl
    by_cases k7 : a.kind = 7
    · have hst : D.step a = (D, { names := D.now.map (·.1) }) := by
        unfold Dr.D.step
        rw [if_neg k0, if_neg k1, if_neg k2, if_neg k3, if_neg k4, if_neg k5, if_neg k6, if_pos k7]
      have HST := Lib.hid hst
      clear hst
      go_wp2_with (first | (go_at_call 78; refine (list_any H4.out (by omega)).mono ?_; rintro x w' ⟨v, rfl, ho, hb⟩; obtain ⟨A', c', rfl, _, _⟩ := own_form ho; have HO := Lib.hid ho; clear ho; have hP5 := HPC.out _ (HS4.out ▸ hb); have r5 : w'.cell? ⟨V + 2, 3, none⟩ = some (.slice none 0 0) := by { rw [cell_of_row w' (V + 2) _ _ _ _ hP5]; rfl }; have z5 := unfrozen hP5 3; have HP5 := Lib.hid hP5; have HB5 := Lib.hid hb; clear hP5 hb))
      clear r5 z5
      go_meet
      rw [HST.out]
      exact meet_read (dv := []) HS4.out H4.out HPS.out HB5.out ((Kept.refl _ (fun k => k = V + 2)).set (p := ⟨V + 2, 3, none⟩) rfl (.slice A' D.now.length c')) (by have := HF.out; omega) (by omega) (by omega) (heap_same HP5.out (i := 3) (.slice A' D.now.length c')) ⟨World.ownsRow_nil _ _ _ _, (by rw [List.length_map]; exact HS4.out ▸ HO.out), FilesAt.nil _ _⟩ rfl
    by_cases k8 : a.kind = 8
    · have hst : D.step a = (D, { n := wrap64 (D.used : Int) }) := by
        unfold Dr.D.step
        rw [if_neg k0, if_neg k1, if_neg k2, if_neg k3, if_neg k4, if_neg k5, if_neg k6, if_neg k7, if_pos k8]
        simp only [wrap64]
      have HST := Lib.hid hst
      clear hst
      go_wp2_with (first | (go_at_call 23; refine (used_any H4.out).mono ?_; rintro x w' ⟨rfl, rfl⟩; have hb := Below.refl w4.heap.size w4; have hP5 := HPC.out _ (HS4.out ▸ hb); have r5 : w4.cell? ⟨V + 2, 1, none⟩ = some (.int .i64 0) := by { rw [cell_of_row w4 (V + 2) _ _ _ _ hP5]; rfl }; have z5 := unfrozen hP5 1; have HP5 := Lib.hid hP5; have HB5 := Lib.hid hb; clear hP5 hb))
      clear r5 z5
      go_meet
      rw [HST.out]
      exact meet_read (dv := []) HS4.out H4.out HPS.out HB5.out ((Kept.refl _ (fun k => k = V + 2)).set (p := ⟨V + 2, 1, none⟩) rfl (.int .i64 (wrap64 (D.used : Int)))) (by have := HF.out; omega) (by omega) (by omega) (heap_same HP5.out (i := 1) (.int .i64 (wrap64 (D.used : Int)))) (AnAt.none_ _ _ _ rfl rfl rfl) rfl
    by_cases k9 : a.kind = 9
    · have hst : D.step a = (D, { n := D.pend.length }) := by
        unfold Dr.D.step
        rw [if_neg k0, if_neg k1, if_neg k2, if_neg k3, if_neg k4, if_neg k5, if_neg k6, if_neg k7, if_neg k8, if_pos k9]
      have HST := Lib.hid hst
      clear hst
      go_wp2_with (first | (go_at_call 22; refine (pending_any H4.out).mono ?_; rintro x w' ⟨rfl, rfl⟩; have hb := Below.refl w4.heap.size w4; have hP5 := HPC.out _ (HS4.out ▸ hb); have r5 : w4.cell? ⟨V + 2, 1, none⟩ = some (.int .i64 0) := by { rw [cell_of_row w4 (V + 2) _ _ _ _ hP5]; rfl }; have z5 := unfrozen hP5 1; have HP5 := Lib.hid hP5; have HB5 := Lib.hid hb; clear hP5 hb))
      clear r5 z5
      go_meet
      rw [HST.out]
      exact meet_read (dv := []) HS4.out H4.out HPS.out HB5.out ((Kept.refl _ (fun k => k = V + 2)).set (p := ⟨V + 2, 1, none⟩) rfl (.int .i64 (D.pend.length : Int))) (by have := HF.out; omega) (by omega) (by omega) (heap_same HP5.out (i := 1) (.int .i64 (D.pend.length : Int))) (AnAt.none_ _ _ _ rfl rfl rfl) rfl
    by_cases k10 : a.kind = 10
    · have hst : D.step a = (D, match D.look a.name with | .error e => { code := e } | .ok i => { n := (D.at i).data.length - (D.at i).safe }) := by
        unfold Dr.D.step
        rw [if_neg k0, if_neg k1, if_neg k2, if_neg k3, if_neg k4, if_neg k5, if_neg k6, if_neg k7, if_neg k8, if_neg k9, if_pos k10]
        cases D.look a.name <;> rfl
      have HST := Lib.hid hst
      clear hst
      cases hlk : D.look a.name with
      | error e =>
        have hlo : looseV D a.name = .tuple #[.int .i64 0, .int .i64 e] := by unfold looseV; rw [hlk]
        have HLO := Lib.hid hlo
        have HLK := Lib.hid hlk
        clear hlk hlo
        go_wp2_with (first | (go_at_call 34; refine (loose_any H4.out (by omega) a.name).mono ?_; rintro x w' ⟨hx, hb⟩; rw [HLO.out] at hx; subst hx; have hP5 := HPC.out _ (HS4.out ▸ hb); have r5 : w'.cell? ⟨V + 2, 1, none⟩ = some (.int .i64 0) := by { rw [cell_of_row w' (V + 2) _ _ _ _ hP5]; rfl }; have z5 := unfrozen hP5 1; have HP5 := Lib.hid hP5; have HB5 := Lib.hid hb; clear hP5 hb))
        clear r5 z5
        go_meet
        rw [HST.out, HLK.out]
        exact meet_read (dv := []) HS4.out H4.out HPS.out HB5.out ((Kept.refl _ (fun k => k = V + 2)).set (p := ⟨V + 2, 1, none⟩) rfl (.int .i64 0)) (by have := HF.out; omega) (by omega) (by omega) (heap_same HP5.out (i := 1) (.int .i64 0)) (AnAt.none_ _ _ _ rfl rfl rfl) rfl
      | ok i =>
        have hlo : looseV D a.name = .tuple #[.int .i64 ((D.at i).data.length - (D.at i).safe : Int), .int .i64 0] := by unfold looseV; rw [hlk]
        have HLO := Lib.hid hlo
        have HLK := Lib.hid hlk
        clear hlk hlo
        obtain ⟨q, hq⟩ : ∃ q : Int, ((D.at i).data.length - (D.at i).safe : Int) = q := ⟨_, rfl⟩
        rw [hq] at HLO
        have HQ := Lib.hid hq
        clear hq
        go_wp2_with (first | (go_at_call 34; refine (loose_any H4.out (by omega) a.name).mono ?_; rintro x w' ⟨hx, hb⟩; rw [HLO.out] at hx; subst hx; have hP5 := HPC.out _ (HS4.out ▸ hb); have r5 : w'.cell? ⟨V + 2, 1, none⟩ = some (.int .i64 0) := by { rw [cell_of_row w' (V + 2) _ _ _ _ hP5]; rfl }; have z5 := unfrozen hP5 1; have HP5 := Lib.hid hP5; have HB5 := Lib.hid hb; clear hP5 hb))
        clear r5 z5
        go_meet
        rw [HST.out, HLK.out]
        simp only [HQ.out]
        obtain ⟨S', a1, a2, a3, a4, _, h2⟩ := meet_read (x := { n := q }) (m' := m + n) (N' := N + 1) (dv := []) HS4.out H4.out HPS.out HB5.out ((Kept.refl _ (fun k => k = V + 2)).set (p := ⟨V + 2, 1, none⟩) rfl (.int .i64 q)) (by have := HF.out; omega) (by omega) (by omega) (heap_same HP5.out (i := 1) (.int .i64 q)) (AnAt.none_ _ _ _ rfl rfl rfl) (e := 0) rfl
        exact ⟨S', a1, a2, a3, a4, trivial, h2⟩
    by_cases k11 : a.kind = 11
    · have hst : D.step a = (D, { files := D.image }) := by
        unfold Dr.D.step
        rw [if_neg k0, if_neg k1, if_neg k2, if_neg k3, if_neg k4, if_neg k5, if_neg k6, if_neg k7, if_neg k8, if_neg k9, if_neg k10, if_pos k11]
      have HST := Lib.hid hst
      clear hst
      go_wp2_with (first | (go_at_call 20; refine (image_any H4.out (by omega) (by omega)).mono ?_; rintro x w' ⟨v, dv, rfl, ho, hb⟩; obtain ⟨A', c', rfl, _, _⟩ := own_form ho.row; have HO := Lib.hid ho; clear ho; have hP5 := HPC.out _ (HS4.out ▸ hb); have r5 : w'.cell? ⟨V + 2, 4, none⟩ = some (.slice none 0 0) := by { rw [cell_of_row w' (V + 2) _ _ _ _ hP5]; rfl }; have z5 := unfrozen hP5 4; have HP5 := Lib.hid hP5; have HB5 := Lib.hid hb; clear hP5 hb))
      clear r5 z5
      go_meet
      rw [HST.out]
      exact meet_read (dv := dv) HS4.out H4.out HPS.out HB5.out ((Kept.refl _ (fun k => k = V + 2)).set (p := ⟨V + 2, 4, none⟩) rfl (.slice A' D.image.length c')) (by have := HF.out; omega) (by omega) (by omega) (heap_same HP5.out (i := 4) (.slice A' D.image.length c')) ⟨World.ownsRow_nil _ _ _ _, World.ownsRow_nil _ _ _ _, HS4.out ▸ HO.out⟩ rfl
    by_cases k12 : a.kind = 12
    · have hst : D.step a = (D, { files := D.safe }) := by
        unfold Dr.D.step
        rw [if_neg k0, if_neg k1, if_neg k2, if_neg k3, if_neg k4, if_neg k5, if_neg k6, if_neg k7, if_neg k8, if_neg k9, if_neg k10, if_neg k11, if_pos k12]
      have HST := Lib.hid hst
      clear hst
      go_wp2_with (first | (go_at_call 21; refine (safe_any H4.out (by omega) (by omega)).mono ?_; rintro x w' ⟨v, dv, rfl, ho, hb⟩; obtain ⟨A', c', rfl, _, _⟩ := own_form ho.row; have HO := Lib.hid ho; clear ho; have hP5 := HPC.out _ (HS4.out ▸ hb); have r5 : w'.cell? ⟨V + 2, 4, none⟩ = some (.slice none 0 0) := by { rw [cell_of_row w' (V + 2) _ _ _ _ hP5]; rfl }; have z5 := unfrozen hP5 4; have HP5 := Lib.hid hP5; have HB5 := Lib.hid hb; clear hP5 hb))
      clear r5 z5
      go_meet
      rw [HST.out]
      exact meet_read (dv := dv) HS4.out H4.out HPS.out HB5.out ((Kept.refl _ (fun k => k = V + 2)).set (p := ⟨V + 2, 4, none⟩) rfl (.slice A' D.safe.length c')) (by have := HF.out; omega) (by omega) (by omega) (heap_same HP5.out (i := 4) (.slice A' D.safe.length c')) ⟨World.ownsRow_nil _ _ _ _, World.ownsRow_nil _ _ _ _, HS4.out ▸ HO.out⟩ rfl
    by_cases k13 : a.kind = 13
    · have hst : D.step a = (D.crash a.dirs a.cuts, {}) := by
        unfold Dr.D.step
        rw [if_neg k0, if_neg k1, if_neg k2, if_neg k3, if_neg k4, if_neg k5, if_neg k6, if_neg k7, if_neg k8, if_neg k9, if_neg k10, if_neg k11, if_neg k12, if_pos k13]
      have HST := Lib.hid hst
      clear hst
      have g0 : w4.cell? ⟨F, 0, none⟩ = some (.slice (some ⟨gd, 0, none⟩) nd cd') := by rw [cell_of_row w4 F _ _ _ _ HF4.out]; rfl
      have g1 : w4.cell? ⟨F, 1, none⟩ = some (.slice (some ⟨gc, 0, none⟩) nu cc') := by rw [cell_of_row w4 F _ _ _ _ HF4.out]; rfl
      go_wp2_with (first | (go_at_call 16; refine (crash_any H4.out (by omega) (by omega) (Rd.of_own HFD.out) (Rd.of_own HFCU.out) HA.out.cut (HGS.out _ _ · HGV.out.2.1) (HGS.out _ _ · HGV.out.2.2)).mono ?_; rintro x w' ⟨rfl, ht⟩; have HT := Lib.hid ht; clear ht))
      go_meet
      rw [HST.out]
      exact meet_turn HS4.out HP4.out HPS.out HT.out (by omega) (by omega)
    by_cases k14 : a.kind = 14
    · have hst : D.step a = ((D.flip a.name a.n a.data).1, { code := (D.flip a.name a.n a.data).2 }) := by
        unfold Dr.D.step
        rw [if_neg k0, if_neg k1, if_neg k2, if_neg k3, if_neg k4, if_neg k5, if_neg k6, if_neg k7, if_neg k8, if_neg k9, if_neg k10, if_neg k11, if_neg k12, if_neg k13, if_pos k14]
      have HST := Lib.hid hst
      clear hst
      go_wp2_with (first | (go_at_call 79; refine (flip_any H4.out (by omega) a.name a.n (Rd.of_own HFR.out) (own_form_le HFR.out).1 (own_form_le HFR.out).2 (HGS.out _ _ · HGV.out.1)).mono ?_; rintro x w' ⟨rfl, ht⟩; have HT := Lib.hid ht; clear ht))
      go_meet
      rw [HST.out]
      exact meet_turn HS4.out HP4.out HPS.out HT.out (by omega) (by omega)
    by_cases k15 : a.kind = 15
    · have hst : D.step a = ((D.cut a.name a.n).1, { code := (D.cut a.name a.n).2 }) := by
        unfold Dr.D.step
        rw [if_neg k0, if_neg k1, if_neg k2, if_neg k3, if_neg k4, if_neg k5, if_neg k6, if_neg k7, if_neg k8, if_neg k9, if_neg k10, if_neg k11, if_neg k12, if_neg k13, if_neg k14, if_pos k15]
      have HST := Lib.hid hst
      clear hst
      go_wp2_with (first | (go_at_call 80; refine (cut_any H4.out (by omega) a.name a.n).mono ?_; rintro x w' ⟨rfl, ht⟩; have HT := Lib.hid ht; clear ht))
      go_meet
      rw [HST.out]
      exact meet_turn HS4.out HP4.out HPS.out HT.out (by omega) (by omega)
    by_cases k16 : a.kind = 16
    · have hst : D.step a = (D.wipe, {}) := by
        unfold Dr.D.step
        rw [if_neg k0, if_neg k1, if_neg k2, if_neg k3, if_neg k4, if_neg k5, if_neg k6, if_neg k7, if_neg k8, if_neg k9, if_neg k10, if_neg k11, if_neg k12, if_neg k13, if_neg k14, if_neg k15, if_pos k16]
      have HST := Lib.hid hst
      clear hst
      go_wp2_with (first | (go_at_call 51; refine (wipe_any H4.out).mono ?_; rintro x w' ⟨rfl, ht⟩; have HT := Lib.hid ht; clear ht))
      go_meet
      rw [HST.out]
      exact meet_turn HS4.out HP4.out HPS.out HT.out (by omega) (by omega)
    by_cases k17 : a.kind = 17
    · have hst : D.step a = (D, {}) := by
        unfold Dr.D.step
        rw [if_neg k0, if_neg k1, if_neg k2, if_neg k3, if_neg k4, if_neg k5, if_neg k6, if_neg k7, if_neg k8, if_neg k9, if_neg k10, if_neg k11, if_neg k12, if_neg k13, if_neg k14, if_neg k15, if_neg k16]
      have HST := Lib.hid hst
      clear hst
      go_wp2_with (first | (go_at_call 81; refine (rest_any (some ⟨d, 0, none⟩) _).mono ?_; rintro x w' ⟨rfl, rfl⟩))
      go_meet
      rw [HST.out]
      exact meet_turn HS4.out HP4.out HPS.out (Turn.refl H4.out) (by omega) (by omega)
    have hst : D.step a = (D, {}) := by
      unfold Dr.D.step
      rw [if_neg k0, if_neg k1, if_neg k2, if_neg k3, if_neg k4, if_neg k5, if_neg k6, if_neg k7, if_neg k8, if_neg k9, if_neg k10, if_neg k11, if_neg k12, if_neg k13, if_neg k14, if_neg k15, if_neg k16]
    go_wp2
    go_meet
    rw [hst]
    exact meet_turn HS4.out HP4.out HPS.out (Turn.refl H4.out) (by omega) (by omega)
end
end Go.Proofs.Ytelgcmcnebncmaa.Dr
namespace Go.Proofs.Ytelgcmcnebncmaa

theorem bulk_one {H : Type} (d : DataW H) : 1 ≤ Rows.uptoBulk d := by
  cases d with
  | lit l => cases l <;> simp [Rows.uptoBulk]
  | _ => simp [Rows.uptoBulk]
theorem bulk_len {H : Type} (l : List (DataW H)) : l.length ≤ Rows.uptoBulkAll l := by
  induction l with
  | nil => simp [Rows.uptoBulkAll]
  | cons x r ih => have := bulk_one x; simp only [Rows.uptoBulkAll, List.length_cons]; omega
theorem bulk_slice {H : Type} (elems spare : List (DataW H)) : elems.length + spare.length + 1 ≤ Rows.uptoBulk (.slice elems spare) := by
  have h1 := bulk_len elems
  have h2 := bulk_len spare
  simp only [Rows.uptoBulk]
  omega
theorem bulk_part {H : Type} {d : DataW H} {l : List (DataW H)} {i : Nat} (h : l[i]? = some d) : Rows.uptoBulk d ≤ Rows.uptoBulkAll l := by
  induction l generalizing i with
  | nil => simp at h
  | cons x r ih =>
    simp only [Rows.uptoBulkAll]
    cases i with
    | zero => simp at h; subst h; omega
    | succ j => simp at h; have := ih h; omega
theorem bulk_at {H : Type} {l : List (DataW H)} (hk : Rows.uptoSmall H l = true) {i : Nat} {d : DataW H} (h : l[i]? = some d) : Rows.uptoBulk d ≤ 1048576 :=
  Nat.le_trans (bulk_part h) (of_decide_eq_true hk)
end Go.Proofs.Ytelgcmcnebncmaa
