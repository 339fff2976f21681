/- XL4, XL5: merged by tools/merge.py. -/
import Derived.Test.YtelgcmcnebncmaaQ18
import Derived.Test.YtelgcmcnebncmaaQ07
import Derived.Deep.RegionHeld3
import Derived.Deep.AppendLies
import Derived.Deep.CutRange
import Derived.Deep.CutBlock
namespace Go.Proofs.Ytelgcmcnebncmaa.Dr
set_option linter.unusedVariables false
open Go.RowKit Go.Proofs Go.Proofs.Ytelgcmcnebncmaa.Ring

abbrev tStart := 24
/-- A drive as it begins; none where there is none. -/
def begun (how room : Int) (fs : List (Bs × Bs)) : Option Dr.D := if how = 0 then Dr.D.new room else if how = 1 then Dr.D.load room fs else some (Dr.D.fresh 0)

def lentV (f : Bs × Bs) (g : Nat × Nat) : Value := .slice (some ⟨g.1, 0, none⟩) f.2.length g.2
def lentVs (fs : List (Bs × Bs)) (gs : List (Nat × Nat)) : List Value := List.zipWith lentV fs gs
/-- Files whose bytes are lent: each in memory of its own, marks behind. -/
structure LFiles (w : World) (base : Nat) (v : Value) (gs : List (Nat × Nat)) (fs : List (Bs × Bs)) : Prop where
  row : w.ownsRow base tFile 2 v fs.length (cF fs (lentVs fs gs))
  len : gs.length = fs.length
  data : ∀ (j : Nat) (f : Bs × Bs) (g : Nat × Nat), fs[j]? = some f → gs[j]? = some g → Lent w base g.1 g.2 f.2
  own : ∀ (i j : Nat) (g h : Nat × Nat), gs[i]? = some g → gs[j]? = some h → g.1 = h.1 → i = j
section
variable {w w1 w2 : World} {base : Nat} {v v2 : Value} {gs : List (Nat × Nat)} {fs : List (Bs × Bs)}
theorem lentVs_len (h : gs.length = fs.length) : (lentVs fs gs).length = fs.length := by simp [lentVs, h]
theorem lent_lt {b : Bs} {g cap : Nat} (h : Lent w base g cap b) : g < w.heap.size := by
  obtain ⟨cur, h1⟩ := own_lt (show World.ownsRow _ _ _ _ _ _ _ from h) (g := g) rfl
  exact (Array.getElem?_eq_some_iff.1 h1).1
theorem lent_ge {b : Bs} {g cap : Nat} (h : Lent w base g cap b) : base ≤ g := own_ge (show World.ownsRow _ _ _ _ _ _ _ from h) rfl
theorem lent_same {b : Bs} {g cap : Nat} (h : Lent w base g cap b) (hk : w1.heap[g]? = w.heap[g]?) : Lent w1 base g cap b :=
  own_same (show World.ownsRow _ _ _ _ _ _ _ from h) fun k hk' => by
    obtain rfl : g = k := by simpa [Value.ownBlock] using hk'
    exact hk
theorem LFiles.nil (w : World) (base : Nat) : LFiles w base (.slice none 0 0) [] [] :=
  ⟨World.ownsRow_nil _ _ _ _, rfl, fun j f g h => (by cases h), fun i j g h e => (by cases e)⟩
theorem LFiles.below (h : LFiles w base v gs fs) (hb : Below w.heap.size w w1) : LFiles w1 base v gs fs :=
  ⟨own_below h.row hb, h.len, fun j f g hf hg => lent_same (h.data j f g hf hg) (hb.block _ (lent_lt (h.data j f g hf hg))), h.own⟩
theorem LFiles.fresh (h : LFiles w base v gs fs) {g : Nat} (hg : w.heap.size ≤ g) : ∀ p ∈ gs, p.1 ≠ g := by
  intro y hy e
  obtain ⟨j, hj, rfl⟩ := List.getElem_of_mem hy
  obtain ⟨f, hf⟩ : ∃ f, fs[j]? = some f := ⟨_, List.getElem?_eq_getElem (by have := h.len; omega)⟩
  have := lent_lt (h.data j f _ hf (List.getElem?_eq_getElem hj))
  omega
theorem LFiles.snoc (h : LFiles w1 base v gs fs) {f : Bs × Bs} {g : Nat × Nat} (hx : Lent w1 base g.1 g.2 f.2) (hnew : ∀ p ∈ gs, p.1 ≠ g.1)
    (hr : w2.ownsRow base tFile 2 v2 (fs.length + 1) (cF fs (lentVs fs gs) ++ [encStr f.1, lentV f g])) (hg : w1.grownBy w2 v.ownBlock) : LFiles w2 base v2 (gs ++ [g]) (fs ++ [f]) := by
  have hk : ∀ {q : Nat × Nat} {b : Bs}, Lent w1 base q.1 q.2 b → Lent w2 base q.1 q.2 b := by
    intro q b hy
    refine lent_same hy (hg.block q.1 (lent_lt hy) fun e => ?_)
    exact own_types (show World.ownsRow _ _ _ _ _ _ _ from hy) h.row (by decide) (g := q.1) rfl e.symm
  have hzip : lentVs (fs ++ [f]) (gs ++ [g]) = lentVs fs gs ++ [lentV f g] := by
    unfold lentVs
    rw [List.zipWith_append h.len.symm]
    rfl
  refine ⟨by rw [hzip, cF_snoc _ _ (lentVs_len h.len), List.length_append]; exact hr, by simp [h.len], fun j f' y hf hy => ?_, fun i j y z hi hj he => ?_⟩
  · rcases Nat.lt_or_ge j fs.length with hlt | hge
    · rw [List.getElem?_append_left hlt] at hf
      rw [List.getElem?_append_left (by rw [h.len]; exact hlt)] at hy
      exact hk (h.data j f' y hf hy)
    · have hj0 : j = fs.length := by have := (List.getElem?_eq_some_iff.1 hf).1; simp at this; omega
      subst hj0
      rw [List.getElem?_append_right (Nat.le_refl _)] at hf
      rw [List.getElem?_append_right (by rw [h.len]; exact Nat.le_refl _)] at hy
      simp at hf
      simp [h.len] at hy
      subst hf hy
      exact hk hx
  · have hc : ∀ (k : Nat) (z : Nat × Nat), (gs ++ [g])[k]? = some z → (gs[k]? = some z) ∨ (k = gs.length ∧ z = g) := by
      intro k z hz
      rcases Nat.lt_or_ge k gs.length with hlt | hge
      · rw [List.getElem?_append_left hlt] at hz; exact .inl hz
      · have hk0 : k = gs.length := by have := (List.getElem?_eq_some_iff.1 hz).1; simp at this; omega
        subst hk0
        rw [List.getElem?_append_right (Nat.le_refl _)] at hz
        simp at hz
        exact .inr ⟨rfl, hz.symm⟩
    rcases hc i y hi with hi2 | ⟨hi2, hy2⟩ <;> rcases hc j z hj with hj2 | ⟨hj2, hz2⟩
    · exact h.own i j y z hi2 hj2 he
    · subst hz2; exact absurd he (hnew y (List.mem_of_getElem? hi2))
    · subst hy2; exact absurd he.symm (hnew z (List.mem_of_getElem? hj2))
    · omega
/-- The cells of file j. -/
theorem LFiles.cells (h : LFiles w base v gs fs) {j : Nat} {f : Bs × Bs} {g : Nat × Nat} (hf : fs[j]? = some f) (hg : gs[j]? = some g) : (cF fs (lentVs fs gs))[j * 2]? = some (encStr f.1) ∧ (cF fs (lentVs fs gs))[j * 2 + 1]? = some (lentV f g) :=
  cF_at fs _ j f _ hf (by unfold lentVs; rw [List.getElem?_zipWith, hf, hg])
end
/-- A zero drive. -/
theorem zero_dv (w : World) (m N : Nat) : Dv (w.alloc (.cells #[.int .i64 0, .int .i64 0, .map none, .map none, .slice none 0 0] tDrive)) (fun k => k = w.heap.size) w.heap.size (Dr.D.fresh 0) m N := by
  have no : ∀ (i : Nat) {p : Prop}, i < (Dr.D.fresh 0).bd.length → p := fun i _ h => absurd h (Nat.not_lt_zero _)
  refine ⟨D.Ok.fresh (by omega) m N, fun _ => 0, fun _ => .slice none 0 0, .map none, .map none, .slice none 0 0, [], ?_⟩
  exact {
    head := by rw [show wrap64 ((Dr.D.fresh 0).used : Int) = 0 by show wrap64 ((0 : Nat) : Int) = 0; unfold wrap64; omega]; exact heap_alloc_new w _
    now := .inl ⟨rfl, rfl⟩
    kept := .inl ⟨rfl, rfl⟩
    apart := fun x hx e => by cases hx
    both := by simp [mapBlock]
    inj := fun i j hi => no i hi
    body := fun i hi => no i hi
    row := fun i hi => no i hi
    own := fun i j g hi => no i hi
    pend := World.ownsRow_nil _ _ _ _
    steps := fun j c s h => by cases h
    inD := rfl
    inN := fun b h => by cases h
    inK := fun b h => by cases h
    inB := fun i hi => no i hi
    inV := fun i g hi => no i hi
    inP := fun g h => by cases h
    inS := fun s h => by cases h
    low := fun k hk => by subst hk; simp
    live := fun _ => rfl }
/-- What 'made' does. -/
def Made (w w' : World) (how room : Int) (fs : List (Bs × Bs)) (x : Ending) : Prop := Below w.heap.size w w' ∧
  ((begun how room fs = none ∧ x = .returned (.tuple #[.pointer none, .bool true])) ∨ ∃ D d S, begun how room fs = some D ∧ x = .returned (.tuple #[.pointer (some ⟨d, 0, none⟩), .bool true]) ∧ Dv w' S d D 1099511627776 1048576 ∧ ∀ k, S k → w.heap.size ≤ k)
set_option maxRecDepth 100000 in
theorem made_new {w : World} {room : Int} {A : Option Addr} {n c : Nat} (fs : List (Bs × Bs)) :
    Calls Try.prog 12 #[.agg #[.int .i64 0, .int .i64 room, .slice A n c]] w fun x w' => Made w w' 0 room fs x := by
  have hbg : begun 0 room fs = Dr.D.new room := by unfold begun; rw [if_pos rfl]
  have HBG := Lib.hid hbg
  clear hbg
  cases hr : okRoom room with
  | false =>
    have hn : Dr.D.new room = none := by unfold Dr.D.new; rw [if_neg (by simp [hr])]
    have HN := Lib.hid hn
    have HR := Lib.hid hr
    clear hn hr
    go_enter Try.func12, Try.ntmps12
    go_wp2_with (go_at_call 57; refine (new_not room HR.out _).mono ?_; rintro x w1 ⟨rfl, rfl⟩)
    go_ret2
    exact ⟨(Below.refl _ _).alloc (Nat.le_refl _) _, .inl ⟨HBG.out.trans HN.out, rfl⟩⟩
  | true =>
    have hr2 := hr
    unfold okRoom at hr2
    simp at hr2
    obtain ⟨r, rfl⟩ : ∃ r : Nat, room = (r : Int) := ⟨room.toNat, by omega⟩
    have hn : Dr.D.new (r : Int) = some (Dr.D.fresh r) := by unfold Dr.D.new; rw [if_pos hr]; rfl
    have HN := Lib.hid hn
    have hr3 : r ≤ 1073741824 := by omega
    clear hn hr hr2
    go_enter Try.func12, Try.ntmps12
    go_wp2_with (go_at_call 57; refine (new_any r hr3 1099511627776 1048576 _).mono ?_; rintro x w1 ⟨d, rfl, hd, hD, hb⟩; have HD := Lib.hid hD; have HB := Lib.hid hb; clear hD hb)
    go_ret2
    have hb0 : Below w.heap.size w (w.alloc (.cells #[.int .i64 0, .int .i64 (r : Int), .slice A n c] tStart)) := (Below.refl _ _).alloc (Nat.le_refl _) _
    exact ⟨hb0.trans (HB.out.mono (by simp)), .inr ⟨_, d, _, HBG.out.trans HN.out, rfl, HD.out, fun k hk => by have := hk.1; simp at this; omega⟩⟩
set_option maxRecDepth 100000 in
theorem made_zero {w : World} {how room : Int} {A : Option Addr} {n c : Nat} (fs : List (Bs × Bs)) (h0 : how ≠ 0) (h1 : how ≠ 1) :
    Calls Try.prog 12 #[.agg #[.int .i64 how, .int .i64 room, .slice A n c]] w fun x w' => Made w w' how room fs x := by
  have hbg : begun how room fs = some (Dr.D.fresh 0) := by unfold begun; rw [if_neg h0, if_neg h1]
  have HBG := Lib.hid hbg
  clear hbg
  go_enter Try.func12, Try.ntmps12
  go_wp2
  go_ret2
  have hz := zero_dv (w.alloc (.cells #[.int .i64 how, .int .i64 room, .slice A n c] tStart)) 1099511627776 1048576
  rw [show (w.alloc (.cells #[.int .i64 how, .int .i64 room, .slice A n c] tStart)).heap.size = w.heap.size + 1 by simp] at hz
  exact ⟨((Below.refl _ _).alloc (Nat.le_refl _) _).alloc (by simp) _, .inr ⟨_, _, _, HBG.out, rfl, hz, fun k hk => by omega⟩⟩
theorem own_cellS {w : World} {B g cap n k size : Nat} {e : TypeId} {xs : List Value} {u : Value} (h : w.ownsRow B e size (.slice (some ⟨g, 0, none⟩) n cap) n xs) (hu : xs[k]? = some u) : w.cell? ⟨g, k, none⟩ = some u := by
  rcases h.2 with ⟨e1, _⟩ | ⟨g', cap', cur, e1, _, h2, _, _, _, h6⟩
  · cases e1
  · injection e1 with e1 e2 e3
    injection e1 with e1
    injection e1 with e1 _ _
    subst e1
    rw [cell_of_row w g k _ _ _ h2, ← Array.getElem?_toList]
    rw [← h6, List.getElem?_take] at hu
    split at hu
    · exact hu
    · cases hu
theorem own_freeS {w : World} {B g cap n k size : Nat} {e : TypeId} {xs : List Value} (h : w.ownsRow B e size (.slice (some ⟨g, 0, none⟩) n cap) n xs) : w.frozen? ⟨g, k, none⟩ = false := by
  obtain ⟨cur, h3⟩ := own_lt h rfl
  exact unfrozen h3 k
theorem own_storeS {w : World} {base size : Nat} {e : TypeId} {g n c i : Nat} {xs : List Value} (h : w.ownsRow base e size (.slice (some ⟨g, 0, none⟩) n c) n xs) (v : Value) : (w.setCell ⟨g, i, none⟩ v).ownsRow base e size (.slice (some ⟨g, 0, none⟩) n c) n (xs.set i v) := by
  have hl := h.1
  rcases h.2 with ⟨e1, _⟩ | ⟨g', cap, cur, e1, h1, h2, h3, h4, h5, h6⟩
  · cases e1
  · injection e1 with e1 e2 e3
    injection e1 with e1
    injection e1 with e1 _ _
    subst e1 e3
    refine ⟨by rw [List.length_set]; exact hl, .inr ⟨g, c, cur.setIfInBounds i v, rfl, h1, heap_same h2 v, h3, h4, by simpa using h5, ?_⟩⟩
    rw [Array.toList_setIfInBounds, List.take_set, h6]
theorem lent_rd {w : World} {base g cap : Nat} {b : Bs} (h : Lent w base g cap b) : Rd w w.heap.size 1 (some ⟨g, 0, none⟩) b.length (cU8 b) := by
  have h1 : w.ownsRow base tU8 1 (.slice (some ⟨g, 0, none⟩) (b.length + 66) cap) (b.length + 66) (cU8 (b ++ marks)) := h
  have h2 := own_front h1 (q := b.length) (by omega)
  rw [show (cU8 (b ++ marks)).take b.length = cU8 b by simp [cU8]] at h2
  exact Rd.of_own h2
/-- What a list of files that is loaded makes. -/
def Loaded (w w' : World) (r : Int) (fs : List (Bs × Bs)) (p : Option Addr) : Prop := (Dr.D.load r fs = none ∧ p = none) ∨ ∃ D d S, Dr.D.load r fs = some D ∧ p = some ⟨d, 0, none⟩ ∧ Dv w' S d D 1099511627776 1048576 ∧ ∀ k, S k → w.heap.size ≤ k
theorem load_ptr (r : Int) {w : World} {A : Option Addr} {n c : Nat} {fs : List (Bs × Bs)} (hf : FilesRd w A n fs) (hk : ∀ f ∈ fs, f.1.length ≤ 1048576 ∧ f.2.length ≤ 1048576) (hn : n ≤ 1048576) :
    Calls Try.prog 39 #[.int .i64 r, .slice A n c] w fun x w' => ∃ p, x = .returned (.pointer p) ∧ Below w.heap.size w w' ∧ Loaded w w' r fs p := by
  refine (load_any (m := 1099511627776) r hf (fun f hf => by have := (hk f hf).1; unfold maxLen; omega) (fun f hf => by have := (hk f hf).2; omega) (by omega) (by omega)).mono ?_
  rintro x w' ⟨h1, (⟨h2, rfl⟩ | ⟨D, d, S, h2, rfl, h3, h4⟩)⟩
  · exact ⟨_, rfl, h1, .inl ⟨h2, rfl⟩⟩
  · exact ⟨_, rfl, h1, .inr ⟨D, d, S, h2, rfl, h3.mono (Nat.le_refl _) hn, h4⟩⟩
/-- The row of lent files with the mark behind it is a list of files that can be handed in. -/
theorem LFiles.rd {w : World} {base g cap : Nat} {v : Value} {gs : List (Nat × Nat)} {fs : List (Bs × Bs)} {more : List Value} {n : Nat} (hl : gs.length = fs.length) (hd : ∀ (j : Nat) (f : Bs × Bs) (g : Nat × Nat), fs[j]? = some f → gs[j]? = some g → Lent w base g.1 g.2 f.2)
    (hr : w.ownsRow base tFile 2 (.slice (some ⟨g, 0, none⟩) n cap) n (cF fs (lentVs fs gs) ++ more)) : FilesRd w (some ⟨g, 0, none⟩) fs.length fs := by
  refine ⟨rfl, fun i f hf => ?_⟩
  have hi := (List.getElem?_eq_some_iff.1 hf).1
  obtain ⟨q, hq⟩ : ∃ q, gs[i]? = some q := ⟨_, List.getElem?_eq_getElem (by omega)⟩
  obtain ⟨c0, c1⟩ := cF_at fs (lentVs fs gs) i f (lentV f q) hf (by unfold lentVs; rw [List.getElem?_zipWith, hf, hq])
  have l0 := (List.getElem?_eq_some_iff.1 c0).1
  have l1 := (List.getElem?_eq_some_iff.1 c1).1
  obtain ⟨cur, hcur⟩ := own_lt hr (g := g) rfl
  exact ⟨g, _, q.2, rfl, (Array.getElem?_eq_some_iff.1 hcur).1, own_cellS hr (by rw [List.getElem?_append_left l0]; exact c0), own_cellS hr (by rw [List.getElem?_append_left l1]; exact c1), lent_rd (hd i f q hf hq)⟩
set_option maxRecDepth 100000 in
set_option maxHeartbeats 8000000 in
theorem made_load {w : World} {room : Int} {A : Option Addr} {n c B : Nat} {l : List Fl} (hf : Files w B A n l) (hB : B ≤ w.heap.size) :
    Calls Try.prog 12 #[.agg #[.int .i64 1, .int .i64 room, .slice A n c]] w fun x w' => Made w w' 1 room (l.map Fl.file) x := by
  have hbg : begun 1 room (l.map Fl.file) = Dr.D.load room (l.map Fl.file) := by unfold begun; rw [if_neg (by omega), if_pos rfl]
  have HBG := Lib.hid hbg
  have hn := hf.2.2
  have hll : l.length = n := hf.1.1
  have HF := Lib.hid hf
  have HLL := Lib.hid hll
  clear hbg hf hll
  obtain ⟨j0, hj0, hq0, hq1, hq2⟩ := info_parts infoFile
  go_enter Try.func12, Try.ntmps12
  go_upto_region 6 with (fail)
  obtain ⟨V, hV⟩ : ∃ V, w.heap.size = V := ⟨_, rfl⟩
  obtain ⟨w0, hw0⟩ : ∃ w0, w.alloc (.cells #[.int .i64 1, .int .i64 room, .slice A n c] tStart) = w0 := ⟨_, rfl⟩
  have hs0 : w0.heap.size = V + 1 := by rw [← hw0, ← hV]; simp
  have hA0 : w0.heap[V]? = some (.cells #[.int .i64 1, .int .i64 room, .slice A n c] tStart (0, 0)) := by rw [← hw0, ← hV]; exact heap_alloc_new w _
  have hb0 : Below V w w0 := by rw [← hw0, ← hV]; exact (Below.refl _ _).alloc (Nat.le_refl _) _
  rw [hV] at hB
  have hf0 : Files w0 B A n l := HF.out.below (hb0.mono hB)
  rw [hw0, hV]
  clear hw0
  have HV := Lib.hid hV
  have HS0 := Lib.hid hs0
  have HA0 := Lib.hid hA0
  have HB0 := Lib.hid hb0
  have HF0 := Lib.hid hf0
  clear hV hs0 hA0 hb0 hf0 HF
  have hc1 : ∀ (wr : World), Below (V + 1) w0 wr → wr.cell? ⟨V, 1, none⟩ = some (.int .i64 room) ∧ wr.cell? ⟨V, 2, none⟩ = some (.slice A n c) := by
    intro wr hb
    have h := (hb.block V (by omega)).trans HA0.out
    exact ⟨by rw [cell_of_row wr V _ _ _ _ h]; rfl, by rw [cell_of_row wr V _ _ _ _ h]; rfl⟩
  have HC1 := Lib.hid hc1
  clear hc1
  go_upto_region 8 with (fail)
  go_loopw [5, 6] (fun ov iv wr => ∃ (i : Nat) (gs : List (Nat × Nat)), iv = .int .i64 (i : Int) ∧ i ≤ n ∧ LFiles wr (V + 1) ov gs ((l.map Fl.file).take i) ∧ Below (V + 1) w0 wr) (fun _ iv _ => n - (intOf iv).toNat)
  case atStart => exact ⟨0, [], rfl, by omega, by rw [List.take_zero]; exact LFiles.nil _ _, Below.refl _ _⟩
  case round =>
    obtain ⟨i, gs, rfl, hi, hfl, hb⟩ := hrel
    by_cases hlt : i < n
    · obtain ⟨b, o, x, rfl, hbB, hx, hcells⟩ := (HF0.out.below (hb.mono (by omega))).1.at_ hlt
      have hxin := (HF0.out.below (hb.mono (by omega))).2.1 x (List.mem_of_getElem? hx)
      have hxl : x.data.length = x.n := by simpa using hxin.data.1
      have e1 := (HC1.out wr hb).2
      have e2 : wr.cell? ⟨b, o + i * 2, none⟩ = some (encStr x.name) := hcells 0 _ rfl
      have e3 : wr.cell? ⟨b, o + i * 2 + 1, none⟩ = some (.slice x.A x.n x.c) := hcells 1 _ rfl
      have d1 : wr.drew.cell? ⟨V, 2, none⟩ = _ := e1
      have d2 : wr.drew.cell? ⟨b, o + i * 2, none⟩ = _ := e2
      have d3 : wr.drew.cell? ⟨b, o + i * 2 + 1, none⟩ = _ := e3
      have hro : wr.ownsRow (V + 1) tFile 2 u5 i (cF ((l.map Fl.file).take i) (lentVs ((l.map Fl.file).take i) gs)) := by
        have := hfl.row
        rwa [show ((l.map Fl.file).take i).length = i by have := HLL.out; simp; omega] at this
      have HX := Lib.hid hx
      have HXIN := Lib.hid hxin
      have HXL := Lib.hid hxl
      have HFL := Lib.hid hfl
      have HB := Lib.hid hb
      have HRO := Lib.hid hro
      have hlt2 : (i : Int) < (n : Int) := by omega
      clear hx hxin hxl hfl hb hro hcells
      go_upto_region 10 with (fail)
      go_region_held3 (fun w' => w'.cell? ⟨V, 2, none⟩ = some (.slice (some ⟨b, o, none⟩) n c) ∧ w'.cell? ⟨b, o + i * 2, none⟩ = some (encStr x.name) ∧ w'.cell? ⟨b, o + i * 2 + 1, none⟩ = some (.slice x.A x.n x.c))
        (first
          | go_keep
          | (refine ⟨?_, ?_, ?_⟩ <;> assumption))
        (first
          | (go_at_call 58; refine (lent_any (b := x.data) (B := B) (HXIN.out.data.drew) (by have := HB.out.size; have := HS0.out; show B ≤ wr.heap.size; omega) HXIN.out.nil (by have := HXIN.out.n_le; omega)).mono ?_; rintro y w2 ⟨g, cap, rfl, hl2, _, hb2⟩; have hb3 : Below wr.heap.size wr w2 := ⟨hb2.os, hb2.tape, hb2.output, hb2.size, hb2.block⟩; have hl3 : Lent w2 wr.heap.size g cap x.data := hl2; have hbb : b < wr.heap.size := by { have := HB.out.size; have := HS0.out; omega }; have k1 := (HC1.out w2 (HB.out.trans (hb3.mono (by have := HB.out.size; have := HS0.out; omega)))).2; have k2 := (hb3.cell (p := ⟨b, o + i * 2, none⟩) hbb).trans e2; have k3 := (hb3.cell (p := ⟨b, o + i * 2 + 1, none⟩) hbb).trans e3; have HL3 := Lib.hid hl3; have HB3 := Lib.hid hb3; clear hl2 hb2 hb3 hl3)
          | (refine step_append_lies _ (by rfl) _ _ _ (by rfl) (V + 1) tFile j0 _ 2 40 Try.underlying22 hj0 hq0 hq1 hq2 rfl (by omega) u5 i _ (by rfl) (own_alloc (own_below HRO.out HB3.out) _) ⟨w2.heap.size, 0, none⟩ 1 1 [encStr x.name, .slice (some ⟨g, 0, none⟩) x.n cap] (by rfl) (by rfl) (World.news_of_block (cs := #[encStr x.name, .slice (some ⟨g, 0, none⟩) x.n cap]) (t := tFile) (fr := (0, 0)) (heap_alloc_new w2 _)) (by simp [Value.oneCell', encStr]) (by omega) (by unfold maxLen; omega) (by omega) (by have := HB.out.size; have := HB3.out.size; have := HS0.out; simp; omega) (w2.heap.size + 1) (by simp) ?_; intro g6 c6 w6 hrow6 hgrow6 _ _; have hbA : Below wr.heap.size wr (w2.alloc (.cells #[encStr x.name, .slice (some ⟨g, 0, none⟩) x.n cap] tFile)) := HB3.out.alloc HB3.out.size _; have hbW : Below (V + 1) wr w6 := (hbA.mono (by have := HB.out.size; have := HS0.out; omega)).grown hgrow6 (by have := HB.out.size; have := hbA.size; have := HS0.out; omega) (fun g hg => own_ge HRO.out hg); clear k1 k2 k3; have k1 := (HC1.out w6 (HB.out.trans hbW)).2; have k2 := (hbW.cell (p := ⟨b, o + i * 2, none⟩) (show b < V + 1 by omega)).trans e2; have k3 := (hbW.cell (p := ⟨b, o + i * 2 + 1, none⟩) (show b < V + 1 by omega)).trans e3; have HR6 := Lib.hid hrow6; have HG6 := Lib.hid hgrow6; have HBW := Lib.hid hbW; clear hrow6 hgrow6 hbW hbA))
      have hbA : Below wr.heap.size wr (w2.alloc (.cells #[encStr x.name, .slice (some ⟨g, 0, none⟩) x.n cap] tFile)) := HB3.out.alloc HB3.out.size _
      have hlA : Lent (w2.alloc (.cells #[encStr x.name, .slice (some ⟨g, 0, none⟩) x.n cap] tFile)) (V + 1) g cap x.data := own_alloc (own_base (show World.ownsRow _ _ _ _ _ _ _ from HL3.out) (by have := HB.out.size; have := HS0.out; omega)) _
      have htl : ((l.map Fl.file).take i).length = i := by have := HLL.out; simp; omega
      have hf6 := (HFL.out.below hbA).snoc (f := x.file) (g := (g, cap)) hlA (HFL.out.fresh (lent_ge HL3.out)) (v2 := .slice (some ⟨g6, 0, none⟩) (i + 1) c6) (w2 := w6) (by
        rw [htl, show lentV x.file (g, cap) = .slice (some ⟨g, 0, none⟩) x.n cap by unfold lentV; rw [show x.file.2.length = x.n from HXL.out]]
        exact HR6.out) HG6.out
      rw [← take_snoc_f (show (l.map Fl.file)[i]? = some x.file by rw [List.getElem?_map, HX.out]; rfl)] at hf6
      have HF6 := Lib.hid hf6
      have HB6 := Lib.hid (HB.out.trans HBW.out)
      clear hf6 hbA hlA htl k1 k2 k3 e1 e2 e3 d1 d2 d3
      go_wp2
      go_roundw
      case rel => exact ⟨i + 1, _, by go_num, by omega, HF6.out, HB6.out⟩
      case measure => simp [intOf]; omega
    · obtain rfl : n = i := by omega
      rw [List.take_of_length_le (by have := HLL.out; simp; omega)] at hfl
      have hro : wr.ownsRow (V + 1) tFile 2 u5 n (cF (l.map Fl.file) (lentVs (l.map Fl.file) gs)) := by
        have := hfl.row
        rwa [show (l.map Fl.file).length = n by have := HLL.out; simp; omega] at this
      have HFL := Lib.hid hfl
      have HB := Lib.hid hb
      have HRO := Lib.hid hro
      have e1 := (HC1.out wr hb).2
      clear hfl hb hro
      go_upto_region 12 with (at_builtin; refine wpList_append_own _ rfl (.tmp 47) (.tmp 49) 22 rfl (V + 1) tFile j0 (.agg #[.string ⟨#[]⟩, .slice none 0 0]) 2 40 Try.underlying22 hj0 hq0 hq1 hq2 rfl (by decide) _ _ _ rfl (own_alloc HRO.out _) ⟨wr.heap.size, 0, none⟩ 1 1 [.string ⟨#[109, 97, 114, 107]⟩, .slice none 0 0] rfl rfl (new_cells _ _ _) (by simp [Value.oneCell']) (by unfold maxLen; omega) (by omega) (by have := HB.out.size; have := HS0.out; simp; omega) ?_; intro v2 w6 hrow2 hg2 _; have HR2 := Lib.hid hrow2; have HG2 := Lib.hid hg2; clear hrow2 hg2)
      obtain ⟨A2, c2, rfl, hc2, hm2⟩ := own_form HR2.out
      obtain ⟨gb, rfl⟩ := own_some HR2.out (by omega)
      have hbA : Below wr.heap.size wr (wr.alloc (.cells #[.string ⟨#[109, 97, 114, 107]⟩, .slice none 0 0] tFile)) := (Below.refl _ _).alloc (Nat.le_refl _) _
      have hb6 : Below (V + 1) w0 w6 := (HB.out.trans (hbA.mono (by have := HB.out.size; have := HS0.out; omega))).grown HG2.out (by have := HB.out.size; have := hbA.size; have := HS0.out; omega) (fun g hg => own_ge HRO.out hg)
      have hgs : gs.length = (l.map Fl.file).length := HFL.out.len
      have hd6 : ∀ (j : Nat) (f : Bs × Bs) (q : Nat × Nat), (l.map Fl.file)[j]? = some f → gs[j]? = some q → Lent w6 (V + 1) q.1 q.2 f.2 := by
        intro j f q h1 h2
        have hy := (HFL.out.below hbA).data j f q h1 h2
        refine lent_same hy (HG2.out.block q.1 (lent_lt hy) fun e => ?_)
        exact own_types (show World.ownsRow _ _ _ _ _ _ _ from hy) (own_alloc HRO.out _) (by decide) (g := q.1) rfl e.symm
      have hown := HFL.out.own
      have HC2 := Lib.hid hc2
      have HM2 := Lib.hid hm2
      have HB6 := Lib.hid hb6
      have HGS := Lib.hid hgs
      have HD6 := Lib.hid hd6
      have HOWN := Lib.hid hown
      clear hc2 hm2 hb6 hgs hd6 hown hbA HFL HRO HG2 HB e1
      have hrd : FilesRd w6 (some ⟨gb, 0, none⟩) n (l.map Fl.file) := by
        have h1 := LFiles.rd (more := [.string ⟨#[109, 97, 114, 107]⟩, .slice none 0 0]) HGS.out HD6.out (v := .slice none 0 0) (n := n + 1) HR2.out
        rwa [show (l.map Fl.file).length = n by have := HLL.out; simp; omega] at h1
      have hbd : ∀ f ∈ l.map Fl.file, f.1.length ≤ 1048576 ∧ f.2.length ≤ 1048576 := by
        intro f hf
        obtain ⟨x, hx, rfl⟩ := List.mem_map.1 hf
        have h1 := HF0.out.2.1 x hx
        have h2 : x.data.length = x.n := by simpa using h1.data.1
        exact ⟨h1.name, by show x.data.length ≤ _; rw [h2]; exact h1.n_le⟩
      have HRD := Lib.hid hrd
      have HBD := Lib.hid hbd
      clear hrd hbd
      have h3 : (n : Int) ≤ (c2 : Int) := by have := HC2.out; omega
      have h4 : (c2 : Int) ≤ 9223372036854775807 := by have := HM2.out; unfold maxLen at this; omega
      obtain ⟨e1, e2⟩ := HC1.out w6 HB6.out
      have d1 : w6.drew.cell? ⟨V, 1, none⟩ = _ := e1
      have d2 : w6.drew.cell? ⟨V, 2, none⟩ = _ := e2
      go_region_held3 (fun w' => w'.cell? ⟨V, 1, none⟩ = some (.int .i64 room) ∧ w'.cell? ⟨V, 2, none⟩ = some (.slice A n c))
        (first
          | go_keep
          | (refine ⟨?_, ?_⟩ <;> assumption))
        (first | (go_at_call 39; refine (load_ptr room (w := w6.drew) HRD.out HBD.out hn).mono ?_; rintro y w7 ⟨p, rfl, hb7, hld⟩; have hb8 : Below w6.heap.size w6 w7 := ⟨hb7.os, hb7.tape, hb7.output, hb7.size, hb7.block⟩; obtain ⟨k1, k2⟩ := HC1.out w7 (HB6.out.trans (hb8.mono (by have := HB6.out.size; have := HS0.out; omega))); have hl8 : Loaded w6 w7 room (l.map Fl.file) p := hld; have HLD := Lib.hid hl8; have HB8 := Lib.hid hb8; clear hb7 hld hb8 hl8))
      have hbC : Below (V + 1) w0 w7 := HB6.out.trans (HB8.out.mono (by have := HB6.out.size; have := HS0.out; omega))
      have hrow7 : w7.ownsRow (V + 1) tFile 2 (.slice (some ⟨gb, 0, none⟩) (n + 1) c2) (n + 1) (cF (l.map Fl.file) (lentVs (l.map Fl.file) gs) ++ [.string ⟨#[109, 97, 114, 107]⟩, .slice none 0 0]) := own_below HR2.out HB8.out
      have hlen7 : (cF (l.map Fl.file) (lentVs (l.map Fl.file) gs)).length = n * 2 := by have := HR2.out.1; simp at this; omega
      have m0 : w7.cell? ⟨gb, n * 2, none⟩ = some (.string ⟨#[109, 97, 114, 107]⟩) := own_cellS hrow7 (by rw [List.getElem?_append_right (by omega), hlen7, Nat.sub_self]; rfl)
      have hd7 : ∀ (j : Nat) (f : Bs × Bs) (q : Nat × Nat), (l.map Fl.file)[j]? = some f → gs[j]? = some q → Lent w7 (V + 1) q.1 q.2 f.2 := fun j f q h1 h2 => own_below (show World.ownsRow _ _ _ _ _ _ _ from HD6.out j f q h1 h2) HB8.out
      have HBC := Lib.hid hbC
      have HR7 := Lib.hid hrow7
      have HL7 := Lib.hid hlen7
      have HD7 := Lib.hid hd7
      clear hbC hrow7 hlen7 hd7 e1 e2 d1 d2
      go_upto_region 15 with (fail)
      clear k1 k2 m0
      obtain ⟨wo, rfl⟩ : ∃ wo, wo = wr := ⟨_, rfl⟩
      go_loopw [9] (fun iv wr => ∃ i : Nat, iv = .int .i64 (i : Int) ∧ i ≤ n ∧ Below w7.heap.size w7 wr) (fun iv _ => n - (intOf iv).toNat)
      case atStart => exact ⟨0, rfl, by omega, Below.refl _ _⟩
      case round =>
        obtain ⟨i, rfl, hi, hb⟩ := hrel
        obtain ⟨wq, rfl⟩ : ∃ wq, wq = wr := ⟨_, rfl⟩
        have hbc : Below (V + 1) w0 wq := HBC.out.trans (hb.mono (by have := HBC.out.size; have := HS0.out; omega))
        by_cases hlt : i < n
        · obtain ⟨b, o, x, rfl, hbB, hx, hcells⟩ := (HF0.out.below (hbc.mono (by omega))).1.at_ hlt
          have hxin := (HF0.out.below (hbc.mono (by omega))).2.1 x (List.mem_of_getElem? hx)
          have hxl : x.data.length = x.n := by simpa using hxin.data.1
          have hfx : (l.map Fl.file)[i]? = some x.file := by rw [List.getElem?_map, hx]; rfl
          obtain ⟨q, hq⟩ : ∃ q, gs[i]? = some q := ⟨_, List.getElem?_eq_getElem (by have := HGS.out; have := HLL.out; simp at *; omega)⟩
          have hlq := HD7.out i _ _ hfx hq
          have hlq2 : Lent wq (V + 1) q.1 q.2 x.data := own_below (show World.ownsRow _ _ _ _ _ _ _ from hlq) hb
          obtain ⟨g, cap⟩ := q
          obtain ⟨y0, y1⟩ := cF_at (l.map Fl.file) (lentVs (l.map Fl.file) gs) i x.file (lentV x.file (g, cap)) hfx (by unfold lentVs; rw [List.getElem?_zipWith, hfx, hq])
          have hrq := own_below HR7.out hb
          have z0 : wq.cell? ⟨gb, i * 2, none⟩ = some (encStr x.name) := own_cellS hrq (by rw [List.getElem?_append_left (by have := HL7.out; omega)]; exact y0)
          have z1 : wq.cell? ⟨gb, i * 2 + 1, none⟩ = some (.slice (some ⟨g, 0, none⟩) x.n cap) := own_cellS hrq (by rw [List.getElem?_append_left (by have := HL7.out; omega), y1]; unfold lentV; rw [show x.file.2.length = x.n from hxl])
          have e1 := (HC1.out wq hbc).2
          have e2 : wq.cell? ⟨b, o + i * 2, none⟩ = some (encStr x.name) := hcells 0 _ rfl
          have e3 : wq.cell? ⟨b, o + i * 2 + 1, none⟩ = some (.slice x.A x.n x.c) := hcells 1 _ rfl
          have HXIN := Lib.hid hxin
          have HLQ := Lib.hid hlq2
          have HB := Lib.hid hb
          have hlt2 : (i : Int) < (n : Int) := by omega
          have hlt3 : (i : Int) < (n : Int) + 1 := by omega
          have q1 : V < wq.heap.size := block_of_cell e1
          have q2 : b < wq.heap.size := block_of_cell e2
          have q3 : gb < wq.heap.size := block_of_cell z0
          clear hx hxin hxl hfx hq hlq hlq2 y0 y1 hrq hb hbc hcells
          go_upto_region 17 with (fail)
          have d1 : wq.drew.cell? ⟨V, 2, none⟩ = _ := e1
          have d2 : wq.drew.cell? ⟨b, o + i * 2, none⟩ = _ := e2
          have d3 : wq.drew.cell? ⟨b, o + i * 2 + 1, none⟩ = _ := e3
          have d4 : wq.drew.cell? ⟨gb, i * 2, none⟩ = _ := z0
          have d5 : wq.drew.cell? ⟨gb, i * 2 + 1, none⟩ = _ := z1
          go_region_held3 (fun w' => w'.cell? ⟨V, 2, none⟩ = some (.slice (some ⟨b, o, none⟩) n c) ∧ w'.cell? ⟨b, o + i * 2, none⟩ = some (encStr x.name) ∧ w'.cell? ⟨b, o + i * 2 + 1, none⟩ = some (.slice x.A x.n x.c) ∧ w'.cell? ⟨gb, i * 2, none⟩ = some (encStr x.name) ∧ w'.cell? ⟨gb, i * 2 + 1, none⟩ = some (.slice (some ⟨g, 0, none⟩) x.n cap))
            (first
              | go_keep
              | (refine ⟨?_, ?_, ?_, ?_, ?_⟩ <;> assumption))
            (first | (go_at_call 59; refine (kept_any (w := wq.drew) HXIN.out.data HLQ.out (by have := HXIN.out.n_le; omega)).mono ?_; rintro y w8 ⟨rfl, hb8⟩; have hb9 : Below wq.heap.size wq w8 := ⟨hb8.os, hb8.tape, hb8.output, hb8.size, hb8.block⟩; have k1 := (hb9.cell (p := ⟨V, 2, none⟩) q1).trans e1; have k2 := (hb9.cell (p := ⟨b, o + i * 2, none⟩) q2).trans e2; have k3 := (hb9.cell (p := ⟨b, o + i * 2 + 1, none⟩) q2).trans e3; have k4 := (hb9.cell (p := ⟨gb, i * 2, none⟩) q3).trans z0; have k5 := (hb9.cell (p := ⟨gb, i * 2 + 1, none⟩) q3).trans z1; have HB9 := Lib.hid hb9; clear hb8 hb9))
          have hb2 : Below w7.heap.size w7 w8 := HB.out.trans (HB9.out.mono HB.out.size)
          have HB2 := Lib.hid hb2
          clear hb2 e1 e2 e3 d1 d2 d3 d4 d5 z0 z1 k1 k2 k3 k4 k5 q1 q2 q3
          go_wp2
          go_roundw
          case rel => exact ⟨i + 1, by go_num, by omega, HB2.out⟩
          case measure => simp [intOf]; omega
        · obtain rfl : n = i := by omega
          have e1 := (HC1.out wq hbc).2
          have HB := Lib.hid hb
          have hrq := own_below HR7.out hb
          have HRQ := Lib.hid hrq
          have hdq : ∀ (j : Nat) (f : Bs × Bs) (q : Nat × Nat), (l.map Fl.file)[j]? = some f → gs[j]? = some q → Lent wq (V + 1) q.1 q.2 f.2 := fun j f q h1 h2 => own_below (show World.ownsRow _ _ _ _ _ _ _ from HD7.out j f q h1 h2) hb
          have HDQ := Lib.hid hdq
          have HBC2 := Lib.hid hbc
          clear hb hrq hdq hbc
          go_upto_region 21 with (fail)
          clear e1
          go_loopw [11] (fun iv wr => ∃ (i : Nat) (xs : List Value), iv = .int .i64 (i : Int) ∧ i ≤ n ∧ wr.ownsRow (V + 1) tFile 2 (.slice (some ⟨gb, 0, none⟩) (n + 1) c2) (n + 1) xs ∧ (∀ j q, j < n → gs[j]? = some q → ∃ f, (l.map Fl.file)[j]? = some f ∧ xs[j * 2 + 1]? = some (lentV f q)) ∧
            (∀ (j : Nat) (f : Bs × Bs) (q : Nat × Nat), i ≤ j → (l.map Fl.file)[j]? = some f → gs[j]? = some q → Lent wr (V + 1) q.1 q.2 f.2) ∧ Kept wq wr (fun k => V + 1 ≤ k ∧ k < w6.heap.size)) (fun iv _ => n - (intOf iv).toNat)
          case atStart =>
            refine ⟨0, _, rfl, by omega, HRQ.out, ?_, fun j f q _ h1 h2 => HDQ.out j f q h1 h2, Kept.refl _ _⟩
            intro j q hj hq
            have hfj : j < (l.map Fl.file).length := by have := HLL.out; simp; omega
            have h1 := cF_at (l.map Fl.file) (lentVs (l.map Fl.file) gs) j _ (lentV _ q) (List.getElem?_eq_getElem hfj) (by unfold lentVs; rw [List.getElem?_zipWith, List.getElem?_eq_getElem hfj, hq])
            exact ⟨_, List.getElem?_eq_getElem hfj, by rw [List.getElem?_append_left (by have := HL7.out; omega)]; exact h1.2⟩
          case round =>
            obtain ⟨i, xs, rfl, hi, hrow, hxs, hlent, hk⟩ := hrel
            obtain ⟨wz, rfl⟩ : ∃ wz, wz = wr := ⟨_, rfl⟩
            have hVz : wz.heap[V]? = wq.heap[V]? := hk.block V (by have := HBC2.out.size; have := HS0.out; omega) (by omega)
            have hVq := (HBC2.out.block V (by have := HS0.out; omega)).trans HA0.out
            have e1 : wz.cell? ⟨V, 2, none⟩ = some (.slice A n c) := by rw [cell_of_row wz V _ _ _ _ (hVz.trans hVq)]; rfl
            have HVZ := Lib.hid (hVz.trans hVq)
            clear hVz hVq
            by_cases hlt : i < n
            · obtain ⟨q, hq⟩ : ∃ q, gs[i]? = some q := ⟨_, List.getElem?_eq_getElem (by have := HGS.out; have := HLL.out; simp at *; omega)⟩
              obtain ⟨f, hf, hxf⟩ := hxs i q hlt hq
              have hl := hlent i f q (Nat.le_refl _) hf hq
              obtain ⟨g, cap⟩ := q
              have hfl : f.2.length ≤ 17592186044416 := by have := (HBD.out f (List.mem_of_getElem? hf)).2; omega
              have e2 : wz.cell? ⟨gb, i * 2 + 1, none⟩ = some (.slice (some ⟨g, 0, none⟩) f.2.length cap) := own_cellS hrow hxf
              have hxl := hrow.1
              have hne : g ≠ gb := fun e => own_types (show World.ownsRow _ _ _ _ _ _ _ from hl) hrow (by decide) (g := g) rfl (by rw [e]; rfl)
              have hlt2 : (i : Int) < (n : Int) := by omega
              have hlt3 : (i : Int) < (n : Int) + 1 := by omega
              have HL := Lib.hid hl
              have HROW := Lib.hid hrow
              have HXS := Lib.hid hxs
              have HLENT := Lib.hid hlent
              have HK := Lib.hid hk
              have HQ := Lib.hid hq
              have HNE := Lib.hid hne
              have HXL := Lib.hid hxl
              clear hl hrow hxs hlent hk hq hne hxl hxf hf
              go_upto_region 24 with (go_at_call 60; refine (spoil_any HL.out hfl).mono ?_; rintro y w8 ⟨rfl, hk8⟩; have HK8 := Lib.hid hk8; clear hk8)
              have hrow8 : w8.ownsRow (V + 1) tFile 2 (.slice (some ⟨gb, 0, none⟩) (n + 1) c2) (n + 1) xs := by
                refine own_same HROW.out fun g' hg' => HK8.out.block g' ?_ fun e => ?_
                · obtain ⟨cur, h1⟩ := own_lt HROW.out hg'
                  exact (Array.getElem?_eq_some_iff.1 h1).1
                · have hg2 : gb = g' := by simpa [Value.ownBlock] using hg'
                  exact HNE.out (e.symm.trans hg2.symm)
              obtain ⟨v0, hv0⟩ : ∃ v, xs[i * 2]? = some v := ⟨_, List.getElem?_eq_getElem (by have := HXL.out; omega)⟩
              have z0 := own_cellS hrow8 hv0
              have z1 : w8.frozen? ⟨gb, i * 2, none⟩ = false := own_freeS hrow8
              have z2 : w8.cell? ⟨V, 2, none⟩ = some (.slice A n c) := by
                rw [cell_of_row w8 V _ _ _ _ ((HK8.out.block V (block_of_cell e1) fun e => by have := lent_ge HL.out; omega).trans HVZ.out)]
                rfl
              have HR8 := Lib.hid hrow8
              clear hrow8 hv0 e1 e2
              go_wp2
              have hn9 := own_storeS (i := i * 2) HR8.out (.string ⟨#[115, 112, 111, 105, 108, 116]⟩)
              obtain ⟨cur, hcur⟩ := own_lt HR2.out (g := gb) rfl
              have hgb : gb < w6.heap.size := (Array.getElem?_eq_some_iff.1 hcur).1
              have hgb1 : V + 1 ≤ gb := own_ge HR2.out rfl
              have hg6 : g < w6.heap.size := by
                obtain ⟨f', hf', _⟩ := HXS.out i _ hlt HQ.out
                exact lent_lt (HD6.out i f' _ hf' HQ.out)
              have hg1 : V + 1 ≤ g := lent_ge HL.out
              have hk9 : Kept wq (w8.setCell ⟨gb, i * 2, none⟩ (.string ⟨#[115, 112, 111, 105, 108, 116]⟩)) (fun k => V + 1 ≤ k ∧ k < w6.heap.size) :=
                (HK.out.trans (HK8.out.mono (T := fun k => V + 1 ≤ k ∧ k < w6.heap.size) fun k hk => by subst hk; exact ⟨hg1, hg6⟩) (fun k hk => .inl hk)).set (p := ⟨gb, i * 2, none⟩) ⟨hgb1, hgb⟩ _
              have HN9 := Lib.hid hn9
              have HK9 := Lib.hid hk9
              clear hn9 hk9 z0 z1 z2
              go_roundw
              case rel =>
                refine ⟨i + 1, _, by go_num, by omega, HN9.out, ?_, ?_, HK9.out⟩
                · intro j q hj hq
                  obtain ⟨f', hf', hx'⟩ := HXS.out j q hj hq
                  exact ⟨f', hf', by rw [List.getElem?_set_ne (by omega)]; exact hx'⟩
                · intro j f' q hj hf' hq
                  have h1 := HLENT.out j f' q (by omega) hf' hq
                  have h2 : Lent w8 (V + 1) q.1 q.2 f'.2 := lent_same h1 (HK8.out.block _ (lent_lt h1) fun e => by
                    have := HOWN.out j i q (g, cap) hq HQ.out e
                    omega)
                  refine lent_same h2 ?_
                  have hne2 : q.1 ≠ gb := fun e => own_types (show World.ownsRow _ _ _ _ _ _ _ from h2) HR8.out (by decide) (g := q.1) rfl (by rw [e]; rfl)
                  exact Below.heap_setCell w8 _ _ q.1 hne2
              case measure => simp [intOf]; omega
            · obtain rfl : n = i := by omega
              have HK := Lib.hid hk
              clear hrow hxs hlent hk
              go_wp2
              go_ret2
              have hbz : Below w.heap.size w wz := by
                rw [HV.out]
                exact (HB0.out.trans (HBC2.out.mono (by omega))).trans (HK.out.to_below (by have := HBC2.out.size; have := HS0.out; omega) fun k hk => by omega)
              refine ⟨hbz, ?_⟩
              rcases HLD.out with ⟨h1, rfl⟩ | ⟨D, d, S, h1, rfl, h2, h3⟩
              · exact .inl ⟨HBG.out.trans h1, rfl⟩
              · refine .inr ⟨D, d, S, HBG.out.trans h1, rfl, (h2.below HB.out).kept HK.out fun k hk h4 => ?_, fun k hk => ?_⟩
                · have := h3 k hk; omega
                · have := h3 k hk
                  have := HB6.out.size
                  have := HS0.out
                  have := HV.out
                  omega
theorem made_any {w : World} {how room : Int} {A : Option Addr} {n c B : Nat} {l : List Fl} (hf : Files w B A n l) (hB : B ≤ w.heap.size) :
    Calls Try.prog 12 #[.agg #[.int .i64 how, .int .i64 room, .slice A n c]] w fun x w' => Made w w' how room (l.map Fl.file) x := by
  by_cases h0 : how = 0
  · subst h0; exact made_new _
  · by_cases h1 : how = 1
    · subst h1; exact made_load hf hB
    · exact made_zero _ h0 h1
end Go.Proofs.Ytelgcmcnebncmaa.Dr
namespace Go.Proofs.Ytelgcmcnebncmaa.Dr
open Go.RowKit Go.Proofs Go.Proofs.Ytelgcmcnebncmaa.Ring

set_option maxRecDepth 100000 in
theorem lnamed_any (n : Bs) (w : World) : Calls Try.prog 26 #[encStr n] w fun x w' => x = .returned (.bool (Dr.named n)) ∧ w = w' := by
  unfold Dr.named
  by_cases h1 : 1 ≤ n.length
  · by_cases h2 : n.length ≤ 1024
    · have e : decide (1 ≤ n.length ∧ n.length ≤ 1024) = true := by simp [h1, h2]
      have h3 : (1 : Int) ≤ (n.length : Int) := by omega
      have h4 : (n.length : Int) ≤ 1024 := by omega
      rw [e]
      clear e
      go_enter Try.func26, Try.ntmps26
      go_wp2
      go_ret
      exact ⟨rfl, rfl⟩
    · have e : decide (1 ≤ n.length ∧ n.length ≤ 1024) = false := by simp [h2]
      have h3 : (1 : Int) ≤ (n.length : Int) := by omega
      have h4 : ¬ (n.length : Int) ≤ 1024 := by omega
      rw [e]
      clear e
      go_enter Try.func26, Try.ntmps26
      go_wp2
      go_ret
      exact ⟨rfl, rfl⟩
  · have e : decide (1 ≤ n.length ∧ n.length ≤ 1024) = false := by simp [h1]
    have h3 : ¬ (1 : Int) ≤ (n.length : Int) := by omega
    rw [e]
    clear e
    go_enter Try.func26, Try.ntmps26
    go_wp2
    go_ret
    exact ⟨rfl, rfl⟩
section
variable {w : World} {S : Nat → Prop} {d m N : Nat} {D : Dr.D}
set_option maxRecDepth 100000 in
theorem shows_yes (h : Dv w S d D m N) (hm : m ≤ 140737488355328) {n x : Bs} {i : Nat} (hl : D.look n = .ok i) (hx : (D.at i).data = x) :
    Calls Try.prog 33 #[.pointer (some ⟨d, 0, none⟩), encStr n, encStr x] w fun y w' => y = .returned (.bool true) ∧ Below w.heap.size w w' := by
  subst hx
  have H := Lib.hid h
  have HL := Lib.hid hl
  clear h hl
  go_enter Try.func33, Try.ntmps33
  go_upto_region 2 with (go_at_call 77; refine (read_ok H.out hm HL.out).mono ?_; rintro y w' ⟨hb, A, c, rfl, ho⟩; have HB := Lib.hid hb; have HO := Lib.hid ho; clear hb ho)
  have t1 := run_text (P := Try.prog) w' 35 9 5 Try.underlying35 Try.underlying5 Try.underlying9 c (Rd.of_own HO.out)
  go_wp2
  go_ret
  exact ⟨rfl, HB.out⟩
end
theorem loadAct {ops : Array Oper} {rest : List Oper} {o : Oper} {a : Act} {w : World} {Q : Exit → Act → World → Prop} (hg : o.guard = none) (x : Operand) (ho : o.op = .load tAct x) (b off : Nat) (hx : a.eval x = .pointer (some ⟨b, off, none⟩)) {y : Av}
    (hc : w.rangeAt b off y.cells) (h : wpList Try.prog ops Q rest (a.put o.dst (actV y.a y.A y.n y.c y.Ad y.nd y.cd y.Au y.nu y.cu)) w) : wpList Try.prog ops Q (o :: rest) a w :=
  wpList_load_mid hg tAct x ho b off hx y.cells _ hc Try.underlying41 rfl (by kernel_rfl) h
/-- Acts done. -/
def plays (D : Dr.D) (l : List Ac) : Dr.D := l.foldl (fun D a => (D.step a).1) D
theorem plays_snoc (D : Dr.D) (l : List Ac) (a : Ac) : plays D (l ++ [a]) = ((plays D l).step a).1 := by simp [plays]
section
variable {w w1 w2 : World} {S : Nat → Prop} {d m N m1 N1 : Nat} {D D1 : Dr.D}
/-- A call of one drive, seen from further back. -/
theorem Turn.after {S1 : Nat → Prop} (hk : Kept w w1 S) (hs : ∀ k, S1 k → S k ∨ w.heap.size ≤ k) (h2 : Turn w1 w2 S1 d D m N) : Turn w w2 S d D m N := by
  obtain ⟨S2, a1, a2, a3⟩ := h2
  refine ⟨S2, a1, hk.trans a2 hs, fun k hk2 => ?_⟩
  rcases a3 k hk2 with h | h
  · exact hs k h
  · exact .inr (Nat.le_trans hk.size h)
theorem Turn.back (h : Turn w w1 S d D m N) {B : Nat} (hB : B ≤ w.heap.size) (hS : ∀ k, S k → B ≤ k) : Below B w w1 := by
  obtain ⟨S2, _, a2, _⟩ := h
  exact a2.to_below hB hS
set_option maxRecDepth 100000 in
set_option maxHeartbeats 4000000 in
theorem played_any (h : Dv w S d D m N) {B : Nat} (hB : B ≤ w.heap.size) (hS : ∀ k, S k → B ≤ k) {A : Option Addr} {n c : Nat} {l : List Av} (ha : Acts w B A n l) (hm : m ≤ 35184372088832) (hN : N ≤ 17592186044) :
    Calls Try.prog 27 #[.pointer (some ⟨d, 0, none⟩), .slice A n c] w fun x w' => x = .returned (.tuple #[]) ∧ Turn w w' S d (plays D (l.map (·.a))) (m + 1099511627776) (N + 1048576) := by
  have hn := ha.2.2
  have hll : l.length = n := ha.1.1
  have H := Lib.hid h
  have HS := Lib.hid hS
  have HA := Lib.hid ha
  have HLL := Lib.hid hll
  clear h hS ha hll
  go_enter Try.func27, Try.ntmps27
  go_upto_region 1 with (fail)
  go_loopw [4] (fun iv wr => ∃ i : Nat, iv = .int .i64 (i : Int) ∧ i ≤ n ∧ Turn w wr S d (plays D ((l.map (·.a)).take i)) (m + i * 1048576) (N + i)) (fun iv _ => n - (intOf iv).toNat)
  case atStart => exact ⟨0, rfl, by omega, by simpa [plays] using Turn.refl H.out⟩
  case round =>
    obtain ⟨i, rfl, hi, ht⟩ := hrel
    by_cases hlt : i < n
    · have hbw := ht.back hB HS.out
      obtain ⟨b, o, x, rfl, hbB, hx, hcells⟩ := (HA.out.below hbw).1.at_ hlt
      have hxin := (HA.out.below hbw).2.1 x (List.mem_of_getElem? hx)
      obtain ⟨S1, hD1, hk1, hs1⟩ := ht
      have hB1 : ∀ k, S1 k → B ≤ k := fun k hk => by
        rcases hs1 k hk with h | h
        · exact HS.out k h
        · omega
      have hi5 : i * 1048576 ≤ 1099511627776 := by omega
      have HX := Lib.hid hx
      have HXIN := Lib.hid hxin
      have HD1 := Lib.hid hD1
      have HK1 := Lib.hid hk1
      have HS1 := Lib.hid hs1
      have HB1 := Lib.hid hB1
      have HC := Lib.hid hcells
      have HBW := Lib.hid hbw
      have hlt2 : (i : Int) < (n : Int) := by omega
      clear hx hxin hD1 hk1 hs1 hB1 hcells hbw
      go_wp2_with (first
        | (refine loadAct rfl (.tmp 14) rfl b (o + i * 7) rfl HC.out ?_)
        | (go_at_call 14; refine (do_any HD1.out (Nat.le_trans hB HBW.out.size) HB1.out HXIN.out (by omega) (by omega)).mono ?_; rintro y w2 ⟨_, _, _, _, rfl, _, ht2⟩; have HT2 := Lib.hid ht2; clear ht2))
      have ht3 := (Turn.after HK1.out HS1.out HT2.out).mono (m' := m + (i + 1) * 1048576) (N' := N + (i + 1)) (by have := HXIN.out.n_le; omega) (by omega)
      rw [← plays_snoc, ← take_snoc_f (show (l.map (·.a))[i]? = some x.a by rw [List.getElem?_map, HX.out]; rfl)] at ht3
      have HT3 := Lib.hid ht3
      clear ht3
      go_roundw
      case rel => exact ⟨i + 1, by go_num, by omega, HT3.out⟩
      case measure => simp [intOf]; omega
    · obtain rfl : n = i := by omega
      rw [List.take_of_length_le (by have := HLL.out; simp; omega)] at ht
      have HT := Lib.hid ht
      clear ht
      go_wp2
      go_end0
      exact ⟨rfl, HT.out.mono (by omega) (by omega)⟩
end
end Go.Proofs.Ytelgcmcnebncmaa.Dr
