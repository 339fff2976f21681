/- XIn: merged by tools/merge.py. -/
import Derived.Test.YtelgcmcnebncmaaQ17
import Derived.Test.YtelgcmcnebncmaaQ06
import Derived.Deep.Slices
import Derived.Deep.MidRow
import Derived.DataReads
import Derived.ChangeArms
namespace Go.Proofs.Ytelgcmcnebncmaa.Dr
open Go.ChangeShapes Go.WideShapes Go.ChangeAt Go.RowKit Go.Proofs Go.Deep Go.Proofs.Ytelgcmcnebncmaa.Ring

/-- A slice of n elements of k cells each, below block B. -/
def Row {α : Type} (k : Nat) (cells : α → List Value) (w : World) (B : Nat) (A : Option Addr) (n : Nat) (l : List α) : Prop :=
  l.length = n ∧ (0 < n → ∃ b o, A = some ⟨b, o, none⟩ ∧ b < B ∧ ∀ i x, l[i]? = some x → w.rangeAt b (o + i * k) (cells x))
section
variable {α : Type} {k : Nat} {cells : α → List Value} {w w' : World} {B n : Nat} {A : Option Addr} {l : List α}
theorem Row.keep (h : Row k cells w B A n l) (hk : ∀ p : Addr, p.block < B → w'.cell? p = w.cell? p) : Row k cells w' B A n l :=
  ⟨h.1, fun hn => by
    obtain ⟨b, o, e, hb, hc⟩ := h.2 hn
    exact ⟨b, o, e, hb, fun i u hu j v hv => (hk _ hb).trans (hc i u hu j v hv)⟩⟩
theorem Row.below (h : Row k cells w B A n l) (hb : Below B w w') : Row k cells w' B A n l := h.keep fun _ hp => hb.cell hp
theorem Row.at_ (h : Row k cells w B A n l) {i : Nat} (hi : i < n) : ∃ b o x, A = some ⟨b, o, none⟩ ∧ b < B ∧ l[i]? = some x ∧ w.rangeAt b (o + i * k) (cells x) := by
  obtain ⟨b, o, e, hb, hc⟩ := h.2 (by omega)
  have hu : l[i]? = some (l[i]'(by have := h.1; omega)) := List.getElem?_eq_getElem _
  exact ⟨b, o, _, e, hb, hu, hc i _ hu⟩
theorem Row.rd {f : α → Value} (h : Row 1 (fun x => [f x]) w B A n l) : Rd w B 1 A n (l.map f) := by
  refine ⟨by simp [h.1], fun hn => ?_⟩
  obtain ⟨b, o, e, hb, hc⟩ := h.2 hn
  refine ⟨_, e, hb, fun j u hu => ?_⟩
  rw [List.getElem?_map] at hu
  cases hl : l[j]? with
  | none => rw [hl] at hu; cases hu
  | some x =>
    rw [hl] at hu
    cases hu
    have := hc j x hl 0 (f x) rfl
    unfold Addr.add
    rw [Nat.mul_one, Nat.add_zero] at this
    by_cases hj : j = 0
    · subst hj; simpa using this
    · simpa [hj] using this
end

section
variable {H : Type} {enc : TypeId × Value → H} {P : Program} {W : World}
set_option maxRecDepth 100000 in
/-- A slice that came in, element by element. -/
theorem open_row {α : Type} [Inhabited α] {t e : TypeId} {k : Nat} {R : α → List Value → DataW H → Prop} (ht : P.underlying t = some (.slice e)) (hk : P.cellsOf e = k) (hk0 : 0 < k)
    (hv : ∀ fuel cs y p, DataW.trod enc P W 0 (fun _ => true) true fuel e cs = some (y, p) → ∃ x, R x cs y) {fuel : Nat} {cs : List Value} {x : DataW H × List MemPlace}
    (h : DataW.trod enc P W 0 (fun _ => true) true fuel t cs = some x) :
    ∃ (A : Option Addr) (n c : Nat) (l : List α), cs = [.slice A n c] ∧ l.length = n ∧ n ≤ c ∧ c ≤ maxLen ∧ (A = none → c = 0) ∧ n + 1 ≤ Rows.uptoBulk x.1 ∧ (0 < n → ∃ b o, A = some ⟨b, o, none⟩ ∧ b < W.heap.size) ∧
      ∀ i u, l[i]? = some u → ∃ cs' y, R u cs' y ∧ cs'.length = k ∧ Rows.uptoBulk y + 1 ≤ Rows.uptoBulk x.1 ∧ ∀ b o, A = some ⟨b, o, none⟩ → W.rangeAt b (o + i * k) cs' := by
  subst hk
  rcases open_slice ht h with ⟨hcs, hx⟩ | ⟨a, len, cap, m, n, D, Pl, hcs, _, hl, hm, hz, hx, hi⟩
  · subst hx
    exact ⟨none, 0, 0, [], hcs, rfl, Nat.le_refl _, Nat.zero_le _, fun _ => rfl, by simp [Rows.uptoBulk], fun h => absurd h (by omega), fun i u hu => by cases hu⟩
  · simp only [if_true] at hz
    subst hz
    have spot0 : 0 < len → a.spot = none := by
      intro h0
      obtain ⟨cs', h1, h2⟩ := hi 0 (by omega)
      obtain ⟨_, hcl, hat⟩ := World.cells?_some h1
      have h0 := hat 0 hk0
      rw [List.getElem?_eq_getElem (by omega), Deep.add_add, Nat.zero_mul] at h0
      have := World.cell?_spot h0
      simpa [Addr.add] using this
    have each : ∀ i, i < len → ∃ u : α, ∃ cs' y, R u cs' y ∧ y = D i ∧ cs'.length = P.cellsOf e ∧ a.spot = none ∧ a.block < W.heap.size ∧ ∀ b o, a = ⟨b, o, none⟩ → W.rangeAt b (o + i * P.cellsOf e) cs' := by
      intro i hin
      obtain ⟨cs', h1, h2⟩ := hi i (by omega)
      obtain ⟨u, hu⟩ := hv n cs' _ _ h2
      obtain ⟨_, hcl, hat⟩ := World.cells?_some h1
      have h0 := hat 0 hk0
      rw [List.getElem?_eq_getElem (by omega)] at h0
      have hsp := spot0 (by omega)
      refine ⟨u, cs', _, hu, rfl, hcl, hsp, by have := block_of_cell h0; rwa [add_block, add_block] at this, ?_⟩
      intro b o e' j v hvj
      have hj : j < P.cellsOf e := by have := (List.getElem?_eq_some_iff.1 hvj).1; omega
      have h3 := hat j hj
      rw [hvj, Deep.add_add, e', Addr.add_mid] at h3
      rw [← h3]
      congr 2
      omega
    obtain ⟨g, hg⟩ := choose_lt each
    refine ⟨some a, len, m, (List.range len).map g, hcs, by simp, hl, hm, fun h => (by cases h), ?_, ?_, ?_⟩
    · have := bulk_slice ((List.range len).map D) ((List.range (m - len)).map fun j => D (len + j))
      rw [hx]
      simp at this ⊢
      omega
    · intro h0
      obtain ⟨_, _, _, _, _, hsp, hb, _⟩ := hg 0 h0
      obtain ⟨b, o, s⟩ := a
      obtain rfl : s = none := hsp
      exact ⟨b, o, rfl, hb⟩
    · intro i u hu
      rw [List.getElem?_map] at hu
      have hi' : i < len := by
        rcases Nat.lt_or_ge i len with h | h
        · exact h
        · rw [List.getElem?_eq_none (by simpa using h)] at hu; cases hu
      rw [List.getElem?_range hi'] at hu
      cases hu
      obtain ⟨cs', y, h1, h2, h3, _, _, h5⟩ := hg i hi'
      refine ⟨cs', y, h1, h3, ?_, fun b o e => h5 b o (by injection e)⟩
      rw [hx, h2]
      have hb := bulk_part (l := (List.range len).map D) (i := i) (d := D i) (by simp [List.getElem?_range hi'])
      simp only [Rows.uptoBulk]
      omega
theorem part_bulk {xs : List (DataW H × List MemPlace)} {i : Nat} {y : DataW H × List MemPlace} (h : xs[i]? = some y) : Rows.uptoBulk y.1 + 1 ≤ Rows.uptoBulk (.agg (xs.map (·.1)) : DataW H) := by
  have := bulk_part (l := xs.map (·.1)) (i := i) (d := y.1) (by rw [List.getElem?_map, h]; rfl)
  simp only [Rows.uptoBulk]
  omega
end

/-- Where a row's elements read as 'cells' says. -/
theorem row_of {H : Type} {W : World} {α : Type} {k n : Nat} {A : Option Addr} {l : List α} {R : α → List Value → DataW H → Prop} {cells : α → List Value} {q : Nat} (hl : l.length = n) (h0 : 0 < n → ∃ b o, A = some ⟨b, o, none⟩ ∧ b < W.heap.size)
    (h : ∀ i u, l[i]? = some u → ∃ cs' y, R u cs' y ∧ cs'.length = k ∧ Rows.uptoBulk y + 1 ≤ q ∧ ∀ b o, A = some ⟨b, o, none⟩ → W.rangeAt b (o + i * k) cs') (hR : ∀ u cs y, R u cs y → cs = cells u) : Row k cells W W.heap.size A n l := by
  refine ⟨hl, fun hn => ?_⟩
  obtain ⟨b, o, e, hb⟩ := h0 hn
  refine ⟨b, o, e, hb, fun i u hu => ?_⟩
  obtain ⟨cs', y, h1, _, _, h2⟩ := h i u hu
  rw [← hR _ _ _ h1]
  exact h2 b o e
theorem row_all {H : Type} {W : World} {α : Type} {k : Nat} {A : Option Addr} {l : List α} {R : α → List Value → DataW H → Prop} {q : Nat} {G : α → Prop}
    (h : ∀ i u, l[i]? = some u → ∃ cs' y, R u cs' y ∧ cs'.length = k ∧ Rows.uptoBulk y + 1 ≤ q ∧ ∀ b o, A = some ⟨b, o, none⟩ → W.rangeAt b (o + i * k) cs') (hR : ∀ u cs y, R u cs y → Rows.uptoBulk y + 1 ≤ q → G u) : ∀ u ∈ l, G u := by
  intro u hu
  obtain ⟨i, hi, rfl⟩ := List.getElem_of_mem hu
  obtain ⟨cs', y, h1, _, h2, _⟩ := h i _ (List.getElem?_eq_getElem hi)
  exact hR _ _ _ h1 h2

section
variable {H : Type} {enc : TypeId × Value → H} {W : World}
theorem field {fs : Array Field} {n : Nat} {cs : List Value} {xs : List (DataW H × List MemPlace)} (hl : xs.length = fs.size)
    (hf : ∀ (i : Nat) (f : Field), fs[i]? = some f → DataW.trod enc Try.prog W 0 (fun _ => true) true n f.type ((cs.drop f.offset).take (Try.prog.cellsOf f.type)) = xs[i]?)
    {i : Nat} {f : Field} (hi : fs[i]? = some f) {t : TypeId} {k o : Nat} (ht : f.type = t) (ho : f.offset = o) (hk : Try.prog.cellsOf t = k) :
    ∃ y, xs[i]? = some y ∧ DataW.trod enc Try.prog W 0 (fun _ => true) true n t ((cs.drop o).take k) = some y := by
  subst ht ho hk
  have h := hf i f hi
  have hlt : i < xs.length := by rw [hl]; exact (Array.getElem?_eq_some_iff.1 hi).1
  exact ⟨_, List.getElem?_eq_getElem hlt, h.trans (List.getElem?_eq_getElem hlt)⟩
set_option maxRecDepth 100000 in
/-- Bytes that came in. -/
theorem open_bytes {t : TypeId} {fuel : Nat} {cs : List Value} {x : DataW H × List MemPlace} (ht : Try.prog.underlying t = some (.slice 5)) (h : DataW.trod enc Try.prog W 0 (fun _ => true) true fuel t cs = some x) (hb : Rows.uptoBulk x.1 ≤ 1048576) :
    ∃ A n c b, cs = [.slice A n c] ∧ Rd W W.heap.size 1 A n (cU8 b) ∧ (A = none → c = 0) ∧ n ≤ 1048576 := by
  obtain ⟨A, n, c, l, hcs, hl, _, _, hz, hbk, h0, hi⟩ := open_row (α := UInt8) (R := fun u cs _ => cs = [.int .u8 (u.toNat : Int)]) ht (by kernel_rfl : _ = 1) (by omega) (fun fuel cs y p hy => by
    obtain ⟨n, e, _, hw⟩ := DataW.trod_int Try.underlying5 hy
    simp [Lit.wf, IntKind.min, IntKind.max, IntKind.signed, IntKind.bits, Bool.and_eq_true] at hw
    refine ⟨UInt8.ofNat n.toNat, ?_⟩
    rw [e, UInt8.toNat_ofNat']
    congr 2
    omega) h
  exact ⟨A, n, c, l, hcs, (row_of (cells := fun u => [.int .u8 (u.toNat : Int)]) hl h0 hi fun _ _ _ e => e).rd, hz, by omega⟩
set_option maxRecDepth 100000 in
theorem open_bools {t : TypeId} {fuel : Nat} {cs : List Value} {x : DataW H × List MemPlace} (ht : Try.prog.underlying t = some (.slice 4)) (h : DataW.trod enc Try.prog W 0 (fun _ => true) true fuel t cs = some x) (hb : Rows.uptoBulk x.1 ≤ 1048576) :
    ∃ A n c b, cs = [.slice A n c] ∧ Rd W W.heap.size 1 A n (cBool b) ∧ (A = none → c = 0) ∧ n ≤ 1048576 := by
  obtain ⟨A, n, c, l, hcs, hl, _, _, hz, hbk, h0, hi⟩ := open_row (α := Bool) (R := fun u cs _ => cs = [.bool u]) ht (by kernel_rfl : _ = 1) (by omega) (fun fuel cs y p hy => by
    obtain ⟨b, e, _⟩ := DataW.trod_bool Try.underlying4 hy
    exact ⟨b, e⟩) h
  exact ⟨A, n, c, l, hcs, (row_of (cells := fun u => [.bool u]) hl h0 hi fun _ _ _ e => e).rd, hz, by omega⟩
set_option maxRecDepth 100000 in
theorem open_nums {t : TypeId} {fuel : Nat} {cs : List Value} {x : DataW H × List MemPlace} (ht : Try.prog.underlying t = some (.slice 3)) (h : DataW.trod enc Try.prog W 0 (fun _ => true) true fuel t cs = some x) (hb : Rows.uptoBulk x.1 ≤ 1048576) :
    ∃ A n c b, cs = [.slice A n c] ∧ Rd W W.heap.size 1 A n (cInt b) ∧ (∀ x ∈ b, -9223372036854775808 ≤ x ∧ x ≤ 9223372036854775807) ∧ (A = none → c = 0) ∧ n ≤ 1048576 := by
  obtain ⟨A, n, c, l, hcs, hl, _, _, hz, hbk, h0, hi⟩ := open_row (α := Int) (R := fun u cs _ => cs = [.int .i64 u] ∧ -9223372036854775808 ≤ u ∧ u ≤ 9223372036854775807) ht (by kernel_rfl : _ = 1) (by omega) (fun fuel cs y p hy => by
    obtain ⟨n, e, _, hw⟩ := DataW.trod_int Try.underlying3 hy
    simp [Lit.wf, IntKind.min, IntKind.max, IntKind.signed, IntKind.bits, Bool.and_eq_true] at hw
    exact ⟨n, e, hw⟩) h
  exact ⟨A, n, c, l, hcs, (row_of (cells := fun u => [.int .i64 u]) hl h0 hi fun _ _ _ e => e.1).rd, row_all hi fun _ _ _ e _ => e.2, hz, by omega⟩
set_option maxRecDepth 100000 in
/-- A text that came in. -/
theorem open_text {t : TypeId} {fuel : Nat} {cs : List Value} {x : DataW H × List MemPlace} (ht : Try.prog.underlying t = some .string) (h : DataW.trod enc Try.prog W 0 (fun _ => true) true fuel t cs = some x) (hb : Rows.uptoBulk x.1 ≤ 1048576) :
    ∃ s : Bs, cs = [encStr s] ∧ s.length ≤ 1048576 := by
  obtain ⟨s, e, hx, _⟩ := DataW.trod_string ht h
  refine ⟨s.data.toList, e, ?_⟩
  rw [hx] at hb
  dsimp only at hb
  simp only [Rows.uptoBulk] at hb
  omega
set_option maxRecDepth 100000 in
theorem open_num {t : TypeId} {fuel : Nat} {cs : List Value} {x : DataW H × List MemPlace} (ht : Try.prog.underlying t = some (.int .i64)) (h : DataW.trod enc Try.prog W 0 (fun _ => true) true fuel t cs = some x) :
    ∃ n : Int, cs = [.int .i64 n] ∧ -9223372036854775808 ≤ n ∧ n ≤ 9223372036854775807 := by
  obtain ⟨n, e, _, hw⟩ := DataW.trod_int ht h
  simp [Lit.wf, IntKind.min, IntKind.max, IntKind.signed, IntKind.bits, Bool.and_eq_true] at hw
  exact ⟨n, e, hw⟩
/-- A fate that came in. -/
structure FateIn (w : World) (B : Nat) (ds : List Bool) (us : List Int) (Ad : Option Addr) (nd cd : Nat) (Au : Option Addr) (nu cu : Nat) : Prop where
  dirs : Rd w B 1 Ad nd (cBool ds)
  cuts : Rd w B 1 Au nu (cInt us)
  nilD : Ad = none → cd = 0
  nilC : Au = none → cu = 0
  nd_le : nd ≤ 1048576
  nu_le : nu ≤ 1048576
  cut : ∀ x ∈ us, -9223372036854775808 ≤ x ∧ x ≤ 9223372036854775807
set_option maxRecDepth 100000 in
theorem open_fate {fuel : Nat} {cs : List Value} {x : DataW H × List MemPlace} (h : DataW.trod enc Try.prog W 0 (fun _ => true) true fuel 29 cs = some x) (hb : Rows.uptoBulk x.1 ≤ 1048576) :
    ∃ dirs cuts Ad nd cd Au nu cu, cs = [.slice Ad nd cd, .slice Au nu cu] ∧ FateIn W W.heap.size dirs cuts Ad nd cd Au nu cu := by
  obtain ⟨xs, n, _, hx, hlen, hxl, hf⟩ := DataW.trod_struct Try.underlying29 h
  rw [show Try.prog.cellsOf 29 = 2 by kernel_rfl] at hlen
  obtain ⟨c0, c1, rfl⟩ : ∃ a b, cs = [a, b] := by
    match cs, hlen with
    | [a, b], _ => exact ⟨a, b, rfl⟩
  rw [hx] at hb
  dsimp only at hb
  obtain ⟨y0, e0, t0⟩ := field hxl hf (i := 0) rfl (t := 26) (k := 1) (o := 0) rfl rfl (by kernel_rfl)
  obtain ⟨y1, e1, t1⟩ := field hxl hf (i := 1) rfl (t := 27) (k := 1) (o := 1) rfl rfl (by kernel_rfl)
  have b0 := part_bulk e0
  have b1 := part_bulk e1
  obtain ⟨Ad, nd, cd, dirs, v0, r0, z0, l0⟩ := open_bools Try.underlying26 t0 (by omega)
  obtain ⟨Au, nu, cu, cuts, v1, r1, q1, z1, l1⟩ := open_nums Try.underlying27 t1 (by omega)
  simp at v0 v1
  subst v0 v1
  exact ⟨dirs, cuts, Ad, nd, cd, Au, nu, cu, rfl, r0, r1, z0, z1, l0, l1, q1⟩
/-- A file as it came in. -/
structure Fl where
  name : Bs
  data : Bs
  A : Option Addr
  n : Nat
  c : Nat
  deriving Inhabited
def Fl.cells (x : Fl) : List Value := [encStr x.name, .slice x.A x.n x.c]
def Fl.file (x : Fl) : Bs × Bs := (x.name, x.data)
structure Fl.In (w : World) (B : Nat) (x : Fl) : Prop where
  data : Rd w B 1 x.A x.n (cU8 x.data)
  nil : x.A = none → x.c = 0
  n_le : x.n ≤ 1048576
  name : x.name.length ≤ 1048576
theorem Fl.In.below {w w' : World} {B : Nat} {x : Fl} (h : x.In w B) (hb : Below B w w') : x.In w' B := ⟨h.data.below hb, h.nil, h.n_le, h.name⟩
/-- Files that came in. -/
def Files (w : World) (B : Nat) (A : Option Addr) (n : Nat) (l : List Fl) : Prop := Row 2 Fl.cells w B A n l ∧ (∀ x ∈ l, x.In w B) ∧ n ≤ 1048576
theorem Files.below {w w' : World} {B n : Nat} {A : Option Addr} {l : List Fl} (h : Files w B A n l) (hb : Below B w w') : Files w' B A n l := ⟨h.1.below hb, fun x hx => (h.2.1 x hx).below hb, h.2.2⟩
set_option maxRecDepth 100000 in
theorem open_file {fuel : Nat} {cs : List Value} {x : DataW H × List MemPlace} (h : DataW.trod enc Try.prog W 0 (fun _ => true) true fuel 69 cs = some x) (hb : Rows.uptoBulk x.1 ≤ 1048576) :
    ∃ f : Fl, cs = f.cells ∧ f.In W W.heap.size := by
  obtain ⟨xs, n, _, hx, hlen, hxl, hf⟩ := DataW.trod_struct Try.underlying69 h
  rw [show Try.prog.cellsOf 69 = 2 by kernel_rfl] at hlen
  obtain ⟨c0, c1, rfl⟩ : ∃ a b, cs = [a, b] := by
    match cs, hlen with
    | [a, b], _ => exact ⟨a, b, rfl⟩
  rw [hx] at hb
  dsimp only at hb
  obtain ⟨y0, e0, t0⟩ := field hxl hf (i := 0) rfl (t := 9) (k := 1) (o := 0) rfl rfl (by kernel_rfl)
  obtain ⟨y1, e1, t1⟩ := field hxl hf (i := 1) rfl (t := 35) (k := 1) (o := 1) rfl rfl (by kernel_rfl)
  have b0 := part_bulk e0
  have b1 := part_bulk e1
  obtain ⟨nm, v0, l0⟩ := open_text Try.underlying9 t0 (by omega)
  obtain ⟨A, n, c, b, v1, r1, z1, l1⟩ := open_bytes Try.underlying35 t1 (by omega)
  simp at v0 v1
  subst v0 v1
  exact ⟨⟨nm, b, A, n, c⟩, rfl, r1, z1, l1, l0⟩
set_option maxRecDepth 100000 in
theorem open_files {fuel : Nat} {cs : List Value} {x : DataW H × List MemPlace} (h : DataW.trod enc Try.prog W 0 (fun _ => true) true fuel 22 cs = some x) (hb : Rows.uptoBulk x.1 ≤ 1048576) :
    ∃ A n c l, cs = [.slice A n c] ∧ Files W W.heap.size A n l := by
  obtain ⟨A, n, c, l, hcs, hl, _, _, hz, hbk, h0, hi⟩ := open_row (α := Fl) (R := fun u cs y => Rows.uptoBulk y ≤ 1048576 → cs = u.cells ∧ u.In W W.heap.size) Try.underlying22 (by kernel_rfl : _ = 2) (by omega) (fun fuel cs y p hy => by
    by_cases hq : Rows.uptoBulk y ≤ 1048576
    · obtain ⟨f, hf⟩ := open_file hy hq
      exact ⟨f, fun _ => hf⟩
    · exact ⟨default, fun h => absurd h hq⟩) h
  have hi2 : ∀ i u, l[i]? = some u → ∃ cs' y, (cs' = u.cells ∧ u.In W W.heap.size) ∧ cs'.length = 2 ∧ Rows.uptoBulk (y : DataW H) + 1 ≤ Rows.uptoBulk x.1 ∧ ∀ b o, A = some ⟨b, o, none⟩ → W.rangeAt b (o + i * 2) cs' := by
    intro i u hu
    obtain ⟨cs', y, h1, h2, h3, h4⟩ := hi i u hu
    exact ⟨cs', y, h1 (by omega), h2, h3, h4⟩
  exact ⟨A, n, c, l, hcs, row_of (cells := Fl.cells) (R := fun u cs' _ => cs' = u.cells ∧ u.In W W.heap.size) hl h0 hi2 (fun _ _ _ e => e.1), row_all (R := fun u cs' _ => cs' = u.cells ∧ u.In W W.heap.size) hi2 (fun _ _ _ e _ => e.2), by omega⟩
/-- An act as it came in. -/
structure Av where
  a : Ac
  A : Option Addr
  n : Nat
  c : Nat
  Ad : Option Addr
  nd : Nat
  cd : Nat
  Au : Option Addr
  nu : Nat
  cu : Nat
instance : Inhabited Av := ⟨⟨⟨0, [], [], 0, [], [], []⟩, none, 0, 0, none, 0, 0, none, 0, 0⟩⟩
def Av.cells (x : Av) : List Value := [.int .i64 x.a.kind, encStr x.a.name, encStr x.a.dst, .int .i64 x.a.n, .slice x.A x.n x.c, .slice x.Ad x.nd x.cd, .slice x.Au x.nu x.cu]
abbrev Av.In (w : World) (B : Nat) (x : Av) : Prop := ActIn w B x.a x.A x.n x.c x.Ad x.nd x.cd x.Au x.nu x.cu
theorem ActIn.below {w w' : World} {B : Nat} {a : Ac} {A : Option Addr} {n c : Nat} {Ad : Option Addr} {nd cd : Nat} {Au : Option Addr} {nu cu : Nat} (h : ActIn w B a A n c Ad nd cd Au nu cu) (hb : Below B w w') : ActIn w' B a A n c Ad nd cd Au nu cu :=
  ⟨h.data.below hb, h.dirs.below hb, h.cuts.below hb, h.nil, h.nilD, h.nilC, h.n_le, h.nd_le, h.nu_le, h.kind, h.num, h.cut⟩
/-- Acts that came in. -/
def Acts (w : World) (B : Nat) (A : Option Addr) (n : Nat) (l : List Av) : Prop := Row 7 Av.cells w B A n l ∧ (∀ x ∈ l, x.In w B) ∧ n ≤ 1048576
theorem Acts.below {w w' : World} {B n : Nat} {A : Option Addr} {l : List Av} (h : Acts w B A n l) (hb : Below B w w') : Acts w' B A n l := ⟨h.1.below hb, fun x hx => ActIn.below (h.2.1 x hx) hb, h.2.2⟩
set_option maxRecDepth 100000 in
theorem open_act {fuel : Nat} {cs : List Value} {x : DataW H × List MemPlace} (h : DataW.trod enc Try.prog W 0 (fun _ => true) true fuel 41 cs = some x) (hb : Rows.uptoBulk x.1 ≤ 1048576) :
    ∃ f : Av, cs = f.cells ∧ f.In W W.heap.size := by
  obtain ⟨xs, n, _, hx, hlen, hxl, hf⟩ := DataW.trod_struct Try.underlying41 h
  rw [show Try.prog.cellsOf 41 = 7 by kernel_rfl] at hlen
  obtain ⟨c0, c1, c2, c3, c4, c5, c6, rfl⟩ : ∃ a b c d e f g, cs = [a, b, c, d, e, f, g] := by
    match cs, hlen with
    | [a, b, c, d, e, f, g], _ => exact ⟨a, b, c, d, e, f, g, rfl⟩
  rw [hx] at hb
  dsimp only at hb
  obtain ⟨y0, e0, t0⟩ := field hxl hf (i := 0) rfl (t := 3) (k := 1) (o := 0) rfl rfl (by kernel_rfl)
  obtain ⟨y1, e1, t1⟩ := field hxl hf (i := 1) rfl (t := 9) (k := 1) (o := 1) rfl rfl (by kernel_rfl)
  obtain ⟨y2, e2, t2⟩ := field hxl hf (i := 2) rfl (t := 9) (k := 1) (o := 2) rfl rfl (by kernel_rfl)
  obtain ⟨y3, e3, t3⟩ := field hxl hf (i := 3) rfl (t := 3) (k := 1) (o := 3) rfl rfl (by kernel_rfl)
  obtain ⟨y4, e4, t4⟩ := field hxl hf (i := 4) rfl (t := 35) (k := 1) (o := 4) rfl rfl (by kernel_rfl)
  obtain ⟨y5, e5, t5⟩ := field hxl hf (i := 5) rfl (t := 29) (k := 2) (o := 5) rfl rfl (by kernel_rfl)
  have b1 := part_bulk e1
  have b2 := part_bulk e2
  have b4 := part_bulk e4
  have b5 := part_bulk e5
  obtain ⟨k, v0, l0⟩ := open_num Try.underlying3 t0
  obtain ⟨nm, v1, l1⟩ := open_text Try.underlying9 t1 (by omega)
  obtain ⟨dst, v2, l2⟩ := open_text Try.underlying9 t2 (by omega)
  obtain ⟨n, v3, l3⟩ := open_num Try.underlying3 t3
  obtain ⟨A, n4, c, b, v4, r4, z4, l4⟩ := open_bytes Try.underlying35 t4 (by omega)
  obtain ⟨dirs, cuts, Ad, nd, cd, Au, nu, cu, v5, hfa⟩ := open_fate t5 (by omega)
  simp at v0 v1 v2 v3 v4 v5
  obtain ⟨v5, v6⟩ := v5
  subst v0 v1 v2 v3 v4 v5 v6
  exact ⟨⟨⟨k, nm, dst, n, b, dirs, cuts⟩, A, n4, c, Ad, nd, cd, Au, nu, cu⟩, rfl, r4, hfa.dirs, hfa.cuts, z4, hfa.nilD, hfa.nilC, l4, hfa.nd_le, hfa.nu_le, l0, l3, hfa.cut⟩
set_option maxRecDepth 100000 in
theorem open_acts {fuel : Nat} {cs : List Value} {x : DataW H × List MemPlace} (h : DataW.trod enc Try.prog W 0 (fun _ => true) true fuel 25 cs = some x) (hb : Rows.uptoBulk x.1 ≤ 1048576) :
    ∃ A n c l, cs = [.slice A n c] ∧ Acts W W.heap.size A n l := by
  obtain ⟨A, n, c, l, hcs, hl, _, _, hz, hbk, h0, hi⟩ := open_row (α := Av) (R := fun u cs y => Rows.uptoBulk y ≤ 1048576 → cs = u.cells ∧ u.In W W.heap.size) Try.underlying25 (by kernel_rfl : _ = 7) (by omega) (fun fuel cs y p hy => by
    by_cases hq : Rows.uptoBulk y ≤ 1048576
    · obtain ⟨f, hf⟩ := open_act hy hq
      exact ⟨f, fun _ => hf⟩
    · exact ⟨default, fun h => absurd h hq⟩) h
  have hi2 : ∀ i u, l[i]? = some u → ∃ cs' y, (cs' = u.cells ∧ u.In W W.heap.size) ∧ cs'.length = 7 ∧ Rows.uptoBulk (y : DataW H) + 1 ≤ Rows.uptoBulk x.1 ∧ ∀ b o, A = some ⟨b, o, none⟩ → W.rangeAt b (o + i * 7) cs' := by
    intro i u hu
    obtain ⟨cs', y, h1, h2, h3, h4⟩ := hi i u hu
    exact ⟨cs', y, h1 (by omega), h2, h3, h4⟩
  exact ⟨A, n, c, l, hcs, row_of (cells := Av.cells) (R := fun u cs' _ => cs' = u.cells ∧ u.In W W.heap.size) hl h0 hi2 (fun _ _ _ e => e.1), row_all (R := fun u cs' _ => cs' = u.cells ∧ u.In W W.heap.size) hi2 (fun _ _ _ e _ => e.2), by omega⟩
set_option maxRecDepth 100000 in
/-- A beginning that came in. -/
theorem open_start {fuel : Nat} {cs : List Value} {x : DataW H × List MemPlace} (h : DataW.trod enc Try.prog W 0 (fun _ => true) true fuel 24 cs = some x) (hb : Rows.uptoBulk x.1 ≤ 1048576) :
    ∃ how room A n c l, cs = [.int .i64 how, .int .i64 room, .slice A n c] ∧ Files W W.heap.size A n l ∧ (-9223372036854775808 ≤ how ∧ how ≤ 9223372036854775807) ∧ -9223372036854775808 ≤ room ∧ room ≤ 9223372036854775807 := by
  obtain ⟨xs, n, _, hx, hlen, hxl, hf⟩ := DataW.trod_struct Try.underlying24 h
  rw [show Try.prog.cellsOf 24 = 3 by kernel_rfl] at hlen
  obtain ⟨c0, c1, c2, rfl⟩ : ∃ a b c, cs = [a, b, c] := by
    match cs, hlen with
    | [a, b, c], _ => exact ⟨a, b, c, rfl⟩
  rw [hx] at hb
  dsimp only at hb
  obtain ⟨y0, e0, t0⟩ := field hxl hf (i := 0) rfl (t := 3) (k := 1) (o := 0) rfl rfl (by kernel_rfl)
  obtain ⟨y1, e1, t1⟩ := field hxl hf (i := 1) rfl (t := 3) (k := 1) (o := 1) rfl rfl (by kernel_rfl)
  obtain ⟨y2, e2, t2⟩ := field hxl hf (i := 2) rfl (t := 22) (k := 1) (o := 2) rfl rfl (by kernel_rfl)
  have b2 := part_bulk e2
  obtain ⟨how, v0, l0⟩ := open_num Try.underlying3 t0
  obtain ⟨room, v1, l1⟩ := open_num Try.underlying3 t1
  obtain ⟨A, n, c, l, v2, hl⟩ := open_files t2 (by omega)
  simp at v0 v1 v2
  subst v0 v1 v2
  exact ⟨how, room, A, n, c, l, rfl, hl, l0, l1⟩
end
end Go.Proofs.Ytelgcmcnebncmaa.Dr
