/- A Change as it comes in; 'content'; two drives beside one another. -/
import Derived.Test.YtelgcmcnebncmaaPBetween
import Derived.Test.YtelgcmcnebncmaaL9
import Derived.Test.YtelgcmcnebncmaaL8
namespace Go.Proofs.Ytelgcmcnebncmaa.Dr
set_option linter.unusedVariables false
open Go.RowKit Go.Proofs Go.Deep Go.Proofs.Ytelgcmcnebncmaa.Ring

abbrev tChange := 76
/-- A Change as it came in. -/
structure Cv where
  how : Int
  room : Int
  Af : Option Addr
  nf : Nat
  cf : Nat
  fl : List Fl
  Aa : Option Addr
  na : Nat
  ca : Nat
  la : List Av
  temp : Bs
  name : Bs
  Ax : Option Addr
  nx : Nat
  cx : Nat
  data : Bs
  done : Int
  dirs : List Bool
  cuts : List Int
  Ad : Option Addr
  nd : Nat
  cd : Nat
  Au : Option Addr
  nu : Nat
  cu : Nat
def Cv.cells (k : Cv) : List Value := [.int .i64 k.how, .int .i64 k.room, .slice k.Af k.nf k.cf, .slice k.Aa k.na k.ca, encStr k.temp, encStr k.name, .slice k.Ax k.nx k.cx, .int .i64 k.done, .slice k.Ad k.nd k.cd, .slice k.Au k.nu k.cu]
structure Cv.In (w : World) (B : Nat) (k : Cv) : Prop where
  files : Files w B k.Af k.nf k.fl
  acts : Acts w B k.Aa k.na k.la
  temp : k.temp.length ≤ 1048576
  name : k.name.length ≤ 1048576
  data : Rd w B 1 k.Ax k.nx (cU8 k.data)
  nil : k.Ax = none → k.cx = 0
  n_le : k.nx ≤ 1048576
  done : -9223372036854775808 ≤ k.done ∧ k.done ≤ 9223372036854775807
  fate : FateIn w B k.dirs k.cuts k.Ad k.nd k.cd k.Au k.nu k.cu
theorem Cv.In.below {w w' : World} {B : Nat} {k : Cv} (h : k.In w B) (hb : Below B w w') : k.In w' B :=
  ⟨h.files.below hb, h.acts.below hb, h.temp, h.name, h.data.below hb, h.nil, h.n_le, h.done, h.fate.below hb⟩
section
variable {H : Type} {enc : TypeId × Value → H} {W : World}
set_option maxRecDepth 100000 in
theorem open_change {fuel : Nat} {cs : List Value} {x : DataW H × List MemPlace} (h : DataW.trod enc Try.prog W 0 (fun _ => true) true fuel 76 cs = some x) (hb : Rows.uptoBulk x.1 ≤ 1048576) :
    ∃ k : Cv, cs = k.cells ∧ k.In W W.heap.size := by
  obtain ⟨xs, n, _, hx, hlen, hxl, hf⟩ := DataW.trod_struct Try.underlying76 h
  rw [show Try.prog.cellsOf 76 = 10 by kernel_rfl] at hlen
  obtain ⟨c0, c1, c2, c3, c4, c5, c6, c7, c8, c9, rfl⟩ : ∃ a b c d e f g h i j, cs = [a, b, c, d, e, f, g, h, i, j] := by
    match cs, hlen with
    | [a, b, c, d, e, f, g, h, i, j], _ => exact ⟨a, b, c, d, e, f, g, h, i, j, rfl⟩
  rw [hx] at hb
  dsimp only at hb
  obtain ⟨y0, e0, t0⟩ := field hxl hf (i := 0) rfl (t := 24) (k := 3) (o := 0) rfl rfl (by kernel_rfl)
  obtain ⟨y1, e1, t1⟩ := field hxl hf (i := 1) rfl (t := 25) (k := 1) (o := 3) rfl rfl (by kernel_rfl)
  obtain ⟨y2, e2, t2⟩ := field hxl hf (i := 2) rfl (t := 9) (k := 1) (o := 4) rfl rfl (by kernel_rfl)
  obtain ⟨y3, e3, t3⟩ := field hxl hf (i := 3) rfl (t := 9) (k := 1) (o := 5) rfl rfl (by kernel_rfl)
  obtain ⟨y4, e4, t4⟩ := field hxl hf (i := 4) rfl (t := 35) (k := 1) (o := 6) rfl rfl (by kernel_rfl)
  obtain ⟨y5, e5, t5⟩ := field hxl hf (i := 5) rfl (t := 3) (k := 1) (o := 7) rfl rfl (by kernel_rfl)
  obtain ⟨y6, e6, t6⟩ := field hxl hf (i := 6) rfl (t := 29) (k := 2) (o := 8) rfl rfl (by kernel_rfl)
  have b0 := part_bulk e0
  have b1 := part_bulk e1
  have b2 := part_bulk e2
  have b3 := part_bulk e3
  have b4 := part_bulk e4
  have b6 := part_bulk e6
  obtain ⟨how, room, Af, nf, cf, fl, v0, hfl, _, _⟩ := open_start t0 (by omega)
  obtain ⟨Aa, na, ca, la, v1, hla⟩ := open_acts t1 (by omega)
  obtain ⟨tm, v2, l2⟩ := open_text Try.underlying9 t2 (by omega)
  obtain ⟨nm, v3, l3⟩ := open_text Try.underlying9 t3 (by omega)
  obtain ⟨A, n3, c, b, v4, r4, z4, l4⟩ := open_bytes Try.underlying35 t4 (by omega)
  obtain ⟨dn, v5, hd1, hd2⟩ := open_num Try.underlying3 t5
  obtain ⟨dirs, cuts, Ad, nd, cd, Au, nu, cu, v6, hfa⟩ := open_fate t6 (by omega)
  simp at v0 v1 v2 v3 v4 v5 v6
  obtain ⟨v0, v7, v8⟩ := v0
  obtain ⟨v6, v9⟩ := v6
  subst v0 v1 v2 v3 v4 v5 v6 v7 v8 v9
  exact ⟨⟨how, room, Af, nf, cf, fl, Aa, na, ca, la, tm, nm, A, n3, c, b, dn, dirs, cuts, Ad, nd, cd, Au, nu, cu⟩, rfl, hfl, hla, l2, l3, r4, z4, l4, ⟨hd1, hd2⟩, hfa⟩
end
theorem change_box {w : World} {V : Nat} {k : Cv} (h : w.heap[V]? = some (.cells k.cells.toArray tChange (0, 0))) : w.rangeAt V 0 k.cells := by
  intro j v hv
  rw [Nat.zero_add, cell_of_row w V _ _ _ _ h]
  simpa using hv
/-- What a boxed Change reads as. -/
structure CCells (w : World) (V : Nat) (k : Cv) : Prop where
  start : w.rangeAt V 0 [.int .i64 k.how, .int .i64 k.room, .slice k.Af k.nf k.cf]
  files : w.cell? ⟨V, 2, none⟩ = some (.slice k.Af k.nf k.cf)
  acts : w.cell? ⟨V, 3, none⟩ = some (.slice k.Aa k.na k.ca)
  temp : w.cell? ⟨V, 4, none⟩ = some (encStr k.temp)
  name : w.cell? ⟨V, 5, none⟩ = some (encStr k.name)
  data : w.cell? ⟨V, 6, none⟩ = some (.slice k.Ax k.nx k.cx)
  done : w.cell? ⟨V, 7, none⟩ = some (.int .i64 k.done)
  dirs : w.cell? ⟨V, 8, none⟩ = some (.slice k.Ad k.nd k.cd)
  fate : w.rangeAt V 8 [.slice k.Ad k.nd k.cd, .slice k.Au k.nu k.cu]
theorem change_cells {w : World} {V : Nat} {k : Cv} (h : w.rangeAt V 0 k.cells) : CCells w V k := by
  refine ⟨?_, h 2 _ rfl, h 3 _ rfl, h 4 _ rfl, h 5 _ rfl, h 6 _ rfl, h 7 _ rfl, h 8 _ rfl, ?_⟩
  · intro j v hv
    match j, hv with
    | 0, hv => cases hv; exact h 0 _ rfl
    | 1, hv => cases hv; exact h 1 _ rfl
    | 2, hv => cases hv; exact h 2 _ rfl
    | j + 3, hv => cases hv
  · intro j v hv
    match j, hv with
    | 0, hv => cases hv; exact h 8 _ rfl
    | 1, hv => cases hv; exact h 9 _ rfl
    | j + 2, hv => cases hv
/-- The content of a name, as 'content' tells it. -/
def told? : Option Bs → Bs × Bool
  | some x => (x, true)
  | none => ([], false)
set_option maxRecDepth 100000 in
set_option maxHeartbeats 4000000 in
theorem content_any {w : World} {A : Option Addr} {n c : Nat} {fs : List (Bs × Bs)} (h : FilesRd w A n fs) (hn : n ≤ 17592186044416) (M : Bs) :
    Calls Try.prog 40 #[.slice A n c, encStr M] w fun x w' => x = .returned (.tuple #[encStr (told? (find fs M)).1, .bool (told? (find fs M)).2]) ∧ w = w' := by
  have H := Lib.hid h
  clear h
  obtain ⟨r, hr⟩ : ∃ r, find fs M = r := ⟨_, rfl⟩
  rw [hr]
  have HR := Lib.hid hr
  clear hr
  obtain ⟨Y, hY⟩ : ∃ Y : ByteArray, (⟨M.toArray⟩ : ByteArray) = Y := ⟨_, rfl⟩
  have HY := Lib.hid hY
  rw [show encStr M = .string Y by rw [← hY]]
  clear hY
  go_enter Try.func40, Try.ntmps40
  go_upto_region 2 with (fail)
  go_loopw [6] (fun iv wr => ∃ i : Nat, iv = .int .i64 (i : Int) ∧ i ≤ n ∧ w = wr ∧ find (fs.drop i) M = r) (fun iv _ => n - (intOf iv).toNat)
  case atStart => exact ⟨0, rfl, by omega, rfl, by rw [List.drop_zero]; exact HR.out⟩
  case round =>
    obtain ⟨i, rfl, hi, rfl, hrest⟩ := hrel
    by_cases hlt : i < n
    · obtain ⟨f, hf⟩ : ∃ f, fs[i]? = some f := ⟨_, List.getElem?_eq_getElem (by have := H.out.1; omega)⟩
      obtain ⟨g, Af, cf, rfl, hg, a0, a1, ar⟩ := H.out.2 i f hf
      have hlt2 : (i : Int) < (n : Int) := by omega
      have hdr : fs.drop i = f :: fs.drop (i + 1) := by
        obtain ⟨hil, he⟩ := List.getElem?_eq_some_iff.1 hf
        rw [List.drop_eq_getElem_cons hil, he]
      rw [hdr, find_head] at hrest
      obtain ⟨X, hX⟩ : ∃ X : ByteArray, (⟨f.1.toArray⟩ : ByteArray) = X := ⟨_, rfl⟩
      rw [hX] at a0
      by_cases heq : f.1 = M
      · have hXY : X = Y := by rw [← hX, heq, HY.out]
        subst hXY
        rw [if_pos heq] at hrest
        have t1 := run_text (P := Try.prog) w 35 9 5 Try.underlying35 Try.underlying5 Try.underlying9 cf ar
        have HREST := Lib.hid hrest
        obtain ⟨Z, hZ⟩ : ∃ Z : ByteArray, (⟨f.2.toArray⟩ : ByteArray) = Z := ⟨_, rfl⟩
        rw [hZ] at t1
        have HZ := Lib.hid hZ
        clear hrest hdr hf ar hX hZ
        go_wp2
        go_ret2
        rw [← HREST.out, ← HZ.out]
        exact ⟨rfl, rfl⟩
      · have hXY : X ≠ Y := fun e => heq (by
          have h1 : (⟨f.1.toArray⟩ : ByteArray) = ⟨M.toArray⟩ := by rw [hX, e, HY.out]
          injection h1 with h1
          simpa using congrArg Array.toList h1)
        have hbe : (X.toList == Y.toList) = false := by
          rw [ByteArray.toList_eq, ByteArray.toList_eq]
          exact beq_false_of_ne fun e => hXY (by
            cases X
            cases Y
            rw [ByteArray.mk.injEq]
            exact Array.ext' e)
        rw [if_neg heq] at hrest
        have HREST := Lib.hid hrest
        clear hrest hdr hf ar hX heq
        go_wp2
        go_roundw
        case rel => exact ⟨i + 1, by go_num, by omega, by trivial, HREST.out⟩
        case measure => simp [intOf]; omega
    · obtain rfl : n = i := by omega
      rw [List.drop_of_length_le (by have := H.out.1; omega)] at hrest
      obtain rfl : none = r := hrest
      go_wp2
      go_ret2
      exact ⟨rfl, rfl⟩
/-- Two drives that were made since w0. -/
structure Duo (w0 w : World) (d e : Nat) (D E : Dr.D) (m N m' N' : Nat) : Prop where
  drives : ∃ S T, Dv w S d D m N ∧ Dv w T e E m' N' ∧ (∀ k, S k → w0.heap.size ≤ k ∧ ¬ T k) ∧ (∀ k, T k → w0.heap.size ≤ k ∧ ¬ S k)
  back : Below w0.heap.size w0 w
section
variable {w0 w1 w w' : World} {d e m N m' N' m1 N1 : Nat} {D E D1 : Dr.D}
theorem duo_of (h1 : Own w0 w1 d D m N) (h2 : Own w1 w e E m' N') : Duo w0 w d e D E m N m' N' := by
  obtain ⟨S, a1, a2, a3⟩ := h1
  obtain ⟨T, b1, b2, b3⟩ := h2
  exact ⟨⟨S, T, a1.below b2, b1, fun k hk => ⟨a3 k hk, fun hT => by have := a1.low k hk; have := b3 k hT; omega⟩, fun k hT => ⟨Nat.le_trans a2.size (b3 k hT), fun hk => by have := a1.low k hk; have := b3 k hT; omega⟩⟩, a2.trans (b2.mono a2.size)⟩
theorem Duo.swap (h : Duo w0 w d e D E m N m' N') : Duo w0 w e d E D m' N' m N := by
  obtain ⟨S, T, h1, h2, h3, h4⟩ := h.drives
  exact ⟨⟨T, S, h2, h1, h4, h3⟩, h.back⟩
theorem Duo.own (h : Duo w0 w d e D E m N m' N') : Own w0 w d D m N := by
  obtain ⟨S, T, h1, h2, h3, h4⟩ := h.drives
  exact ⟨S, h1, h.back, fun k hk => (h3 k hk).1⟩
theorem Duo.below (h : Duo w0 w d e D E m N m' N') (hb : Below w.heap.size w w') : Duo w0 w' d e D E m N m' N' := by
  obtain ⟨S, T, h1, h2, h3, h4⟩ := h.drives
  exact ⟨⟨S, T, h1.below hb, h2.below hb, h3, h4⟩, h.back.trans (hb.mono h.back.size)⟩
theorem Duo.mono {m2 N2 : Nat} (h : Duo w0 w d e D E m N m' N') (hm : m ≤ m2) (hN : N ≤ N2) : Duo w0 w d e D E m2 N2 m' N' := by
  obtain ⟨S, T, h1, h2, h3, h4⟩ := h.drives
  exact ⟨⟨S, T, h1.mono hm hN, h2, h3, h4⟩, h.back⟩
/-- A call that turns the first drive leaves the second as it is. -/
theorem Duo.call {f : FuncId} {args : Array Value} {R : Ending → World → Prop} (h : Duo w0 w d e D E m N m' N')
    (hc : ∀ S, Dv w S d D m N → (∀ k, S k → w0.heap.size ≤ k) → Calls Try.prog f args w fun x w' => R x w' ∧ Turn w w' S d D1 m1 N1) :
    Calls Try.prog f args w fun x w' => R x w' ∧ Duo w0 w' d e D1 E m1 N1 m' N' := by
  obtain ⟨S, T, h1, h2, h3, h4⟩ := h.drives
  have hs := h.back.size
  refine (hc S h1 fun k hk => (h3 k hk).1).mono ?_
  rintro x w' ⟨hr, S1, a1, a2, a3⟩
  refine ⟨hr, ⟨S1, T, a1, h2.kept a2 fun k hT hS => (h3 k hS).2 hT, fun k hk => ?_, fun k hT => ⟨(h4 k hT).1, fun hk => ?_⟩⟩, h.back.trans (a2.to_below hs fun k hk => (h3 k hk).1)⟩
  · rcases a3 k hk with hS | hge
    · exact h3 k hS
    · exact ⟨by omega, fun hT => by have := h2.low k hT; omega⟩
  · rcases a3 k hk with hS | hge
    · exact (h3 k hS).2 hT
    · have := h2.low k hT; omega
theorem Duo.played (h : Duo w0 w d e D E m N m' N') {B : Nat} (hB : B ≤ w0.heap.size) {A : Option Addr} {n c : Nat} {l : List Av} (ha : Acts w B A n l) (hm : m ≤ 35184372088832) (hN : N ≤ 17592186044) :
    Calls Try.prog 27 #[.pointer (some ⟨d, 0, none⟩), .slice A n c] w fun x w' => x = .returned (.tuple #[]) ∧ Duo w0 w' d e (plays D (l.map (·.a))) E (m + 1099511627776) (N + 1048576) m' N' := by
  have hs := h.back.size
  exact h.call (R := fun x _ => x = .returned (.tuple #[])) fun S hD hS => played_any hD (Nat.le_trans hB hs) (fun k hk => Nat.le_trans hB (hS k hk)) ha hm hN
end
/-- Two drives that were made since w0, and a block beside them. -/
structure Trio (w0 w : World) (d e : Nat) (D E : Dr.D) (m N m' N' b : Nat) (o : Obj) : Prop where
  drives : ∃ S T, Dv w S d D m N ∧ Dv w T e E m' N' ∧ (∀ k, S k → w0.heap.size ≤ k ∧ ¬ T k ∧ k ≠ b) ∧ (∀ k, T k → w0.heap.size ≤ k ∧ ¬ S k ∧ k ≠ b)
  back : Below w0.heap.size w0 w
  block : w.heap[b]? = some o
section
variable {w0 w1 w w' : World} {d e m N m' N' m1 N1 b : Nat} {D E D1 : Dr.D} {o : Obj}
theorem Duo.trio (h : Duo w0 w d e D E m N m' N') (o : Obj) : Trio w0 (w.alloc o) d e D E m N m' N' w.heap.size o := by
  have hb := (Below.refl w.heap.size w).alloc (Nat.le_refl _) o
  obtain ⟨S, T, h1, h2, h3, h4⟩ := h.drives
  exact ⟨⟨S, T, h1.below hb, h2.below hb, fun k hk => ⟨(h3 k hk).1, (h3 k hk).2, by have := h1.low k hk; omega⟩, fun k hk => ⟨(h4 k hk).1, (h4 k hk).2, by have := h2.low k hk; omega⟩⟩, h.back.trans (hb.mono h.back.size), heap_alloc_new _ _⟩
theorem Trio.fresh (h : Trio w0 w d e D E m N m' N' b o) (o' : Obj) : Trio w0 (w.alloc o') d e D E m N m' N' w.heap.size o' := by
  have hb := (Below.refl w.heap.size w).alloc (Nat.le_refl _) o'
  obtain ⟨S, T, h1, h2, h3, h4⟩ := h.drives
  exact ⟨⟨S, T, h1.below hb, h2.below hb, fun k hk => ⟨(h3 k hk).1, (h3 k hk).2.1, by have := h1.low k hk; omega⟩, fun k hk => ⟨(h4 k hk).1, (h4 k hk).2.1, by have := h2.low k hk; omega⟩⟩, h.back.trans (hb.mono h.back.size), heap_alloc_new _ _⟩
theorem Trio.swap (h : Trio w0 w d e D E m N m' N' b o) : Trio w0 w e d E D m' N' m N b o := by
  obtain ⟨S, T, h1, h2, h3, h4⟩ := h.drives
  exact ⟨⟨T, S, h2, h1, h4, h3⟩, h.back, h.block⟩
theorem Trio.own (h : Trio w0 w d e D E m N m' N' b o) : Own w0 w d D m N := by
  obtain ⟨S, T, h1, h2, h3, h4⟩ := h.drives
  exact ⟨S, h1, h.back, fun k hk => (h3 k hk).1⟩
theorem Trio.below (h : Trio w0 w d e D E m N m' N' b o) (hb : Below w.heap.size w w') : Trio w0 w' d e D E m N m' N' b o := by
  obtain ⟨S, T, h1, h2, h3, h4⟩ := h.drives
  exact ⟨⟨S, T, h1.below hb, h2.below hb, h3, h4⟩, h.back.trans (hb.mono h.back.size), (hb.block b (Array.getElem?_eq_some_iff.1 h.block).1).trans h.block⟩
theorem Trio.mono {m2 N2 : Nat} (h : Trio w0 w d e D E m N m' N' b o) (hm : m ≤ m2) (hN : N ≤ N2) : Trio w0 w d e D E m2 N2 m' N' b o := by
  obtain ⟨S, T, h1, h2, h3, h4⟩ := h.drives
  exact ⟨⟨S, T, h1.mono hm hN, h2, h3, h4⟩, h.back, h.block⟩
theorem Trio.call {f : FuncId} {args : Array Value} {R : Ending → World → Prop} (h : Trio w0 w d e D E m N m' N' b o)
    (hc : ∀ S, Dv w S d D m N → (∀ k, S k → w0.heap.size ≤ k) → Calls Try.prog f args w fun x w' => R x w' ∧ Turn w w' S d D1 m1 N1) :
    Calls Try.prog f args w fun x w' => R x w' ∧ Trio w0 w' d e D1 E m1 N1 m' N' b o := by
  obtain ⟨S, T, h1, h2, h3, h4⟩ := h.drives
  have hs := h.back.size
  have hbl := (Array.getElem?_eq_some_iff.1 h.block).1
  refine (hc S h1 fun k hk => (h3 k hk).1).mono ?_
  rintro x w' ⟨hr, S1, a1, a2, a3⟩
  refine ⟨hr, ⟨S1, T, a1, h2.kept a2 fun k hT hS => (h3 k hS).2.1 hT, fun k hk => ?_, fun k hT => ⟨(h4 k hT).1, fun hk => ?_, (h4 k hT).2.2⟩⟩, h.back.trans (a2.to_below hs fun k hk => (h3 k hk).1), (a2.block b hbl fun hS => (h3 b hS).2.2 rfl).trans h.block⟩
  · rcases a3 k hk with hS | hge
    · exact h3 k hS
    · exact ⟨by omega, fun hT => by have := h2.low k hT; omega, by omega⟩
  · rcases a3 k hk with hS | hge
    · exact (h3 k hS).2.1 hT
    · have := h2.low k hT; omega
theorem Trio.act (h : Trio w0 w d e D E m N m' N' b o) {B : Nat} (hB : B ≤ w0.heap.size) {x : Av} (hx : x.In w B) (hm : m ≤ 70368744177664) (hN : (N + 1) * 40 ≤ 70368744177664) :
    Calls Try.prog 14 #[.pointer (some ⟨d, 0, none⟩), actV x.a x.A x.n x.c x.Ad x.nd x.cd x.Au x.nu x.cu] w fun y w' => (∃ n xd ld yd xn ln yn xf lf yf,
      y = .returned (.tuple #[.agg #[.int .i64 (D.step x.a).2.code, .int .i64 n, .slice xd ld yd, .slice xn ln yn, .slice xf lf yf], .bool true])) ∧ Trio w0 w' d e (D.step x.a).1 E (m + 1048576) (N + 1) m' N' b o := by
  have hs := h.back.size
  refine h.call (R := fun y _ => ∃ n xd ld yd xn ln yn xf lf yf, y = .returned (.tuple #[.agg #[.int .i64 (D.step x.a).2.code, .int .i64 n, .slice xd ld yd, .slice xn ln yn, .slice xf lf yf], .bool true])) fun S h1 h3 => ?_
  refine (do_any h1 (Nat.le_trans hB hs) (fun k hk => Nat.le_trans hB (h3 k hk)) hx hm hN).mono ?_
  rintro y w' ⟨vd, vn, vf, dv, rfl, han, ht⟩
  obtain ⟨xd, yd, rfl, _, _⟩ := own_form han.data
  obtain ⟨xn, yn, rfl, _, _⟩ := own_form han.names
  obtain ⟨xf, yf, rfl, _, _⟩ := own_form han.files.row
  exact ⟨⟨_, xd, _, yd, xn, _, yn, xf, _, yf, rfl⟩, ht.mono (by have := hx.n_le; omega) (Nat.le_refl _)⟩
theorem Trio.crash (h : Trio w0 w d e D E m N m' N' b o) (hm : m ≤ 140737488355328) (hN : N * 24 ≤ 140737488355328) {Ad Ac : Option Addr} {nd cd nc cc : Nat} {dirs : List Bool} {cuts : List Int} (hf : FateIn w w0.heap.size dirs cuts Ad nd cd Ac nc cc) {r : Dr.D} (hr : D.crash dirs cuts = r) :
    Calls Try.prog 16 #[.pointer (some ⟨d, 0, none⟩), .agg #[.slice Ad nd cd, .slice Ac nc cc]] w fun x w' => x = .returned (.int .i64 0) ∧ Trio w0 w' d e r E m N m' N' b o := by
  subst hr
  have hs := h.back.size
  refine h.call (R := fun x _ => x = .returned (.int .i64 0)) fun S hD hS => crash_any hD hm hN (hf.dirs.more hs) (hf.cuts.more hs) hf.cut ?_ ?_
  · intro ad h0 e hk
    obtain ⟨ad', e', hb, _⟩ := hf.dirs.2 h0
    rw [e] at e'
    injection e' with e'
    have := hS _ hk
    rw [← e'] at hb
    omega
  · intro ad h0 e hk
    obtain ⟨ad', e', hb, _⟩ := hf.cuts.2 h0
    rw [e] at e'
    injection e' with e'
    have := hS _ hk
    rw [← e'] at hb
    omega
end
theorem rd_take {w : World} {B n m : Nat} {A : Option Addr} {xs : List Value} (h : Rd w B 1 A n xs) (hm : m ≤ n) : Rd w B 1 A m (xs.take m) := by
  refine ⟨by rw [List.length_take, h.1]; omega, fun h0 => ?_⟩
  obtain ⟨ad, e, hb, hc⟩ := h.2 (by omega)
  refine ⟨ad, e, hb, fun j u hu => hc j u ?_⟩
  rw [List.getElem?_take] at hu
  split at hu
  · exact hu
  · cases hu
theorem own_crash2 {w0 w wh : World} {d m N : Nat} {D r : Dr.D} (h : Own w0 w d D m N) (hb : Below w.heap.size w wh) (hm : m ≤ 140737488355328) (hN : N * 24 ≤ 140737488355328) {Ad Ac : Option Addr} {nd cd nc cc : Nat} {dirs : List Bool} {cuts : List Int}
    (hd : Rd wh w0.heap.size 1 Ad nd (cBool dirs)) (hc : wh.ownsRow w.heap.size tInt 1 (.slice Ac nc cc) nc (cInt cuts)) (hcb : ∀ x ∈ cuts, -9223372036854775808 ≤ x ∧ x ≤ 9223372036854775807) (hr : D.crash dirs cuts = r) :
    Calls Try.prog 16 #[.pointer (some ⟨d, 0, none⟩), .agg #[.slice Ad nd cd, .slice Ac nc cc]] wh fun x w' => x = .returned (.int .i64 0) ∧ Own w0 w' d r m N := by
  subst hr
  obtain ⟨S, h1, h2, h3⟩ := h
  have h2' := h2.trans (hb.mono h2.size)
  refine (crash_any (h1.below hb) hm hN (hd.more h2'.size) (Rd.of_own (c := cc) hc) hcb (fun ad h0 e hk => ?_) (fun ad h0 e hk => ?_)).mono ?_
  · obtain ⟨ad', e', hb', _⟩ := hd.2 h0
    rw [e] at e'
    injection e' with e'
    have := h3 _ hk
    rw [← e'] at hb'
    omega
  · have := own_ge hc (g := ad.block) (by rw [e]; rfl)
    have := h1.low _ hk
    omega
  · rintro x w' ⟨hx, S1, a1, a2, a3⟩
    refine ⟨hx, S1, a1, h2'.trans (a2.to_below h2'.size fun k hk => h3 k hk), fun k hk => ?_⟩
    rcases a3 k hk with h | h
    · exact h3 k h
    · exact Nat.le_trans h2'.size h
theorem bulkA_take (l : List Ac) (i : Nat) (a : Ac) (h : l[i]? = some a) : bulkA (l.take (i + 1)) = bulkA (l.take i) + a.data.length := by
  unfold bulkA
  rw [List.take_add_one, h]
  simp
theorem cInt_replicate (n : Nat) (k : Int) : cInt (List.replicate n k) ++ [.int .i64 k] = cInt (List.replicate (n + 1) k) := by
  unfold cInt
  rw [List.replicate_succ', List.map_append]
  rfl
/-- The five calls, as they are handed in. -/
def stepAvs (T M x : Bs) (A : Option Addr) (n c : Nat) : List Av := [⟨sAc 0 T [] [], none, 0, 0, none, 0, 0, none, 0, 0⟩, ⟨sAc 1 T [] x, A, n, c, none, 0, 0, none, 0, 0⟩, ⟨sAc 2 T [] [], none, 0, 0, none, 0, 0, none, 0, 0⟩, ⟨sAc 3 T M [], none, 0, 0, none, 0, 0, none, 0, 0⟩, ⟨sAc 5 [] [] [], none, 0, 0, none, 0, 0, none, 0, 0⟩]
def stepCells (T M : Bs) (A : Option Addr) (n c : Nat) : Array Value := #[.int .i64 0, encStr T, .string ⟨#[]⟩, .int .i64 0, .slice none 0 0, .slice none 0 0, .slice none 0 0,
  .int .i64 1, encStr T, .string ⟨#[]⟩, .int .i64 0, .slice A n c, .slice none 0 0, .slice none 0 0,
  .int .i64 2, encStr T, .string ⟨#[]⟩, .int .i64 0, .slice none 0 0, .slice none 0 0, .slice none 0 0,
  .int .i64 3, encStr T, encStr M, .int .i64 0, .slice none 0 0, .slice none 0 0, .slice none 0 0,
  .int .i64 5, .string ⟨#[]⟩, .string ⟨#[]⟩, .int .i64 0, .slice none 0 0, .slice none 0 0, .slice none 0 0]
theorem steps_at {T M x : Bs} {A : Option Addr} {n c i : Nat} (h : i < 5) : ∃ y, (stepAvs T M x A n c)[i]? = some y ∧ (stepsOf T M x)[i]? = some y.a ∧ ∀ j v, y.cells[j]? = some v → (stepCells T M A n c)[i * 7 + j]? = some v := by
  have key : ∀ (y : Av) (k : Nat), (∀ j, j < 7 → y.cells[j]? = (stepCells T M A n c)[k + j]?) → ∀ j v, y.cells[j]? = some v → (stepCells T M A n c)[k + j]? = some v := by
    intro y k h j v hv
    have hj : j < 7 := by have := (List.getElem?_eq_some_iff.1 hv).1; simpa [Av.cells] using this
    rw [← h j hj]
    exact hv
  match i, h with
  | 0, _ => exact ⟨_, rfl, rfl, key _ 0 fun j hj => by match j, hj with | 0, _ => rfl | 1, _ => rfl | 2, _ => rfl | 3, _ => rfl | 4, _ => rfl | 5, _ => rfl | 6, _ => rfl⟩
  | 1, _ => exact ⟨_, rfl, rfl, key _ 7 fun j hj => by match j, hj with | 0, _ => rfl | 1, _ => rfl | 2, _ => rfl | 3, _ => rfl | 4, _ => rfl | 5, _ => rfl | 6, _ => rfl⟩
  | 2, _ => exact ⟨_, rfl, rfl, key _ 14 fun j hj => by match j, hj with | 0, _ => rfl | 1, _ => rfl | 2, _ => rfl | 3, _ => rfl | 4, _ => rfl | 5, _ => rfl | 6, _ => rfl⟩
  | 3, _ => exact ⟨_, rfl, rfl, key _ 21 fun j hj => by match j, hj with | 0, _ => rfl | 1, _ => rfl | 2, _ => rfl | 3, _ => rfl | 4, _ => rfl | 5, _ => rfl | 6, _ => rfl⟩
  | 4, _ => exact ⟨_, rfl, rfl, key _ 28 fun j hj => by match j, hj with | 0, _ => rfl | 1, _ => rfl | 2, _ => rfl | 3, _ => rfl | 4, _ => rfl | 5, _ => rfl | 6, _ => rfl⟩
theorem num_in0 : (-9223372036854775808 : Int) ≤ 0 ∧ (0 : Int) ≤ 9223372036854775807 := ⟨by decide, by decide⟩
theorem num_in1 : (-9223372036854775808 : Int) ≤ 1 ∧ (1 : Int) ≤ 9223372036854775807 := ⟨by decide, by decide⟩
theorem num_in2 : (-9223372036854775808 : Int) ≤ 2 ∧ (2 : Int) ≤ 9223372036854775807 := ⟨by decide, by decide⟩
theorem num_in3 : (-9223372036854775808 : Int) ≤ 3 ∧ (3 : Int) ≤ 9223372036854775807 := ⟨by decide, by decide⟩
theorem num_in5 : (-9223372036854775808 : Int) ≤ 5 ∧ (5 : Int) ≤ 9223372036854775807 := ⟨by decide, by decide⟩
theorem none_in {w : World} {B : Nat} {a : Ac} (hd : a.data = []) (hs : a.dirs = []) (hc : a.cuts = []) (hk : -9223372036854775808 ≤ a.kind ∧ a.kind ≤ 9223372036854775807) (hn : -9223372036854775808 ≤ a.n ∧ a.n ≤ 9223372036854775807) : ActIn w B a none 0 0 none 0 0 none 0 0 := by
  refine ⟨?_, ?_, ?_, fun _ => rfl, fun _ => rfl, fun _ => rfl, by omega, by omega, by omega, hk, hn, fun x hx => ?_⟩
  · rw [hd]; exact ⟨rfl, fun h => absurd h (by decide)⟩
  · rw [hs]; exact ⟨rfl, fun h => absurd h (by decide)⟩
  · rw [hc]; exact ⟨rfl, fun h => absurd h (by decide)⟩
  · rw [hc] at hx; cases hx
theorem steps_in {w : World} {B : Nat} {T M x : Bs} {A : Option Addr} {n c : Nat} (hd : Rd w B 1 A n (cU8 x)) (hz : A = none → c = 0) (hn : n ≤ 1048576) : ∀ y ∈ stepAvs T M x A n c, y.In w B := by
  intro y hy
  simp only [stepAvs, List.mem_cons, List.not_mem_nil, or_false] at hy
  rcases hy with rfl | rfl | rfl | rfl | rfl
  · exact none_in rfl rfl rfl num_in0 num_in0
  · exact ⟨hd, ⟨rfl, fun h => absurd h (Nat.lt_irrefl 0)⟩, ⟨rfl, fun h => absurd h (Nat.lt_irrefl 0)⟩, hz, fun _ => rfl, fun _ => rfl, hn, Nat.zero_le _, Nat.zero_le _, num_in1, num_in0, fun x hx => by cases hx⟩
  · exact none_in rfl rfl rfl num_in2 num_in0
  · exact none_in rfl rfl rfl num_in3 num_in0
  · exact none_in rfl rfl rfl num_in5 num_in0
theorem loadAt_loose : ∀ (fs : List (Bs × Bs)) {d d' : Dr.D}, d.Loose 0 → loadAt d fs = some d' → d'.Loose 0
  | [], _, _, h, e => by injection e with e; subst e; exact h
  | (n, x) :: r, d, d', h, e => by
    unfold loadAt at e
    split at e
    · cases e
    · refine loadAt_loose r (fun y hy => ?_) e
      rcases List.mem_append.1 hy with hy | hy
      · exact h y hy
      · obtain rfl := List.mem_singleton.1 hy; simp
theorem fresh_loose (room : Nat) : (Dr.D.fresh room).Loose 0 := fun y hy => by cases hy
theorem begun_small {how room : Int} {fs : List (Bs × Bs)} {D : Dr.D} (h : begun how room fs = some D) : D.Loose 0 ∧ ∃ m, D.Ok m fs.length := by
  unfold begun at h
  split at h
  · unfold Dr.D.new at h
    split at h
    · rename_i hr
      injection h with h; subst h
      exact ⟨fresh_loose _, 0, Dr.D.Ok.fresh (by unfold okRoom at hr; simp at hr; omega) _ _⟩
    · cases h
  · split at h
    · unfold Dr.D.load at h
      split at h
      · rename_i hr
        have h0 := loadAt_ok (m := 0) (N := 0) fs (Dr.D.Ok.fresh (by unfold okRoom at hr; simp at hr; omega) 0 0) rfl h
        rw [Nat.zero_add, Nat.zero_add] at h0
        exact ⟨loadAt_loose fs (fresh_loose _) h, _, h0⟩
      · cases h
    · injection h with h; subst h
      exact ⟨fresh_loose _, 0, Dr.D.Ok.fresh (by decide) _ _⟩
end Go.Proofs.Ytelgcmcnebncmaa.Dr
