/- More of a drive that was made since: played, do, Loose; a Keep as it comes in. -/
import Derived.Test.YtelgcmcnebncmaaL7
namespace Go.Proofs.Ytelgcmcnebncmaa.Dr
open Go.RowKit Go.Proofs Go.Proofs.Ytelgcmcnebncmaa.Ring

section
variable {w0 w w' : World} {d m N m1 N1 : Nat} {D D1 : Dr.D}
theorem Own.played (h : Own w0 w d D m N) {B : Nat} (hB : B ≤ w0.heap.size) {A : Option Addr} {n c : Nat} {l : List Av} (ha : Acts w B A n l) (hm : m ≤ 35184372088832) (hN : N ≤ 17592186044) :
    Calls Try.prog 27 #[.pointer (some ⟨d, 0, none⟩), .slice A n c] w fun x w' => x = .returned (.tuple #[]) ∧ Own w0 w' d (plays D (l.map (·.a))) (m + 1099511627776) (N + 1048576) := by
  have hs := h.back.size
  exact h.call fun S hD hS => played_any hD (Nat.le_trans hB hs) (fun k hk => Nat.le_trans hB (hS k hk)) ha hm hN
theorem Own.loose (h : Own w0 w d D m N) (hm : m ≤ 140737488355328) (n : Bs) {i : Nat} (hl : D.look n = .ok i) {q : Int} (hq : ((D.at i).data.length : Int) - (D.at i).safe = q) : Calls Try.prog 34 #[.pointer (some ⟨d, 0, none⟩), encStr n] w fun x w' => x = .returned (.tuple #[.int .i64 q, .int .i64 0]) ∧ Own w0 w' d D m N := by
  have h0 := h
  obtain ⟨S, h1, _⟩ := h
  refine (loose_any h1 hm n).mono ?_
  rintro x w' ⟨rfl, hb⟩
  refine ⟨?_, h0.below hb⟩
  unfold looseV
  rw [hl, ← hq]
/-- An act is done to a drive that was made since: what is answered lies in new memory. -/
theorem Own.act (h : Own w0 w d D m N) {B : Nat} (hB : B ≤ w0.heap.size) {x : Av} (hx : x.In w B) (hm : m ≤ 70368744177664) (hN : (N + 1) * 40 ≤ 70368744177664) :
    Calls Try.prog 14 #[.pointer (some ⟨d, 0, none⟩), actV x.a x.A x.n x.c x.Ad x.nd x.cd x.Au x.nu x.cu] w fun y w' => ∃ vd vn vf dv,
      y = .returned (.tuple #[.agg #[.int .i64 (D.step x.a).2.code, .int .i64 (D.step x.a).2.n, vd, vn, vf], .bool true]) ∧ AnAt w' w.heap.size vd vn vf dv (D.step x.a).2 ∧ Own w0 w' d (D.step x.a).1 (m + 1048576) (N + 1) := by
  have hs := h.back.size
  obtain ⟨S, h1, h2, h3⟩ := h
  refine (do_any h1 (Nat.le_trans hB hs) (fun k hk => Nat.le_trans hB (h3 k hk)) hx hm hN).mono ?_
  rintro y w' ⟨vd, vn, vf, dv, rfl, han, S1, a1, a2, a3⟩
  refine ⟨vd, vn, vf, dv, rfl, han, S1, a1.mono (by have := hx.n_le; omega) (Nat.le_refl _), h2.trans (a2.to_below h2.size fun k hk => h3 k hk), fun k hk => ?_⟩
  rcases a3 k hk with h | h
  · exact h3 k h
  · exact Nat.le_trans h2.size h
end
theorem FateIn.below {w w' : World} {B : Nat} {ds : List Bool} {us : List Int} {Ad Au : Option Addr} {nd cd nu cu : Nat} (h : FateIn w B ds us Ad nd cd Au nu cu) (hb : Below B w w') : FateIn w' B ds us Ad nd cd Au nu cu :=
  ⟨h.dirs.below hb, h.cuts.below hb, h.nilD, h.nilC, h.nd_le, h.nu_le, h.cut⟩
theorem FateIn.more {w : World} {B B' : Nat} {ds : List Bool} {us : List Int} {Ad Au : Option Addr} {nd cd nu cu : Nat} (h : FateIn w B ds us Ad nd cd Au nu cu) (hb : B ≤ B') : FateIn w B' ds us Ad nd cd Au nu cu :=
  ⟨h.dirs.more hb, h.cuts.more hb, h.nilD, h.nilC, h.nd_le, h.nu_le, h.cut⟩
abbrev tKeep := 53
/-- A Keep as it came in. -/
structure Kv where
  how : Int
  room : Int
  Af : Option Addr
  nf : Nat
  cf : Nat
  fl : List Fl
  Aa : Option Addr
  na : Nat
  ca : Nat
  la : List Av
  name : Bs
  Ax : Option Addr
  nx : Nat
  cx : Nat
  data : Bs
  Am : Option Addr
  nm : Nat
  cm : Nat
  lm : List Av
  dirs : List Bool
  cuts : List Int
  Ad : Option Addr
  nd : Nat
  cd : Nat
  Au : Option Addr
  nu : Nat
  cu : Nat
def Kv.cells (k : Kv) : List Value := [.int .i64 k.how, .int .i64 k.room, .slice k.Af k.nf k.cf, .slice k.Aa k.na k.ca, encStr k.name, .slice k.Ax k.nx k.cx, .slice k.Am k.nm k.cm, .slice k.Ad k.nd k.cd, .slice k.Au k.nu k.cu]
structure Kv.In (w : World) (B : Nat) (k : Kv) : Prop where
  files : Files w B k.Af k.nf k.fl
  acts : Acts w B k.Aa k.na k.la
  name : k.name.length ≤ 1048576
  data : Rd w B 1 k.Ax k.nx (cU8 k.data)
  nil : k.Ax = none → k.cx = 0
  n_le : k.nx ≤ 1048576
  more : Acts w B k.Am k.nm k.lm
  fate : FateIn w B k.dirs k.cuts k.Ad k.nd k.cd k.Au k.nu k.cu
theorem Kv.In.below {w w' : World} {B : Nat} {k : Kv} (h : k.In w B) (hb : Below B w w') : k.In w' B :=
  ⟨h.files.below hb, h.acts.below hb, h.name, h.data.below hb, h.nil, h.n_le, h.more.below hb, h.fate.below hb⟩
/-- What 'made' gives, as one pointer. -/
def MadeP (w w' : World) (how room : Int) (fs : List (Bs × Bs)) (p : Option Addr) : Prop := Below w.heap.size w w' ∧
  ((begun how room fs = none ∧ p = none) ∨ ∃ D d, begun how room fs = some D ∧ p = some ⟨d, 0, none⟩ ∧ Own w w' d D 1099511627776 1048576)
theorem Made.ptr {w w' : World} {how room : Int} {fs : List (Bs × Bs)} {x : Ending} (h : Made w w' how room fs x) : ∃ p, x = .returned (.tuple #[.pointer p, .bool true]) ∧ MadeP w w' how room fs p := by
  obtain ⟨hb, (⟨h1, rfl⟩ | ⟨D, d, S, h1, rfl, h2, h3⟩)⟩ := h
  · exact ⟨_, rfl, hb, .inl ⟨h1, rfl⟩⟩
  · exact ⟨_, rfl, hb, .inr ⟨D, d, h1, rfl, S, h2, hb, h3⟩⟩
section
variable {H : Type} {enc : TypeId × Value → H} {W : World}
set_option maxRecDepth 100000 in
theorem open_keep {fuel : Nat} {cs : List Value} {x : DataW H × List MemPlace} (h : DataW.trod enc Try.prog W 0 (fun _ => true) true fuel 53 cs = some x) (hb : Rows.uptoBulk x.1 ≤ 1048576) :
    ∃ k : Kv, cs = k.cells ∧ k.In W W.heap.size := by
  obtain ⟨xs, n, _, hx, hlen, hxl, hf⟩ := DataW.trod_struct Try.underlying53 h
  rw [show Try.prog.cellsOf 53 = 9 by kernel_rfl] at hlen
  obtain ⟨c0, c1, c2, c3, c4, c5, c6, c7, c8, rfl⟩ : ∃ a b c d e f g h i, cs = [a, b, c, d, e, f, g, h, i] := by
    match cs, hlen with
    | [a, b, c, d, e, f, g, h, i], _ => exact ⟨a, b, c, d, e, f, g, h, i, rfl⟩
  rw [hx] at hb
  dsimp only at hb
  obtain ⟨y0, e0, t0⟩ := field hxl hf (i := 0) rfl (t := 24) (k := 3) (o := 0) rfl rfl (by kernel_rfl)
  obtain ⟨y1, e1, t1⟩ := field hxl hf (i := 1) rfl (t := 25) (k := 1) (o := 3) rfl rfl (by kernel_rfl)
  obtain ⟨y2, e2, t2⟩ := field hxl hf (i := 2) rfl (t := 9) (k := 1) (o := 4) rfl rfl (by kernel_rfl)
  obtain ⟨y3, e3, t3⟩ := field hxl hf (i := 3) rfl (t := 35) (k := 1) (o := 5) rfl rfl (by kernel_rfl)
  obtain ⟨y4, e4, t4⟩ := field hxl hf (i := 4) rfl (t := 25) (k := 1) (o := 6) rfl rfl (by kernel_rfl)
  obtain ⟨y5, e5, t5⟩ := field hxl hf (i := 5) rfl (t := 29) (k := 2) (o := 7) rfl rfl (by kernel_rfl)
  have b0 := part_bulk e0
  have b1 := part_bulk e1
  have b2 := part_bulk e2
  have b3 := part_bulk e3
  have b4 := part_bulk e4
  have b5 := part_bulk e5
  obtain ⟨how, room, Af, nf, cf, fl, v0, hfl, _, _⟩ := open_start t0 (by omega)
  obtain ⟨Aa, na, ca, la, v1, hla⟩ := open_acts t1 (by omega)
  obtain ⟨nm, v2, l2⟩ := open_text Try.underlying9 t2 (by omega)
  obtain ⟨A, n3, c, b, v3, r3, z3, l3⟩ := open_bytes Try.underlying35 t3 (by omega)
  obtain ⟨Am, nm2, cm, lm, v4, hlm⟩ := open_acts t4 (by omega)
  obtain ⟨dirs, cuts, Ad, nd, cd, Au, nu, cu, v5, hfa⟩ := open_fate t5 (by omega)
  simp at v0 v1 v2 v3 v4 v5
  obtain ⟨v0, v6, v7⟩ := v0
  obtain ⟨v5, v8⟩ := v5
  subst v0 v1 v2 v3 v4 v5 v6 v7 v8
  exact ⟨⟨how, room, Af, nf, cf, fl, Aa, na, ca, la, nm, A, n3, c, b, Am, nm2, cm, lm, dirs, cuts, Ad, nd, cd, Au, nu, cu⟩, rfl, hfl, hla, l2, r3, z3, l3, hlm, hfa⟩
end
theorem agg_of {cs : Array Value} {l : List Value} (h : (Value.agg cs).cells.toList = l) : cs = l.toArray := by
  subst h
  simp [Value.cells]
/-- The cells of a Keep that was boxed. -/
theorem keep_box {w : World} {V : Nat} {k : Kv} (h : w.heap[V]? = some (.cells k.cells.toArray tKeep (0, 0))) : w.rangeAt V 0 k.cells := by
  intro j v hv
  rw [Nat.zero_add, cell_of_row w V _ _ _ _ h]
  simpa using hv
theorem keep_cells {w : World} {V : Nat} {k : Kv} (h : w.rangeAt V 0 k.cells) : w.cell? ⟨V, 3, none⟩ = some (.slice k.Aa k.na k.ca) ∧ w.cell? ⟨V, 4, none⟩ = some (encStr k.name) ∧ w.cell? ⟨V, 5, none⟩ = some (.slice k.Ax k.nx k.cx) ∧ w.cell? ⟨V, 6, none⟩ = some (.slice k.Am k.nm k.cm) ∧
    w.rangeAt V 7 [.slice k.Ad k.nd k.cd, .slice k.Au k.nu k.cu] := by
  refine ⟨h 3 _ rfl, h 4 _ rfl, h 5 _ rfl, h 6 _ rfl, ?_⟩
  intro j v hv
  match j, hv with
  | 0, hv => cases hv; exact h 7 _ rfl
  | 1, hv => cases hv; exact h 8 _ rfl
  | j + 2, hv => cases hv
end Go.Proofs.Ytelgcmcnebncmaa.Dr
