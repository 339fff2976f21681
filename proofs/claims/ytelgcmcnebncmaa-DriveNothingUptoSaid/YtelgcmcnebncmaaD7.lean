/- The walks of SyncDir, Wipe, Cut, Flip. -/
import Derived.Test.YtelgcmcnebncmaaD6
namespace Go.Proofs.Ytelgcmcnebncmaa.Dr
open Go.RowKit Go.Proofs Go.Proofs.Ytelgcmcnebncmaa.Ring

section
variable {w w' : World} {S : Nat → Prop} {d : Nat} {D : Dr.D} {u : Int} {β : Nat → Nat} {vs : Nat → Value} {nv kv pv : Value} {ss : List Value} {m N : Nat}
theorem clone_dir {w : World} {mv : Value} {l : Dir} (h : DirAt Try.prog kStr w mv l) : Calls Try.prog 91 #[mv] w fun e w' => ∃ p, e = .returned (.map p) ∧ DirAt Try.prog kStr w' (.map p) l ∧ (∀ b, p = some b → w.heap.size ≤ b) ∧ (p = none ↔ mapBlock mv = none) ∧ Below w.heap.size w w' := by
  rcases h with ⟨rfl, rfl⟩ | ⟨b, rfl, ho⟩
  · refine (AnyW.maps_Clone_nil Try.clone91 w).mono ?_
    rintro e w' ⟨rfl, rfl⟩
    exact ⟨none, rfl, .inl ⟨rfl, rfl⟩, fun b hb => (by cases hb), by simp [mapBlock], Below.refl _ _⟩
  · refine (AnyW.maps_Clone_owns Try.clone91 kStr ptrs.R b l.length (dirD l) w ho).mono ?_
    rintro e w' ⟨rfl, h1, _, h2⟩
    exact ⟨some w.heap.size, rfl, .inr ⟨_, rfl, h1⟩, fun b hb => (by injection hb with hb; omega), by simp [mapBlock], h2⟩
/-- The names are safe. -/
theorem DvAt.synced (h : DvAt w S d D u β vs nv kv pv ss) {w1 : World} {p : Option Nat} (hb : Below w.heap.size w w1) (hp : DirAt Try.prog kStr w1 (.map p) (at_ β D.now)) (hnew : ∀ b, p = some b → w.heap.size ≤ b) (hnil : p = none ↔ mapBlock nv = none) :
    DvAt ((w1.setCell ⟨d, 3, none⟩ (.map p)).setCell ⟨d, 4, none⟩ (.slice none 0 0)) (fun k => S k ∨ p = some k) d D.syncDir u β vs nv (.map p) (.slice none 0 0) [] := by
  have hd := (Array.getElem?_eq_some_iff.1 h.head).1
  have hset : ∀ k, k ≠ d → ((w1.setCell ⟨d, 3, none⟩ (.map p)).setCell ⟨d, 4, none⟩ (.slice none 0 0)).heap[k]? = w1.heap[k]? := fun k hk => (Below.heap_setCell _ _ _ k hk).trans (Below.heap_setCell _ _ _ k hk)
  have hin : ∀ k, S k → k ≠ d → ((w1.setCell ⟨d, 3, none⟩ (.map p)).setCell ⟨d, 4, none⟩ (.slice none 0 0)).heap[k]? = w.heap[k]? := fun k hS hk => (hset k hk).trans (hb.block k (h.low k hS))
  obtain ⟨m1, _, n3, n4, _, _⟩ := h.d_not
  refine ⟨heap_same (heap_same ((hb.block d hd).trans h.head) _) _, h.now.same fun b hx => hin b (h.inN b hx) (m1 b hx), hp.same fun b hx => hset b ?_, fun b hx e => ?_, ?_, h.inj, fun i hi => (hin _ (h.inB i hi) (n3 i hi)).trans (h.body i hi), fun i hi => own_same (h.row i hi) fun g hg => hin g (h.inV i g hi hg) (n4 i g hi hg), h.own,
    World.ownsRow_nil _ _ _ _, fun j c s hc => (by cases hc), .inl h.inD, fun b hx => .inl (h.inN b hx), fun b hx => .inr (by simpa [mapBlock] using hx), fun i hi => .inl (h.inB i hi), fun i g hi hg => .inl (h.inV i g hi hg), fun g hg => (by cases hg), fun s hs => (by cases hs), fun k hk => ?_, fun _ => rfl⟩
  · have hx' : p = some b := by simpa [mapBlock] using hx
    have := hnew b hx'; omega
  · have e' : p = some b := by simpa [mapBlock] using e
    have h1 := hnew b e'
    have h2 := h.low b (h.inN b hx)
    omega
  · rw [← hnil]; simp [mapBlock]
  · have e1 : ((w1.setCell ⟨d, 3, none⟩ (.map p)).setCell ⟨d, 4, none⟩ (.slice none 0 0)).heap.size = w1.heap.size := by simp [World.setCell]
    rw [e1]
    rcases hk with hk | hk
    · exact Nat.lt_of_lt_of_le (h.low k hk) hb.size
    · exact hp.lt (by simpa [mapBlock] using hk)
theorem c_kp {w : World} {d : Nat} {a b x y z : Value} (h : w.heap[d]? = some (.cells #[a, b, x, y, z] tDrive (0, 0))) : w.cell? ⟨d, 3, none⟩ = some y ∧ w.cell? ⟨d, 4, none⟩ = some z ∧ w.frozen? ⟨d, 3, none⟩ = false ∧ w.frozen? ⟨d, 4, none⟩ = false := by
  refine ⟨?_, ?_, ?_, ?_⟩ <;> first | (rw [cell_of_row w d _ _ _ _ h]; rfl) | (unfold World.frozen?; rw [show w.heap[(⟨d, _, none⟩ : Addr).block]? = _ from h]; simp)
set_option maxRecDepth 100000 in
theorem syncDir_any (h : Dv w S d D m N) : Calls Try.prog 31 #[.pointer (some ⟨d, 0, none⟩)] w fun x w' => x = .returned (.int .i64 0) ∧ Turn w w' S d D.syncDir m N := by
  have hok := h.1.syncDir
  obtain ⟨ho, β, vs, nv, kv, pv, ss, h⟩ := h
  obtain ⟨_, _, c2, _⟩ := h.cells
  have H := Lib.hid h
  have HOK := Lib.hid hok
  clear h ho hok
  go_enter Try.func31, Try.ntmps31
  go_wp2_with (go_at_call 91; refine (clone_dir H.out.now).mono ?_; rintro x w1 ⟨p, rfl, hp, hnew, hnil, hb⟩; obtain ⟨x3, x4, y3, y4⟩ := c_kp ((hb.block d (Array.getElem?_eq_some_iff.1 H.out.head).1).trans H.out.head); have HP := Lib.hid hp; have HNEW := Lib.hid hnew; have HNIL := Lib.hid hnil; have HB := Lib.hid hb; clear hp hnew hnil hb)
  go_ret
  refine ⟨rfl, Turn.of HOK.out (H.out.synced HB.out HP.out HNEW.out HNIL.out) rfl ((((Kept.refl w S).below HB.out).set (p := ⟨d, 3, none⟩) H.out.inD _).set (p := ⟨d, 4, none⟩) H.out.inD _) ?_⟩
  rintro k (hk | hk)
  · exact .inl hk
  · exact .inr (HNEW.out k hk)
/-- A drive's cells are copied over another one's. -/
theorem DvAt.moved (h : DvAt w S d D u β vs nv kv pv ss) {d' : Nat} (hd' : ¬ S d') (hh : w'.heap[d']? = some (.cells #[.int .i64 (D.room : Int), .int .i64 u, nv, kv, pv] tDrive (0, 0))) (hw : ∀ k, S k → w'.heap[k]? = w.heap[k]?) (hs : w.heap.size ≤ w'.heap.size) : DvAt w' (fun k => S k ∨ k = d') d' D u β vs nv kv pv ss :=
  ⟨hh, h.now.same fun b hb => hw b (h.inN b hb), h.kept.same fun b hb => hw b (h.inK b hb), h.apart, h.both, h.inj, fun i hi => (hw _ (h.inB i hi)).trans (h.body i hi), fun i hi => own_same (h.row i hi) fun g hg => hw g (h.inV i g hi hg), h.own,
    own_same h.pend fun g hg => hw g (h.inP g hg), fun j c s hc hj => own_same (h.steps j c s hc hj) fun g hg => hw g (h.inS s (List.mem_of_getElem? hj) g hg), .inr rfl, fun b hb => .inl (h.inN b hb), fun b hb => .inl (h.inK b hb), fun i hi => .inl (h.inB i hi), fun i g hi hg => .inl (h.inV i g hi hg), fun g hg => .inl (h.inP g hg), fun s hs g hg => .inl (h.inS s hs g hg),
    fun k hk => (by
      rcases hk with hk | rfl
      · exact Nat.lt_of_lt_of_le (h.low k hk) hs
      · exact (Array.getElem?_eq_some_iff.1 hh).1), h.live⟩
theorem c_all {w : World} {d : Nat} {a b x y z : Value} (h : w.heap[d]? = some (.cells #[a, b, x, y, z] tDrive (0, 0))) : w.cell? ⟨d, 0, none⟩ = some a ∧ w.cell? ⟨d, 1, none⟩ = some b ∧ w.cell? ⟨d, 2, none⟩ = some x ∧ w.cell? ⟨d, 3, none⟩ = some y ∧ w.cell? ⟨d, 4, none⟩ = some z ∧
    w.frozen? ⟨d, 0, none⟩ = false ∧ w.frozen? ⟨d, 1, none⟩ = false ∧ w.frozen? ⟨d, 2, none⟩ = false ∧ w.frozen? ⟨d, 3, none⟩ = false ∧ w.frozen? ⟨d, 4, none⟩ = false := by
  refine ⟨?_, ?_, ?_, ?_, ?_, ?_, ?_, ?_, ?_, ?_⟩ <;> first | (rw [cell_of_row w d _ _ _ _ h]; rfl) | (unfold World.frozen?; rw [show w.heap[(⟨d, _, none⟩ : Addr).block]? = _ from h]; simp)
abbrev set5 (w : World) (d : Nat) (a b x y z : Value) : World := ((((w.setCell ⟨d, 0, none⟩ a).setCell ⟨d, 1, none⟩ b).setCell ⟨d, 2, none⟩ x).setCell ⟨d, 3, none⟩ y).setCell ⟨d, 4, none⟩ z
theorem set5_at {w : World} {d : Nat} {a b x y z a' b' x' y' z' : Value} (h : w.heap[d]? = some (.cells #[a, b, x, y, z] tDrive (0, 0))) : (set5 w d a' b' x' y' z').heap[d]? = some (.cells #[a', b', x', y', z'] tDrive (0, 0)) :=
  heap_same (heap_same (heap_same (heap_same (heap_same h _) _) _) _) _
theorem set5_off {w : World} {d k : Nat} (a b x y z : Value) (hk : k ≠ d) : (set5 w d a b x y z).heap[k]? = w.heap[k]? :=
  (Below.heap_setCell _ _ _ k hk).trans ((Below.heap_setCell _ _ _ k hk).trans ((Below.heap_setCell _ _ _ k hk).trans ((Below.heap_setCell _ _ _ k hk).trans (Below.heap_setCell _ _ _ k hk))))
theorem set5_size (w : World) (d : Nat) (a b x y z : Value) : (set5 w d a b x y z).heap.size = w.heap.size := by simp [World.setCell]
theorem set5_kept {w w1 : World} {S : Nat → Prop} (h : Kept w w1 S) {d : Nat} (hd : S d) (a b x y z : Value) : Kept w (set5 w1 d a b x y z) S :=
  ((((h.set (p := ⟨d, 0, none⟩) hd a).set (p := ⟨d, 1, none⟩) hd b).set (p := ⟨d, 2, none⟩) hd x).set (p := ⟨d, 3, none⟩) hd y).set (p := ⟨d, 4, none⟩) hd z
set_option maxRecDepth 100000 in
theorem wipe_any (h : Dv w S d D m N) : Calls Try.prog 51 #[.pointer (some ⟨d, 0, none⟩)] w fun x w' => x = .returned (.int .i64 0) ∧ Turn w w' S d D.wipe m N := by
  have hok := h.1.wipe
  have hlow := h.low
  obtain ⟨ho, β, vs, nv, kv, pv, ss, h⟩ := h
  obtain ⟨c0, _⟩ := h.cells
  have hr := ho.room
  have hin := h.inD
  have hd := (Array.getElem?_eq_some_iff.1 h.head).1
  have H := Lib.hid h
  have HOK := Lib.hid hok
  clear h ho hok
  go_enter Try.func51, Try.ntmps51
  go_wp2_with (go_at_call 57; go_loud (refine (new_any D.room hr m N _).mono ?_; rintro x w1 ⟨q, rfl, hq, ⟨_, β1, vs1, nv1, kv1, pv1, ss1, hD1⟩, hb⟩; obtain ⟨pn, rfl⟩ : ∃ p, nv1 = .map p := ⟨_, hD1.now.form⟩; obtain ⟨pk, rfl⟩ : ∃ p, kv1 = .map p := ⟨_, hD1.kept.form⟩; obtain ⟨pA, pc, rfl, _, _⟩ := own_form hD1.pend); go_loud (have hh1 := (hb.block d hd).trans H.out.head; obtain ⟨x0, x1, x2, x3, x4, y0, y1, y2, y3, y4⟩ := hD1.cells; obtain ⟨e0, e1, e2, e3, e4, g0, g1, g2, g3, g4⟩ := c_all hh1; have hqd : d ≠ q := by omega); have HD1 := Lib.hid hD1; have HB := Lib.hid hb; have HH1 := Lib.hid hh1; clear hD1 hb hh1)
  go_ret
  have hm := HD1.out.moved (d' := d) (w' := set5 w1 d (.int .i64 ((Dr.D.fresh D.room).room : Int)) (.int .i64 (wrap64 ((Dr.D.fresh D.room).used : Int))) (.map pn) (.map pk) (.slice pA (Dr.D.fresh D.room).pend.length pc)) (fun h => by omega) (set5_at HH1.out) (fun k hk => set5_off _ _ _ _ _ (by omega)) (by rw [set5_size]; exact Nat.le_refl _)
  refine ⟨rfl, Turn.of HOK.out hm rfl (set5_kept ((Kept.refl w S).below HB.out) hin _ _ _ _ _) ?_⟩
  rintro k (hk | rfl)
  · exact .inr hk.1
  · exact .inl hin
end
end Go.Proofs.Ytelgcmcnebncmaa.Dr
