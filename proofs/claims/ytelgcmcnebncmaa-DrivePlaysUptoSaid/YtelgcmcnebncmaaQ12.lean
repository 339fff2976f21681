/- XD6, XD7, XD8, XD9: merged by tools/merge.py. -/
import Derived.Test.YtelgcmcnebncmaaQ11
import Derived.Laws.BitsAllLaws
namespace Go.Proofs.Ytelgcmcnebncmaa.Dr
open Go.RowKit Go.Proofs Go.Proofs.Ytelgcmcnebncmaa.Ring

section
variable {w w' : World} {S : Nat → Prop} {d : Nat} {D : Dr.D} {u : Int} {β : Nat → Nat} {vs : Nat → Value} {nv kv pv : Value} {ss : List Value} {m N : Nat}
theorem used_any (h : Dv w S d D m N) : Calls Try.prog 23 #[.pointer (some ⟨d, 0, none⟩)] w fun x w' => x = .returned (.int .i64 (wrap64 (D.used : Int))) ∧ w = w' := by
  obtain ⟨ho, β, vs, nv, kv, pv, ss, h⟩ := h
  obtain ⟨_, c1, _⟩ := h.cells
  clear h ho
  go_enter Try.func23, Try.ntmps23
  go_wp2
  go_ret
  exact ⟨rfl, rfl⟩
theorem pending_any (h : Dv w S d D m N) : Calls Try.prog 22 #[.pointer (some ⟨d, 0, none⟩)] w fun x w' => x = .returned (.int .i64 (D.pend.length : Int)) ∧ w = w' := by
  obtain ⟨ho, β, vs, nv, kv, pv, ss, h⟩ := h
  obtain ⟨_, _, _, _, c4, _⟩ := h.cells
  obtain ⟨A, c, rfl, _, _⟩ := own_form h.pend
  clear h ho
  go_enter Try.func22, Try.ntmps22
  go_wp2
  go_ret
  exact ⟨rfl, rfl⟩
theorem struck_any (p : Option Addr) : Calls Try.prog 53 #[.pointer p] w fun x w' => x = .returned (.bool false) ∧ w = w' := by
  go_enter Try.func53, Try.ntmps53
  go_wp2
  go_ret
  exact ⟨rfl, rfl⟩
theorem rest_any (p : Option Addr) (b : Bool) : Calls Try.prog 81 #[.pointer p, .bool b] w fun x w' => x = .returned (.tuple #[]) ∧ w = w' := by
  go_enter Try.func81, Try.ntmps81
  go_wp2
  refine bodyPost_end (v := .tuple #[]) (by simp [results, Try.results81, go_sem]) rfl ?_
  exact ⟨rfl, rfl⟩
/-- What 'Loose' tells. -/
def looseV (D : Dr.D) (n : Bs) : Value :=
  match D.look n with
  | .ok i => .tuple #[.int .i64 ((D.at i).data.length - (D.at i).safe : Int), .int .i64 0]
  | .error e => .tuple #[.int .i64 0, .int .i64 e]
set_option maxRecDepth 100000 in
theorem loose_any (h : Dv w S d D m N) (hm : m ≤ 140737488355328) (n : Bs) : Calls Try.prog 34 #[.pointer (some ⟨d, 0, none⟩), encStr n] w fun x w' => x = .returned (looseV D n) ∧ Below w.heap.size w w' := by
  obtain ⟨ho, β, vs, nv, kv, pv, ss, h⟩ := h
  unfold looseV
  cases hl : D.look n with
  | error e =>
    have hne := look_ne hl
    have H := Lib.hid h
    have HL := Lib.hid hl
    clear h ho hl
    go_enter Try.func34, Try.ntmps34
    go_wp2_with (go_at_call 90; refine (find_any H.out n).mono ?_; rintro x w1 ⟨rfl, rfl⟩; rw [HL.out]; simp only [found])
    refine bodyPost_ret (v := .tuple #[.int .i64 0, .int .i64 e]) (by simp [results, Try.results34, go_sem]) rfl ?_
    exact ⟨rfl, Below.refl _ _⟩
  | ok i =>
    have hi := (look_in ho hl).2
    have hai := ho.at_ok i
    obtain ⟨A, c, hv, _, _⟩ := own_form (h.row i hi)
    obtain ⟨c0, c1, f0, f1⟩ := c_body (w := w.drew) (h.body i hi)
    rw [hv] at c0
    have H := Lib.hid h
    have HL := Lib.hid hl
    clear h ho hl hv
    go_enter Try.func34, Try.ntmps34
    go_upto_region 4 with (go_at_call 90; refine (find_any H.out n).mono ?_; rintro x w1 ⟨rfl, rfl⟩; rw [HL.out]; simp only [found])
    go_region
    go_wp2
    refine bodyPost_ret (v := .tuple #[.int .i64 ((D.at i).data.length - (D.at i).safe : Int), .int .i64 0]) (by simp [results, Try.results34, go_sem]) rfl ?_
    exact ⟨rfl, (Below.refl _ _).drew⟩
theorem clone_any {w : World} {base n : Nat} {v : Value} {x : Bs} (h : w.ownsRow base tU8 1 v n (cU8 x)) (hn : n ≤ 140737488355328) : Calls Try.prog 87 #[v] w fun e w' => ∃ v', e = .returned v' ∧ w'.ownsRow w.heap.size tU8 1 v' n (cU8 x) ∧ Below w.heap.size w w' := by
  have hl : x.length = n := by simpa using h.1
  obtain ⟨A, c, rfl, _, _⟩ := own_form h
  have hr := Rd.of_own h
  cases A with
  | none =>
    have h0 : n = 0 := by
      rcases h.2 with ⟨_, h0⟩ | ⟨g, cap, cur, e, _⟩
      · exact h0
      · cases e
    subst h0
    obtain rfl : x = [] := List.eq_nil_of_length_eq_zero hl
    refine (Try.bytes_Clone_nil 0 c w).mono ?_
    rintro e w' ⟨rfl, rfl⟩
    exact ⟨_, rfl, World.ownsRow_nil _ _ _ _, Below.refl _ _⟩
  | some a =>
    refine (Try.bytes_Clone_at a n c (x.map fun b => (b.toNat : Int)) w (by simpa using hl) hn (fun i hi => ?_)).mono ?_
    · refine hr.cell rfl hi ?_
      rw [List.getElem?_map, List.getElem?_eq_getElem (by omega), List.getD_eq_getElem?_getD, List.getElem?_map, List.getElem?_eq_getElem (by omega)]
      rfl
    · rintro e w' ⟨v', rfl, h1, _, h2⟩
      refine ⟨v', rfl, ?_, h2⟩
      rw [List.map_map] at h1
      exact h1
set_option maxRecDepth 100000 in
theorem read_any (h : Dv w S d D m N) (hm : m ≤ 140737488355328) (n : Bs) : Calls Try.prog 77 #[.pointer (some ⟨d, 0, none⟩), encStr n] w fun x w' => Below w.heap.size w w' ∧
    ((∃ e, D.look n = .error e ∧ x = .returned (.tuple #[.slice none 0 0, .int .i64 e])) ∨ ∃ i v, D.look n = .ok i ∧ x = .returned (.tuple #[v, .int .i64 0]) ∧ w'.ownsRow w.heap.size tU8 1 v (D.at i).data.length (cU8 (D.at i).data)) := by
  obtain ⟨ho, β, vs, nv, kv, pv, ss, h⟩ := h
  cases hl : D.look n with
  | error e =>
    have hne := look_ne hl
    have H := Lib.hid h
    have HL := Lib.hid hl
    clear h ho hl
    go_enter Try.func77, Try.ntmps77
    go_wp2_with (go_at_call 90; refine (find_any H.out n).mono ?_; rintro x w1 ⟨rfl, rfl⟩; rw [HL.out]; simp only [found])
    refine bodyPost_ret (v := .tuple #[.slice none 0 0, .int .i64 e]) (by simp [results, Try.results77, go_sem]) rfl ?_
    exact ⟨Below.refl _ _, .inl ⟨e, rfl, rfl⟩⟩
  | ok i =>
    have hi := (look_in ho hl).2
    have hai := (ho.at_ok i).2
    obtain ⟨c0, _, _, _⟩ := c_body (h.body i hi)
    have hrow := h.row i hi
    have H := Lib.hid h
    have HL := Lib.hid hl
    have HR := Lib.hid hrow
    clear h ho hl hrow
    go_enter Try.func77, Try.ntmps77
    go_wp2_with (first
      | (go_at_call 90; refine (find_any H.out n).mono ?_; rintro x w1 ⟨rfl, rfl⟩; rw [HL.out]; simp only [found])
      | (go_at_call 87; refine (clone_any HR.out (by omega)).mono ?_; rintro x w2 ⟨v2, rfl, hv2, hb2⟩))
    refine bodyPost_ret (v := .tuple #[v2, .int .i64 0]) (by simp [results, Try.results77, go_sem]) rfl ?_
    exact ⟨hb2, .inr ⟨i, v2, rfl, rfl, hv2⟩⟩
set_option maxRecDepth 100000 in
theorem list_any (h : Dv w S d D m N) (hN : N * 16 ≤ 140737488355328) : Calls Try.prog 78 #[.pointer (some ⟨d, 0, none⟩)] w fun x w' => ∃ v, x = .returned (.tuple #[v, .int .i64 0]) ∧ w'.ownsRow w.heap.size kStr 1 v D.now.length (cStr (D.now.map (·.1))) ∧ Below w.heap.size w w' := by
  obtain ⟨ho, β, vs, nv, kv, pv, ss, h⟩ := h
  obtain ⟨_, _, c2, _⟩ := h.cells
  have hn := h.now
  have hr : Rise (at_ β D.now) := rise_names ho.now (by simp [at_, Function.comp_def])
  have hl : (at_ β D.now).length * 16 ≤ 140737488355328 := by have := ho.lenN; simp only [at_, List.length_map]; omega
  have HN := Lib.hid hn
  have HR := Lib.hid hr
  clear h ho hn hr
  go_enter Try.func78, Try.ntmps78
  go_wp2_with (go_at_call 86; refine (names_any HN.out HR.out hl).mono ?_; rintro x w2 ⟨v2, rfl, hv2, hb2⟩)
  refine bodyPost_ret (v := .tuple #[v2, .int .i64 0]) (by simp [results, Try.results78, go_sem]) rfl ?_
  refine ⟨v2, rfl, ?_, hb2⟩
  simpa [at_, Function.comp_def] using hv2
end
end Go.Proofs.Ytelgcmcnebncmaa.Dr
namespace Go.Proofs.Ytelgcmcnebncmaa.Dr
open Go.RowKit Go.Proofs Go.Proofs.Ytelgcmcnebncmaa.Ring

section
variable {w w' : World} {S : Nat → Prop} {d : Nat} {D : Dr.D} {u : Int} {β : Nat → Nat} {vs : Nat → Value} {nv kv pv : Value} {ss : List Value} {m N : Nat}
theorem clone_dir {w : World} {mv : Value} {l : Dir} (h : DirAt Try.prog kStr w mv l) : Calls Try.prog 91 #[mv] w fun e w' => ∃ p, e = .returned (.map p) ∧ DirAt Try.prog kStr w' (.map p) l ∧ (∀ b, p = some b → w.heap.size ≤ b) ∧ (p = none ↔ mapBlock mv = none) ∧ Below w.heap.size w w' := by
  rcases h with ⟨rfl, rfl⟩ | ⟨b, rfl, ho⟩
  · refine (AnyW.maps_Clone_nil Try.clone91 w).mono ?_
    rintro e w' ⟨rfl, rfl⟩
    exact ⟨none, rfl, .inl ⟨rfl, rfl⟩, fun b hb => (by cases hb), by simp [mapBlock], Below.refl _ _⟩
  · refine (AnyW.maps_Clone_owns Try.clone91 kStr ptrs.R b l.length (dirD l) w ho).mono ?_
    rintro e w' ⟨rfl, h1, _, h2⟩
    exact ⟨some w.heap.size, rfl, .inr ⟨_, rfl, h1⟩, fun b hb => (by injection hb with hb; omega), by simp [mapBlock], h2⟩
/-- The names are safe. -/
theorem DvAt.synced (h : DvAt w S d D u β vs nv kv pv ss) {w1 : World} {p : Option Nat} (hb : Below w.heap.size w w1) (hp : DirAt Try.prog kStr w1 (.map p) (at_ β D.now)) (hnew : ∀ b, p = some b → w.heap.size ≤ b) (hnil : p = none ↔ mapBlock nv = none) :
    DvAt ((w1.setCell ⟨d, 3, none⟩ (.map p)).setCell ⟨d, 4, none⟩ (.slice none 0 0)) (fun k => S k ∨ p = some k) d D.syncDir u β vs nv (.map p) (.slice none 0 0) [] := by
  have hd := (Array.getElem?_eq_some_iff.1 h.head).1
  have hset : ∀ k, k ≠ d → ((w1.setCell ⟨d, 3, none⟩ (.map p)).setCell ⟨d, 4, none⟩ (.slice none 0 0)).heap[k]? = w1.heap[k]? := fun k hk => (Below.heap_setCell _ _ _ k hk).trans (Below.heap_setCell _ _ _ k hk)
  have hin : ∀ k, S k → k ≠ d → ((w1.setCell ⟨d, 3, none⟩ (.map p)).setCell ⟨d, 4, none⟩ (.slice none 0 0)).heap[k]? = w.heap[k]? := fun k hS hk => (hset k hk).trans (hb.block k (h.low k hS))
  obtain ⟨m1, _, n3, n4, _, _⟩ := h.d_not
  refine ⟨heap_same (heap_same ((hb.block d hd).trans h.head) _) _, h.now.same fun b hx => hin b (h.inN b hx) (m1 b hx), hp.same fun b hx => hset b ?_, fun b hx e => ?_, ?_, h.inj, fun i hi => (hin _ (h.inB i hi) (n3 i hi)).trans (h.body i hi), fun i hi => own_same (h.row i hi) fun g hg => hin g (h.inV i g hi hg) (n4 i g hi hg), h.own,
    World.ownsRow_nil _ _ _ _, fun j c s hc => (by cases hc), .inl h.inD, fun b hx => .inl (h.inN b hx), fun b hx => .inr (by simpa [mapBlock] using hx), fun i hi => .inl (h.inB i hi), fun i g hi hg => .inl (h.inV i g hi hg), fun g hg => (by cases hg), fun s hs => (by cases hs), fun k hk => ?_, fun _ => rfl⟩
  · have hx' : p = some b := by simpa [mapBlock] using hx
    have := hnew b hx'; omega
  · have e' : p = some b := by simpa [mapBlock] using e
    have h1 := hnew b e'
    have h2 := h.low b (h.inN b hx)
    omega
  · rw [← hnil]; simp [mapBlock]
  · have e1 : ((w1.setCell ⟨d, 3, none⟩ (.map p)).setCell ⟨d, 4, none⟩ (.slice none 0 0)).heap.size = w1.heap.size := by simp [World.setCell]
    rw [e1]
    rcases hk with hk | hk
    · exact Nat.lt_of_lt_of_le (h.low k hk) hb.size
    · exact hp.lt (by simpa [mapBlock] using hk)
theorem c_kp {w : World} {d : Nat} {a b x y z : Value} (h : w.heap[d]? = some (.cells #[a, b, x, y, z] tDrive (0, 0))) : w.cell? ⟨d, 3, none⟩ = some y ∧ w.cell? ⟨d, 4, none⟩ = some z ∧ w.frozen? ⟨d, 3, none⟩ = false ∧ w.frozen? ⟨d, 4, none⟩ = false := by
  refine ⟨?_, ?_, ?_, ?_⟩ <;> first | (rw [cell_of_row w d _ _ _ _ h]; rfl) | (unfold World.frozen?; rw [show w.heap[(⟨d, _, none⟩ : Addr).block]? = _ from h]; simp)
set_option maxRecDepth 100000 in
theorem syncDir_any (h : Dv w S d D m N) : Calls Try.prog 31 #[.pointer (some ⟨d, 0, none⟩)] w fun x w' => x = .returned (.int .i64 0) ∧ Turn w w' S d D.syncDir m N := by
  have hok := h.1.syncDir
  obtain ⟨ho, β, vs, nv, kv, pv, ss, h⟩ := h
  obtain ⟨_, _, c2, _⟩ := h.cells
  have H := Lib.hid h
  have HOK := Lib.hid hok
  clear h ho hok
  go_enter Try.func31, Try.ntmps31
  go_wp2_with (go_at_call 91; refine (clone_dir H.out.now).mono ?_; rintro x w1 ⟨p, rfl, hp, hnew, hnil, hb⟩; obtain ⟨x3, x4, y3, y4⟩ := c_kp ((hb.block d (Array.getElem?_eq_some_iff.1 H.out.head).1).trans H.out.head); have HP := Lib.hid hp; have HNEW := Lib.hid hnew; have HNIL := Lib.hid hnil; have HB := Lib.hid hb; clear hp hnew hnil hb)
  go_ret
  refine ⟨rfl, Turn.of HOK.out (H.out.synced HB.out HP.out HNEW.out HNIL.out) rfl ((((Kept.refl w S).below HB.out).set (p := ⟨d, 3, none⟩) H.out.inD _).set (p := ⟨d, 4, none⟩) H.out.inD _) ?_⟩
  rintro k (hk | hk)
  · exact .inl hk
  · exact .inr (HNEW.out k hk)
/-- A drive's cells are copied over another one's. -/
theorem DvAt.moved (h : DvAt w S d D u β vs nv kv pv ss) {d' : Nat} (hd' : ¬ S d') (hh : w'.heap[d']? = some (.cells #[.int .i64 (D.room : Int), .int .i64 u, nv, kv, pv] tDrive (0, 0))) (hw : ∀ k, S k → w'.heap[k]? = w.heap[k]?) (hs : w.heap.size ≤ w'.heap.size) : DvAt w' (fun k => S k ∨ k = d') d' D u β vs nv kv pv ss :=
  ⟨hh, h.now.same fun b hb => hw b (h.inN b hb), h.kept.same fun b hb => hw b (h.inK b hb), h.apart, h.both, h.inj, fun i hi => (hw _ (h.inB i hi)).trans (h.body i hi), fun i hi => own_same (h.row i hi) fun g hg => hw g (h.inV i g hi hg), h.own,
    own_same h.pend fun g hg => hw g (h.inP g hg), fun j c s hc hj => own_same (h.steps j c s hc hj) fun g hg => hw g (h.inS s (List.mem_of_getElem? hj) g hg), .inr rfl, fun b hb => .inl (h.inN b hb), fun b hb => .inl (h.inK b hb), fun i hi => .inl (h.inB i hi), fun i g hi hg => .inl (h.inV i g hi hg), fun g hg => .inl (h.inP g hg), fun s hs g hg => .inl (h.inS s hs g hg),
    fun k hk => (by
      rcases hk with hk | rfl
      · exact Nat.lt_of_lt_of_le (h.low k hk) hs
      · exact (Array.getElem?_eq_some_iff.1 hh).1), h.live⟩
theorem c_all {w : World} {d : Nat} {a b x y z : Value} (h : w.heap[d]? = some (.cells #[a, b, x, y, z] tDrive (0, 0))) : w.cell? ⟨d, 0, none⟩ = some a ∧ w.cell? ⟨d, 1, none⟩ = some b ∧ w.cell? ⟨d, 2, none⟩ = some x ∧ w.cell? ⟨d, 3, none⟩ = some y ∧ w.cell? ⟨d, 4, none⟩ = some z ∧
    w.frozen? ⟨d, 0, none⟩ = false ∧ w.frozen? ⟨d, 1, none⟩ = false ∧ w.frozen? ⟨d, 2, none⟩ = false ∧ w.frozen? ⟨d, 3, none⟩ = false ∧ w.frozen? ⟨d, 4, none⟩ = false := by
  refine ⟨?_, ?_, ?_, ?_, ?_, ?_, ?_, ?_, ?_, ?_⟩ <;> first | (rw [cell_of_row w d _ _ _ _ h]; rfl) | (unfold World.frozen?; rw [show w.heap[(⟨d, _, none⟩ : Addr).block]? = _ from h]; simp)
abbrev set5 (w : World) (d : Nat) (a b x y z : Value) : World := ((((w.setCell ⟨d, 0, none⟩ a).setCell ⟨d, 1, none⟩ b).setCell ⟨d, 2, none⟩ x).setCell ⟨d, 3, none⟩ y).setCell ⟨d, 4, none⟩ z
theorem set5_at {w : World} {d : Nat} {a b x y z a' b' x' y' z' : Value} (h : w.heap[d]? = some (.cells #[a, b, x, y, z] tDrive (0, 0))) : (set5 w d a' b' x' y' z').heap[d]? = some (.cells #[a', b', x', y', z'] tDrive (0, 0)) :=
  heap_same (heap_same (heap_same (heap_same (heap_same h _) _) _) _) _
theorem set5_off {w : World} {d k : Nat} (a b x y z : Value) (hk : k ≠ d) : (set5 w d a b x y z).heap[k]? = w.heap[k]? :=
  (Below.heap_setCell _ _ _ k hk).trans ((Below.heap_setCell _ _ _ k hk).trans ((Below.heap_setCell _ _ _ k hk).trans ((Below.heap_setCell _ _ _ k hk).trans (Below.heap_setCell _ _ _ k hk))))
theorem set5_size (w : World) (d : Nat) (a b x y z : Value) : (set5 w d a b x y z).heap.size = w.heap.size := by simp [World.setCell]
theorem set5_kept {w w1 : World} {S : Nat → Prop} (h : Kept w w1 S) {d : Nat} (hd : S d) (a b x y z : Value) : Kept w (set5 w1 d a b x y z) S :=
  ((((h.set (p := ⟨d, 0, none⟩) hd a).set (p := ⟨d, 1, none⟩) hd b).set (p := ⟨d, 2, none⟩) hd x).set (p := ⟨d, 3, none⟩) hd y).set (p := ⟨d, 4, none⟩) hd z
set_option maxRecDepth 100000 in
theorem wipe_any (h : Dv w S d D m N) : Calls Try.prog 51 #[.pointer (some ⟨d, 0, none⟩)] w fun x w' => x = .returned (.int .i64 0) ∧ Turn w w' S d D.wipe m N := by
  have hok := h.1.wipe
  have hlow := h.low
  obtain ⟨ho, β, vs, nv, kv, pv, ss, h⟩ := h
  obtain ⟨c0, _⟩ := h.cells
  have hr := ho.room
  have hin := h.inD
  have hd := (Array.getElem?_eq_some_iff.1 h.head).1
  have H := Lib.hid h
  have HOK := Lib.hid hok
  clear h ho hok
  go_enter Try.func51, Try.ntmps51
  go_wp2_with (go_at_call 57; go_loud (refine (new_any D.room hr m N _).mono ?_; rintro x w1 ⟨q, rfl, hq, ⟨_, β1, vs1, nv1, kv1, pv1, ss1, hD1⟩, hb⟩; obtain ⟨pn, rfl⟩ : ∃ p, nv1 = .map p := ⟨_, hD1.now.form⟩; obtain ⟨pk, rfl⟩ : ∃ p, kv1 = .map p := ⟨_, hD1.kept.form⟩; obtain ⟨pA, pc, rfl, _, _⟩ := own_form hD1.pend); go_loud (have hh1 := (hb.block d hd).trans H.out.head; obtain ⟨x0, x1, x2, x3, x4, y0, y1, y2, y3, y4⟩ := hD1.cells; obtain ⟨e0, e1, e2, e3, e4, g0, g1, g2, g3, g4⟩ := c_all hh1; have hqd : d ≠ q := by omega); have HD1 := Lib.hid hD1; have HB := Lib.hid hb; have HH1 := Lib.hid hh1; clear hD1 hb hh1)
  go_ret
  have hm := HD1.out.moved (d' := d) (w' := set5 w1 d (.int .i64 ((Dr.D.fresh D.room).room : Int)) (.int .i64 (wrap64 ((Dr.D.fresh D.room).used : Int))) (.map pn) (.map pk) (.slice pA (Dr.D.fresh D.room).pend.length pc)) (fun h => by omega) (set5_at HH1.out) (fun k hk => set5_off _ _ _ _ _ (by omega)) (by rw [set5_size]; exact Nat.le_refl _)
  refine ⟨rfl, Turn.of HOK.out hm rfl (set5_kept ((Kept.refl w S).below HB.out) hin _ _ _ _ _) ?_⟩
  rintro k (hk | rfl)
  · exact .inr hk.1
  · exact .inl hin
end
end Go.Proofs.Ytelgcmcnebncmaa.Dr
namespace Go.Proofs.Ytelgcmcnebncmaa.Dr
open Go.RowKit Go.Proofs Go.Proofs.Ytelgcmcnebncmaa.Ring

theorem setBody_self {D : Dr.D} {i : Nat} (hi : i < D.bd.length) : D.setBody i (D.at i) = D := by
  unfold Dr.D.setBody Dr.D.at
  rw [List.getD_eq_getElem?_getD, List.getElem?_eq_getElem hi]
  simp
theorem own_front {w : World} {base : Nat} {e : TypeId} {A : Option Addr} {n c q : Nat} {xs : List Value} (h : w.ownsRow base e 1 (.slice A n c) n xs) (hq : q < n) : w.ownsRow base e 1 (.slice A q c) q (xs.take q) := by
  have hl := h.1
  rcases h.2 with ⟨_, h0⟩ | ⟨g, cap, cur, e1, h1, h2, h3, h4, h5, h6⟩
  · omega
  · injection e1 with e1 e2 e3
    subst e1 e3
    refine ⟨by rw [List.length_take]; omega, .inr ⟨g, c, cur, rfl, h1, h2, by omega, h4, h5, ?_⟩⟩
    rw [← h6, List.take_take]
    congr 1
    omega
section
variable {w w' : World} {S : Nat → Prop} {d : Nat} {D : Dr.D} {m N : Nat}
set_option maxRecDepth 100000 in
set_option maxHeartbeats 4000000 in
theorem cut_any (h : Dv w S d D m N) (hm : m ≤ 140737488355328) (n : Bs) (k : Int) : Calls Try.prog 80 #[.pointer (some ⟨d, 0, none⟩), encStr n, .int .i64 k] w fun x w' => x = .returned (.int .i64 (D.cut n k).2) ∧ Turn w w' S d (D.cut n k).1 m N := by
  have h0 := h
  have hok := h.1.cut n k
  obtain ⟨ho, β, vs, nv, kv, pv, ss, h⟩ := h
  by_cases hnk : (named n && decide (k < 0)) = true
  · have he : D.cut n k = (D, 2) := by unfold Dr.D.cut; rw [if_pos hnk]
    have hn : named n = true := ((Bool.and_eq_true _ _).mp hnk).1
    have hk : k < 0 := of_decide_eq_true ((Bool.and_eq_true _ _).mp hnk).2
    rw [he]
    have H0 := Lib.hid h0
    clear h ho he h0 hok hnk
    go_enter Try.func80, Try.ntmps80
    go_wp2_with (go_at_call 88; refine (named_any n _).mono ?_; rintro x w1 ⟨rfl, rfl⟩; rw [hn])
    go_ret
    exact ⟨rfl, Turn.refl H0.out⟩
  · have hcase : named n = false ∨ named n = true ∧ 0 ≤ k := by
      cases hn : named n
      · exact .inl rfl
      · rw [hn] at hnk
        refine .inr ⟨rfl, ?_⟩
        by_cases hk : k < 0
        · exact absurd (by rw [decide_eq_true hk]; rfl) hnk
        · omega
    cases hl : D.look n with
    | error e =>
      have he : D.cut n k = (D, e) := by unfold Dr.D.cut; rw [if_neg hnk, hl]
      have hne0 : ¬ e = 0 := by have := look_ne hl; simpa using this
      have hne : (e != 0) = true := by rw [bne, look_ne hl]; rfl
      rw [he]
      have H0 := Lib.hid h0
      have H := Lib.hid h
      have HL := Lib.hid hl
      clear h ho he h0 hok hnk hl
      rcases hcase with hn | ⟨hn, hk⟩
      all_goals
        go_enter Try.func80, Try.ntmps80
        go_wp2_with (first
          | (go_at_call 88; refine (named_any n _).mono ?_; rintro x w1 ⟨rfl, rfl⟩; rw [hn])
          | (go_at_call 90; refine (find_any H.out n).mono ?_; rintro x w1 ⟨rfl, rfl⟩; rw [HL.out]; simp only [found]))
        go_ret
        exact ⟨rfl, Turn.refl H0.out⟩
    | ok i =>
      have hn := (look_ok ho hl).1
      have hk0 : 0 ≤ k := by
        rcases hcase with h | h
        · rw [hn] at h; cases h
        · exact h.2
      clear hcase
      obtain ⟨q, rfl⟩ : ∃ q : Nat, k = (q : Int) := ⟨k.toNat, by omega⟩
      have hi := (look_in ho hl).2
      have hai := ho.at_ok i
      have he : D.cut n (q : Int) = (D.setBody i ⟨(D.at i).data.take q, min (D.at i).safe q⟩, 0) := by unfold Dr.D.cut; rw [if_neg hnk, hl]; rfl
      obtain ⟨A, c, hv, hlc, hcm⟩ := own_form (h.row i hi)
      obtain ⟨c0, c1, f0, f1⟩ := c_body (h.body i hi)
      rw [hv] at c0
      by_cases hq : (D.at i).data.length ≤ q
      · have hself : (⟨(D.at i).data.take q, min (D.at i).safe q⟩ : Bd) = D.at i := by
          rw [List.take_of_length_le hq, Nat.min_eq_left (by omega)]
        rw [he, hself, setBody_self hi]
        have hge : (q : Int) ≥ ((D.at i).data.length : Int) := by omega
        have H0 := Lib.hid h0
        have H := Lib.hid h
        have HL := Lib.hid hl
        clear h ho he h0 hok hnk hl hv hself hq
        go_enter Try.func80, Try.ntmps80
        go_wp2_with (first
          | (go_at_call 88; refine (named_any n _).mono ?_; rintro x w1 ⟨rfl, rfl⟩; rw [hn])
          | (go_at_call 90; refine (find_any H.out n).mono ?_; rintro x w1 ⟨rfl, rfl⟩; rw [HL.out]; simp only [found]))
        go_ret
        exact ⟨rfl, Turn.refl H0.out⟩
      · rw [he] at hok ⊢
        have hge : ¬ (q : Int) ≥ ((D.at i).data.length : Int) := by omega
        have hus : (D.setBody i ⟨(D.at i).data.take q, min (D.at i).safe q⟩).used + (D.at i).data.length = D.used + q := by
          have h1 := used_set ho hl ⟨(D.at i).data.take q, min (D.at i).safe q⟩
          rw [show (Bd.data ⟨(D.at i).data.take q, min (D.at i).safe q⟩).length = q by rw [List.length_take]; omega] at h1
          exact h1
        have e0 : w.drew.cell? ⟨β i, 0, none⟩ = some (.slice A (D.at i).data.length c) := c0
        have e1 : w.drew.cell? ⟨d, 1, none⟩ = some (.int .i64 (wrap64 (D.used : Int))) := h.cells.2.1
        have e2 : w.drew.frozen? ⟨d, 1, none⟩ = false := (c_now h.head).2.2.2.1
        have hqc : (q : Int) ≤ (c : Int) := by omega
        have hqm : (c : Int) ≤ 9223372036854775807 := by unfold maxLen at hcm; omega
        have H := Lib.hid h
        have HL := Lib.hid hl
        have HOK := Lib.hid hok
        have HUS := Lib.hid hus
        have HV := Lib.hid hv
        clear h ho he h0 hok hnk hl hv hus
        go_enter Try.func80, Try.ntmps80
        go_upto_region 6 with (first
          | (go_at_call 88; refine (named_any n _).mono ?_; rintro x w1 ⟨rfl, rfl⟩; rw [hn])
          | (go_at_call 90; refine (find_any H.out n).mono ?_; rintro x w1 ⟨rfl, rfl⟩; rw [HL.out]; simp only [found]))
        go_region
        go_upto_region 7 with (fail)
        have hW := (H.out.used (wrap64 (wrap64 (D.used : Int) - (((D.at i).data.length : Int) - (q : Int))))).same (w' := (w.setCell ⟨d, 1, none⟩ (.int .i64 (wrap64 (wrap64 (D.used : Int) - (((D.at i).data.length : Int) - (q : Int)))))).drew) (fun k _ => rfl) (Nat.le_refl _)
        have hK : Kept w (w.setCell ⟨d, 1, none⟩ (.int .i64 (wrap64 (wrap64 (D.used : Int) - (((D.at i).data.length : Int) - (q : Int)))))).drew S := ((Kept.refl w S).set (p := ⟨d, 1, none⟩) H.out.inD _).below ((Below.refl _ _).drew)
        obtain ⟨wb, hwb⟩ : ∃ wb, (w.setCell ⟨d, 1, none⟩ (.int .i64 (wrap64 (wrap64 (D.used : Int) - (((D.at i).data.length : Int) - (q : Int)))))).drew = wb := ⟨_, rfl⟩
        rw [hwb] at hW hK ⊢
        have hu : wrap64 (wrap64 (D.used : Int) - (((D.at i).data.length : Int) - (q : Int))) = wrap64 ((D.setBody i ⟨(D.at i).data.take q, min (D.at i).safe q⟩).used : Int) := by
          rw [wrap_sub]
          exact congrArg wrap64 (by have := HUS.out; omega)
        rw [hu] at hW
        obtain ⟨b0, b1, g0, g1⟩ := c_body (hW.body i hi)
        rw [HV.out] at b0
        obtain ⟨_, b2, _, g2⟩ := c_body (heap_same (hW.body i hi) (.slice A q c) (i := 0))
        have HW := Lib.hid hW
        have HK := Lib.hid hK
        clear hW hK hwb hu e0 e1 e2 c0 c1 f0 f1
        go_wp2
        go_ret
        have hmin : min ((D.at i).safe : Int) (q : Int) = ((min (D.at i).safe q : Nat) : Int) := by omega
        rw [hmin]
        have hrow : ((wb.setCell ⟨β i, 0, none⟩ (.slice A q c)).setCell ⟨β i, 1, none⟩ (.int .i64 ((min (D.at i).safe q : Nat) : Int))).ownsRow 0 tU8 1 (.slice A q c) ((D.at i).data.take q).length (cU8 ((D.at i).data.take q)) := by
          have h1 := HW.out.row i hi
          rw [HV.out] at h1
          have h2 := own_front h1 (q := q) (by omega)
          rw [show ((D.at i).data.take q).length = q by rw [List.length_take]; omega, show cU8 ((D.at i).data.take q) = (cU8 (D.at i).data).take q by simp [cU8, List.map_take]]
          refine own_same h2 fun g hg => ?_
          obtain ⟨cur, h3⟩ := own_lt h2 hg
          have hne : g ≠ β i := fun e => ne_ty (HW.out.body i hi) h3 (by decide) e.symm
          exact (Below.heap_setCell _ _ _ g hne).trans (Below.heap_setCell _ _ _ g hne)
        have h2 := HW.out.bodied (w' := (wb.setCell ⟨β i, 0, none⟩ (.slice A q c)).setCell ⟨β i, 1, none⟩ (.int .i64 ((min (D.at i).safe q : Nat) : Int))) hi (b := ⟨(D.at i).data.take q, min (D.at i).safe q⟩) (v' := .slice A q c) (heap_same (heap_same (HW.out.body i hi) _) _) hrow
          (fun g hg => .inl (by rw [HV.out]; cases A with | none => (simp [Value.ownBlock] at hg) | some _ => (simpa [Value.ownBlock] using hg))) (fun k _ hk _ => (Below.heap_setCell _ _ _ k hk).trans (Below.heap_setCell _ _ _ k hk)) (by simp [World.setCell])
        refine ⟨rfl, Turn.of HOK.out h2 rfl ((HK.out.set (p := ⟨β i, 0, none⟩) (H.out.inB i hi) _).set (p := ⟨β i, 1, none⟩) (H.out.inB i hi) _) ?_⟩
        rintro k (hk | hk)
        · exact .inl hk
        · exact .inl (H.out.inV i k hi (by rw [HV.out]; cases A with | none => (simp [Value.ownBlock] at hk) | some _ => (simpa [Value.ownBlock] using hk)))
end
end Go.Proofs.Ytelgcmcnebncmaa.Dr
namespace Go.Proofs.Ytelgcmcnebncmaa.Dr
set_option linter.unusedVariables false
open Go.RowKit Go.Proofs Go.Proofs.Ytelgcmcnebncmaa.Ring

def fl (b : UInt8) : Option UInt8 → UInt8
  | some q => b ^^^ q
  | none => b
theorem flipAt_get : ∀ (l : Bs) (k : Nat) (p : Bs) (x : Nat), (flipAt l k p)[x]? = l[x]?.map fun b => if k ≤ x then fl b p[x - k]? else b
  | [], k, p, x => by simp [flipAt]
  | b :: r, 0, [], x => by
    simp only [flipAt]
    cases h : (b :: r)[x]? <;> simp [fl]
  | b :: r, 0, q :: p, 0 => by simp [flipAt, fl]
  | b :: r, 0, q :: p, x + 1 => by
    have := flipAt_get r 0 p x
    simp only [flipAt, List.getElem?_cons_succ, this, Nat.zero_le, if_true, Nat.sub_zero]
  | b :: r, k + 1, p, 0 => by simp [flipAt]
  | b :: r, k + 1, p, x + 1 => by
    have := flipAt_get r k p x
    simp only [flipAt, List.getElem?_cons_succ, this]
    congr 1
    funext b
    by_cases h : k ≤ x
    · rw [if_pos h, if_pos (by omega), show x + 1 - (k + 1) = x - k by omega]
    · rw [if_neg h, if_neg (by omega)]
theorem flipAt_over {l : Bs} {k : Nat} (h : l.length ≤ k) (p : Bs) : flipAt l k p = l := by
  apply List.ext_getElem?
  intro x
  rw [flipAt_get]
  cases hx : l[x]? with
  | none => rfl
  | some b =>
    have := (List.getElem?_eq_some_iff.1 hx).1
    rw [Option.map_some, if_neg (by omega)]
theorem flipAt_nil (l : Bs) (k : Nat) : flipAt l k [] = l := by
  apply List.ext_getElem?
  intro x
  rw [flipAt_get]
  cases l[x]? with
  | none => rfl
  | some b => simp [fl]
theorem flipAt_all {l : Bs} {k t : Nat} {p : Bs} (h : t = min p.length (l.length - k)) : flipAt l k (p.take t) = flipAt l k p := by
  apply List.ext_getElem?
  intro x
  rw [flipAt_get, flipAt_get]
  cases hx : l[x]? with
  | none => rfl
  | some b =>
    have hxl := (List.getElem?_eq_some_iff.1 hx).1
    rw [Option.map_some, Option.map_some]
    by_cases hk : k ≤ x
    · rw [if_pos hk, if_pos hk]
      by_cases hp : x - k < p.length
      · rw [List.getElem?_take_of_lt (by omega)]
      · rw [List.getElem?_eq_none (by rw [List.length_take]; omega), List.getElem?_eq_none (by omega)]
    · rw [if_neg hk, if_neg hk]
theorem flipAt_snoc {l : Bs} {k j : Nat} {p : Bs} {b q : UInt8} (hb : l[k + j]? = some b) (hq : p[j]? = some q) : flipAt l k (p.take (j + 1)) = (flipAt l k (p.take j)).set (k + j) (b ^^^ q) := by
  have hj := (List.getElem?_eq_some_iff.1 hq).1
  apply List.ext_getElem?
  intro x
  rw [List.getElem?_set, flipAt_get, flipAt_get, flipAt_len]
  by_cases hx : k + j = x
  · subst hx
    rw [if_pos rfl, if_pos (List.getElem?_eq_some_iff.1 hb).1, hb, Option.map_some, if_pos (by omega), show k + j - k = j by omega, List.getElem?_take_of_lt (by omega), hq]
    rfl
  · rw [if_neg hx]
    cases hl : l[x]? with
    | none => rfl
    | some c =>
      rw [Option.map_some, Option.map_some]
      by_cases hk : k ≤ x
      · rw [if_pos hk, if_pos hk]
        by_cases hxj : x - k < j
        · rw [List.getElem?_take_of_lt hxj, List.getElem?_take_of_lt (by omega)]
        · rw [List.getElem?_eq_none (l := p.take j) (by rw [List.length_take]; omega), List.getElem?_eq_none (l := p.take (j + 1)) (by rw [List.length_take]; omega)]
      · rw [if_neg hk, if_neg hk]
theorem flipAt_at {l : Bs} {k j : Nat} {p : Bs} {b : UInt8} (hb : l[k + j]? = some b) : (flipAt l k (p.take j))[k + j]? = some b := by
  rw [flipAt_get, hb, Option.map_some, if_pos (by omega), show k + j - k = j by omega, List.getElem?_eq_none (by rw [List.length_take]; omega)]
  rfl
theorem xor_u8 (a b : UInt8) : bits .xor .u8 (a.toNat : Int) (b.toNat : Int) = ((a ^^^ b).toNat : Int) := by
  rw [u8_xor_nat _ _ (UInt8.toNat_lt a) (UInt8.toNat_lt b), UInt8.toNat_xor]
theorem own_store {w : World} {base : Nat} {e : TypeId} {g n c i : Nat} {xs : List Value} (h : w.ownsRow base e 1 (.slice (some ⟨g, 0, none⟩) n c) n xs) (hi : i < n) (v : Value) : (w.setCell ⟨g, i, none⟩ v).ownsRow base e 1 (.slice (some ⟨g, 0, none⟩) n c) n (xs.set i v) := by
  have hl := h.1
  rcases h.2 with ⟨e1, _⟩ | ⟨g', cap, cur, e1, h1, h2, h3, h4, h5, h6⟩
  · cases e1
  · injection e1 with e1 e2 e3
    injection e1 with e1
    injection e1 with e1 _ _
    subst e1 e3
    refine ⟨by rw [List.length_set]; exact hl, .inr ⟨g, c, cur.setIfInBounds i v, rfl, h1, heap_same h2 v, h3, h4, by simpa using h5, ?_⟩⟩
    rw [Array.toList_setIfInBounds, List.take_set, h6]
section
variable {w w' : World} {S : Nat → Prop} {d : Nat} {D : Dr.D} {u : Int} {β : Nat → Nat} {vs : Nat → Value} {nv kv pv : Value} {ss : List Value} {m N : Nat}
/-- A body's bytes are others, in the same place. -/
theorem DvAt.rewritten (h : DvAt w S d D u β vs nv kv pv ss) {i : Nat} (hi : i < D.bd.length) {x : Bs} (_hx : x.length = (D.at i).data.length) (hr : w'.ownsRow 0 tU8 1 (vs i) x.length (cU8 x)) {g : Nat} (hg : (vs i).ownBlock = some g) (hw : ∀ k, k ≠ g → w'.heap[k]? = w.heap[k]?) (hs : w.heap.size ≤ w'.heap.size) :
    DvAt w' S d (D.setBody i ⟨x, (D.at i).safe⟩) u β vs nv kv pv ss := by
  obtain ⟨cur, h3⟩ := own_lt (h.row i hi) hg
  have h1 := h.bodied (w' := w') hi (b := ⟨x, (D.at i).safe⟩) (v' := vs i) ((hw _ (fun e => ne_ty (h.body i hi) h3 (by decide) e)).trans (h.body i hi)) hr (fun g hg => .inl hg) (fun k _ _ h2 => hw k fun e => h2 (e ▸ hg)) hs
  rw [show (fun j => if j = i then vs i else vs j) = vs from funext fun j => by by_cases e : j = i <;> simp [e], show (fun k => S k ∨ (vs i).ownBlock = some k) = S from funext fun k => propext ⟨fun h2 => h2.elim id fun e => h.inV i k hi e, .inl⟩] at h1
  exact h1
theorem setBody_twice {D : Dr.D} {i : Nat} {a b : Bd} : (D.setBody i a).setBody i b = D.setBody i b := by
  unfold Dr.D.setBody
  simp
set_option maxRecDepth 100000 in
set_option maxHeartbeats 4000000 in
theorem flip_any (h : Dv w S d D m N) (hm : m ≤ 140737488355328) (n : Bs) (k : Int) {A : Option Addr} {t c : Nat} {x : Bs} (hx : Rd w w.heap.size 1 A t (cU8 x)) (htc : t ≤ c) (hcm : c ≤ maxLen) (hxS : ∀ ad, 0 < t → A = some ad → ¬ S ad.block) :
    Calls Try.prog 79 #[.pointer (some ⟨d, 0, none⟩), encStr n, .int .i64 k, .slice A t c] w fun y w' => y = .returned (.int .i64 (D.flip n k x).2) ∧ Turn w w' S d (D.flip n k x).1 m N := by
  have h0 := h
  have hok := h.1.flip n k x
  have hxl : x.length = t := by simpa using hx.1
  have hcm2 : c ≤ 9223372036854775807 := by unfold maxLen at hcm; omega
  obtain ⟨ho, β, vs, nv, kv, pv, ss, h⟩ := h
  by_cases hnk : (named n && decide (k < 0)) = true
  · have he : D.flip n k x = (D, 2) := by unfold Dr.D.flip; rw [if_pos hnk]
    have hn : named n = true := ((Bool.and_eq_true _ _).mp hnk).1
    have hk : k < 0 := of_decide_eq_true ((Bool.and_eq_true _ _).mp hnk).2
    rw [he]
    have H0 := Lib.hid h0
    clear h ho he h0 hok hnk hx hxS
    go_enter Try.func79, Try.ntmps79
    go_wp2_with (go_at_call 88; refine (named_any n _).mono ?_; rintro x w1 ⟨rfl, rfl⟩; rw [hn])
    go_ret
    exact ⟨rfl, Turn.refl H0.out⟩
  · have hcase : named n = false ∨ named n = true ∧ 0 ≤ k := by
      cases hn : named n
      · exact .inl rfl
      · rw [hn] at hnk
        refine .inr ⟨rfl, ?_⟩
        by_cases hk : k < 0
        · exact absurd (by rw [decide_eq_true hk]; rfl) hnk
        · omega
    cases hl : D.look n with
    | error e =>
      have he : D.flip n k x = (D, e) := by unfold Dr.D.flip; rw [if_neg hnk, hl]
      have hne0 : ¬ e = 0 := by have := look_ne hl; simpa using this
      have hne : (e != 0) = true := by rw [bne, look_ne hl]; rfl
      rw [he]
      have H0 := Lib.hid h0
      have H := Lib.hid h
      have HL := Lib.hid hl
      clear h ho he h0 hok hnk hl hx hxS
      rcases hcase with hn | ⟨hn, hk⟩
      all_goals
        go_enter Try.func79, Try.ntmps79
        go_wp2_with (first
          | (go_at_call 88; refine (named_any n _).mono ?_; rintro x w1 ⟨rfl, rfl⟩; rw [hn])
          | (go_at_call 90; refine (find_any H.out n).mono ?_; rintro x w1 ⟨rfl, rfl⟩; rw [HL.out]; simp only [found]))
        go_ret
        exact ⟨rfl, Turn.refl H0.out⟩
    | ok i =>
      have hn := (look_ok ho hl).1
      have hk0 : 0 ≤ k := by
        rcases hcase with h | h
        · rw [hn] at h; cases h
        · exact h.2
      clear hcase
      obtain ⟨q, rfl⟩ : ∃ q : Nat, k = (q : Int) := ⟨k.toNat, by omega⟩
      have hi := (look_in ho hl).2
      have hai := ho.at_ok i
      have he : D.flip n (q : Int) x = (D.setBody i ⟨flipAt (D.at i).data q x, (D.at i).safe⟩, 0) := by unfold Dr.D.flip; rw [if_neg hnk, hl]; rfl
      obtain ⟨A1, c1, hv, hlc, hcm1⟩ := own_form (h.row i hi)
      obtain ⟨b0, b1, _, _⟩ := c_body (h.body i hi)
      rw [hv] at b0
      by_cases hq : (D.at i).data.length ≤ q
      · rw [he, flipAt_over hq, setBody_self hi]
        have hge : (q : Int) ≥ ((D.at i).data.length : Int) := by omega
        have H0 := Lib.hid h0
        have H := Lib.hid h
        have HL := Lib.hid hl
        clear h ho he h0 hok hnk hl hv hq hx hxS
        go_enter Try.func79, Try.ntmps79
        go_wp2_with (first
          | (go_at_call 88; refine (named_any n _).mono ?_; rintro x w1 ⟨rfl, rfl⟩; rw [hn])
          | (go_at_call 90; refine (find_any H.out n).mono ?_; rintro x w1 ⟨rfl, rfl⟩; rw [HL.out]; simp only [found]))
        go_ret
        exact ⟨rfl, Turn.refl H0.out⟩
      · rw [he] at hok ⊢
        have hge : ¬ (q : Int) ≥ ((D.at i).data.length : Int) := by omega
        have hqc : (q : Int) ≤ (c1 : Int) := by omega
        have hql : (q : Int) ≤ ((D.at i).data.length : Int) := by omega
        have hqm : (c1 : Int) ≤ 9223372036854775807 := by unfold maxLen at hcm1; omega
        obtain ⟨r, hr⟩ : ∃ r, min t ((D.at i).data.length - q) = r := ⟨_, rfl⟩
        have hmin : min (t : Int) (((D.at i).data.length : Int) - (q : Int)) = (r : Int) := by omega
        have hrt : (r : Int) ≤ (c : Int) := by omega
        obtain ⟨g, rfl⟩ : ∃ g, A1 = some ⟨g, 0, none⟩ := by
          have h1 := h.row i hi
          rw [hv] at h1
          rcases h1.2 with ⟨e, h2⟩ | ⟨g, _, _, e, _⟩
          · omega
          · injection e with e _ _; exact ⟨g, e⟩
        have H := Lib.hid h
        have HL := Lib.hid hl
        have HOK := Lib.hid hok
        have HV := Lib.hid hv
        have HX := Lib.hid hx
        have HXS := Lib.hid hxS
        have HXL := Lib.hid hxl
        have HR := Lib.hid hr
        have HO := Lib.hid ho
        clear h ho he h0 hok hnk hl hv hx hxS hxl hr
        go_enter Try.func79, Try.ntmps79
        go_upto_region 8 with (first
          | (go_at_call 88; refine (named_any n _).mono ?_; rintro x w1 ⟨rfl, rfl⟩; rw [hn])
          | (go_at_call 90; refine (find_any H.out n).mono ?_; rintro x w1 ⟨rfl, rfl⟩; rw [HL.out]; simp only [found]))
        go_loopw [56] (fun iv wr => ∃ j : Nat, iv = .int .i64 (j : Int) ∧ j ≤ r ∧ DvAt wr S d (D.setBody i ⟨flipAt (D.at i).data q (x.take j), (D.at i).safe⟩) (wrap64 (D.used : Int)) β vs nv kv pv ss ∧ Kept w wr S) (fun iv _ => r - (intOf iv).toNat)
        case atStart =>
          refine ⟨0, rfl, by omega, ?_, Kept.refl _ _⟩
          rw [List.take_zero, flipAt_nil, show (⟨(D.at i).data, (D.at i).safe⟩ : Bd) = D.at i from rfl, setBody_self hi]
          exact H.out
        case round =>
          obtain ⟨j, rfl, hj, hd, hkp⟩ := hrel
          by_cases hlt : j < r
          · have ht0 : 0 < t := by have := HR.out; omega
            obtain ⟨ad, rfl, hadb, hadc⟩ := HX.out.2 ht0
            have hjx : j < x.length := by have := HR.out; have := HXL.out; omega
            obtain ⟨b, hb⟩ : ∃ b, (D.at i).data[q + j]? = some b := ⟨_, List.getElem?_eq_getElem (by have := HR.out; omega)⟩
            obtain ⟨p, hp⟩ : ∃ p, x[j]? = some p := ⟨_, List.getElem?_eq_getElem hjx⟩
            have hlen : (D.setBody i ⟨flipAt (D.at i).data q (x.take j), (D.at i).safe⟩).bd.length = D.bd.length := by simp [Dr.D.setBody]
            have hrow := hd.row i (by rw [hlen]; exact hi)
            rw [at_set hi, if_pos rfl, HV.out] at hrow
            simp only [flipAt_len] at hrow
            have d0 : wr.cell? (ad.add j) = some (.int .u8 (p.toNat : Int)) := by
              rw [World.cell?_of_block (w' := wr) (w := w) (by rw [add_block]; exact hkp.block _ hadb (HXS.out ad ht0 rfl))]
              exact hadc j _ (by simp [cU8, hp])
            have d1 : wr.cell? ⟨g, q + j, none⟩ = some (.int .u8 (b.toNat : Int)) := by
              have := (Rd.of_own hrow).cell rfl (k := q + j) (u := .int .u8 (b.toNat : Int)) (by have := HR.out; omega) (by simp [cU8, flipAt_at hb])
              rw [show (⟨g, 0, none⟩ : Addr).add (q + j) = ⟨g, q + j, none⟩ by unfold Addr.add; split <;> simp <;> omega] at this
              exact this
            have d2 : wr.frozen? ⟨g, q + j, none⟩ = false := by
              obtain ⟨cur, h3⟩ := own_lt hrow rfl
              unfold World.frozen?
              rw [show wr.heap[(⟨g, q + j, none⟩ : Addr).block]? = _ from h3]
              simp
            have hlt2 : (j : Int) < (r : Int) := by omega
            have hlt3 : (j : Int) < ((D.at i).data.length : Int) - (q : Int) := by have := HR.out; omega
            have HD := Lib.hid hd
            have HK := Lib.hid hkp
            have HB := Lib.hid hb
            have HPP := Lib.hid hp
            have HROW := Lib.hid hrow
            clear hd hkp hb hp hrow hlen hjx hadc
            go_wp2
            rw [xor_u8]
            have hnew := own_store HROW.out (i := q + j) (by have := HR.out; omega) (.int .u8 ((b ^^^ p).toNat : Int))
            rw [show (cU8 (flipAt (D.at i).data q (x.take j))).set (q + j) (.int .u8 ((b ^^^ p).toNat : Int)) = cU8 (flipAt (D.at i).data q (x.take (j + 1))) by rw [flipAt_snoc HB.out HPP.out]; simp [cU8, List.map_set]] at hnew
            have hlen : (D.setBody i ⟨flipAt (D.at i).data q (x.take j), (D.at i).safe⟩).bd.length = D.bd.length := by simp [Dr.D.setBody]
            have h2 := HD.out.rewritten (w' := wr.setCell ⟨g, q + j, none⟩ (.int .u8 ((b ^^^ p).toNat : Int))) (i := i) (by rw [hlen]; exact hi) (x := flipAt (D.at i).data q (x.take (j + 1))) (by rw [at_set hi, if_pos rfl, flipAt_len, flipAt_len]) (by rw [HV.out, flipAt_len]; exact hnew) (g := g) (by rw [HV.out]; rfl) (fun k hk => Below.heap_setCell _ _ _ k hk) (by simp [World.setCell])
            rw [at_set hi, if_pos rfl, setBody_twice] at h2
            have H2 := Lib.hid h2
            have HK2 := Lib.hid (HK.out.set (p := ⟨g, q + j, none⟩) (H.out.inV i g hi (by rw [HV.out]; rfl)) (.int .u8 ((b ^^^ p).toNat : Int)))
            clear h2 hnew hlen d0 d1 d2
            go_roundw
            case rel => exact ⟨j + 1, by go_num, by omega, H2.out, HK2.out⟩
            case measure => simp [intOf]; omega
          · obtain rfl : r = j := by omega
            rw [flipAt_all (by have := HR.out; have := HXL.out; omega)] at hd
            have HD := Lib.hid hd
            have HK := Lib.hid hkp
            clear hd hkp
            go_wp2
            go_ret
            refine ⟨rfl, Turn.of HOK.out HD.out ?_ HK.out fun k hk => .inl hk⟩
            have h1 := used_set HO.out HL.out ⟨flipAt (D.at i).data q x, (D.at i).safe⟩
            rw [show (Bd.data ⟨flipAt (D.at i).data q x, (D.at i).safe⟩).length = (D.at i).data.length from flipAt_len _ _ _] at h1
            exact congrArg wrap64 (by omega)
end
end Go.Proofs.Ytelgcmcnebncmaa.Dr
