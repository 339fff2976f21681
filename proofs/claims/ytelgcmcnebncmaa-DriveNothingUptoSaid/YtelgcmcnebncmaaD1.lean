/- The walks of named, find, New and apply. -/
import Derived.Test.YtelgcmcnebncmaaDv
import Derived.Carry
import Derived.Deep.MidRow
namespace Go.Proofs.Ytelgcmcnebncmaa.Dr
open Go.RowKit Go.Proofs Go.Proofs.Ytelgcmcnebncmaa.Ring

theorem key_of {k : Bs} (hk : k.length ≤ maxLen) : keyOf Try.prog kStr (encStr k) = some (.string k) := by
  have := Go.WideMaps.keyOf_string_mk (P := Try.prog) (k := 9) Try.underlying9 (s := ⟨k.toArray⟩) (by simpa [ByteArray.size] using hk)
  simpa [encStr] using this
theorem zero_ptr (w : World) : (zeroValue 145).run Try.prog w = .ok (.pointer none) w := by
  first | exact Try.zeroValue145 w | (simp [Try.zeroValue145])
theorem named_len {n : Bs} (h : named n = true) : n.length ≤ maxLen := by
  unfold named at h
  have := of_decide_eq_true h
  unfold maxLen; omega
theorem DirAt.run_look {w : World} {mv : Value} {l : Dir} (h : DirAt Try.prog kStr w mv l) {k : Bs} (hk : k.length ≤ maxLen) : (Instr.lookup 104 mv (encStr k) false).run Try.prog w = .ok (ptr (find l k)) w :=
  h.look keyed undirU (zero_ptr w) (key_of hk)

set_option maxRecDepth 100000 in
theorem named_any (n : Bs) (w : World) : Calls Try.prog 88 #[encStr n] w fun x w' => x = .returned (.bool (named n)) ∧ w = w' := by
  unfold named
  by_cases h1 : 1 ≤ n.length
  · by_cases h2 : n.length ≤ 1024
    · have d1 : (1 : Int) ≤ (n.length : Int) := by omega
      have d2 : (n.length : Int) ≤ 1024 := by omega
      go_enter Try.func88, Try.ntmps88
      go_wp2
      go_ret
      exact ⟨by simp [h1, h2], rfl⟩
    · have d1 : (1 : Int) ≤ (n.length : Int) := by omega
      have d2 : ¬ (n.length : Int) ≤ 1024 := by omega
      go_enter Try.func88, Try.ntmps88
      go_wp2
      go_ret
      exact ⟨by simp, rfl⟩
  · have d1 : ¬ (1 : Int) ≤ (n.length : Int) := by omega
    go_enter Try.func88, Try.ntmps88
    go_wp2
    go_ret
    exact ⟨by simp, rfl⟩

section
variable {w : World} {S : Nat → Prop} {d : Nat} {D : D} {u : Int} {β : Nat → Nat} {vs : Nat → Value} {nv kv pv : Value} {ss : List Value} {m N : Nat}
/-- What 'find' tells. -/
def found (β : Nat → Nat) (r : Except Int Nat) : Value :=
  match r with
  | .ok i => .tuple #[.pointer (some ⟨β i, 0, none⟩), .int .i64 0]
  | .error e => .tuple #[.pointer none, .int .i64 e]
set_option maxRecDepth 100000 in
theorem find_any (h : DvAt w S d D u β vs nv kv pv ss) (n : Bs) : Calls Try.prog 90 #[.pointer (some ⟨d, 0, none⟩), encStr n] w fun x w' => x = .returned (found β (D.look n)) ∧ w = w' := by
  obtain ⟨_, _, c2, _, _, _⟩ := h.cells
  cases hn : named n with
  | false =>
    have hl : D.look n = .error 91 := by unfold Dr.D.look; rw [if_neg (by simp [hn])]
    rw [hl]
    go_enter Try.func90, Try.ntmps90
    go_wp2_with (go_at_call 88; refine (named_any n _).mono ?_; rintro x w1 ⟨rfl, rfl⟩; rw [hn])
    refine bodyPost_ret (v := .tuple #[.pointer none, .int .i64 91]) (by simp [results, Try.results90, go_sem]) rfl ?_
    exact ⟨rfl, rfl⟩
  | true =>
    have hk := h.now.run_look (named_len hn)
    rw [find_at] at hk
    cases hf : find D.now n with
    | none =>
      have hl : D.look n = .error 110 := by unfold Dr.D.look; rw [if_pos hn, hf]
      rw [hl]
      rw [hf] at hk
      simp only [Option.map_none, ptr] at hk
      go_enter Try.func90, Try.ntmps90
      go_wp2_with (go_at_call 88; refine (named_any n _).mono ?_; rintro x w1 ⟨rfl, rfl⟩; rw [hn])
      refine bodyPost_ret (v := .tuple #[.pointer none, .int .i64 110]) (by simp [results, Try.results90, go_sem]) rfl ?_
      exact ⟨rfl, rfl⟩
    | some i =>
      have hl : D.look n = .ok i := by unfold Dr.D.look; rw [if_pos hn, hf]
      rw [hl]
      rw [hf] at hk
      simp only [Option.map_some, ptr] at hk
      go_enter Try.func90, Try.ntmps90
      go_wp2_with (go_at_call 88; refine (named_any n _).mono ?_; rintro x w1 ⟨rfl, rfl⟩; rw [hn])
      refine bodyPost_ret (v := .tuple #[.pointer (some ⟨β i, 0, none⟩), .int .i64 0]) (by simp [results, Try.results90, go_sem]) rfl ?_
      exact ⟨rfl, rfl⟩
end
set_option maxRecDepth 100000 in
theorem find_nil (n : Bs) (w : World) : Calls Try.prog 90 #[.pointer none, encStr n] w fun x w' => x = .returned (.tuple #[.pointer none, .int .i64 1]) ∧ w = w' := by
  go_enter Try.func90, Try.ntmps90
  go_wp2
  refine bodyPost_ret (v := .tuple #[.pointer none, .int .i64 1]) (by simp [results, Try.results90, go_sem]) rfl ?_
  exact ⟨rfl, rfl⟩

/-- A drive that has just been made. -/
theorem fresh_dv (w : World) (r : Nat) {w' : World} {d a b : Nat} (hd : w'.heap[d]? = some (.cells #[.int .i64 (r : Int), .int .i64 0, .map (some a), .map (some b), .slice none 0 0] tDrive (0, 0)))
    (ha : DirAt Try.prog kStr w' (.map (some a)) []) (hb : DirAt Try.prog kStr w' (.map (some b)) []) (hab : a ≠ b) (h1 : w.heap.size ≤ d) (h2 : w.heap.size ≤ a) (h3 : w.heap.size ≤ b) :
    DvAt w' (fun k => w.heap.size ≤ k ∧ k < w'.heap.size) d (D.fresh r) (wrap64 ((D.fresh r).used : Int)) (fun _ => 0) (fun _ => .slice none 0 0) (.map (some a)) (.map (some b)) (.slice none 0 0) [] := by
  have no : ∀ (i : Nat) {p : Prop}, i < (D.fresh r).bd.length → p := fun i _ h => absurd h (Nat.not_lt_zero _)
  exact {
    head := by rw [show wrap64 ((D.fresh r).used : Int) = 0 by show wrap64 ((0 : Nat) : Int) = 0; unfold wrap64; omega]; exact hd
    now := ha
    kept := hb
    apart := fun x hx e => hab (by simp [mapBlock] at hx e; omega)
    both := by simp [mapBlock]
    inj := fun i j hi => no i hi
    body := fun i hi => no i hi
    row := fun i hi => no i hi
    own := fun i j g hi => no i hi
    pend := World.ownsRow_nil _ _ _ _
    steps := fun j c s hc => (by cases hc)
    inD := ⟨h1, (Array.getElem?_eq_some_iff.1 hd).1⟩
    inN := fun x hx => (by have := ha.lt hx; simp [mapBlock] at hx; subst hx; exact ⟨h2, this⟩)
    inK := fun x hx => (by have := hb.lt hx; simp [mapBlock] at hx; subst hx; exact ⟨h3, this⟩)
    inB := fun i hi => no i hi
    inV := fun i g hi => no i hi
    inP := fun g hg => (by cases hg)
    inS := fun s hs => (by cases hs)
    low := fun k hk => hk.2
    live := fun e => (by simp [mapBlock] at e) }
set_option maxRecDepth 100000 in
theorem new_dv (r : Nat) (hr : r ≤ 1073741824) (w : World) : Calls Try.prog 57 #[.int .i64 (r : Int)] w fun x w' => ∃ d a b, x = .returned (.pointer (some ⟨d, 0, none⟩)) ∧ w.heap.size ≤ d ∧ DvAt w' (fun k => w.heap.size ≤ k ∧ k < w'.heap.size) d (D.fresh r) (wrap64 ((D.fresh r).used : Int)) (fun _ => 0) (fun _ => .slice none 0 0) (.map (some a)) (.map (some b)) (.slice none 0 0) [] ∧ Below w.heap.size w w' := by
  have h1 : ¬ (r : Int) < 0 := by omega
  have h2 : ¬ (r : Int) > 1073741824 := by omega
  have hmk := fun w => run_makeMap (P := Try.prog) 104 w
  go_enter Try.func57, Try.ntmps57
  go_wp2
  go_ret
  have m0 := DirAt.made Try.prog w kStr
  have m1 := DirAt.made Try.prog (w.alloc (.map #[] 0)) kStr
  have hs : ((w.alloc (.map #[] 0)).alloc (.map #[] 0)).heap.size = w.heap.size + 1 + 1 := by simp
  have hd := heap_alloc_new ((w.alloc (.map #[] 0)).alloc (.map #[] 0)) (.cells #[.int .i64 (r : Int), .int .i64 0, .map (some w.heap.size), .map (some (w.heap.size + 1)), .slice none 0 0] tDrive)
  rw [hs] at hd
  refine ⟨_, rfl, ?_, ⟨_, _, fresh_dv w r (a := w.heap.size) (b := w.heap.size + 1) hd ?_ ?_ ?_ ?_ ?_ ?_⟩, ?_⟩
  · omega
  · refine m0.same fun b hb => (heap_alloc_old _ _ ?_).trans (heap_alloc_old _ _ (m0.lt hb))
    have := m0.lt hb; simp at this ⊢; omega
  · rw [show (w.alloc (.map #[] 0)).heap.size = w.heap.size + 1 by simp] at m1
    exact m1.same fun b hb => heap_alloc_old _ _ (m1.lt hb)
  · omega
  · omega
  · omega
  · omega
  · exact (((Below.refl _ _).alloc (Nat.le_refl _) _).alloc (by simp) _).alloc (by simp; omega) _
theorem new_any (r : Nat) (hr : r ≤ 1073741824) (m N : Nat) (w : World) : Calls Try.prog 57 #[.int .i64 (r : Int)] w fun x w' => ∃ d, x = .returned (.pointer (some ⟨d, 0, none⟩)) ∧ w.heap.size ≤ d ∧ Dv w' (fun k => w.heap.size ≤ k ∧ k < w'.heap.size) d (D.fresh r) m N ∧ Below w.heap.size w w' := by
  refine (new_dv r hr w).mono ?_
  rintro x w' ⟨d, a, b, rfl, h1, h2, h3⟩
  exact ⟨d, rfl, h1, ⟨D.Ok.fresh hr m N, _, _, _, _, _, _, h2⟩, h3⟩
set_option maxRecDepth 100000 in
theorem new_not (r : Int) (hr : okRoom r = false) (w : World) : Calls Try.prog 57 #[.int .i64 r] w fun x w' => x = .returned (.pointer none) ∧ w = w' := by
  have hr' : r < 0 ∨ 1073741824 < r := by
    have := of_decide_eq_false hr
    omega
  rcases hr' with h | h
  · go_enter Try.func57, Try.ntmps57
    go_wp2
    go_ret
    exact ⟨rfl, rfl⟩
  · have h0 : ¬ r < 0 := by omega
    go_enter Try.func57, Try.ntmps57
    go_wp2
    go_ret
    exact ⟨rfl, rfl⟩

/-- A change's cells, its bodies at these blocks. -/
def cS (c : List (Bs × Option Nat)) : List Value := c.flatMap fun s => [encStr s.1, ptr s.2]
theorem cS_len (c : List (Bs × Option Nat)) : (cS c).length = c.length * 2 := by
  induction c with
  | nil => rfl
  | cons s r ih =>
    unfold cS at ih ⊢
    rw [List.flatMap_cons, List.length_append, ih]
    simp only [List.length_cons, List.length_nil]; omega
theorem cS_at : ∀ (c : List (Bs × Option Nat)) (i : Nat) (s : Bs × Option Nat), c[i]? = some s → (cS c)[i * 2]? = some (encStr s.1) ∧ (cS c)[i * 2 + 1]? = some (ptr s.2)
  | [], _, _, h => by cases h
  | x :: r, 0, s, h => by injection h with h; subst h; exact ⟨rfl, rfl⟩
  | x :: r, i + 1, s, h => by
    have := cS_at r i s h
    rw [show (i + 1) * 2 = i * 2 + 1 + 1 by omega]
    exact this
theorem cStep_cS (β : Nat → Nat) (c : List (Bs × Option Nat)) : cStep β c = cS (c.map fun s => (s.1, s.2.map β)) := by
  unfold cStep cS
  rw [List.flatMap_map]
theorem apply_at (β : Nat → Nat) (c : List (Bs × Option Nat)) : ∀ l : Dir, apply (at_ β l) (c.map fun s => (s.1, s.2.map β)) = at_ β (apply l c) := by
  induction c with
  | nil => intro l; rfl
  | cons s r ih =>
    intro l
    show apply (put (at_ β l) s.1 (s.2.map β)) _ = at_ β (apply (put l s.1 s.2) r)
    rw [put_at, ih]
/-- A step read whole. -/
theorem wpList_loadStep {ops : Array Oper} {rest : List Oper} {o : Oper} {a : Act} {w : World} {Q : Exit → Act → World → Prop} (hg : o.guard = none) (x : Operand) (ho : o.op = .load tStep x) (b off : Nat) (hx : a.eval x = .pointer (some ⟨b, off, none⟩)) {nm : Bs} {p : Option Addr}
    (c0 : w.cell? ⟨b, off, none⟩ = some (.string ⟨nm.toArray⟩)) (c1 : w.cell? ⟨b, off + 1, none⟩ = some (.pointer p))
    (h : wpList Try.prog ops Q rest (a.put o.dst (.agg #[.string ⟨nm.toArray⟩, .pointer p])) w) : wpList Try.prog ops Q (o :: rest) a w := by
  refine wpList_load_mid hg tStep x ho b off hx [.string ⟨nm.toArray⟩, .pointer p] _ (fun j v hv => ?_) Try.underlying150 rfl (by kernel_rfl) h
  match j, hv with
  | 0, hv => cases hv; exact c0
  | 1, hv => cases hv; exact c1
  | j + 2, hv => cases hv
theorem own_cells {w : World} {base : Nat} {e : TypeId} {n : Nat} {v : Value} {c : List (Bs × Option Nat)} (h : w.ownsRow base e 2 v n (cS c)) (hn : c.length = n) {i : Nat} {s : Bs × Option Nat} (hs : c[i]? = some s) :
    ∃ g cap, v = .slice (some ⟨g, 0, none⟩) n cap ∧ w.cell? ⟨g, i * 2, none⟩ = some (encStr s.1) ∧ w.cell? ⟨g, i * 2 + 1, none⟩ = some (ptr s.2) := by
  have hi : i < c.length := (List.getElem?_eq_some_iff.1 hs).1
  rcases h.2 with ⟨_, h0⟩ | ⟨g, cap, cur, rfl, _, hg, _, _, _, ht⟩
  · omega
  · refine ⟨g, cap, rfl, ?_, ?_⟩
    · rw [cell_of_row w g _ _ _ _ hg, ← Array.getElem?_toList, ← List.getElem?_take_of_lt (show i * 2 < n * 2 by omega), ht]
      exact (cS_at c i s hs).1
    · rw [cell_of_row w g _ _ _ _ hg, ← Array.getElem?_toList, ← List.getElem?_take_of_lt (show i * 2 + 1 < n * 2 by omega), ht]
      exact (cS_at c i s hs).2
end Go.Proofs.Ytelgcmcnebncmaa.Dr
