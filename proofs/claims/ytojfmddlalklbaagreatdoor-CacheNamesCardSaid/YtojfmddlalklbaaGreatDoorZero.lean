/- A zero cache of texts by numbers: what is put into it. Heal of a front that is not there. -/
import Derived.Test.YtojfmddlalklbaaGreatDoorNil
import Derived.MapKept
namespace Go.Proofs.YtojfmddlalklbaaGreatDoor
open Go.RowKit Go.Proofs Go.Proofs.YtojfmddlalklbaaGreatDoor.Ring

abbrev tMap := 23
abbrev tCache := 26
abbrev tEntry := 63
abbrev tHealed := 39
/-- The cells of a cache. -/
theorem cells5 {w : World} {Z : Nat} {a b c d e : Value} {t : TypeId} {fr : Nat × Nat} (h : w.heap[Z]? = some (.cells #[a, b, c, d, e] t fr)) : w.cell? ⟨Z, 0, none⟩ = some a ∧ w.cell? ⟨Z, 1, none⟩ = some b ∧ w.cell? ⟨Z, 2, none⟩ = some c ∧ w.cell? ⟨Z, 3, none⟩ = some d ∧ w.cell? ⟨Z, 4, none⟩ = some e :=
  ⟨by rw [cell_of_row w Z _ _ _ _ h]; rfl, by rw [cell_of_row w Z _ _ _ _ h]; rfl, by rw [cell_of_row w Z _ _ _ _ h]; rfl, by rw [cell_of_row w Z _ _ _ _ h]; rfl, by rw [cell_of_row w Z _ _ _ _ h]; rfl⟩
theorem unfrozen {w : World} {g : Nat} {cs : Array Value} {t : TypeId} (h : w.heap[g]? = some (.cells cs t (0, 0))) (k : Nat) : w.frozen? ⟨g, k, none⟩ = false := by
  unfold World.frozen?; rw [show w.heap[(⟨g, k, none⟩ : Addr).block]? = _ from h]; simp
theorem look_none (k : Value) (w : World) (hk : ∃ s, k = .string s) : (Instr.lookup tMap (.map none) k false).run Tryz.prog w = .ok (.pointer none) w := by
  obtain ⟨s, rfl⟩ := hk
  kernel_rfl
theorem put_first (b : Nat) (s : ByteArray) (v : Value) (w : World) (hb : w.heap[b]? = some (.map #[] 0)) :
    (Instr.mapUpdate tMap (.map (some b)) (.string s) v).run Tryz.prog w = .ok () { w with heap := w.heap.setIfInBounds b (.map #[⟨.string s, v, 0⟩] 1) } := by
  have hk : MapKept.IsKey .string (.string s) := trivial
  simp [Instr.mapUpdate, run_underlying Tryz.underlying23, MapKept.run_getObj_map hb, MapKept.run_checkKey Tryz.underlying9 hk, MapKept.run_findKey Tryz.underlying9 (show Instr.findNow .string (.string s) [] 0 = some none from rfl), MapKept.run_setObj_map _ hb, Result.andThen]
section
variable {w : World} {Z : Nat}
set_option maxRecDepth 100000 in
theorem idrop_zero (h : w.heap[Z]? = some (.cells #[.int .i64 0, .int .i64 0, .map none, .pointer none, .pointer none] tCache (0, 0))) (s : ByteArray) : Calls Tryz.prog 10 #[.pointer (some ⟨Z, 0, none⟩), .string s] w fun x w' => x = .returned (.bool false) ∧ w = w' := by
  obtain ⟨_, _, c2, _, _⟩ := cells5 h
  have hl := look_none (.string s) w ⟨s, rfl⟩
  clear h
  go_enter Tryz.func10, Tryz.ntmps10
  go_wp2
  go_ret
  exact ⟨rfl, rfl⟩
set_option maxRecDepth 100000 in
theorem iput_no (h : w.heap[Z]? = some (.cells #[.int .i64 0, .int .i64 0, .map none, .pointer none, .pointer none] tCache (0, 0))) (s : ByteArray) (v : Value) (n : Int) (hn : 0 < n) : Calls Tryz.prog 9 #[.pointer (some ⟨Z, 0, none⟩), .string s, v, .int .i64 n] w fun x w' => x = .returned (.bool false) ∧ w = w' := by
  obtain ⟨c0, _, _, _, _⟩ := cells5 h
  have H := Lib.hid h
  have h1 : ¬ n < 0 := by omega
  have h2 : n > 0 := hn
  clear h hn
  go_enter Tryz.func9, Tryz.ntmps9
  go_wp2_with (go_at_call 10; refine (idrop_zero H.out s).mono ?_; rintro x w1 ⟨rfl, rfl⟩)
  go_ret
  exact ⟨rfl, rfl⟩
set_option maxRecDepth 100000 in
theorem lead_first {E : Nat} {k v n : Value} (h : w.heap[Z]? = some (.cells #[.int .i64 0, .int .i64 0, v, .pointer none, .pointer none] tCache (0, 0))) (he : w.heap[E]? = some (.cells #[k, n, .int .i64 0, .pointer none, .pointer none] tEntry (0, 0))) (hne : E ≠ Z) :
    Calls Tryz.prog 22 #[.pointer (some ⟨Z, 0, none⟩), .pointer (some ⟨E, 0, none⟩)] w fun x w' => x = .returned (.tuple #[]) ∧ w'.heap[Z]? = some (.cells #[.int .i64 0, .int .i64 0, v, .pointer (some ⟨E, 0, none⟩), .pointer (some ⟨E, 0, none⟩)] tCache (0, 0)) ∧
      w'.heap[E]? = some (.cells #[k, n, .int .i64 0, .pointer none, .pointer none] tEntry (0, 0)) ∧ Kept w w' (fun q => q = Z ∨ q = E) := by
  obtain ⟨_, _, _, c3, c4⟩ := cells5 h
  obtain ⟨_, _, _, _, d4⟩ := cells5 he
  have f3 := unfrozen h 3
  have f4 := unfrozen h 4
  have g4 := unfrozen he 4
  have hne2 : ¬ Z = E := fun e => hne e.symm
  have H := Lib.hid h
  have HE := Lib.hid he
  clear h he
  go_enter Tryz.func22, Tryz.ntmps22
  go_wp2
  refine bodyPost_end (v := .tuple #[]) (by simp [results, Tryz.results22, go_sem]) rfl ?_
  have a1 := heap_same HE.out (i := 4) (.pointer none)
  have a2 : (w.setCell ⟨E, 4, none⟩ (.pointer none)).heap[Z]? = _ := (Below.heap_setCell w ⟨E, 4, none⟩ (.pointer none) Z hne2).trans H.out
  have a3 := heap_same a2 (i := 4) (.pointer (some ⟨E, 0, none⟩))
  have a4 := heap_same a3 (i := 3) (.pointer (some ⟨E, 0, none⟩))
  have b1 := (Below.heap_setCell ((w.setCell ⟨E, 4, none⟩ (.pointer none)).setCell ⟨Z, 4, none⟩ (.pointer (some ⟨E, 0, none⟩))) ⟨Z, 3, none⟩ (.pointer (some ⟨E, 0, none⟩)) E hne).trans ((Below.heap_setCell (w.setCell ⟨E, 4, none⟩ (.pointer none)) ⟨Z, 4, none⟩ (.pointer (some ⟨E, 0, none⟩)) E hne).trans a1)
  exact ⟨rfl, a4, b1, (((Kept.refl w (fun q => q = Z ∨ q = E)).set (p := ⟨E, 4, none⟩) (.inr rfl) _).set (p := ⟨Z, 4, none⟩) (.inl rfl) _).set (p := ⟨Z, 3, none⟩) (.inl rfl) _⟩
set_option maxRecDepth 100000 in
set_option maxHeartbeats 4000000 in
theorem iput_yes (h : w.heap[Z]? = some (.cells #[.int .i64 0, .int .i64 0, .map none, .pointer none, .pointer none] tCache (0, 0))) (s : ByteArray) (v : Int) : Calls Tryz.prog 9 #[.pointer (some ⟨Z, 0, none⟩), .string s, .int .i64 v, .int .i64 0] w fun x w' => ∃ M E, x = .returned (.bool true) ∧
      w'.heap[Z]? = some (.cells #[.int .i64 0, .int .i64 0, M, .pointer (some ⟨E, 0, none⟩), .pointer (some ⟨E, 0, none⟩)] tCache (0, 0)) ∧ w'.heap[E]? = some (.cells #[.string s, .int .i64 v, .int .i64 0, .pointer none, .pointer none] tEntry (0, 0)) ∧ Kept w w' (fun q => q = Z) := by
  obtain ⟨c0, c1, c2, _, _⟩ := cells5 h
  have f1 := unfrozen h 1
  have f2 := unfrozen h 2
  have hZ : Z < w.heap.size := (Array.getElem?_eq_some_iff.1 h).1
  have H := Lib.hid h
  have hq := fun w => run_eql_map_nil (P := Tryz.prog) w tMap 9 24 none Tryz.underlying23
  simp only [Option.isNone_none] at hq
  have hmk := fun w => run_makeMap (P := Tryz.prog) tMap w
  clear h
  obtain ⟨V, hV⟩ : ∃ V, w.heap.size = V := ⟨_, rfl⟩
  have hs1 : (w.setCell ⟨Z, 2, none⟩ (.map (some V))).heap.size = V := by rw [← hV]; simp [World.setCell]
  have hM : (((w.setCell ⟨Z, 2, none⟩ (.map (some V))).alloc (.map #[] 0)).alloc (.cells #[.string s, .int .i64 v, .int .i64 0, .pointer none, .pointer none] tEntry)).heap[V]? = some (.map #[] 0) := by
    refine (heap_alloc_old _ _ (by simp [hs1])).trans ?_
    have := heap_alloc_new (w.setCell ⟨Z, 2, none⟩ (.map (some V))) (.map #[] 0)
    rw [hs1] at this
    exact this
  have hE : (((w.setCell ⟨Z, 2, none⟩ (.map (some V))).alloc (.map #[] 0)).alloc (.cells #[.string s, .int .i64 v, .int .i64 0, .pointer none, .pointer none] tEntry)).heap[V + 1]? = some (.cells #[.string s, .int .i64 v, .int .i64 0, .pointer none, .pointer none] tEntry (0, 0)) := by
    have := heap_alloc_new ((w.setCell ⟨Z, 2, none⟩ (.map (some V))).alloc (.map #[] 0)) (.cells #[.string s, .int .i64 v, .int .i64 0, .pointer none, .pointer none] tEntry)
    rw [show ((w.setCell ⟨Z, 2, none⟩ (.map (some V))).alloc (.map #[] 0)).heap.size = V + 1 by simp [hs1]] at this
    exact this
  have hZ2 : (((w.setCell ⟨Z, 2, none⟩ (.map (some V))).alloc (.map #[] 0)).alloc (.cells #[.string s, .int .i64 v, .int .i64 0, .pointer none, .pointer none] tEntry)).heap[Z]? = some (.cells #[.int .i64 0, .int .i64 0, .map (some V), .pointer none, .pointer none] tCache (0, 0)) :=
    (heap_alloc_old _ _ (by simp [hs1]; omega)).trans ((heap_alloc_old _ _ (by rw [hs1]; omega)).trans (heap_same H.out (i := 2) (.map (some V))))
  have hk2 : Kept w (((w.setCell ⟨Z, 2, none⟩ (.map (some V))).alloc (.map #[] 0)).alloc (.cells #[.string s, .int .i64 v, .int .i64 0, .pointer none, .pointer none] tEntry)) (fun q => q = Z) :=
    ((Kept.refl w (fun q => q = Z)).set (p := ⟨Z, 2, none⟩) rfl (.map (some V))).below (((Below.refl _ _).alloc (Nat.le_refl _) _).alloc (by simp) _)
  obtain ⟨w2, hw2⟩ : ∃ w2, ((w.setCell ⟨Z, 2, none⟩ (.map (some V))).alloc (.map #[] 0)).alloc (.cells #[.string s, .int .i64 v, .int .i64 0, .pointer none, .pointer none] tEntry) = w2 := ⟨_, rfl⟩
  rw [hw2] at hM hE hZ2 hk2
  have hput := put_first V s (.pointer (some ⟨V + 1, 0, none⟩)) w2.drew hM
  obtain ⟨w3, hw3⟩ : ∃ w3 : World, ({ w2.drew with heap := w2.drew.heap.setIfInBounds V (.map #[⟨.string s, .pointer (some ⟨V + 1, 0, none⟩), 0⟩] 1) } : World) = w3 := ⟨_, rfl⟩
  rw [hw3] at hput
  have HW3 := Lib.hid hw3
  clear hw3
  have HV := Lib.hid hV
  have HW2 := Lib.hid hw2
  have HZ2 := Lib.hid hZ2
  have HE := Lib.hid hE
  have HK2 := Lib.hid hk2
  clear hs1 hM hE hZ2 hk2 hV hw2
  go_enter Tryz.func9, Tryz.ntmps9
  go_wp2_with (go_at_call 10; refine (idrop_zero H.out s).mono ?_; rintro x w1 ⟨rfl, rfl⟩)
  refine wp_loop_rounds 1 ?_
  rw [rounds_succ]
  go_wp2
  go_region
  go_upto_region 11 with (fail)
  rw [HV.out, HW2.out]
  have e2 : w2.drew.cell? ⟨Z, 2, none⟩ = some (.map (some V)) := (cells5 HZ2.out).2.2.1
  go_upto_region 12 with (fail)
  have hne : Z ≠ V := by have := HV.out; omega
  have hZ3 : w3.heap[Z]? = some (.cells #[.int .i64 0, .int .i64 0, .map (some V), .pointer none, .pointer none] tCache (0, 0)) := by
    rw [← HW3.out]
    show (w2.heap.setIfInBounds V _)[Z]? = _
    rw [Array.getElem?_setIfInBounds_ne (fun e => hne e.symm)]
    exact HZ2.out
  have hE3 : w3.heap[V + 1]? = some (.cells #[.string s, .int .i64 v, .int .i64 0, .pointer none, .pointer none] tEntry (0, 0)) := by
    rw [← HW3.out]
    show (w2.heap.setIfInBounds V _)[V + 1]? = _
    rw [Array.getElem?_setIfInBounds_ne (by omega)]
    exact HE.out
  have hk3 : Kept w w3 (fun q => q = Z) := by
    refine HK2.out.trans (T := fun q => q = V) ?_ fun q hq => .inr (by subst hq; exact Nat.le_of_eq HV.out)
    rw [← HW3.out]
    refine ⟨rfl, rfl, rfl, ?_, fun q _ hq => ?_⟩
    · show w2.heap.size ≤ (w2.heap.setIfInBounds V _).size
      rw [Array.size_setIfInBounds]
      exact Nat.le_refl _
    · show (w2.heap.setIfInBounds V _)[q]? = _
      rw [Array.getElem?_setIfInBounds_ne (fun e => hq e.symm)]
  have d1 := (cells5 hZ3).2.1
  have g1 := unfrozen hZ3 1
  have hZ4 := heap_same hZ3 (i := 1) (.int .i64 0)
  have hE4 : (w3.setCell ⟨Z, 1, none⟩ (.int .i64 0)).heap[V + 1]? = _ := (Below.heap_setCell w3 ⟨Z, 1, none⟩ (.int .i64 0) (V + 1) (fun e => by have h2 : Z = V + 1 := e.symm; have := HV.out; omega)).trans hE3
  have HZ4 := Lib.hid hZ4
  have HE4 := Lib.hid hE4
  have HK4 := Lib.hid (hk3.set (p := ⟨Z, 1, none⟩) rfl (.int .i64 0))
  have hne2 : V + 1 ≠ Z := by have := HV.out; omega
  have HNE := Lib.hid hne2
  clear hZ3 hE3 hk3 hZ4 hE4 e2 hput hne hne2
  go_wp2_with (go_at_call 22; refine (lead_first HZ4.out HE4.out HNE.out).mono ?_; rintro x w5 ⟨rfl, h5, h6, h7⟩; have H5 := Lib.hid h5; have H6 := Lib.hid h6; have H7 := Lib.hid h7; clear h5 h6 h7)
  go_ret
  exact ⟨_, V + 1, rfl, H5.out, H6.out, HK4.out.trans H7.out fun q hq => hq.elim .inl fun e => .inr (by have := HV.out; omega)⟩
theorem infoStr : (Tryz.prog.info? 9).map (fun i => (i.zero, i.size, i.bytes)) = some (some (.string ⟨#[]⟩), 1, 16) := by kernel_rfl
set_option maxRecDepth 100000 in
set_option maxHeartbeats 4000000 in
theorem ikeys_one {E : Nat} {s : ByteArray} (c3 : w.cell? ⟨Z, 3, none⟩ = some (.pointer (some ⟨E, 0, none⟩))) (d0 : w.cell? ⟨E, 0, none⟩ = some (.string s)) (d4 : w.cell? ⟨E, 4, none⟩ = some (.pointer none)) :
    Calls Tryz.prog 11 #[.pointer (some ⟨Z, 0, none⟩)] w fun x w' => ∃ g c, x = .returned (.slice (some ⟨g, 0, none⟩) 1 c) ∧ w'.cell? ⟨g, 0, none⟩ = some (.string s) ∧ Below w.heap.size w w' := by
  obtain ⟨i0, hi, hz0, hz1, hz2⟩ := info_parts infoStr
  have hEl := block_of_cell d4
  go_enter Tryz.func11, Tryz.ntmps11
  go_wp2
  refine wp_loop_rounds 2 ?_
  rw [rounds_succ]
  go_wp2_with (at_builtin; refine wpList_append_own _ rfl (.tmp 17) (.tmp 22) 46 rfl w.heap.size 9 i0 (.string ⟨#[]⟩) 1 16 Tryz.underlying46 hi hz0 hz1 hz2 rfl (by decide) (.slice none 0 0) 0 [] rfl (World.ownsRow_nil _ _ _ _) ⟨w.heap.size, 0, none⟩ 1 1 [.string s] rfl rfl (new_cells _ _ _) (by simp [Value.oneCell']) (by unfold maxLen; omega) (by omega) (by simp) ?_; intro v w1 hrow hg _; have hb1 : Below w.heap.size w w1 := ((Below.refl _ _).alloc (Nat.le_refl _) _).grown hg (by simp) (fun g hg => by cases hg); have e4 := (hb1.cell (p := ⟨E, 4, none⟩) hEl).trans d4; have HROW := Lib.hid hrow; have HB1 := Lib.hid hb1; clear hrow hg hb1)
  rw [rounds_succ]
  obtain ⟨A, c, rfl, _, _⟩ := own_form HROW.out
  go_wp2
  go_ret
  have hrow := HROW.out
  rcases hrow.2 with ⟨e, _⟩ | ⟨g, c', cur, e, _⟩
  · cases e
  · injection e with e1 e2 e3
    subst e1
    refine ⟨g, c, rfl, ?_, HB1.out⟩
    exact (Rd.of_own hrow).cell rfl (k := 0) (by omega) rfl
set_option maxRecDepth 100000 in
theorem fheal_nil (w : World) : Calls Tryz.prog 7 #[.pointer none] w fun x w' => x = .returned (.tuple #[.agg #[.int .i64 0, .int .i64 0, .int .i64 0, .int .i64 0], .int .i64 1]) ∧ Below w.heap.size w w' := by
  go_enter Tryz.func7, Tryz.ntmps7
  go_wp2
  refine bodyPost_ret (v := .tuple #[.agg #[.int .i64 0, .int .i64 0, .int .i64 0, .int .i64 0], .int .i64 1]) (by simp [results, Tryz.results7, go_sem]) rfl ?_
  exact ⟨rfl, (Below.refl _ _).alloc (Nat.le_refl _) _⟩
end
end Go.Proofs.YtojfmddlalklbaaGreatDoor
