/- XTwin: merged by tools/merge.py. -/
import Derived.Test.YtelgcmcnebncmaaQ25
namespace Go.Proofs.Ytelgcmcnebncmaa.Dr
set_option linter.unusedVariables false
open Go.RowKit Go.Proofs Go.Deep Go.Proofs.Ytelgcmcnebncmaa.Ring

theorem wp_append_rd {P : Program} {w : World} {o : Oper} {a : Act} {K : Act → World → Prop} {Q : Exit → Act → World → Prop} (s x : Operand) (t : TypeId)
    (ho : o.op = .call { callee := .builtin .append, args := #[s, x], argTypes := #[t, t] })
    (base : Nat) (e : TypeId) (i : TypeInfo) (z : Value) (size bytes : Nat) (ht : P.underlying t = some (.slice e)) (hi : P.info? e = some i) (hz : i.zero = some z)
    (hsize : i.size = size) (hby : i.bytes = bytes) (hzs : z.cells.size = size) (hsz : 0 < size)
    (v : Value) (n : Nat) (xs : List Value) (hs : a.eval s = v) (hown : w.ownsRow base e size v n xs)
    (B : Nat) (A : Option Addr) (m c : Nat) (news : List Value) (hx : a.eval x = .slice A m c) (hr : Rd w B size A m news) (hc : A = none → c = 0) (h1 : ∀ u ∈ news, u.oneCell' = true)
    (h63 : n + m ≤ maxLen) (hbytes : (n + m) * bytes ≤ 140737488355328) (hbase : base ≤ w.heap.size)
    (h : ∀ v' w', w'.ownsRow base e size v' (n + m) (xs ++ news) → w.grownBy w' v.ownBlock → K (a.put o.dst v') w') : o.wp P a w K Q := by
  cases A with
  | none =>
    have h0 : m = 0 := by
      rcases Nat.eq_zero_or_pos m with h0 | h0
      · exact h0
      · obtain ⟨ad, e, _⟩ := hr.2 h0; cases e
    subst h0
    have hn : news = [] := List.eq_nil_of_length_eq_zero (by simpa using hr.1)
    subst hn
    have hc0 := hc rfl
    subst hc0
    have hrun := run_append_owned_none (P := P) (w := w) base t o.type e i size ht hi v n xs hown
    unfold Oper.wp
    simp [execOp, ho, resolve, invoke, builtin, hs, hx, hrun, Result.andThen]
    exact h v w (by simpa using hown) (World.grownBy.refl w _)
  | some ad =>
    refine wp_append_own w s x t ho base e i z size bytes ht hi hz hsize hby hzs hsz v n xs hs hown ad m c news hx hr.1 ?_ h1 h63 hbytes hbase fun v' w' h2 h3 _ => h v' w' h2 h3
    intro j u hu
    rcases Nat.eq_zero_or_pos m with h0 | h0
    · subst h0
      have hn : news = [] := List.eq_nil_of_length_eq_zero (by simpa using hr.1)
      subst hn
      simp at hu
    · obtain ⟨ad', e, _, hcell⟩ := hr.2 h0
      obtain rfl : ad = ad' := by injection e
      exact hcell j u hu
theorem grow_other {w w' : World} {b b' : Nat} {e e' : TypeId} {n n' : Nat} {v v' : Value} {xs xs' : List Value} (h : w.ownsRow b e 1 v n xs) (h' : w.ownsRow b' e' 1 v' n' xs') (hne : e ≠ e') (hg : w.grownBy w' v'.ownBlock) : w'.ownsRow b e 1 v n xs :=
  own_same h fun g hgb => by
    obtain ⟨cur, hcur⟩ := own_lt h hgb
    exact hg.block g (Array.getElem?_eq_some_iff.1 hcur).1 (fun e2 => own_types h h' hne hgb e2.symm)
section
variable {P : Program} {md : Region.Mode} {Q : Exit → Act → World → Prop} {S : World → Prop} {late : List Nat}
/-- Two operations either of which may come up. -/
theorem forkP {l : List Oper} {i k : Nat} {o o' : Oper} {fuel : Nat} {listed : Array Bool} {a : Act} {w : World} (hi : l[i]? = some o) (hk : l[k]? = some o') (hg : o.guard = none) (hg' : o'.guard = none) (hr : Region.ready md l.toArray listed = [i, k])
    (h : ∀ K : Act → World → Prop, (∀ a w, S w → wpAnyP P md l.toArray Q S late fuel (listed.setIfInBounds i true) a w → K a w) → o.wp P a w K Q)
    (h' : ∀ K : Act → World → Prop, (∀ a w, S w → wpAnyP P md l.toArray Q S late fuel (listed.setIfInBounds k true) a w → K a w) → o'.wp P a w K Q) :
    wpAnyP P md l.toArray Q S late (fuel + 1) listed a w := by
  refine ⟨fun h0 => (by rw [hr] at h0; cases h0), fun j hj => ?_⟩
  rw [hr] at hj
  have hj2 : j = i ∨ j = k := by simpa using hj
  rcases hj2 with rfl | rfl
  · have h1 := h (fun a' w' => (Early late (listed.setIfInBounds j true) → S w') ∧ wpAnyP P md l.toArray Q S late fuel (listed.setIfInBounds j true) a' w') (fun _ _ hs h => ⟨fun _ => hs, h⟩)
    have hi' : l.toArray[j]? = some o := by simpa using hi
    unfold wpOp
    simp only [hi']
    split
    · exact .inl h1
    · rename_i hw; simp [Region.wanted, hg] at hw
  · have h1 := h' (fun a' w' => (Early late (listed.setIfInBounds j true) → S w') ∧ wpAnyP P md l.toArray Q S late fuel (listed.setIfInBounds j true) a' w') (fun _ _ hs h => ⟨fun _ => hs, h⟩)
    have hi' : l.toArray[j]? = some o' := by simpa using hk
    unfold wpOp
    simp only [hi']
    split
    · exact .inl h1
    · rename_i hw; simp [Region.wanted, hg'] at hw
end
theorem row_past {w w' : World} {V B : Nat} {e : TypeId} {n : Nat} {v : Value} {xs : List Value} (hk : Kept w w' (fun k => k = V + 1)) (h : w.ownsRow B e 1 v n xs) (hB : V + 2 ≤ B) : w'.ownsRow V e 1 v n xs :=
  own_base (own_same h fun g hg => by
    obtain ⟨cur, hcur⟩ := own_lt h hg
    exact hk.block g (Array.getElem?_eq_some_iff.1 hcur).1 (fun e => by have := own_ge h hg; omega)) (by omega)
/-- An act's twin. -/
def Twin (w0 w : World) (a : Ac) (n nd nu : Nat) (v : Value) : Prop := ∃ A c Ad cd Au cu, v = actV a A n c Ad nd cd Au nu cu ∧ w.ownsRow w0.heap.size tU8 1 (.slice A n c) n (cU8 a.data) ∧ w.ownsRow w0.heap.size tBool 1 (.slice Ad nd cd) nd (cBool a.dirs) ∧ w.ownsRow w0.heap.size tInt 1 (.slice Au nu cu) nu (cInt a.cuts) ∧ Below w0.heap.size w0 w
set_option maxRecDepth 100000 in
set_option maxHeartbeats 4000000 in
theorem twin_any {w : World} {x : Av} (hx : x.In w w.heap.size) : Calls Try.prog 49 #[actV x.a x.A x.n x.c x.Ad x.nd x.cd x.Au x.nu x.cu] w fun y w' => ∃ v, y = .returned v ∧ Twin w w' x.a x.n x.nd x.nu v := by
  obtain ⟨a, A, n, c, Ad, nd, cd, Au, nu, cu⟩ := x
  obtain ⟨i0, hi0, hz0, hz1, hz2⟩ := info_parts infoU8
  obtain ⟨j0, hj0, hy0, hy1, hy2⟩ := info_parts infoBool
  obtain ⟨k0, hk0, hx0, hx1, hx2⟩ := info_parts infoInt
  obtain ⟨V, hV⟩ : ∃ V, w.heap.size = V := ⟨_, rfl⟩
  have hn := hx.n_le
  have hnd := hx.nd_le
  have hnu := hx.nu_le
  dsimp only at hn hnd hnu ⊢
  have HX := Lib.hid hx
  have HV := Lib.hid hV
  clear hx hV
  go_enter Try.func49, Try.ntmps49
  go_upto_region 1 with (fail)
  obtain ⟨w1, hw1⟩ : ∃ w1, (w.alloc (.cells #[.int .i64 a.kind, encStr a.name, encStr a.dst, .int .i64 a.n, .slice A n c, .slice Ad nd cd, .slice Au nu cu] tAct)).alloc (.cells #[.int .i64 0, .string ⟨#[]⟩, .string ⟨#[]⟩, .int .i64 0, .slice none 0 0, .slice none 0 0, .slice none 0 0] tAct) = w1 := ⟨_, rfl⟩
  have hs1 : w1.heap.size = V + 2 := by rw [← hw1, ← HV.out]; simp
  have hA1 : w1.heap[V]? = some (.cells #[.int .i64 a.kind, encStr a.name, encStr a.dst, .int .i64 a.n, .slice A n c, .slice Ad nd cd, .slice Au nu cu] tAct (0, 0)) := by
    rw [← hw1, ← HV.out]
    exact (heap_alloc_old _ _ (by simp)).trans (heap_alloc_new _ _)
  have hR1 : w1.heap[V + 1]? = some (.cells #[.int .i64 0, .string ⟨#[]⟩, .string ⟨#[]⟩, .int .i64 0, .slice none 0 0, .slice none 0 0, .slice none 0 0] tAct (0, 0)) := by
    rw [← hw1, ← HV.out]
    exact heap_alloc2_new _ _ _
  have hb1 : Below V w w1 := by
    rw [← hw1, ← HV.out]
    exact ((Below.refl _ _).alloc (Nat.le_refl _) _).alloc (by simp) _
  rw [hw1, HV.out]
  have hx1 : ActIn w1 V a A n c Ad nd cd Au nu cu := ActIn.below (by rw [← HV.out]; exact HX.out) hb1
  have hrd : Rd (w1.alloc (.cells #[] tU8)) V 1 A n (cU8 a.data) := hx1.data.below ((Below.refl V w1).alloc (by omega) _)
  have f4 : (w1.alloc (.cells #[] tU8)).cell? ⟨V, 4, none⟩ = some (.slice A n c) := (World.cell?_alloc_lt w1 _ _ (by show V < _; omega)).trans (by rw [cell_of_row w1 V _ _ _ _ hA1]; rfl)
  have HX1 := Lib.hid hx1
  have HRD := Lib.hid hrd
  have HS1 := Lib.hid hs1
  have HA1 := Lib.hid hA1
  have HR1 := Lib.hid hR1
  have HB1 := Lib.hid hb1
  clear hw1 hs1 hA1 hR1 hb1 hx1 hrd HX
  go_upto_region 2 with (first
    | (at_builtin; refine wpList_append_rd _ rfl (.tmp 3) (.tmp 5) 35 rfl (V + 2) tU8 i0 (.int .u8 0) 1 1 Try.underlying35 hi0 hz0 hz1 hz2 rfl (by decide) (.slice (some ⟨w1.heap.size, 0, none⟩) 0 0) 0 [] rfl (own_new w1 (by have := HS1.out; omega) tU8 1 0 [] rfl (Nat.zero_le _)) V A n c (cU8 a.data) rfl HRD.out HX1.out.nil (cU8_one _) (by unfold maxLen; omega) (by omega) (by have := HS1.out; simp; omega) ?_; intro v2 w2 hrow2 hg2; have hb2 : Below (V + 2) w1 w2 := ((Below.refl (V + 2) w1).alloc (by have := HS1.out; omega) _).grown hg2 (by have := HS1.out; simp; omega) (fun j hj => by have := HS1.out; simp [Value.ownBlock] at hj; omega); rw [Nat.zero_add, List.nil_append] at hrow2; obtain ⟨A2, c2, rfl, _, _⟩ := own_form hrow2; have hA2 := (hb2.block V (by omega)).trans HA1.out; have f4 : w2.cell? ⟨V, 4, none⟩ = some (.slice A n c) := (by rw [cell_of_row w2 V _ _ _ _ hA2]; rfl); have z4 := unfrozen hA2 4; have HROW2 := Lib.hid hrow2; have HB2 := Lib.hid hb2; have HA2 := Lib.hid hA2; clear hrow2 hg2 hb2 hA2))
  have hA3 := heap_same HA2.out (i := 4) (.slice A2 n c2)
  have hb3 : Below V w (w2.setCell ⟨V, 4, none⟩ (.slice A2 n c2)) := (HB1.out.trans (HB2.out.mono (by omega))).setCell (by show V ≤ V; omega) _
  have hrow3 : (w2.setCell ⟨V, 4, none⟩ (.slice A2 n c2)).ownsRow (V + 2) tU8 1 (.slice A2 n c2) n (cU8 a.data) := own_same HROW2.out fun g hg => Below.heap_setCell w2 ⟨V, 4, none⟩ _ g (fun e => by have := own_ge HROW2.out hg; have e2 : g = V := e; omega)
  have hR3 : (w2.setCell ⟨V, 4, none⟩ (.slice A2 n c2)).heap[V + 1]? = _ := (Below.heap_setCell w2 ⟨V, 4, none⟩ _ (V + 1) (by show V + 1 ≠ V; omega)).trans ((HB2.out.block (V + 1) (by omega)).trans HR1.out)
  have hs3 : V + 2 ≤ (w2.setCell ⟨V, 4, none⟩ (.slice A2 n c2)).heap.size := by simp [World.setCell]; have := HB2.out.size; have := HS1.out; omega
  have hb23 : Below V w1 (w2.setCell ⟨V, 4, none⟩ (.slice A2 n c2)) := (HB2.out.mono (by omega)).setCell (by show V ≤ V; omega) _
  obtain ⟨w3, hw3⟩ : ∃ w3, w2.setCell ⟨V, 4, none⟩ (.slice A2 n c2) = w3 := ⟨_, rfl⟩
  rw [hw3] at hA3 hb3 hrow3 hR3 hs3 hb23 ⊢
  have hd3 := HX1.out.dirs.below hb23
  have hu3 := HX1.out.cuts.below hb23
  have c5 : ∀ w' : World, Below w3.heap.size w3 w' → w'.cell? ⟨V, 5, none⟩ = some (.slice Ad nd cd) ∧ w'.cell? ⟨V, 6, none⟩ = some (.slice Au nu cu) := fun w' hb => by
    have h := (hb.block V (by omega)).trans hA3
    exact ⟨by rw [cell_of_row w' V _ _ _ _ h]; rfl, by rw [cell_of_row w' V _ _ _ _ h]; rfl⟩
  have z5 : ∀ w' : World, Below w3.heap.size w3 w' → ∀ k, w'.frozen? ⟨V, k, none⟩ = false := fun w' hb k => unfrozen ((hb.block V (by omega)).trans hA3) k
  have hb0 : Below w3.heap.size w3 w3.drew := (Below.refl _ _).drew
  have hend : ∀ (W : World) (Xd Xu : Option Addr) (ed eu : Nat), Below w3.heap.size w3 W → W.ownsRow w3.heap.size tBool 1 (.slice Xd nd ed) nd (cBool a.dirs) → W.ownsRow w3.heap.size tInt 1 (.slice Xu nu eu) nu (cInt a.cuts) →
      ∃ wf, (W.setCell ⟨V, 5, none⟩ (.slice Xd nd ed)).setCell ⟨V, 6, none⟩ (.slice Xu nu eu) = wf ∧ wf.heap[V]? = some (.cells #[.int .i64 a.kind, encStr a.name, encStr a.dst, .int .i64 a.n, .slice A2 n c2, .slice Xd nd ed, .slice Xu nu eu] tAct (0, 0)) ∧ wf.heap[V + 1]? = some (.cells #[.int .i64 0, .string ⟨#[]⟩, .string ⟨#[]⟩, .int .i64 0, .slice none 0 0, .slice none 0 0, .slice none 0 0] tAct (0, 0)) ∧
        wf.ownsRow (V + 2) tU8 1 (.slice A2 n c2) n (cU8 a.data) ∧ wf.ownsRow w3.heap.size tBool 1 (.slice Xd nd ed) nd (cBool a.dirs) ∧ wf.ownsRow w3.heap.size tInt 1 (.slice Xu nu eu) nu (cInt a.cuts) ∧ Below V w wf := by
    intro W Xd Xu ed eu hb hD hU
    have hw : ∀ k, k ≠ V → ((W.setCell ⟨V, 5, none⟩ (.slice Xd nd ed)).setCell ⟨V, 6, none⟩ (.slice Xu nu eu)).heap[k]? = W.heap[k]? := fun k hk => (Below.heap_setCell _ _ _ k hk).trans (Below.heap_setCell _ _ _ k hk)
    refine ⟨_, rfl, heap_same (heap_same ((hb.block V (by omega)).trans hA3) (i := 5) (.slice Xd nd ed)) (i := 6) (.slice Xu nu eu), (hw (V + 1) (by omega)).trans ((hb.block (V + 1) (by omega)).trans hR3), ?_, ?_, ?_, ((hb3.trans (hb.mono (by omega))).setCell (by show V ≤ V; omega) _).setCell (by show V ≤ V; omega) _⟩
    · refine own_same hrow3 fun g hg => (hw g (by have := own_ge hrow3 hg; omega)).trans ?_
      obtain ⟨cur, hcur⟩ := own_lt hrow3 hg
      exact hb.block g (Array.getElem?_eq_some_iff.1 hcur).1
    · exact own_same hD fun g hg => hw g (by have := own_ge hD hg; omega)
    · exact own_same hU fun g hg => hw g (by have := own_ge hU hg; omega)
  have hx1n : (Ad = none → cd = 0) ∧ (Au = none → cu = 0) := ⟨HX1.out.nilD, HX1.out.nilC⟩
  have ZD := Lib.hid hx1n.1
  have ZU := Lib.hid hx1n.2
  have HD3 := Lib.hid hd3
  have HU3 := Lib.hid hu3
  have C5 := Lib.hid c5
  have Z5 := Lib.hid z5
  have HB0 := Lib.hid hb0
  have HEND := Lib.hid hend
  have HS3 := Lib.hid hs3
  clear hs3 hA3 hb3 hrow3 hR3 hd3 hu3 c5 z5 hb0 hend hw3 f4 z4 HB2 HROW2 HA2 HX1 HRD HS1 HA1 HR1 HB1 hb23 hx1n
  refine wp_region_any (by kernel_rfl) ?_
  change wpAny _ _ _ _ _ _ _ (World.drew _)
  refine wpAny_of_P (S := fun w' => w'.cell? ⟨V, 5, none⟩ = some (.slice Ad nd cd) ∧ w'.cell? ⟨V, 6, none⟩ = some (.slice Au nu cu)) (late := [12]) _ _ _ _ ?_
  refine takeT (i := 1) (v := ?_) rfl (by kernel_rfl) (by kernel_rfl) (by kernel_rfl) (by kernel_rfl) (fun _ _ _ h => h) (C5.out _ HB0.out) (.inl ⟨by rfl, fun w => .inl ?hy1⟩) ?_; case hy1 => (go_simp; try with_reducible rfl)
  try go_frame
  refine takeT (i := 2) (v := ?_) rfl (by kernel_rfl) (by kernel_rfl) (by kernel_rfl) (by kernel_rfl) (fun _ _ _ h => h) (C5.out _ HB0.out) (.inl ⟨by rfl, fun w => .inl ?hy2⟩) ?_; case hy2 => (go_simp; try with_reducible rfl)
  try go_frame
  refine takePT 8 (i := 3) (v := ?_) rfl (by kernel_rfl) (by kernel_rfl) (by kernel_rfl) (by kernel_rfl) (by kernel_rfl) (by kernel_rfl) (fun _ _ _ h => h) (C5.out _ HB0.out) (.inl ⟨by rfl, fun w hw => .inl ?hy3⟩) ?_; case hy3 => (obtain ⟨_, _⟩ := hw; go_simp; try with_reducible rfl)
  try go_frame
  refine takeT (i := 6) (v := ?_) rfl (by kernel_rfl) (by kernel_rfl) (by kernel_rfl) (by kernel_rfl) (fun _ _ _ h => h) (C5.out _ HB0.out) (.inl ⟨by rfl, fun w => .inl ?hy6⟩) ?_; case hy6 => (go_simp; try with_reducible rfl)
  try go_frame
  refine takeT (i := 7) (v := ?_) rfl (by kernel_rfl) (by kernel_rfl) (by kernel_rfl) (by kernel_rfl) (fun _ _ _ h => h) (C5.out _ HB0.out) (.inl ⟨by rfl, fun w => .inl ?hy7⟩) ?_; case hy7 => (go_simp; try with_reducible rfl)
  try go_frame
  refine takePT 8 (i := 8) (v := ?_) rfl (by kernel_rfl) (by kernel_rfl) (by kernel_rfl) (by kernel_rfl) (by kernel_rfl) (by kernel_rfl) (fun _ _ _ h => h) (C5.out _ HB0.out) (.inl ⟨by rfl, fun w hw => .inl ?hy8⟩) ?_; case hy8 => (obtain ⟨_, _⟩ := hw; go_simp; try with_reducible rfl)
  try go_frame
  refine forkP (i := 0) (k := 5) rfl rfl rfl rfl (by kernel_rfl) (fun K hK => ?_) (fun K hK => ?_)
  · go_simp
    have nb1 : Below w3.heap.size w3 (w3.drew.alloc (.cells #[] tBool)) := (HB0.out).alloc (HB0.out).size _
    have row1 := own_new w3.drew (show w3.heap.size ≤ (w3.drew).heap.size from (HB0.out).size) tBool 1 0 [] rfl (Nat.zero_le _)
    refine hK _ _ (C5.out _ nb1) ?_; clear hK K
    try go_frame
    refine forkP (i := 4) (k := 5) rfl rfl rfl rfl (by kernel_rfl) (fun K hK => ?_) (fun K hK => ?_)
    · refine wp_append_rd (.tmp 8) (.tmp 11) 26 rfl w3.heap.size tBool j0 (.bool false) 1 1 Try.underlying26 hj0 hy0 hy1 hy2 rfl (by decide) (.slice (some ⟨w3.heap.size, 0, none⟩) 0 0) 0 [] rfl row1 V Ad nd cd (cBool a.dirs) rfl (HD3.out.below ((nb1).mono (by have := HS3.out; omega))) ZD.out (cBool_one _) (by unfold maxLen; omega) (by omega) (nb1).size ?_
      intro v2 w92 rw2 hg2
      have nb2 : Below w3.heap.size w3 w92 := (nb1).grown hg2 (nb1).size (fun j hj => own_ge row1 hj)
      rw [Nat.zero_add, List.nil_append] at rw2
      obtain ⟨X2, e2, rfl, _, _⟩ := own_form rw2
      refine hK _ _ (C5.out _ nb2) ?_; clear hK K
      try go_frame
      refine forcedP (i := 5) rfl rfl (by kernel_rfl) (fun K hK => ?_)
      go_simp
      have nb3 : Below w3.heap.size w3 (w92.alloc (.cells #[] tInt)) := (nb2).alloc (nb2).size _
      have row3 := own_new w92 (show w3.heap.size ≤ (w92).heap.size from (nb2).size) tInt 1 0 [] rfl (Nat.zero_le _)
      have rowD3 := own_alloc rw2 (.cells #[] tInt)
      refine hK _ _ (C5.out _ nb3) ?_; clear hK K
      try go_frame
      refine forcedP (i := 9) rfl rfl (by kernel_rfl) (fun K hK => ?_)
      refine wp_append_rd (.tmp 13) (.tmp 16) 27 rfl w3.heap.size tInt k0 (.int .i64 0) 1 8 Try.underlying27 hk0 hx0 hx1 hx2 rfl (by decide) (.slice (some ⟨w92.heap.size, 0, none⟩) 0 0) 0 [] rfl row3 V Au nu cu (cInt a.cuts) rfl (HU3.out.below ((nb3).mono (by have := HS3.out; omega))) ZU.out (cInt_one _) (by unfold maxLen; omega) (by omega) (nb3).size ?_
      intro v4 w94 rw4 hg4
      have nb4 : Below w3.heap.size w3 w94 := (nb3).grown hg4 (nb3).size (fun j hj => own_ge row3 hj)
      have rowD4 := grow_other rowD3 row3 (by decide) hg4
      rw [Nat.zero_add, List.nil_append] at rw4
      obtain ⟨X4, e4, rfl, _, _⟩ := own_form rw4
      refine hK _ _ (C5.out _ nb4) ?_; clear hK K
      try go_frame
      refine takeT (i := 10) (v := ?_) rfl (by kernel_rfl) (by kernel_rfl) (by kernel_rfl) (by kernel_rfl) (fun _ _ _ h => h) (C5.out _ nb4) (.inl ⟨by rfl, fun w => .inl ?hy10⟩) ?_; case hy10 => (go_simp; try with_reducible rfl)
      try go_frame
      refine takeT (i := 11) (v := ?_) rfl (by kernel_rfl) (by kernel_rfl) (by kernel_rfl) (by kernel_rfl) (fun _ _ _ h => h) (C5.out _ nb4) (.inl ⟨by rfl, fun w => .inl ?hy11⟩) ?_; case hy11 => (go_simp; try with_reducible rfl)
      try go_frame
      refine lateP (i := 12) rfl rfl (by kernel_rfl) (by kernel_rfl) (fun K hK => ?_)
      obtain ⟨c5, c6⟩ := C5.out _ nb4
      have z5 := Z5.out _ nb4 5
      have z6 := Z5.out _ nb4 6
      go_simp
      refine hK _ _ ?_; clear hK K
      try go_frame
      refine wpAny_done (by kernel_rfl) ?_ _
      obtain ⟨wf, hwf, hA, hR, q1, q2, q3, hbf⟩ := HEND.out w94 X2 X4 e2 e4 nb4 rowD4 rw4
      rw [hwf]
      have g0 : wf.cell? ⟨V, 0, none⟩ = some (.int .i64 a.kind) := by rw [cell_of_row wf V _ _ _ _ hA]; rfl
      have g1 : wf.cell? ⟨V, 1, none⟩ = some (encStr a.name) := by rw [cell_of_row wf V _ _ _ _ hA]; rfl
      have g2 : wf.cell? ⟨V, 2, none⟩ = some (encStr a.dst) := by rw [cell_of_row wf V _ _ _ _ hA]; rfl
      have g3 : wf.cell? ⟨V, 3, none⟩ = some (.int .i64 a.n) := by rw [cell_of_row wf V _ _ _ _ hA]; rfl
      have g4 : wf.cell? ⟨V, 4, none⟩ = some (.slice A2 n c2) := by rw [cell_of_row wf V _ _ _ _ hA]; rfl
      have g5 : wf.cell? ⟨V, 5, none⟩ = some (.slice X2 nd e2) := by rw [cell_of_row wf V _ _ _ _ hA]; rfl
      have g6 : wf.cell? ⟨V, 6, none⟩ = some (.slice X4 nu e4) := by rw [cell_of_row wf V _ _ _ _ hA]; rfl
      have r0 : wf.cell? ⟨V + 1, 0, none⟩ = some (.int .i64 0) := by rw [cell_of_row wf (V + 1) _ _ _ _ hR]; rfl
      have r1 : wf.cell? ⟨V + 1, 1, none⟩ = some (.string ⟨#[]⟩) := by rw [cell_of_row wf (V + 1) _ _ _ _ hR]; rfl
      have r2 : wf.cell? ⟨V + 1, 2, none⟩ = some (.string ⟨#[]⟩) := by rw [cell_of_row wf (V + 1) _ _ _ _ hR]; rfl
      have r3 : wf.cell? ⟨V + 1, 3, none⟩ = some (.int .i64 0) := by rw [cell_of_row wf (V + 1) _ _ _ _ hR]; rfl
      have r4 : wf.cell? ⟨V + 1, 4, none⟩ = some (.slice none 0 0) := by rw [cell_of_row wf (V + 1) _ _ _ _ hR]; rfl
      have r5 : wf.cell? ⟨V + 1, 5, none⟩ = some (.slice none 0 0) := by rw [cell_of_row wf (V + 1) _ _ _ _ hR]; rfl
      have r6 : wf.cell? ⟨V + 1, 6, none⟩ = some (.slice none 0 0) := by rw [cell_of_row wf (V + 1) _ _ _ _ hR]; rfl
      have y0 := unfrozen hR 0
      have y1 := unfrozen hR 1
      have y2 := unfrozen hR 2
      have y3 := unfrozen hR 3
      have y4 := unfrozen hR 4
      have y5 := unfrozen hR 5
      have y6 := unfrozen hR 6
      have HR := Lib.hid hR
      have Q1 := Lib.hid q1
      have Q2 := Lib.hid q2
      have Q3 := Lib.hid q3
      have HBF := Lib.hid hbf
      clear hA hR q1 q2 q3 hbf hwf c5 c6 z5 z6
      go_wp2
      try simp only [Exit.inBlock, Exit.then]
      have hR9 := heap_same (heap_same (heap_same (heap_same (heap_same (heap_same (heap_same (HR.out) (i := 0) (.int .i64 a.kind)) (i := 1) (encStr a.name)) (i := 2) (encStr a.dst)) (i := 3) (.int .i64 a.n)) (i := 4) (.slice A2 n c2)) (i := 5) (.slice X2 nd e2)) (i := 6) (.slice X4 nu e4)
      have hk9 := ((((((((Kept.refl wf (fun k => k = V + 1)).set (p := ⟨V + 1, 0, none⟩) rfl (.int .i64 a.kind)).set (p := ⟨V + 1, 1, none⟩) rfl (encStr a.name)).set (p := ⟨V + 1, 2, none⟩) rfl (encStr a.dst)).set (p := ⟨V + 1, 3, none⟩) rfl (.int .i64 a.n)).set (p := ⟨V + 1, 4, none⟩) rfl (.slice A2 n c2)).set (p := ⟨V + 1, 5, none⟩) rfl (.slice X2 nd e2)).set (p := ⟨V + 1, 6, none⟩) rfl (.slice X4 nu e4))
      refine bodyPost_ret (results_cell_row Try.results49 _ _ (V + 1) tAct _ _ _ rfl hR9 Try.underlying41 rfl (by kernel_rfl)) rfl ?_
      refine ⟨_, rfl, ?_⟩
      unfold Twin
      rw [HV.out]
      exact ⟨A2, c2, X2, e2, X4, e4, rfl, row_past hk9 Q1.out (by omega), row_past hk9 Q2.out (by have := HS3.out; omega), row_past hk9 Q3.out (by have := HS3.out; omega), HBF.out.trans (hk9.to_below (Nat.le_of_lt (Nat.lt_of_succ_lt (Array.getElem?_eq_some_iff.1 HR.out).1)) (fun k hk => by omega))⟩
    · go_simp
      have nb5 : Below w3.heap.size w3 ((w3.drew.alloc (.cells #[] tBool)).alloc (.cells #[] tInt)) := (nb1).alloc (nb1).size _
      have row5 := own_new (w3.drew.alloc (.cells #[] tBool)) (show w3.heap.size ≤ ((w3.drew.alloc (.cells #[] tBool))).heap.size from (nb1).size) tInt 1 0 [] rfl (Nat.zero_le _)
      rw [show (w3.drew.alloc (.cells #[] tBool)).heap.size = w3.heap.size + 1 by simp] at row5
      have rowD5 := own_alloc row1 (.cells #[] tInt)
      refine hK _ _ (C5.out _ nb5) ?_; clear hK K
      try go_frame
      refine forcedP (i := 4) rfl rfl (by kernel_rfl) (fun K hK => ?_)
      refine wp_append_rd (.tmp 8) (.tmp 11) 26 rfl w3.heap.size tBool j0 (.bool false) 1 1 Try.underlying26 hj0 hy0 hy1 hy2 rfl (by decide) (.slice (some ⟨w3.heap.size, 0, none⟩) 0 0) 0 [] rfl rowD5 V Ad nd cd (cBool a.dirs) rfl (HD3.out.below ((nb5).mono (by have := HS3.out; omega))) ZD.out (cBool_one _) (by unfold maxLen; omega) (by omega) (nb5).size ?_
      intro v6 w96 rw6 hg6
      have nb6 : Below w3.heap.size w3 w96 := (nb5).grown hg6 (nb5).size (fun j hj => own_ge rowD5 hj)
      have rowU6 := grow_other row5 rowD5 (by decide) hg6
      rw [Nat.zero_add, List.nil_append] at rw6
      obtain ⟨X6, e6, rfl, _, _⟩ := own_form rw6
      refine hK _ _ (C5.out _ nb6) ?_; clear hK K
      try go_frame
      refine forcedP (i := 9) rfl rfl (by kernel_rfl) (fun K hK => ?_)
      refine wp_append_rd (.tmp 13) (.tmp 16) 27 rfl w3.heap.size tInt k0 (.int .i64 0) 1 8 Try.underlying27 hk0 hx0 hx1 hx2 rfl (by decide) (.slice (some ⟨w3.heap.size + 1, 0, none⟩) 0 0) 0 [] rfl rowU6 V Au nu cu (cInt a.cuts) rfl (HU3.out.below ((nb6).mono (by have := HS3.out; omega))) ZU.out (cInt_one _) (by unfold maxLen; omega) (by omega) (nb6).size ?_
      intro v7 w97 rw7 hg7
      have nb7 : Below w3.heap.size w3 w97 := (nb6).grown hg7 (nb6).size (fun j hj => own_ge rowU6 hj)
      have rowD7 := grow_other rw6 rowU6 (by decide) hg7
      rw [Nat.zero_add, List.nil_append] at rw7
      obtain ⟨X7, e7, rfl, _, _⟩ := own_form rw7
      refine hK _ _ (C5.out _ nb7) ?_; clear hK K
      try go_frame
      refine takeT (i := 10) (v := ?_) rfl (by kernel_rfl) (by kernel_rfl) (by kernel_rfl) (by kernel_rfl) (fun _ _ _ h => h) (C5.out _ nb7) (.inl ⟨by rfl, fun w => .inl ?hy10⟩) ?_; case hy10 => (go_simp; try with_reducible rfl)
      try go_frame
      refine takeT (i := 11) (v := ?_) rfl (by kernel_rfl) (by kernel_rfl) (by kernel_rfl) (by kernel_rfl) (fun _ _ _ h => h) (C5.out _ nb7) (.inl ⟨by rfl, fun w => .inl ?hy11⟩) ?_; case hy11 => (go_simp; try with_reducible rfl)
      try go_frame
      refine lateP (i := 12) rfl rfl (by kernel_rfl) (by kernel_rfl) (fun K hK => ?_)
      obtain ⟨c5, c6⟩ := C5.out _ nb7
      have z5 := Z5.out _ nb7 5
      have z6 := Z5.out _ nb7 6
      go_simp
      refine hK _ _ ?_; clear hK K
      try go_frame
      refine wpAny_done (by kernel_rfl) ?_ _
      obtain ⟨wf, hwf, hA, hR, q1, q2, q3, hbf⟩ := HEND.out w97 X6 X7 e6 e7 nb7 rowD7 rw7
      rw [hwf]
      have g0 : wf.cell? ⟨V, 0, none⟩ = some (.int .i64 a.kind) := by rw [cell_of_row wf V _ _ _ _ hA]; rfl
      have g1 : wf.cell? ⟨V, 1, none⟩ = some (encStr a.name) := by rw [cell_of_row wf V _ _ _ _ hA]; rfl
      have g2 : wf.cell? ⟨V, 2, none⟩ = some (encStr a.dst) := by rw [cell_of_row wf V _ _ _ _ hA]; rfl
      have g3 : wf.cell? ⟨V, 3, none⟩ = some (.int .i64 a.n) := by rw [cell_of_row wf V _ _ _ _ hA]; rfl
      have g4 : wf.cell? ⟨V, 4, none⟩ = some (.slice A2 n c2) := by rw [cell_of_row wf V _ _ _ _ hA]; rfl
      have g5 : wf.cell? ⟨V, 5, none⟩ = some (.slice X6 nd e6) := by rw [cell_of_row wf V _ _ _ _ hA]; rfl
      have g6 : wf.cell? ⟨V, 6, none⟩ = some (.slice X7 nu e7) := by rw [cell_of_row wf V _ _ _ _ hA]; rfl
      have r0 : wf.cell? ⟨V + 1, 0, none⟩ = some (.int .i64 0) := by rw [cell_of_row wf (V + 1) _ _ _ _ hR]; rfl
      have r1 : wf.cell? ⟨V + 1, 1, none⟩ = some (.string ⟨#[]⟩) := by rw [cell_of_row wf (V + 1) _ _ _ _ hR]; rfl
      have r2 : wf.cell? ⟨V + 1, 2, none⟩ = some (.string ⟨#[]⟩) := by rw [cell_of_row wf (V + 1) _ _ _ _ hR]; rfl
      have r3 : wf.cell? ⟨V + 1, 3, none⟩ = some (.int .i64 0) := by rw [cell_of_row wf (V + 1) _ _ _ _ hR]; rfl
      have r4 : wf.cell? ⟨V + 1, 4, none⟩ = some (.slice none 0 0) := by rw [cell_of_row wf (V + 1) _ _ _ _ hR]; rfl
      have r5 : wf.cell? ⟨V + 1, 5, none⟩ = some (.slice none 0 0) := by rw [cell_of_row wf (V + 1) _ _ _ _ hR]; rfl
      have r6 : wf.cell? ⟨V + 1, 6, none⟩ = some (.slice none 0 0) := by rw [cell_of_row wf (V + 1) _ _ _ _ hR]; rfl
      have y0 := unfrozen hR 0
      have y1 := unfrozen hR 1
      have y2 := unfrozen hR 2
      have y3 := unfrozen hR 3
      have y4 := unfrozen hR 4
      have y5 := unfrozen hR 5
      have y6 := unfrozen hR 6
      have HR := Lib.hid hR
      have Q1 := Lib.hid q1
      have Q2 := Lib.hid q2
      have Q3 := Lib.hid q3
      have HBF := Lib.hid hbf
      clear hA hR q1 q2 q3 hbf hwf c5 c6 z5 z6
      go_wp2
      try simp only [Exit.inBlock, Exit.then]
      have hR9 := heap_same (heap_same (heap_same (heap_same (heap_same (heap_same (heap_same (HR.out) (i := 0) (.int .i64 a.kind)) (i := 1) (encStr a.name)) (i := 2) (encStr a.dst)) (i := 3) (.int .i64 a.n)) (i := 4) (.slice A2 n c2)) (i := 5) (.slice X6 nd e6)) (i := 6) (.slice X7 nu e7)
      have hk9 := ((((((((Kept.refl wf (fun k => k = V + 1)).set (p := ⟨V + 1, 0, none⟩) rfl (.int .i64 a.kind)).set (p := ⟨V + 1, 1, none⟩) rfl (encStr a.name)).set (p := ⟨V + 1, 2, none⟩) rfl (encStr a.dst)).set (p := ⟨V + 1, 3, none⟩) rfl (.int .i64 a.n)).set (p := ⟨V + 1, 4, none⟩) rfl (.slice A2 n c2)).set (p := ⟨V + 1, 5, none⟩) rfl (.slice X6 nd e6)).set (p := ⟨V + 1, 6, none⟩) rfl (.slice X7 nu e7))
      refine bodyPost_ret (results_cell_row Try.results49 _ _ (V + 1) tAct _ _ _ rfl hR9 Try.underlying41 rfl (by kernel_rfl)) rfl ?_
      refine ⟨_, rfl, ?_⟩
      unfold Twin
      rw [HV.out]
      exact ⟨A2, c2, X6, e6, X7, e7, rfl, row_past hk9 Q1.out (by omega), row_past hk9 Q2.out (by have := HS3.out; omega), row_past hk9 Q3.out (by have := HS3.out; omega), HBF.out.trans (hk9.to_below (Nat.le_of_lt (Nat.lt_of_succ_lt (Array.getElem?_eq_some_iff.1 HR.out).1)) (fun k hk => by omega))⟩
  · go_simp
    have nb8 : Below w3.heap.size w3 (w3.drew.alloc (.cells #[] tInt)) := (HB0.out).alloc (HB0.out).size _
    have row8 := own_new w3.drew (show w3.heap.size ≤ (w3.drew).heap.size from (HB0.out).size) tInt 1 0 [] rfl (Nat.zero_le _)
    refine hK _ _ (C5.out _ nb8) ?_; clear hK K
    try go_frame
    refine forcedP (i := 0) rfl rfl (by kernel_rfl) (fun K hK => ?_)
    go_simp
    have nb9 : Below w3.heap.size w3 ((w3.drew.alloc (.cells #[] tInt)).alloc (.cells #[] tBool)) := (nb8).alloc (nb8).size _
    have row9 := own_new (w3.drew.alloc (.cells #[] tInt)) (show w3.heap.size ≤ ((w3.drew.alloc (.cells #[] tInt))).heap.size from (nb8).size) tBool 1 0 [] rfl (Nat.zero_le _)
    rw [show (w3.drew.alloc (.cells #[] tInt)).heap.size = w3.heap.size + 1 by simp] at row9
    have rowU9 := own_alloc row8 (.cells #[] tBool)
    refine hK _ _ (C5.out _ nb9) ?_; clear hK K
    try go_frame
    refine forcedP (i := 4) rfl rfl (by kernel_rfl) (fun K hK => ?_)
    refine wp_append_rd (.tmp 8) (.tmp 11) 26 rfl w3.heap.size tBool j0 (.bool false) 1 1 Try.underlying26 hj0 hy0 hy1 hy2 rfl (by decide) (.slice (some ⟨w3.heap.size + 1, 0, none⟩) 0 0) 0 [] rfl row9 V Ad nd cd (cBool a.dirs) rfl (HD3.out.below ((nb9).mono (by have := HS3.out; omega))) ZD.out (cBool_one _) (by unfold maxLen; omega) (by omega) (nb9).size ?_
    intro v10 w910 rw10 hg10
    have nb10 : Below w3.heap.size w3 w910 := (nb9).grown hg10 (nb9).size (fun j hj => own_ge row9 hj)
    have rowU10 := grow_other rowU9 row9 (by decide) hg10
    rw [Nat.zero_add, List.nil_append] at rw10
    obtain ⟨X10, e10, rfl, _, _⟩ := own_form rw10
    refine hK _ _ (C5.out _ nb10) ?_; clear hK K
    try go_frame
    refine forcedP (i := 9) rfl rfl (by kernel_rfl) (fun K hK => ?_)
    refine wp_append_rd (.tmp 13) (.tmp 16) 27 rfl w3.heap.size tInt k0 (.int .i64 0) 1 8 Try.underlying27 hk0 hx0 hx1 hx2 rfl (by decide) (.slice (some ⟨w3.heap.size, 0, none⟩) 0 0) 0 [] rfl rowU10 V Au nu cu (cInt a.cuts) rfl (HU3.out.below ((nb10).mono (by have := HS3.out; omega))) ZU.out (cInt_one _) (by unfold maxLen; omega) (by omega) (nb10).size ?_
    intro v11 w911 rw11 hg11
    have nb11 : Below w3.heap.size w3 w911 := (nb10).grown hg11 (nb10).size (fun j hj => own_ge rowU10 hj)
    have rowD11 := grow_other rw10 rowU10 (by decide) hg11
    rw [Nat.zero_add, List.nil_append] at rw11
    obtain ⟨X11, e11, rfl, _, _⟩ := own_form rw11
    refine hK _ _ (C5.out _ nb11) ?_; clear hK K
    try go_frame
    refine takeT (i := 10) (v := ?_) rfl (by kernel_rfl) (by kernel_rfl) (by kernel_rfl) (by kernel_rfl) (fun _ _ _ h => h) (C5.out _ nb11) (.inl ⟨by rfl, fun w => .inl ?hy10⟩) ?_; case hy10 => (go_simp; try with_reducible rfl)
    try go_frame
    refine takeT (i := 11) (v := ?_) rfl (by kernel_rfl) (by kernel_rfl) (by kernel_rfl) (by kernel_rfl) (fun _ _ _ h => h) (C5.out _ nb11) (.inl ⟨by rfl, fun w => .inl ?hy11⟩) ?_; case hy11 => (go_simp; try with_reducible rfl)
    try go_frame
    refine lateP (i := 12) rfl rfl (by kernel_rfl) (by kernel_rfl) (fun K hK => ?_)
    obtain ⟨c5, c6⟩ := C5.out _ nb11
    have z5 := Z5.out _ nb11 5
    have z6 := Z5.out _ nb11 6
    go_simp
    refine hK _ _ ?_; clear hK K
    try go_frame
    refine wpAny_done (by kernel_rfl) ?_ _
    obtain ⟨wf, hwf, hA, hR, q1, q2, q3, hbf⟩ := HEND.out w911 X10 X11 e10 e11 nb11 rowD11 rw11
    rw [hwf]
    have g0 : wf.cell? ⟨V, 0, none⟩ = some (.int .i64 a.kind) := by rw [cell_of_row wf V _ _ _ _ hA]; rfl
    have g1 : wf.cell? ⟨V, 1, none⟩ = some (encStr a.name) := by rw [cell_of_row wf V _ _ _ _ hA]; rfl
    have g2 : wf.cell? ⟨V, 2, none⟩ = some (encStr a.dst) := by rw [cell_of_row wf V _ _ _ _ hA]; rfl
    have g3 : wf.cell? ⟨V, 3, none⟩ = some (.int .i64 a.n) := by rw [cell_of_row wf V _ _ _ _ hA]; rfl
    have g4 : wf.cell? ⟨V, 4, none⟩ = some (.slice A2 n c2) := by rw [cell_of_row wf V _ _ _ _ hA]; rfl
    have g5 : wf.cell? ⟨V, 5, none⟩ = some (.slice X10 nd e10) := by rw [cell_of_row wf V _ _ _ _ hA]; rfl
    have g6 : wf.cell? ⟨V, 6, none⟩ = some (.slice X11 nu e11) := by rw [cell_of_row wf V _ _ _ _ hA]; rfl
    have r0 : wf.cell? ⟨V + 1, 0, none⟩ = some (.int .i64 0) := by rw [cell_of_row wf (V + 1) _ _ _ _ hR]; rfl
    have r1 : wf.cell? ⟨V + 1, 1, none⟩ = some (.string ⟨#[]⟩) := by rw [cell_of_row wf (V + 1) _ _ _ _ hR]; rfl
    have r2 : wf.cell? ⟨V + 1, 2, none⟩ = some (.string ⟨#[]⟩) := by rw [cell_of_row wf (V + 1) _ _ _ _ hR]; rfl
    have r3 : wf.cell? ⟨V + 1, 3, none⟩ = some (.int .i64 0) := by rw [cell_of_row wf (V + 1) _ _ _ _ hR]; rfl
    have r4 : wf.cell? ⟨V + 1, 4, none⟩ = some (.slice none 0 0) := by rw [cell_of_row wf (V + 1) _ _ _ _ hR]; rfl
    have r5 : wf.cell? ⟨V + 1, 5, none⟩ = some (.slice none 0 0) := by rw [cell_of_row wf (V + 1) _ _ _ _ hR]; rfl
    have r6 : wf.cell? ⟨V + 1, 6, none⟩ = some (.slice none 0 0) := by rw [cell_of_row wf (V + 1) _ _ _ _ hR]; rfl
    have y0 := unfrozen hR 0
    have y1 := unfrozen hR 1
    have y2 := unfrozen hR 2
    have y3 := unfrozen hR 3
    have y4 := unfrozen hR 4
    have y5 := unfrozen hR 5
    have y6 := unfrozen hR 6
    have HR := Lib.hid hR
    have Q1 := Lib.hid q1
    have Q2 := Lib.hid q2
    have Q3 := Lib.hid q3
    have HBF := Lib.hid hbf
    clear hA hR q1 q2 q3 hbf hwf c5 c6 z5 z6
    go_wp2
    try simp only [Exit.inBlock, Exit.then]
    have hR9 := heap_same (heap_same (heap_same (heap_same (heap_same (heap_same (heap_same (HR.out) (i := 0) (.int .i64 a.kind)) (i := 1) (encStr a.name)) (i := 2) (encStr a.dst)) (i := 3) (.int .i64 a.n)) (i := 4) (.slice A2 n c2)) (i := 5) (.slice X10 nd e10)) (i := 6) (.slice X11 nu e11)
    have hk9 := ((((((((Kept.refl wf (fun k => k = V + 1)).set (p := ⟨V + 1, 0, none⟩) rfl (.int .i64 a.kind)).set (p := ⟨V + 1, 1, none⟩) rfl (encStr a.name)).set (p := ⟨V + 1, 2, none⟩) rfl (encStr a.dst)).set (p := ⟨V + 1, 3, none⟩) rfl (.int .i64 a.n)).set (p := ⟨V + 1, 4, none⟩) rfl (.slice A2 n c2)).set (p := ⟨V + 1, 5, none⟩) rfl (.slice X10 nd e10)).set (p := ⟨V + 1, 6, none⟩) rfl (.slice X11 nu e11))
    refine bodyPost_ret (results_cell_row Try.results49 _ _ (V + 1) tAct _ _ _ rfl hR9 Try.underlying41 rfl (by kernel_rfl)) rfl ?_
    refine ⟨_, rfl, ?_⟩
    unfold Twin
    rw [HV.out]
    exact ⟨A2, c2, X10, e10, X11, e11, rfl, row_past hk9 Q1.out (by omega), row_past hk9 Q2.out (by have := HS3.out; omega), row_past hk9 Q3.out (by have := HS3.out; omega), HBF.out.trans (hk9.to_below (Nat.le_of_lt (Nat.lt_of_succ_lt (Array.getElem?_eq_some_iff.1 HR.out).1)) (fun k hk => by omega))⟩
end Go.Proofs.Ytelgcmcnebncmaa.Dr
