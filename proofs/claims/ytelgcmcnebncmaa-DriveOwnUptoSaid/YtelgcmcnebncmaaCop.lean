/- 'copied': the four answers in new memory. Printed by gen/mkcop.py. -/
import Derived.Test.YtelgcmcnebncmaaTold
namespace Go.Proofs.Ytelgcmcnebncmaa.Ap
set_option linter.unusedVariables false
open Go.RowKit Go.Proofs Go.Deep Go.Proofs.Ytelgcmcnebncmaa.Dr Go.Proofs.Ytelgcmcnebncmaa.Ring

section
variable {P : Program} {md : Region.Mode} {Q : Exit → Act → World → Prop} {S : World → Prop} {late : List Nat}
/-- Operations any of which may come up. -/
theorem forkL {l : List Oper} (js : List Nat) {fuel : Nat} {listed : Array Bool} {a : Act} {w : World} (hne : js ≠ []) (hr : Region.ready md l.toArray listed = js)
    (h : ∀ j ∈ js, ∃ o, l[j]? = some o ∧ o.guard = none ∧ ∀ K : Act → World → Prop, (∀ a w, S w → wpAnyP P md l.toArray Q S late fuel (listed.setIfInBounds j true) a w → K a w) → o.wp P a w K Q) :
    wpAnyP P md l.toArray Q S late (fuel + 1) listed a w := by
  refine ⟨fun h0 => (by rw [hr] at h0; exact absurd h0 hne), fun j hj => ?_⟩
  rw [hr] at hj
  obtain ⟨o, hi, hg, h1⟩ := h j hj
  have h1 := h1 (fun a' w' => (Early late (listed.setIfInBounds j true) → S w') ∧ wpAnyP P md l.toArray Q S late fuel (listed.setIfInBounds j true) a' w') (fun _ _ hs h => ⟨fun _ => hs, h⟩)
  have hi' : l.toArray[j]? = some o := by simpa using hi
  unfold wpOp
  simp only [hi']
  split
  · exact .inl h1
  · rename_i hw; simp [Region.wanted, hg] at hw
end
/-- A block that holds cells of another type stands while a row grows. -/
theorem grow_box {w w' : World} {b : Nat} {cs : Array Value} {t e : TypeId} {fr : Nat × Nat} {base s n : Nat} {v : Value} {xs : List Value} (h : w.heap[b]? = some (.cells cs t fr)) (h' : w.ownsRow base e s v n xs) (hne : t ≠ e) (hg : w.grownBy w' v.ownBlock) : w'.heap[b]? = some (.cells cs t fr) := by
  refine (hg.block b (Array.getElem?_eq_some_iff.1 h).1 fun e2 => ?_).trans h
  obtain ⟨cur, hcur⟩ := own_lt h' e2.symm
  rw [h] at hcur
  injection hcur with hcur
  injection hcur with _ hcur _
  exact hne hcur
/-- The box in which the answers are gathered. -/
structure Cop (w1 w : World) (b3 : Nat) (D U F G : Value) : Prop where
  box : w.heap[b3]? = some (.cells #[D, U, F, G] tAns (0, 0))
  back : Below w1.heap.size w1 w
  ge : w1.heap.size ≤ b3
theorem own_off_box {w : World} {base n b g : Nat} {e t : TypeId} {v : Value} {xs : List Value} {cs : Array Value} {fr : Nat × Nat} (h : w.ownsRow base e 1 v n xs) (hb : w.heap[b]? = some (.cells cs t fr)) (hne : t ≠ e) (hg : v.ownBlock = some g) : g ≠ b := by
  intro hgb
  obtain ⟨cur, hcur⟩ := own_lt h hg
  rw [hgb, hb] at hcur
  injection hcur with hcur
  injection hcur with _ hcur _
  exact hne hcur
theorem own_row_kept {w w' : World} {S : Nat → Prop} {base n : Nat} {e : TypeId} {v : Value} {xs : List Value} (h : w.ownsRow base e 1 v n xs) (hk : Kept w w' S) (hs : ∀ g, v.ownBlock = some g → ¬ S g) : w'.ownsRow base e 1 v n xs :=
  own_same h fun g hg => by
    obtain ⟨cur, hcur⟩ := own_lt h hg
    exact hk.block g (Array.getElem?_eq_some_iff.1 hcur).1 (hs g hg)
theorem own_poke4 {w : World} {base n b : Nat} {e t : TypeId} {v : Value} {xs : List Value} {cs : Array Value} {fr : Nat × Nat} (h : w.ownsRow base e 1 v n xs) (hb : w.heap[b]? = some (.cells cs t fr)) (hne : t ≠ e) (x0 x1 x2 x3 : Value) :
    ((((w.setCell ⟨b, 0, none⟩ x0).setCell ⟨b, 1, none⟩ x1).setCell ⟨b, 2, none⟩ x2).setCell ⟨b, 3, none⟩ x3).ownsRow base e 1 v n xs := by
  have hx : v.ownBlock ≠ some b := by
    intro hg
    obtain ⟨cur, hcur⟩ := own_lt h hg
    rw [hb] at hcur
    injection hcur with hcur
    injection hcur with _ hcur _
    exact hne hcur
  exact ownsRow_setCell_other (ownsRow_setCell_other (ownsRow_setCell_other (ownsRow_setCell_other h hx _) hx _) hx _) hx _
theorem files_take {fs : List (Bs × Bs)} {i : Nat} {f : Bs × Bs} (h : fs[i]? = some f) : fs.take (i + 1) = fs.take i ++ [f] := by
  rw [List.take_add_one, h]; rfl
theorem cop_file {w : World} {B n c : Nat} {A : Option Addr} {dv : List Value} {fs : List (Bs × Bs)} (h : FilesAt w B (.slice A n c) dv fs) (hn : n = fs.length) {i : Nat} {f : Bs × Bs} (hf : fs[i]? = some f) :
    ∃ g Ax cx, A = some ⟨g, 0, none⟩ ∧ g < w.heap.size ∧ w.cell? ⟨g, i * 2, none⟩ = some (.string ⟨f.1.toArray⟩) ∧ w.cell? ⟨g, i * 2 + 1, none⟩ = some (.slice Ax f.2.length cx) ∧ w.ownsRow B tU8 1 (.slice Ax f.2.length cx) f.2.length (cU8 f.2) := by
  obtain ⟨g, Ax, cx, e, hg, h1, h2, _⟩ := (h.rd hn.symm).2 i f hf
  refine ⟨g, Ax, cx, e, hg, h1, h2, ?_⟩
  have hi := (List.getElem?_eq_some_iff.1 hf).1
  have hdl : i < dv.length := by rw [h.len]; exact hi
  have hr := h.row
  rw [e, hn] at hr
  have hc1 := World.ownsRow.cellAt hr (i * 2 + 1) (by omega)
  rw [h2, (cF_at fs dv i f dv[i] hf (List.getElem?_eq_getElem hdl)).2] at hc1
  injection hc1 with hc1
  rw [hc1]
  exact h.data i f _ hf (List.getElem?_eq_getElem hdl)
set_option maxRecDepth 100000 in
set_option maxHeartbeats 8000000 in
theorem copied_any {w : World} {B : Nat} {x : Av4} {db : Bs} {ns : List Bs} {fs gs : List (Bs × Bs)} (h : Says w B x db ns fs gs) (hdm : db.length ≤ 140737488355328) (hnm : ns.length * 16 ≤ 140737488355328) (hfm : fs.length * 40 ≤ 140737488355200) (hgm : gs.length * 40 ≤ 140737488355200)
    (hfb : ∀ f ∈ fs, f.2.length ≤ 140737488355328) (hgb : ∀ f ∈ gs, f.2.length ≤ 140737488355328) :
    Calls Try.prog 42 #[x.val] w fun e w' => ∃ y : Av4, e = .returned y.val ∧ Says w' w.heap.size y db ns fs gs ∧ Below w.heap.size w w' := by
  obtain ⟨⟨Ad, kd, cd⟩, ⟨An, kn, cn⟩, ⟨Af, kf, cf⟩, ⟨Ag, kg, cg⟩, xf, xg⟩ := x
  obtain ⟨i0, hi0, hz0, hz1, hz2⟩ := info_parts infoU8
  obtain ⟨k0, hk0, hx0, hx1, hx2⟩ := info_parts infoStr
  obtain ⟨j0, hj0, hy0, hy1, hy2⟩ := info_parts infoFile
  obtain ⟨V, hV⟩ : ∃ V, w.heap.size = V := ⟨_, rfl⟩
  have hkd : db.length = kd := by have a := h.data.1; simp at a; omega
  have hkn : ns.length = kn := by have a := h.names.1; simp at a; omega
  have hkf : kf = fs.length := h.lenF
  have hkg : kg = gs.length := h.lenG
  rw [hkd] at hdm
  rw [hkn] at hnm
  rw [← hkf] at hfm
  rw [← hkg] at hgm
  obtain ⟨w1, hw1⟩ : ∃ w1, (w.alloc (.cells #[.slice Ad kd cd, .slice An kn cn, .slice Af kf cf, .slice Ag kg cg] tAns)).alloc (.cells #[.slice none 0 0, .slice none 0 0, .slice none 0 0, .slice none 0 0] tAns) = w1 := ⟨_, rfl⟩
  have hb1 : Below w.heap.size w w1 := by rw [← hw1]; exact ((Below.refl _ _).alloc (Nat.le_refl _) _).alloc (by simp) _
  have hA : w1.heap[V]? = some (.cells #[.slice Ad kd cd, .slice An kn cn, .slice Af kf cf, .slice Ag kg cg] tAns (0, 0)) := by
    rw [← hw1, ← hV]
    exact (heap_alloc_old _ _ (by simp)).trans (heap_alloc_new _ _)
  have hR : w1.heap[V + 1]? = some (.cells #[.slice none 0 0, .slice none 0 0, .slice none 0 0, .slice none 0 0] tAns (0, 0)) := by
    have := heap_alloc_new (w.alloc (.cells #[.slice Ad kd cd, .slice An kn cn, .slice Af kf cf, .slice Ag kg cg] tAns)) (.cells #[.slice none 0 0, .slice none 0 0, .slice none 0 0, .slice none 0 0] tAns)
    rw [← hw1, ← hV]
    simpa using this
  have hsV : w1.heap.size = V + 2 := by rw [← hw1, ← hV]; simp
  have hS1 := h.below hb1
  have hcV : ∀ W : World, Below w1.heap.size w1 W → W.cell? ⟨V, 0, none⟩ = some (.slice Ad kd cd) ∧ W.cell? ⟨V, 1, none⟩ = some (.slice An kn cn) := fun W hb => by
    have h := (hb.block V (by omega)).trans hA
    exact ⟨by rw [cell_of_row W V _ _ _ _ h]; rfl, by rw [cell_of_row W V _ _ _ _ h]; rfl⟩
  have hcF : ∀ W : World, Below w1.heap.size w1 W → W.cell? ⟨V, 2, none⟩ = some (.slice Af kf cf) := fun W hb => by
    have h := (hb.block V (by omega)).trans hA
    rw [cell_of_row W V _ _ _ _ h]; rfl
  have hcG : ∀ W : World, Below w1.heap.size w1 W → W.cell? ⟨V, 3, none⟩ = some (.slice Ag kg cg) := fun W hb => by
    have h := (hb.block V (by omega)).trans hA
    rw [cell_of_row W V _ _ _ _ h]; rfl
  have hrd1 : Rd w1 w1.heap.size 1 Ad kd (cU8 db) := Rd.of_own (c := cd) hS1.data
  have hrd2 : Rd w1 w1.heap.size 1 An kn (cStr ns) := Rd.of_own (c := cn) hS1.names
  have C5 := Lib.hid hcV
  have CF := Lib.hid hcF
  have CG := Lib.hid hcG
  have HB1 := Lib.hid hb1
  have HR := Lib.hid hR
  have HSV := Lib.hid hsV
  have HS1 := Lib.hid hS1
  have HD3 := Lib.hid hrd1
  have HU3 := Lib.hid hrd2
  have hzd : Ad = none → cd = 0 := own_none hS1.data
  have hzu : An = none → cn = 0 := own_none hS1.names
  have ZD := Lib.hid hzd
  have ZU := Lib.hid hzu
  have HFB := Lib.hid hfb
  have HGB := Lib.hid hgb
  have HV := Lib.hid hV
  have HKF := Lib.hid hkf
  have HKG := Lib.hid hkg
  clear hcV hcF hcG hb1 hA hR hsV hS1 hrd1 hrd2 hfb hgb h hkd hkn hkf hkg hzd hzu
  show Calls Try.prog 42 #[.agg #[.slice Ad kd cd, .slice An kn cn, .slice Af kf cf, .slice Ag kg cg]] w _
  go_enter Try.func42, Try.ntmps42
  go_upto_region 1 with (fail)
  clear hw1 hV
  go_cut [3] from 6 to 14 (fun v wr => ∃ b3 A1 c1 A2 c2, v = .pointer (some ⟨b3, 0, none⟩) ∧ wr.ownsRow w1.heap.size tU8 1 (.slice A1 kd c1) kd (cU8 db) ∧ wr.ownsRow w1.heap.size 9 1 (.slice A2 kn c2) kn (cStr ns) ∧ Cop w1 wr b3 (.slice A1 kd c1) (.slice A2 kn c2) (.slice none 0 0) (.slice none 0 0))
  case first =>
    refine wp_region_any (by kernel_rfl) ?_
    change wpAny _ _ _ _ _ _ _ (World.drew _)
    obtain ⟨w2, hw2⟩ : ∃ w2, w1.drew = w2 := ⟨_, rfl⟩
    have nb0 : Below w1.heap.size w1 w2 := by rw [← hw2]; exact (Below.refl _ _).drew
    rw [hw2]
    clear hw2
    refine wpAny_of_P (S := fun w' => w'.cell? ⟨V, 0, none⟩ = some (.slice Ad kd cd) ∧ w'.cell? ⟨V, 1, none⟩ = some (.slice An kn cn)) (late := [10]) _ _ _ _ ?_
    refine takeT (i := 1) (v := ?_) rfl (by kernel_rfl) (by kernel_rfl) (by kernel_rfl) (by kernel_rfl) (fun _ _ _ h => h) (C5.out _ nb0) (.inl ⟨by rfl, fun w => .inl ?hy1⟩) ?_; case hy1 => (go_simp; try with_reducible rfl)
    try go_frame
    refine takePT 8 (i := 2) (v := ?_) rfl (by kernel_rfl) (by kernel_rfl) (by kernel_rfl) (by kernel_rfl) (by kernel_rfl) (by kernel_rfl) (fun _ _ _ h => h) (C5.out _ nb0) (.inl ⟨by rfl, fun w hw => .inl ?hy2⟩) ?_; case hy2 => (obtain ⟨_, _⟩ := hw; go_simp; try with_reducible rfl)
    try go_frame
    refine takeT (i := 5) (v := ?_) rfl (by kernel_rfl) (by kernel_rfl) (by kernel_rfl) (by kernel_rfl) (fun _ _ _ h => h) (C5.out _ nb0) (.inl ⟨by rfl, fun w => .inl ?hy5⟩) ?_; case hy5 => (go_simp; try with_reducible rfl)
    try go_frame
    refine takePT 8 (i := 6) (v := ?_) rfl (by kernel_rfl) (by kernel_rfl) (by kernel_rfl) (by kernel_rfl) (by kernel_rfl) (by kernel_rfl) (fun _ _ _ h => h) (C5.out _ nb0) (.inl ⟨by rfl, fun w hw => .inl ?hy6⟩) ?_; case hy6 => (obtain ⟨_, _⟩ := hw; go_simp; try with_reducible rfl)
    try go_frame
    refine forkL [0, 4, 9] (by decide) (by kernel_rfl) (fun j hj => ?_)
    simp only [List.mem_cons, List.not_mem_nil, or_false] at hj
    rcases hj with rfl | rfl | rfl
    · refine ⟨_, rfl, rfl, fun K hK => ?_⟩
      go_simp
      obtain ⟨v1, hv1⟩ : ∃ v, w2.alloc (.cells #[] tU8) = v := ⟨_, rfl⟩
      have nb1 : Below w1.heap.size w1 v1 := by rw [← hv1]; exact (nb0).alloc (nb0).size _
      have d1 : v1.ownsRow w1.heap.size tU8 1 (.slice (some ⟨w2.heap.size, 0, none⟩) 0 0) 0 [] := by rw [← hv1]; exact own_new w2 (nb0).size tU8 1 0 [] rfl (Nat.zero_le _)
      try rw [hv1]
      refine hK _ _ (C5.out _ nb1) ?_; clear hK K
      try rw [hv1]
      clear hv1
      try go_frame
      refine forkL [3, 4, 9] (by decide) (by kernel_rfl) (fun j hj => ?_)
      simp only [List.mem_cons, List.not_mem_nil, or_false] at hj
      rcases hj with rfl | rfl | rfl
      · refine ⟨_, rfl, rfl, fun K hK => ?_⟩
        refine wp_append_rd (.tmp 6) (.tmp 8) 35 rfl w1.heap.size tU8 i0 (.int .u8 0) 1 1 Try.underlying35 hi0 hz0 hz1 hz2 rfl (by decide) (.slice (some ⟨w2.heap.size, 0, none⟩) 0 0) 0 [] rfl d1 w1.heap.size Ad kd cd (cU8 db) rfl (HD3.out.below (nb1)) ZD.out (cU8_one _) (by unfold maxLen; omega) (by omega) (nb1).size ?_
        intro y2 v2 r2 g2
        have nb2 : Below w1.heap.size w1 v2 := (nb1).grown g2 (nb1).size (fun j hj => own_ge d1 hj)
        rw [Nat.zero_add, List.nil_append] at r2
        obtain ⟨X2, e2, rfl, _, _⟩ := own_form r2
        refine hK _ _ (C5.out _ nb2) ?_; clear hK K
        try go_frame
        refine forkL [4, 9] (by decide) (by kernel_rfl) (fun j hj => ?_)
        simp only [List.mem_cons, List.not_mem_nil, or_false] at hj
        rcases hj with rfl | rfl
        · refine ⟨_, rfl, rfl, fun K hK => ?_⟩
          go_simp
          obtain ⟨v3, hv3⟩ : ∃ v, v2.alloc (.cells #[] 9) = v := ⟨_, rfl⟩
          have nb3 : Below w1.heap.size w1 v3 := by rw [← hv3]; exact (nb2).alloc (nb2).size _
          have d3 : v3.ownsRow w1.heap.size tU8 1 (.slice X2 kd e2) kd (cU8 db) := by rw [← hv3]; exact own_alloc r2 _
          have u3 : v3.ownsRow w1.heap.size 9 1 (.slice (some ⟨v2.heap.size, 0, none⟩) 0 0) 0 [] := by rw [← hv3]; exact own_new v2 (nb2).size 9 1 0 [] rfl (Nat.zero_le _)
          try rw [hv3]
          refine hK _ _ (C5.out _ nb3) ?_; clear hK K
          try rw [hv3]
          clear hv3
          try go_frame
          refine forkL [7, 9] (by decide) (by kernel_rfl) (fun j hj => ?_)
          simp only [List.mem_cons, List.not_mem_nil, or_false] at hj
          rcases hj with rfl | rfl
          · refine ⟨_, rfl, rfl, fun K hK => ?_⟩
            refine wp_append_rd (.tmp 10) (.tmp 12) 36 rfl w1.heap.size 9 k0 (.string ⟨#[]⟩) 1 16 Try.underlying36 hk0 hx0 hx1 hx2 rfl (by decide) (.slice (some ⟨v2.heap.size, 0, none⟩) 0 0) 0 [] rfl u3 w1.heap.size An kn cn (cStr ns) rfl (HU3.out.below (nb3)) ZU.out (cStr_one _) (by unfold maxLen; omega) (by omega) (nb3).size ?_
            intro y4 v4 r4 g4
            have nb4 : Below w1.heap.size w1 v4 := (nb3).grown g4 (nb3).size (fun j hj => own_ge u3 hj)
            have d4 := grow_other d3 u3 (by decide) g4
            rw [Nat.zero_add, List.nil_append] at r4
            obtain ⟨X4, e4, rfl, _, _⟩ := own_form r4
            refine hK _ _ (C5.out _ nb4) ?_; clear hK K
            try go_frame
            refine takeT (i := 8) (v := ?_) rfl (by kernel_rfl) (by kernel_rfl) (by kernel_rfl) (by kernel_rfl) (fun _ _ _ h => h) (C5.out _ nb4) (.inl ⟨by rfl, fun w => .inl ?hy8⟩) ?_; case hy8 => (go_simp; try with_reducible rfl)
            try go_frame
            refine forcedP (i := 9) rfl rfl (by kernel_rfl) (fun K hK => ?_)
            go_simp
            obtain ⟨v5, hv5⟩ : ∃ v, v4.alloc (.cells #[.slice none 0 0, .slice none 0 0, .slice none 0 0, .slice none 0 0] tAns) = v := ⟨_, rfl⟩
            have nb5 : Below w1.heap.size w1 v5 := by rw [← hv5]; exact (nb4).alloc (nb4).size _
            have d5 : v5.ownsRow w1.heap.size tU8 1 (.slice X2 kd e2) kd (cU8 db) := by rw [← hv5]; exact own_alloc d4 _
            have u5 : v5.ownsRow w1.heap.size 9 1 (.slice X4 kn e4) kn (cStr ns) := by rw [← hv5]; exact own_alloc r4 _
            have x5 : v5.heap[v4.heap.size]? = some (.cells #[.slice none 0 0, .slice none 0 0, .slice none 0 0, .slice none 0 0] tAns (0, 0)) := by rw [← hv5]; exact heap_alloc_new _ _
            try rw [hv5]
            refine hK _ _ (C5.out _ nb5) ?_; clear hK K
            try rw [hv5]
            clear hv5
            try go_frame
            have p0 : v5.cell? ⟨v4.heap.size, 0, none⟩ = some (.slice none 0 0) := by rw [cell_of_row v5 (v4.heap.size) _ _ _ _ x5]; rfl
            have p1 : v5.cell? ⟨v4.heap.size, 1, none⟩ = some (.slice none 0 0) := by rw [cell_of_row v5 (v4.heap.size) _ _ _ _ x5]; rfl
            have p2 : v5.cell? ⟨v4.heap.size, 2, none⟩ = some (.slice none 0 0) := by rw [cell_of_row v5 (v4.heap.size) _ _ _ _ x5]; rfl
            have p3 : v5.cell? ⟨v4.heap.size, 3, none⟩ = some (.slice none 0 0) := by rw [cell_of_row v5 (v4.heap.size) _ _ _ _ x5]; rfl
            have z0 := unfrozen x5 0
            have z1 := unfrozen x5 1
            have z2 := unfrozen x5 2
            have z3 := unfrozen x5 3
            refine lateP (i := 10) rfl rfl (by kernel_rfl) (by kernel_rfl) (fun K hK => ?_)
            go_simp
            refine hK _ _ ?_; clear hK K
            try go_frame
            refine wpAny_done (by kernel_rfl) ?_ _
            go_wp2
            go_meet
            exact ⟨_, X2, e2, X4, e4, rfl, own_poke4 d5 x5 (by decide) _ _ _ _, own_poke4 u5 x5 (by decide) _ _ _ _, heap_same (heap_same (heap_same (heap_same (x5) (i := 0) (.slice X2 kd e2)) (i := 1) (.slice X4 kn e4)) (i := 2) (.slice none 0 0)) (i := 3) (.slice none 0 0), (Below.setCell ((Below.setCell ((Below.setCell ((Below.setCell (nb5) (p := ⟨v4.heap.size, 0, none⟩) (nb4).size (.slice X2 kd e2))) (p := ⟨v4.heap.size, 1, none⟩) (nb4).size (.slice X4 kn e4))) (p := ⟨v4.heap.size, 2, none⟩) (nb4).size (.slice none 0 0))) (p := ⟨v4.heap.size, 3, none⟩) (nb4).size (.slice none 0 0)), (nb4).size⟩
          · refine ⟨_, rfl, rfl, fun K hK => ?_⟩
            go_simp
            obtain ⟨v6, hv6⟩ : ∃ v, v3.alloc (.cells #[.slice none 0 0, .slice none 0 0, .slice none 0 0, .slice none 0 0] tAns) = v := ⟨_, rfl⟩
            have nb6 : Below w1.heap.size w1 v6 := by rw [← hv6]; exact (nb3).alloc (nb3).size _
            have d6 : v6.ownsRow w1.heap.size tU8 1 (.slice X2 kd e2) kd (cU8 db) := by rw [← hv6]; exact own_alloc d3 _
            have u6 : v6.ownsRow w1.heap.size 9 1 (.slice (some ⟨v2.heap.size, 0, none⟩) 0 0) 0 [] := by rw [← hv6]; exact own_alloc u3 _
            have x6 : v6.heap[v3.heap.size]? = some (.cells #[.slice none 0 0, .slice none 0 0, .slice none 0 0, .slice none 0 0] tAns (0, 0)) := by rw [← hv6]; exact heap_alloc_new _ _
            try rw [hv6]
            refine hK _ _ (C5.out _ nb6) ?_; clear hK K
            try rw [hv6]
            clear hv6
            try go_frame
            refine forcedP (i := 7) rfl rfl (by kernel_rfl) (fun K hK => ?_)
            refine wp_append_rd (.tmp 10) (.tmp 12) 36 rfl w1.heap.size 9 k0 (.string ⟨#[]⟩) 1 16 Try.underlying36 hk0 hx0 hx1 hx2 rfl (by decide) (.slice (some ⟨v2.heap.size, 0, none⟩) 0 0) 0 [] rfl u6 w1.heap.size An kn cn (cStr ns) rfl (HU3.out.below (nb6)) ZU.out (cStr_one _) (by unfold maxLen; omega) (by omega) (nb6).size ?_
            intro y7 v7 r7 g7
            have nb7 : Below w1.heap.size w1 v7 := (nb6).grown g7 (nb6).size (fun j hj => own_ge u6 hj)
            have d7 := grow_other d6 u6 (by decide) g7
            have x7 := grow_box x6 u6 (by decide) g7
            rw [Nat.zero_add, List.nil_append] at r7
            obtain ⟨X7, e7, rfl, _, _⟩ := own_form r7
            refine hK _ _ (C5.out _ nb7) ?_; clear hK K
            try go_frame
            refine takeT (i := 8) (v := ?_) rfl (by kernel_rfl) (by kernel_rfl) (by kernel_rfl) (by kernel_rfl) (fun _ _ _ h => h) (C5.out _ nb7) (.inl ⟨by rfl, fun w => .inl ?hy8⟩) ?_; case hy8 => (go_simp; try with_reducible rfl)
            try go_frame
            have p0 : v7.cell? ⟨v3.heap.size, 0, none⟩ = some (.slice none 0 0) := by rw [cell_of_row v7 (v3.heap.size) _ _ _ _ x7]; rfl
            have p1 : v7.cell? ⟨v3.heap.size, 1, none⟩ = some (.slice none 0 0) := by rw [cell_of_row v7 (v3.heap.size) _ _ _ _ x7]; rfl
            have p2 : v7.cell? ⟨v3.heap.size, 2, none⟩ = some (.slice none 0 0) := by rw [cell_of_row v7 (v3.heap.size) _ _ _ _ x7]; rfl
            have p3 : v7.cell? ⟨v3.heap.size, 3, none⟩ = some (.slice none 0 0) := by rw [cell_of_row v7 (v3.heap.size) _ _ _ _ x7]; rfl
            have z0 := unfrozen x7 0
            have z1 := unfrozen x7 1
            have z2 := unfrozen x7 2
            have z3 := unfrozen x7 3
            refine lateP (i := 10) rfl rfl (by kernel_rfl) (by kernel_rfl) (fun K hK => ?_)
            go_simp
            refine hK _ _ ?_; clear hK K
            try go_frame
            refine wpAny_done (by kernel_rfl) ?_ _
            go_wp2
            go_meet
            exact ⟨_, X2, e2, X7, e7, rfl, own_poke4 d7 x7 (by decide) _ _ _ _, own_poke4 r7 x7 (by decide) _ _ _ _, heap_same (heap_same (heap_same (heap_same (x7) (i := 0) (.slice X2 kd e2)) (i := 1) (.slice X7 kn e7)) (i := 2) (.slice none 0 0)) (i := 3) (.slice none 0 0), (Below.setCell ((Below.setCell ((Below.setCell ((Below.setCell (nb7) (p := ⟨v3.heap.size, 0, none⟩) (nb3).size (.slice X2 kd e2))) (p := ⟨v3.heap.size, 1, none⟩) (nb3).size (.slice X7 kn e7))) (p := ⟨v3.heap.size, 2, none⟩) (nb3).size (.slice none 0 0))) (p := ⟨v3.heap.size, 3, none⟩) (nb3).size (.slice none 0 0)), (nb3).size⟩
        · refine ⟨_, rfl, rfl, fun K hK => ?_⟩
          go_simp
          obtain ⟨v8, hv8⟩ : ∃ v, v2.alloc (.cells #[.slice none 0 0, .slice none 0 0, .slice none 0 0, .slice none 0 0] tAns) = v := ⟨_, rfl⟩
          have nb8 : Below w1.heap.size w1 v8 := by rw [← hv8]; exact (nb2).alloc (nb2).size _
          have d8 : v8.ownsRow w1.heap.size tU8 1 (.slice X2 kd e2) kd (cU8 db) := by rw [← hv8]; exact own_alloc r2 _
          have x8 : v8.heap[v2.heap.size]? = some (.cells #[.slice none 0 0, .slice none 0 0, .slice none 0 0, .slice none 0 0] tAns (0, 0)) := by rw [← hv8]; exact heap_alloc_new _ _
          try rw [hv8]
          refine hK _ _ (C5.out _ nb8) ?_; clear hK K
          try rw [hv8]
          clear hv8
          try go_frame
          refine forcedP (i := 4) rfl rfl (by kernel_rfl) (fun K hK => ?_)
          go_simp
          obtain ⟨v9, hv9⟩ : ∃ v, v8.alloc (.cells #[] 9) = v := ⟨_, rfl⟩
          have nb9 : Below w1.heap.size w1 v9 := by rw [← hv9]; exact (nb8).alloc (nb8).size _
          have d9 : v9.ownsRow w1.heap.size tU8 1 (.slice X2 kd e2) kd (cU8 db) := by rw [← hv9]; exact own_alloc d8 _
          have x9 : v9.heap[v2.heap.size]? = some (.cells #[.slice none 0 0, .slice none 0 0, .slice none 0 0, .slice none 0 0] tAns (0, 0)) := by rw [← hv9]; exact (heap_alloc_old _ _ (Array.getElem?_eq_some_iff.1 x8).1).trans x8
          have u9 : v9.ownsRow w1.heap.size 9 1 (.slice (some ⟨v8.heap.size, 0, none⟩) 0 0) 0 [] := by rw [← hv9]; exact own_new v8 (nb8).size 9 1 0 [] rfl (Nat.zero_le _)
          try rw [hv9]
          refine hK _ _ (C5.out _ nb9) ?_; clear hK K
          try rw [hv9]
          clear hv9
          try go_frame
          refine forcedP (i := 7) rfl rfl (by kernel_rfl) (fun K hK => ?_)
          refine wp_append_rd (.tmp 10) (.tmp 12) 36 rfl w1.heap.size 9 k0 (.string ⟨#[]⟩) 1 16 Try.underlying36 hk0 hx0 hx1 hx2 rfl (by decide) (.slice (some ⟨v8.heap.size, 0, none⟩) 0 0) 0 [] rfl u9 w1.heap.size An kn cn (cStr ns) rfl (HU3.out.below (nb9)) ZU.out (cStr_one _) (by unfold maxLen; omega) (by omega) (nb9).size ?_
          intro y10 v10 r10 g10
          have nb10 : Below w1.heap.size w1 v10 := (nb9).grown g10 (nb9).size (fun j hj => own_ge u9 hj)
          have d10 := grow_other d9 u9 (by decide) g10
          have x10 := grow_box x9 u9 (by decide) g10
          rw [Nat.zero_add, List.nil_append] at r10
          obtain ⟨X10, e10, rfl, _, _⟩ := own_form r10
          refine hK _ _ (C5.out _ nb10) ?_; clear hK K
          try go_frame
          refine takeT (i := 8) (v := ?_) rfl (by kernel_rfl) (by kernel_rfl) (by kernel_rfl) (by kernel_rfl) (fun _ _ _ h => h) (C5.out _ nb10) (.inl ⟨by rfl, fun w => .inl ?hy8⟩) ?_; case hy8 => (go_simp; try with_reducible rfl)
          try go_frame
          have p0 : v10.cell? ⟨v2.heap.size, 0, none⟩ = some (.slice none 0 0) := by rw [cell_of_row v10 (v2.heap.size) _ _ _ _ x10]; rfl
          have p1 : v10.cell? ⟨v2.heap.size, 1, none⟩ = some (.slice none 0 0) := by rw [cell_of_row v10 (v2.heap.size) _ _ _ _ x10]; rfl
          have p2 : v10.cell? ⟨v2.heap.size, 2, none⟩ = some (.slice none 0 0) := by rw [cell_of_row v10 (v2.heap.size) _ _ _ _ x10]; rfl
          have p3 : v10.cell? ⟨v2.heap.size, 3, none⟩ = some (.slice none 0 0) := by rw [cell_of_row v10 (v2.heap.size) _ _ _ _ x10]; rfl
          have z0 := unfrozen x10 0
          have z1 := unfrozen x10 1
          have z2 := unfrozen x10 2
          have z3 := unfrozen x10 3
          refine lateP (i := 10) rfl rfl (by kernel_rfl) (by kernel_rfl) (fun K hK => ?_)
          go_simp
          refine hK _ _ ?_; clear hK K
          try go_frame
          refine wpAny_done (by kernel_rfl) ?_ _
          go_wp2
          go_meet
          exact ⟨_, X2, e2, X10, e10, rfl, own_poke4 d10 x10 (by decide) _ _ _ _, own_poke4 r10 x10 (by decide) _ _ _ _, heap_same (heap_same (heap_same (heap_same (x10) (i := 0) (.slice X2 kd e2)) (i := 1) (.slice X10 kn e10)) (i := 2) (.slice none 0 0)) (i := 3) (.slice none 0 0), (Below.setCell ((Below.setCell ((Below.setCell ((Below.setCell (nb10) (p := ⟨v2.heap.size, 0, none⟩) (nb2).size (.slice X2 kd e2))) (p := ⟨v2.heap.size, 1, none⟩) (nb2).size (.slice X10 kn e10))) (p := ⟨v2.heap.size, 2, none⟩) (nb2).size (.slice none 0 0))) (p := ⟨v2.heap.size, 3, none⟩) (nb2).size (.slice none 0 0)), (nb2).size⟩
      · refine ⟨_, rfl, rfl, fun K hK => ?_⟩
        go_simp
        obtain ⟨v11, hv11⟩ : ∃ v, v1.alloc (.cells #[] 9) = v := ⟨_, rfl⟩
        have nb11 : Below w1.heap.size w1 v11 := by rw [← hv11]; exact (nb1).alloc (nb1).size _
        have d11 : v11.ownsRow w1.heap.size tU8 1 (.slice (some ⟨w2.heap.size, 0, none⟩) 0 0) 0 [] := by rw [← hv11]; exact own_alloc d1 _
        have u11 : v11.ownsRow w1.heap.size 9 1 (.slice (some ⟨v1.heap.size, 0, none⟩) 0 0) 0 [] := by rw [← hv11]; exact own_new v1 (nb1).size 9 1 0 [] rfl (Nat.zero_le _)
        try rw [hv11]
        refine hK _ _ (C5.out _ nb11) ?_; clear hK K
        try rw [hv11]
        clear hv11
        try go_frame
        refine forkL [3, 9] (by decide) (by kernel_rfl) (fun j hj => ?_)
        simp only [List.mem_cons, List.not_mem_nil, or_false] at hj
        rcases hj with rfl | rfl
        · refine ⟨_, rfl, rfl, fun K hK => ?_⟩
          refine wp_append_rd (.tmp 6) (.tmp 8) 35 rfl w1.heap.size tU8 i0 (.int .u8 0) 1 1 Try.underlying35 hi0 hz0 hz1 hz2 rfl (by decide) (.slice (some ⟨w2.heap.size, 0, none⟩) 0 0) 0 [] rfl d11 w1.heap.size Ad kd cd (cU8 db) rfl (HD3.out.below (nb11)) ZD.out (cU8_one _) (by unfold maxLen; omega) (by omega) (nb11).size ?_
          intro y12 v12 r12 g12
          have nb12 : Below w1.heap.size w1 v12 := (nb11).grown g12 (nb11).size (fun j hj => own_ge d11 hj)
          have u12 := grow_other u11 d11 (by decide) g12
          rw [Nat.zero_add, List.nil_append] at r12
          obtain ⟨X12, e12, rfl, _, _⟩ := own_form r12
          refine hK _ _ (C5.out _ nb12) ?_; clear hK K
          try go_frame
          refine forkL [7, 9] (by decide) (by kernel_rfl) (fun j hj => ?_)
          simp only [List.mem_cons, List.not_mem_nil, or_false] at hj
          rcases hj with rfl | rfl
          · refine ⟨_, rfl, rfl, fun K hK => ?_⟩
            refine wp_append_rd (.tmp 10) (.tmp 12) 36 rfl w1.heap.size 9 k0 (.string ⟨#[]⟩) 1 16 Try.underlying36 hk0 hx0 hx1 hx2 rfl (by decide) (.slice (some ⟨v1.heap.size, 0, none⟩) 0 0) 0 [] rfl u12 w1.heap.size An kn cn (cStr ns) rfl (HU3.out.below (nb12)) ZU.out (cStr_one _) (by unfold maxLen; omega) (by omega) (nb12).size ?_
            intro y13 v13 r13 g13
            have nb13 : Below w1.heap.size w1 v13 := (nb12).grown g13 (nb12).size (fun j hj => own_ge u12 hj)
            have d13 := grow_other r12 u12 (by decide) g13
            rw [Nat.zero_add, List.nil_append] at r13
            obtain ⟨X13, e13, rfl, _, _⟩ := own_form r13
            refine hK _ _ (C5.out _ nb13) ?_; clear hK K
            try go_frame
            refine takeT (i := 8) (v := ?_) rfl (by kernel_rfl) (by kernel_rfl) (by kernel_rfl) (by kernel_rfl) (fun _ _ _ h => h) (C5.out _ nb13) (.inl ⟨by rfl, fun w => .inl ?hy8⟩) ?_; case hy8 => (go_simp; try with_reducible rfl)
            try go_frame
            refine forcedP (i := 9) rfl rfl (by kernel_rfl) (fun K hK => ?_)
            go_simp
            obtain ⟨v14, hv14⟩ : ∃ v, v13.alloc (.cells #[.slice none 0 0, .slice none 0 0, .slice none 0 0, .slice none 0 0] tAns) = v := ⟨_, rfl⟩
            have nb14 : Below w1.heap.size w1 v14 := by rw [← hv14]; exact (nb13).alloc (nb13).size _
            have d14 : v14.ownsRow w1.heap.size tU8 1 (.slice X12 kd e12) kd (cU8 db) := by rw [← hv14]; exact own_alloc d13 _
            have u14 : v14.ownsRow w1.heap.size 9 1 (.slice X13 kn e13) kn (cStr ns) := by rw [← hv14]; exact own_alloc r13 _
            have x14 : v14.heap[v13.heap.size]? = some (.cells #[.slice none 0 0, .slice none 0 0, .slice none 0 0, .slice none 0 0] tAns (0, 0)) := by rw [← hv14]; exact heap_alloc_new _ _
            try rw [hv14]
            refine hK _ _ (C5.out _ nb14) ?_; clear hK K
            try rw [hv14]
            clear hv14
            try go_frame
            have p0 : v14.cell? ⟨v13.heap.size, 0, none⟩ = some (.slice none 0 0) := by rw [cell_of_row v14 (v13.heap.size) _ _ _ _ x14]; rfl
            have p1 : v14.cell? ⟨v13.heap.size, 1, none⟩ = some (.slice none 0 0) := by rw [cell_of_row v14 (v13.heap.size) _ _ _ _ x14]; rfl
            have p2 : v14.cell? ⟨v13.heap.size, 2, none⟩ = some (.slice none 0 0) := by rw [cell_of_row v14 (v13.heap.size) _ _ _ _ x14]; rfl
            have p3 : v14.cell? ⟨v13.heap.size, 3, none⟩ = some (.slice none 0 0) := by rw [cell_of_row v14 (v13.heap.size) _ _ _ _ x14]; rfl
            have z0 := unfrozen x14 0
            have z1 := unfrozen x14 1
            have z2 := unfrozen x14 2
            have z3 := unfrozen x14 3
            refine lateP (i := 10) rfl rfl (by kernel_rfl) (by kernel_rfl) (fun K hK => ?_)
            go_simp
            refine hK _ _ ?_; clear hK K
            try go_frame
            refine wpAny_done (by kernel_rfl) ?_ _
            go_wp2
            go_meet
            exact ⟨_, X12, e12, X13, e13, rfl, own_poke4 d14 x14 (by decide) _ _ _ _, own_poke4 u14 x14 (by decide) _ _ _ _, heap_same (heap_same (heap_same (heap_same (x14) (i := 0) (.slice X12 kd e12)) (i := 1) (.slice X13 kn e13)) (i := 2) (.slice none 0 0)) (i := 3) (.slice none 0 0), (Below.setCell ((Below.setCell ((Below.setCell ((Below.setCell (nb14) (p := ⟨v13.heap.size, 0, none⟩) (nb13).size (.slice X12 kd e12))) (p := ⟨v13.heap.size, 1, none⟩) (nb13).size (.slice X13 kn e13))) (p := ⟨v13.heap.size, 2, none⟩) (nb13).size (.slice none 0 0))) (p := ⟨v13.heap.size, 3, none⟩) (nb13).size (.slice none 0 0)), (nb13).size⟩
          · refine ⟨_, rfl, rfl, fun K hK => ?_⟩
            go_simp
            obtain ⟨v15, hv15⟩ : ∃ v, v12.alloc (.cells #[.slice none 0 0, .slice none 0 0, .slice none 0 0, .slice none 0 0] tAns) = v := ⟨_, rfl⟩
            have nb15 : Below w1.heap.size w1 v15 := by rw [← hv15]; exact (nb12).alloc (nb12).size _
            have d15 : v15.ownsRow w1.heap.size tU8 1 (.slice X12 kd e12) kd (cU8 db) := by rw [← hv15]; exact own_alloc r12 _
            have u15 : v15.ownsRow w1.heap.size 9 1 (.slice (some ⟨v1.heap.size, 0, none⟩) 0 0) 0 [] := by rw [← hv15]; exact own_alloc u12 _
            have x15 : v15.heap[v12.heap.size]? = some (.cells #[.slice none 0 0, .slice none 0 0, .slice none 0 0, .slice none 0 0] tAns (0, 0)) := by rw [← hv15]; exact heap_alloc_new _ _
            try rw [hv15]
            refine hK _ _ (C5.out _ nb15) ?_; clear hK K
            try rw [hv15]
            clear hv15
            try go_frame
            refine forcedP (i := 7) rfl rfl (by kernel_rfl) (fun K hK => ?_)
            refine wp_append_rd (.tmp 10) (.tmp 12) 36 rfl w1.heap.size 9 k0 (.string ⟨#[]⟩) 1 16 Try.underlying36 hk0 hx0 hx1 hx2 rfl (by decide) (.slice (some ⟨v1.heap.size, 0, none⟩) 0 0) 0 [] rfl u15 w1.heap.size An kn cn (cStr ns) rfl (HU3.out.below (nb15)) ZU.out (cStr_one _) (by unfold maxLen; omega) (by omega) (nb15).size ?_
            intro y16 v16 r16 g16
            have nb16 : Below w1.heap.size w1 v16 := (nb15).grown g16 (nb15).size (fun j hj => own_ge u15 hj)
            have d16 := grow_other d15 u15 (by decide) g16
            have x16 := grow_box x15 u15 (by decide) g16
            rw [Nat.zero_add, List.nil_append] at r16
            obtain ⟨X16, e16, rfl, _, _⟩ := own_form r16
            refine hK _ _ (C5.out _ nb16) ?_; clear hK K
            try go_frame
            refine takeT (i := 8) (v := ?_) rfl (by kernel_rfl) (by kernel_rfl) (by kernel_rfl) (by kernel_rfl) (fun _ _ _ h => h) (C5.out _ nb16) (.inl ⟨by rfl, fun w => .inl ?hy8⟩) ?_; case hy8 => (go_simp; try with_reducible rfl)
            try go_frame
            have p0 : v16.cell? ⟨v12.heap.size, 0, none⟩ = some (.slice none 0 0) := by rw [cell_of_row v16 (v12.heap.size) _ _ _ _ x16]; rfl
            have p1 : v16.cell? ⟨v12.heap.size, 1, none⟩ = some (.slice none 0 0) := by rw [cell_of_row v16 (v12.heap.size) _ _ _ _ x16]; rfl
            have p2 : v16.cell? ⟨v12.heap.size, 2, none⟩ = some (.slice none 0 0) := by rw [cell_of_row v16 (v12.heap.size) _ _ _ _ x16]; rfl
            have p3 : v16.cell? ⟨v12.heap.size, 3, none⟩ = some (.slice none 0 0) := by rw [cell_of_row v16 (v12.heap.size) _ _ _ _ x16]; rfl
            have z0 := unfrozen x16 0
            have z1 := unfrozen x16 1
            have z2 := unfrozen x16 2
            have z3 := unfrozen x16 3
            refine lateP (i := 10) rfl rfl (by kernel_rfl) (by kernel_rfl) (fun K hK => ?_)
            go_simp
            refine hK _ _ ?_; clear hK K
            try go_frame
            refine wpAny_done (by kernel_rfl) ?_ _
            go_wp2
            go_meet
            exact ⟨_, X12, e12, X16, e16, rfl, own_poke4 d16 x16 (by decide) _ _ _ _, own_poke4 r16 x16 (by decide) _ _ _ _, heap_same (heap_same (heap_same (heap_same (x16) (i := 0) (.slice X12 kd e12)) (i := 1) (.slice X16 kn e16)) (i := 2) (.slice none 0 0)) (i := 3) (.slice none 0 0), (Below.setCell ((Below.setCell ((Below.setCell ((Below.setCell (nb16) (p := ⟨v12.heap.size, 0, none⟩) (nb12).size (.slice X12 kd e12))) (p := ⟨v12.heap.size, 1, none⟩) (nb12).size (.slice X16 kn e16))) (p := ⟨v12.heap.size, 2, none⟩) (nb12).size (.slice none 0 0))) (p := ⟨v12.heap.size, 3, none⟩) (nb12).size (.slice none 0 0)), (nb12).size⟩
        · refine ⟨_, rfl, rfl, fun K hK => ?_⟩
          go_simp
          obtain ⟨v17, hv17⟩ : ∃ v, v11.alloc (.cells #[.slice none 0 0, .slice none 0 0, .slice none 0 0, .slice none 0 0] tAns) = v := ⟨_, rfl⟩
          have nb17 : Below w1.heap.size w1 v17 := by rw [← hv17]; exact (nb11).alloc (nb11).size _
          have d17 : v17.ownsRow w1.heap.size tU8 1 (.slice (some ⟨w2.heap.size, 0, none⟩) 0 0) 0 [] := by rw [← hv17]; exact own_alloc d11 _
          have u17 : v17.ownsRow w1.heap.size 9 1 (.slice (some ⟨v1.heap.size, 0, none⟩) 0 0) 0 [] := by rw [← hv17]; exact own_alloc u11 _
          have x17 : v17.heap[v11.heap.size]? = some (.cells #[.slice none 0 0, .slice none 0 0, .slice none 0 0, .slice none 0 0] tAns (0, 0)) := by rw [← hv17]; exact heap_alloc_new _ _
          try rw [hv17]
          refine hK _ _ (C5.out _ nb17) ?_; clear hK K
          try rw [hv17]
          clear hv17
          try go_frame
          refine forcedP (i := 3) rfl rfl (by kernel_rfl) (fun K hK => ?_)
          refine wp_append_rd (.tmp 6) (.tmp 8) 35 rfl w1.heap.size tU8 i0 (.int .u8 0) 1 1 Try.underlying35 hi0 hz0 hz1 hz2 rfl (by decide) (.slice (some ⟨w2.heap.size, 0, none⟩) 0 0) 0 [] rfl d17 w1.heap.size Ad kd cd (cU8 db) rfl (HD3.out.below (nb17)) ZD.out (cU8_one _) (by unfold maxLen; omega) (by omega) (nb17).size ?_
          intro y18 v18 r18 g18
          have nb18 : Below w1.heap.size w1 v18 := (nb17).grown g18 (nb17).size (fun j hj => own_ge d17 hj)
          have u18 := grow_other u17 d17 (by decide) g18
          have x18 := grow_box x17 d17 (by decide) g18
          rw [Nat.zero_add, List.nil_append] at r18
          obtain ⟨X18, e18, rfl, _, _⟩ := own_form r18
          refine hK _ _ (C5.out _ nb18) ?_; clear hK K
          try go_frame
          refine forcedP (i := 7) rfl rfl (by kernel_rfl) (fun K hK => ?_)
          refine wp_append_rd (.tmp 10) (.tmp 12) 36 rfl w1.heap.size 9 k0 (.string ⟨#[]⟩) 1 16 Try.underlying36 hk0 hx0 hx1 hx2 rfl (by decide) (.slice (some ⟨v1.heap.size, 0, none⟩) 0 0) 0 [] rfl u18 w1.heap.size An kn cn (cStr ns) rfl (HU3.out.below (nb18)) ZU.out (cStr_one _) (by unfold maxLen; omega) (by omega) (nb18).size ?_
          intro y19 v19 r19 g19
          have nb19 : Below w1.heap.size w1 v19 := (nb18).grown g19 (nb18).size (fun j hj => own_ge u18 hj)
          have d19 := grow_other r18 u18 (by decide) g19
          have x19 := grow_box x18 u18 (by decide) g19
          rw [Nat.zero_add, List.nil_append] at r19
          obtain ⟨X19, e19, rfl, _, _⟩ := own_form r19
          refine hK _ _ (C5.out _ nb19) ?_; clear hK K
          try go_frame
          refine takeT (i := 8) (v := ?_) rfl (by kernel_rfl) (by kernel_rfl) (by kernel_rfl) (by kernel_rfl) (fun _ _ _ h => h) (C5.out _ nb19) (.inl ⟨by rfl, fun w => .inl ?hy8⟩) ?_; case hy8 => (go_simp; try with_reducible rfl)
          try go_frame
          have p0 : v19.cell? ⟨v11.heap.size, 0, none⟩ = some (.slice none 0 0) := by rw [cell_of_row v19 (v11.heap.size) _ _ _ _ x19]; rfl
          have p1 : v19.cell? ⟨v11.heap.size, 1, none⟩ = some (.slice none 0 0) := by rw [cell_of_row v19 (v11.heap.size) _ _ _ _ x19]; rfl
          have p2 : v19.cell? ⟨v11.heap.size, 2, none⟩ = some (.slice none 0 0) := by rw [cell_of_row v19 (v11.heap.size) _ _ _ _ x19]; rfl
          have p3 : v19.cell? ⟨v11.heap.size, 3, none⟩ = some (.slice none 0 0) := by rw [cell_of_row v19 (v11.heap.size) _ _ _ _ x19]; rfl
          have z0 := unfrozen x19 0
          have z1 := unfrozen x19 1
          have z2 := unfrozen x19 2
          have z3 := unfrozen x19 3
          refine lateP (i := 10) rfl rfl (by kernel_rfl) (by kernel_rfl) (fun K hK => ?_)
          go_simp
          refine hK _ _ ?_; clear hK K
          try go_frame
          refine wpAny_done (by kernel_rfl) ?_ _
          go_wp2
          go_meet
          exact ⟨_, X18, e18, X19, e19, rfl, own_poke4 d19 x19 (by decide) _ _ _ _, own_poke4 r19 x19 (by decide) _ _ _ _, heap_same (heap_same (heap_same (heap_same (x19) (i := 0) (.slice X18 kd e18)) (i := 1) (.slice X19 kn e19)) (i := 2) (.slice none 0 0)) (i := 3) (.slice none 0 0), (Below.setCell ((Below.setCell ((Below.setCell ((Below.setCell (nb19) (p := ⟨v11.heap.size, 0, none⟩) (nb11).size (.slice X18 kd e18))) (p := ⟨v11.heap.size, 1, none⟩) (nb11).size (.slice X19 kn e19))) (p := ⟨v11.heap.size, 2, none⟩) (nb11).size (.slice none 0 0))) (p := ⟨v11.heap.size, 3, none⟩) (nb11).size (.slice none 0 0)), (nb11).size⟩
      · refine ⟨_, rfl, rfl, fun K hK => ?_⟩
        go_simp
        obtain ⟨v20, hv20⟩ : ∃ v, v1.alloc (.cells #[.slice none 0 0, .slice none 0 0, .slice none 0 0, .slice none 0 0] tAns) = v := ⟨_, rfl⟩
        have nb20 : Below w1.heap.size w1 v20 := by rw [← hv20]; exact (nb1).alloc (nb1).size _
        have d20 : v20.ownsRow w1.heap.size tU8 1 (.slice (some ⟨w2.heap.size, 0, none⟩) 0 0) 0 [] := by rw [← hv20]; exact own_alloc d1 _
        have x20 : v20.heap[v1.heap.size]? = some (.cells #[.slice none 0 0, .slice none 0 0, .slice none 0 0, .slice none 0 0] tAns (0, 0)) := by rw [← hv20]; exact heap_alloc_new _ _
        try rw [hv20]
        refine hK _ _ (C5.out _ nb20) ?_; clear hK K
        try rw [hv20]
        clear hv20
        try go_frame
        refine forkL [3, 4] (by decide) (by kernel_rfl) (fun j hj => ?_)
        simp only [List.mem_cons, List.not_mem_nil, or_false] at hj
        rcases hj with rfl | rfl
        · refine ⟨_, rfl, rfl, fun K hK => ?_⟩
          refine wp_append_rd (.tmp 6) (.tmp 8) 35 rfl w1.heap.size tU8 i0 (.int .u8 0) 1 1 Try.underlying35 hi0 hz0 hz1 hz2 rfl (by decide) (.slice (some ⟨w2.heap.size, 0, none⟩) 0 0) 0 [] rfl d20 w1.heap.size Ad kd cd (cU8 db) rfl (HD3.out.below (nb20)) ZD.out (cU8_one _) (by unfold maxLen; omega) (by omega) (nb20).size ?_
          intro y21 v21 r21 g21
          have nb21 : Below w1.heap.size w1 v21 := (nb20).grown g21 (nb20).size (fun j hj => own_ge d20 hj)
          have x21 := grow_box x20 d20 (by decide) g21
          rw [Nat.zero_add, List.nil_append] at r21
          obtain ⟨X21, e21, rfl, _, _⟩ := own_form r21
          refine hK _ _ (C5.out _ nb21) ?_; clear hK K
          try go_frame
          refine forcedP (i := 4) rfl rfl (by kernel_rfl) (fun K hK => ?_)
          go_simp
          obtain ⟨v22, hv22⟩ : ∃ v, v21.alloc (.cells #[] 9) = v := ⟨_, rfl⟩
          have nb22 : Below w1.heap.size w1 v22 := by rw [← hv22]; exact (nb21).alloc (nb21).size _
          have d22 : v22.ownsRow w1.heap.size tU8 1 (.slice X21 kd e21) kd (cU8 db) := by rw [← hv22]; exact own_alloc r21 _
          have x22 : v22.heap[v1.heap.size]? = some (.cells #[.slice none 0 0, .slice none 0 0, .slice none 0 0, .slice none 0 0] tAns (0, 0)) := by rw [← hv22]; exact (heap_alloc_old _ _ (Array.getElem?_eq_some_iff.1 x21).1).trans x21
          have u22 : v22.ownsRow w1.heap.size 9 1 (.slice (some ⟨v21.heap.size, 0, none⟩) 0 0) 0 [] := by rw [← hv22]; exact own_new v21 (nb21).size 9 1 0 [] rfl (Nat.zero_le _)
          try rw [hv22]
          refine hK _ _ (C5.out _ nb22) ?_; clear hK K
          try rw [hv22]
          clear hv22
          try go_frame
          refine forcedP (i := 7) rfl rfl (by kernel_rfl) (fun K hK => ?_)
          refine wp_append_rd (.tmp 10) (.tmp 12) 36 rfl w1.heap.size 9 k0 (.string ⟨#[]⟩) 1 16 Try.underlying36 hk0 hx0 hx1 hx2 rfl (by decide) (.slice (some ⟨v21.heap.size, 0, none⟩) 0 0) 0 [] rfl u22 w1.heap.size An kn cn (cStr ns) rfl (HU3.out.below (nb22)) ZU.out (cStr_one _) (by unfold maxLen; omega) (by omega) (nb22).size ?_
          intro y23 v23 r23 g23
          have nb23 : Below w1.heap.size w1 v23 := (nb22).grown g23 (nb22).size (fun j hj => own_ge u22 hj)
          have d23 := grow_other d22 u22 (by decide) g23
          have x23 := grow_box x22 u22 (by decide) g23
          rw [Nat.zero_add, List.nil_append] at r23
          obtain ⟨X23, e23, rfl, _, _⟩ := own_form r23
          refine hK _ _ (C5.out _ nb23) ?_; clear hK K
          try go_frame
          refine takeT (i := 8) (v := ?_) rfl (by kernel_rfl) (by kernel_rfl) (by kernel_rfl) (by kernel_rfl) (fun _ _ _ h => h) (C5.out _ nb23) (.inl ⟨by rfl, fun w => .inl ?hy8⟩) ?_; case hy8 => (go_simp; try with_reducible rfl)
          try go_frame
          have p0 : v23.cell? ⟨v1.heap.size, 0, none⟩ = some (.slice none 0 0) := by rw [cell_of_row v23 (v1.heap.size) _ _ _ _ x23]; rfl
          have p1 : v23.cell? ⟨v1.heap.size, 1, none⟩ = some (.slice none 0 0) := by rw [cell_of_row v23 (v1.heap.size) _ _ _ _ x23]; rfl
          have p2 : v23.cell? ⟨v1.heap.size, 2, none⟩ = some (.slice none 0 0) := by rw [cell_of_row v23 (v1.heap.size) _ _ _ _ x23]; rfl
          have p3 : v23.cell? ⟨v1.heap.size, 3, none⟩ = some (.slice none 0 0) := by rw [cell_of_row v23 (v1.heap.size) _ _ _ _ x23]; rfl
          have z0 := unfrozen x23 0
          have z1 := unfrozen x23 1
          have z2 := unfrozen x23 2
          have z3 := unfrozen x23 3
          refine lateP (i := 10) rfl rfl (by kernel_rfl) (by kernel_rfl) (fun K hK => ?_)
          go_simp
          refine hK _ _ ?_; clear hK K
          try go_frame
          refine wpAny_done (by kernel_rfl) ?_ _
          go_wp2
          go_meet
          exact ⟨_, X21, e21, X23, e23, rfl, own_poke4 d23 x23 (by decide) _ _ _ _, own_poke4 r23 x23 (by decide) _ _ _ _, heap_same (heap_same (heap_same (heap_same (x23) (i := 0) (.slice X21 kd e21)) (i := 1) (.slice X23 kn e23)) (i := 2) (.slice none 0 0)) (i := 3) (.slice none 0 0), (Below.setCell ((Below.setCell ((Below.setCell ((Below.setCell (nb23) (p := ⟨v1.heap.size, 0, none⟩) (nb1).size (.slice X21 kd e21))) (p := ⟨v1.heap.size, 1, none⟩) (nb1).size (.slice X23 kn e23))) (p := ⟨v1.heap.size, 2, none⟩) (nb1).size (.slice none 0 0))) (p := ⟨v1.heap.size, 3, none⟩) (nb1).size (.slice none 0 0)), (nb1).size⟩
        · refine ⟨_, rfl, rfl, fun K hK => ?_⟩
          go_simp
          obtain ⟨v24, hv24⟩ : ∃ v, v20.alloc (.cells #[] 9) = v := ⟨_, rfl⟩
          have nb24 : Below w1.heap.size w1 v24 := by rw [← hv24]; exact (nb20).alloc (nb20).size _
          have d24 : v24.ownsRow w1.heap.size tU8 1 (.slice (some ⟨w2.heap.size, 0, none⟩) 0 0) 0 [] := by rw [← hv24]; exact own_alloc d20 _
          have x24 : v24.heap[v1.heap.size]? = some (.cells #[.slice none 0 0, .slice none 0 0, .slice none 0 0, .slice none 0 0] tAns (0, 0)) := by rw [← hv24]; exact (heap_alloc_old _ _ (Array.getElem?_eq_some_iff.1 x20).1).trans x20
          have u24 : v24.ownsRow w1.heap.size 9 1 (.slice (some ⟨v20.heap.size, 0, none⟩) 0 0) 0 [] := by rw [← hv24]; exact own_new v20 (nb20).size 9 1 0 [] rfl (Nat.zero_le _)
          try rw [hv24]
          refine hK _ _ (C5.out _ nb24) ?_; clear hK K
          try rw [hv24]
          clear hv24
          try go_frame
          refine forcedP (i := 3) rfl rfl (by kernel_rfl) (fun K hK => ?_)
          refine wp_append_rd (.tmp 6) (.tmp 8) 35 rfl w1.heap.size tU8 i0 (.int .u8 0) 1 1 Try.underlying35 hi0 hz0 hz1 hz2 rfl (by decide) (.slice (some ⟨w2.heap.size, 0, none⟩) 0 0) 0 [] rfl d24 w1.heap.size Ad kd cd (cU8 db) rfl (HD3.out.below (nb24)) ZD.out (cU8_one _) (by unfold maxLen; omega) (by omega) (nb24).size ?_
          intro y25 v25 r25 g25
          have nb25 : Below w1.heap.size w1 v25 := (nb24).grown g25 (nb24).size (fun j hj => own_ge d24 hj)
          have u25 := grow_other u24 d24 (by decide) g25
          have x25 := grow_box x24 d24 (by decide) g25
          rw [Nat.zero_add, List.nil_append] at r25
          obtain ⟨X25, e25, rfl, _, _⟩ := own_form r25
          refine hK _ _ (C5.out _ nb25) ?_; clear hK K
          try go_frame
          refine forcedP (i := 7) rfl rfl (by kernel_rfl) (fun K hK => ?_)
          refine wp_append_rd (.tmp 10) (.tmp 12) 36 rfl w1.heap.size 9 k0 (.string ⟨#[]⟩) 1 16 Try.underlying36 hk0 hx0 hx1 hx2 rfl (by decide) (.slice (some ⟨v20.heap.size, 0, none⟩) 0 0) 0 [] rfl u25 w1.heap.size An kn cn (cStr ns) rfl (HU3.out.below (nb25)) ZU.out (cStr_one _) (by unfold maxLen; omega) (by omega) (nb25).size ?_
          intro y26 v26 r26 g26
          have nb26 : Below w1.heap.size w1 v26 := (nb25).grown g26 (nb25).size (fun j hj => own_ge u25 hj)
          have d26 := grow_other r25 u25 (by decide) g26
          have x26 := grow_box x25 u25 (by decide) g26
          rw [Nat.zero_add, List.nil_append] at r26
          obtain ⟨X26, e26, rfl, _, _⟩ := own_form r26
          refine hK _ _ (C5.out _ nb26) ?_; clear hK K
          try go_frame
          refine takeT (i := 8) (v := ?_) rfl (by kernel_rfl) (by kernel_rfl) (by kernel_rfl) (by kernel_rfl) (fun _ _ _ h => h) (C5.out _ nb26) (.inl ⟨by rfl, fun w => .inl ?hy8⟩) ?_; case hy8 => (go_simp; try with_reducible rfl)
          try go_frame
          have p0 : v26.cell? ⟨v1.heap.size, 0, none⟩ = some (.slice none 0 0) := by rw [cell_of_row v26 (v1.heap.size) _ _ _ _ x26]; rfl
          have p1 : v26.cell? ⟨v1.heap.size, 1, none⟩ = some (.slice none 0 0) := by rw [cell_of_row v26 (v1.heap.size) _ _ _ _ x26]; rfl
          have p2 : v26.cell? ⟨v1.heap.size, 2, none⟩ = some (.slice none 0 0) := by rw [cell_of_row v26 (v1.heap.size) _ _ _ _ x26]; rfl
          have p3 : v26.cell? ⟨v1.heap.size, 3, none⟩ = some (.slice none 0 0) := by rw [cell_of_row v26 (v1.heap.size) _ _ _ _ x26]; rfl
          have z0 := unfrozen x26 0
          have z1 := unfrozen x26 1
          have z2 := unfrozen x26 2
          have z3 := unfrozen x26 3
          refine lateP (i := 10) rfl rfl (by kernel_rfl) (by kernel_rfl) (fun K hK => ?_)
          go_simp
          refine hK _ _ ?_; clear hK K
          try go_frame
          refine wpAny_done (by kernel_rfl) ?_ _
          go_wp2
          go_meet
          exact ⟨_, X25, e25, X26, e26, rfl, own_poke4 d26 x26 (by decide) _ _ _ _, own_poke4 r26 x26 (by decide) _ _ _ _, heap_same (heap_same (heap_same (heap_same (x26) (i := 0) (.slice X25 kd e25)) (i := 1) (.slice X26 kn e26)) (i := 2) (.slice none 0 0)) (i := 3) (.slice none 0 0), (Below.setCell ((Below.setCell ((Below.setCell ((Below.setCell (nb26) (p := ⟨v1.heap.size, 0, none⟩) (nb1).size (.slice X25 kd e25))) (p := ⟨v1.heap.size, 1, none⟩) (nb1).size (.slice X26 kn e26))) (p := ⟨v1.heap.size, 2, none⟩) (nb1).size (.slice none 0 0))) (p := ⟨v1.heap.size, 3, none⟩) (nb1).size (.slice none 0 0)), (nb1).size⟩
    · refine ⟨_, rfl, rfl, fun K hK => ?_⟩
      go_simp
      obtain ⟨v27, hv27⟩ : ∃ v, w2.alloc (.cells #[] 9) = v := ⟨_, rfl⟩
      have nb27 : Below w1.heap.size w1 v27 := by rw [← hv27]; exact (nb0).alloc (nb0).size _
      have u27 : v27.ownsRow w1.heap.size 9 1 (.slice (some ⟨w2.heap.size, 0, none⟩) 0 0) 0 [] := by rw [← hv27]; exact own_new w2 (nb0).size 9 1 0 [] rfl (Nat.zero_le _)
      try rw [hv27]
      refine hK _ _ (C5.out _ nb27) ?_; clear hK K
      try rw [hv27]
      clear hv27
      try go_frame
      refine forkL [0, 9] (by decide) (by kernel_rfl) (fun j hj => ?_)
      simp only [List.mem_cons, List.not_mem_nil, or_false] at hj
      rcases hj with rfl | rfl
      · refine ⟨_, rfl, rfl, fun K hK => ?_⟩
        go_simp
        obtain ⟨v28, hv28⟩ : ∃ v, v27.alloc (.cells #[] tU8) = v := ⟨_, rfl⟩
        have nb28 : Below w1.heap.size w1 v28 := by rw [← hv28]; exact (nb27).alloc (nb27).size _
        have u28 : v28.ownsRow w1.heap.size 9 1 (.slice (some ⟨w2.heap.size, 0, none⟩) 0 0) 0 [] := by rw [← hv28]; exact own_alloc u27 _
        have d28 : v28.ownsRow w1.heap.size tU8 1 (.slice (some ⟨v27.heap.size, 0, none⟩) 0 0) 0 [] := by rw [← hv28]; exact own_new v27 (nb27).size tU8 1 0 [] rfl (Nat.zero_le _)
        try rw [hv28]
        refine hK _ _ (C5.out _ nb28) ?_; clear hK K
        try rw [hv28]
        clear hv28
        try go_frame
        refine forkL [3, 9] (by decide) (by kernel_rfl) (fun j hj => ?_)
        simp only [List.mem_cons, List.not_mem_nil, or_false] at hj
        rcases hj with rfl | rfl
        · refine ⟨_, rfl, rfl, fun K hK => ?_⟩
          refine wp_append_rd (.tmp 6) (.tmp 8) 35 rfl w1.heap.size tU8 i0 (.int .u8 0) 1 1 Try.underlying35 hi0 hz0 hz1 hz2 rfl (by decide) (.slice (some ⟨v27.heap.size, 0, none⟩) 0 0) 0 [] rfl d28 w1.heap.size Ad kd cd (cU8 db) rfl (HD3.out.below (nb28)) ZD.out (cU8_one _) (by unfold maxLen; omega) (by omega) (nb28).size ?_
          intro y29 v29 r29 g29
          have nb29 : Below w1.heap.size w1 v29 := (nb28).grown g29 (nb28).size (fun j hj => own_ge d28 hj)
          have u29 := grow_other u28 d28 (by decide) g29
          rw [Nat.zero_add, List.nil_append] at r29
          obtain ⟨X29, e29, rfl, _, _⟩ := own_form r29
          refine hK _ _ (C5.out _ nb29) ?_; clear hK K
          try go_frame
          refine forkL [7, 9] (by decide) (by kernel_rfl) (fun j hj => ?_)
          simp only [List.mem_cons, List.not_mem_nil, or_false] at hj
          rcases hj with rfl | rfl
          · refine ⟨_, rfl, rfl, fun K hK => ?_⟩
            refine wp_append_rd (.tmp 10) (.tmp 12) 36 rfl w1.heap.size 9 k0 (.string ⟨#[]⟩) 1 16 Try.underlying36 hk0 hx0 hx1 hx2 rfl (by decide) (.slice (some ⟨w2.heap.size, 0, none⟩) 0 0) 0 [] rfl u29 w1.heap.size An kn cn (cStr ns) rfl (HU3.out.below (nb29)) ZU.out (cStr_one _) (by unfold maxLen; omega) (by omega) (nb29).size ?_
            intro y30 v30 r30 g30
            have nb30 : Below w1.heap.size w1 v30 := (nb29).grown g30 (nb29).size (fun j hj => own_ge u29 hj)
            have d30 := grow_other r29 u29 (by decide) g30
            rw [Nat.zero_add, List.nil_append] at r30
            obtain ⟨X30, e30, rfl, _, _⟩ := own_form r30
            refine hK _ _ (C5.out _ nb30) ?_; clear hK K
            try go_frame
            refine takeT (i := 8) (v := ?_) rfl (by kernel_rfl) (by kernel_rfl) (by kernel_rfl) (by kernel_rfl) (fun _ _ _ h => h) (C5.out _ nb30) (.inl ⟨by rfl, fun w => .inl ?hy8⟩) ?_; case hy8 => (go_simp; try with_reducible rfl)
            try go_frame
            refine forcedP (i := 9) rfl rfl (by kernel_rfl) (fun K hK => ?_)
            go_simp
            obtain ⟨v31, hv31⟩ : ∃ v, v30.alloc (.cells #[.slice none 0 0, .slice none 0 0, .slice none 0 0, .slice none 0 0] tAns) = v := ⟨_, rfl⟩
            have nb31 : Below w1.heap.size w1 v31 := by rw [← hv31]; exact (nb30).alloc (nb30).size _
            have d31 : v31.ownsRow w1.heap.size tU8 1 (.slice X29 kd e29) kd (cU8 db) := by rw [← hv31]; exact own_alloc d30 _
            have u31 : v31.ownsRow w1.heap.size 9 1 (.slice X30 kn e30) kn (cStr ns) := by rw [← hv31]; exact own_alloc r30 _
            have x31 : v31.heap[v30.heap.size]? = some (.cells #[.slice none 0 0, .slice none 0 0, .slice none 0 0, .slice none 0 0] tAns (0, 0)) := by rw [← hv31]; exact heap_alloc_new _ _
            try rw [hv31]
            refine hK _ _ (C5.out _ nb31) ?_; clear hK K
            try rw [hv31]
            clear hv31
            try go_frame
            have p0 : v31.cell? ⟨v30.heap.size, 0, none⟩ = some (.slice none 0 0) := by rw [cell_of_row v31 (v30.heap.size) _ _ _ _ x31]; rfl
            have p1 : v31.cell? ⟨v30.heap.size, 1, none⟩ = some (.slice none 0 0) := by rw [cell_of_row v31 (v30.heap.size) _ _ _ _ x31]; rfl
            have p2 : v31.cell? ⟨v30.heap.size, 2, none⟩ = some (.slice none 0 0) := by rw [cell_of_row v31 (v30.heap.size) _ _ _ _ x31]; rfl
            have p3 : v31.cell? ⟨v30.heap.size, 3, none⟩ = some (.slice none 0 0) := by rw [cell_of_row v31 (v30.heap.size) _ _ _ _ x31]; rfl
            have z0 := unfrozen x31 0
            have z1 := unfrozen x31 1
            have z2 := unfrozen x31 2
            have z3 := unfrozen x31 3
            refine lateP (i := 10) rfl rfl (by kernel_rfl) (by kernel_rfl) (fun K hK => ?_)
            go_simp
            refine hK _ _ ?_; clear hK K
            try go_frame
            refine wpAny_done (by kernel_rfl) ?_ _
            go_wp2
            go_meet
            exact ⟨_, X29, e29, X30, e30, rfl, own_poke4 d31 x31 (by decide) _ _ _ _, own_poke4 u31 x31 (by decide) _ _ _ _, heap_same (heap_same (heap_same (heap_same (x31) (i := 0) (.slice X29 kd e29)) (i := 1) (.slice X30 kn e30)) (i := 2) (.slice none 0 0)) (i := 3) (.slice none 0 0), (Below.setCell ((Below.setCell ((Below.setCell ((Below.setCell (nb31) (p := ⟨v30.heap.size, 0, none⟩) (nb30).size (.slice X29 kd e29))) (p := ⟨v30.heap.size, 1, none⟩) (nb30).size (.slice X30 kn e30))) (p := ⟨v30.heap.size, 2, none⟩) (nb30).size (.slice none 0 0))) (p := ⟨v30.heap.size, 3, none⟩) (nb30).size (.slice none 0 0)), (nb30).size⟩
          · refine ⟨_, rfl, rfl, fun K hK => ?_⟩
            go_simp
            obtain ⟨v32, hv32⟩ : ∃ v, v29.alloc (.cells #[.slice none 0 0, .slice none 0 0, .slice none 0 0, .slice none 0 0] tAns) = v := ⟨_, rfl⟩
            have nb32 : Below w1.heap.size w1 v32 := by rw [← hv32]; exact (nb29).alloc (nb29).size _
            have d32 : v32.ownsRow w1.heap.size tU8 1 (.slice X29 kd e29) kd (cU8 db) := by rw [← hv32]; exact own_alloc r29 _
            have u32 : v32.ownsRow w1.heap.size 9 1 (.slice (some ⟨w2.heap.size, 0, none⟩) 0 0) 0 [] := by rw [← hv32]; exact own_alloc u29 _
            have x32 : v32.heap[v29.heap.size]? = some (.cells #[.slice none 0 0, .slice none 0 0, .slice none 0 0, .slice none 0 0] tAns (0, 0)) := by rw [← hv32]; exact heap_alloc_new _ _
            try rw [hv32]
            refine hK _ _ (C5.out _ nb32) ?_; clear hK K
            try rw [hv32]
            clear hv32
            try go_frame
            refine forcedP (i := 7) rfl rfl (by kernel_rfl) (fun K hK => ?_)
            refine wp_append_rd (.tmp 10) (.tmp 12) 36 rfl w1.heap.size 9 k0 (.string ⟨#[]⟩) 1 16 Try.underlying36 hk0 hx0 hx1 hx2 rfl (by decide) (.slice (some ⟨w2.heap.size, 0, none⟩) 0 0) 0 [] rfl u32 w1.heap.size An kn cn (cStr ns) rfl (HU3.out.below (nb32)) ZU.out (cStr_one _) (by unfold maxLen; omega) (by omega) (nb32).size ?_
            intro y33 v33 r33 g33
            have nb33 : Below w1.heap.size w1 v33 := (nb32).grown g33 (nb32).size (fun j hj => own_ge u32 hj)
            have d33 := grow_other d32 u32 (by decide) g33
            have x33 := grow_box x32 u32 (by decide) g33
            rw [Nat.zero_add, List.nil_append] at r33
            obtain ⟨X33, e33, rfl, _, _⟩ := own_form r33
            refine hK _ _ (C5.out _ nb33) ?_; clear hK K
            try go_frame
            refine takeT (i := 8) (v := ?_) rfl (by kernel_rfl) (by kernel_rfl) (by kernel_rfl) (by kernel_rfl) (fun _ _ _ h => h) (C5.out _ nb33) (.inl ⟨by rfl, fun w => .inl ?hy8⟩) ?_; case hy8 => (go_simp; try with_reducible rfl)
            try go_frame
            have p0 : v33.cell? ⟨v29.heap.size, 0, none⟩ = some (.slice none 0 0) := by rw [cell_of_row v33 (v29.heap.size) _ _ _ _ x33]; rfl
            have p1 : v33.cell? ⟨v29.heap.size, 1, none⟩ = some (.slice none 0 0) := by rw [cell_of_row v33 (v29.heap.size) _ _ _ _ x33]; rfl
            have p2 : v33.cell? ⟨v29.heap.size, 2, none⟩ = some (.slice none 0 0) := by rw [cell_of_row v33 (v29.heap.size) _ _ _ _ x33]; rfl
            have p3 : v33.cell? ⟨v29.heap.size, 3, none⟩ = some (.slice none 0 0) := by rw [cell_of_row v33 (v29.heap.size) _ _ _ _ x33]; rfl
            have z0 := unfrozen x33 0
            have z1 := unfrozen x33 1
            have z2 := unfrozen x33 2
            have z3 := unfrozen x33 3
            refine lateP (i := 10) rfl rfl (by kernel_rfl) (by kernel_rfl) (fun K hK => ?_)
            go_simp
            refine hK _ _ ?_; clear hK K
            try go_frame
            refine wpAny_done (by kernel_rfl) ?_ _
            go_wp2
            go_meet
            exact ⟨_, X29, e29, X33, e33, rfl, own_poke4 d33 x33 (by decide) _ _ _ _, own_poke4 r33 x33 (by decide) _ _ _ _, heap_same (heap_same (heap_same (heap_same (x33) (i := 0) (.slice X29 kd e29)) (i := 1) (.slice X33 kn e33)) (i := 2) (.slice none 0 0)) (i := 3) (.slice none 0 0), (Below.setCell ((Below.setCell ((Below.setCell ((Below.setCell (nb33) (p := ⟨v29.heap.size, 0, none⟩) (nb29).size (.slice X29 kd e29))) (p := ⟨v29.heap.size, 1, none⟩) (nb29).size (.slice X33 kn e33))) (p := ⟨v29.heap.size, 2, none⟩) (nb29).size (.slice none 0 0))) (p := ⟨v29.heap.size, 3, none⟩) (nb29).size (.slice none 0 0)), (nb29).size⟩
        · refine ⟨_, rfl, rfl, fun K hK => ?_⟩
          go_simp
          obtain ⟨v34, hv34⟩ : ∃ v, v28.alloc (.cells #[.slice none 0 0, .slice none 0 0, .slice none 0 0, .slice none 0 0] tAns) = v := ⟨_, rfl⟩
          have nb34 : Below w1.heap.size w1 v34 := by rw [← hv34]; exact (nb28).alloc (nb28).size _
          have d34 : v34.ownsRow w1.heap.size tU8 1 (.slice (some ⟨v27.heap.size, 0, none⟩) 0 0) 0 [] := by rw [← hv34]; exact own_alloc d28 _
          have u34 : v34.ownsRow w1.heap.size 9 1 (.slice (some ⟨w2.heap.size, 0, none⟩) 0 0) 0 [] := by rw [← hv34]; exact own_alloc u28 _
          have x34 : v34.heap[v28.heap.size]? = some (.cells #[.slice none 0 0, .slice none 0 0, .slice none 0 0, .slice none 0 0] tAns (0, 0)) := by rw [← hv34]; exact heap_alloc_new _ _
          try rw [hv34]
          refine hK _ _ (C5.out _ nb34) ?_; clear hK K
          try rw [hv34]
          clear hv34
          try go_frame
          refine forcedP (i := 3) rfl rfl (by kernel_rfl) (fun K hK => ?_)
          refine wp_append_rd (.tmp 6) (.tmp 8) 35 rfl w1.heap.size tU8 i0 (.int .u8 0) 1 1 Try.underlying35 hi0 hz0 hz1 hz2 rfl (by decide) (.slice (some ⟨v27.heap.size, 0, none⟩) 0 0) 0 [] rfl d34 w1.heap.size Ad kd cd (cU8 db) rfl (HD3.out.below (nb34)) ZD.out (cU8_one _) (by unfold maxLen; omega) (by omega) (nb34).size ?_
          intro y35 v35 r35 g35
          have nb35 : Below w1.heap.size w1 v35 := (nb34).grown g35 (nb34).size (fun j hj => own_ge d34 hj)
          have u35 := grow_other u34 d34 (by decide) g35
          have x35 := grow_box x34 d34 (by decide) g35
          rw [Nat.zero_add, List.nil_append] at r35
          obtain ⟨X35, e35, rfl, _, _⟩ := own_form r35
          refine hK _ _ (C5.out _ nb35) ?_; clear hK K
          try go_frame
          refine forcedP (i := 7) rfl rfl (by kernel_rfl) (fun K hK => ?_)
          refine wp_append_rd (.tmp 10) (.tmp 12) 36 rfl w1.heap.size 9 k0 (.string ⟨#[]⟩) 1 16 Try.underlying36 hk0 hx0 hx1 hx2 rfl (by decide) (.slice (some ⟨w2.heap.size, 0, none⟩) 0 0) 0 [] rfl u35 w1.heap.size An kn cn (cStr ns) rfl (HU3.out.below (nb35)) ZU.out (cStr_one _) (by unfold maxLen; omega) (by omega) (nb35).size ?_
          intro y36 v36 r36 g36
          have nb36 : Below w1.heap.size w1 v36 := (nb35).grown g36 (nb35).size (fun j hj => own_ge u35 hj)
          have d36 := grow_other r35 u35 (by decide) g36
          have x36 := grow_box x35 u35 (by decide) g36
          rw [Nat.zero_add, List.nil_append] at r36
          obtain ⟨X36, e36, rfl, _, _⟩ := own_form r36
          refine hK _ _ (C5.out _ nb36) ?_; clear hK K
          try go_frame
          refine takeT (i := 8) (v := ?_) rfl (by kernel_rfl) (by kernel_rfl) (by kernel_rfl) (by kernel_rfl) (fun _ _ _ h => h) (C5.out _ nb36) (.inl ⟨by rfl, fun w => .inl ?hy8⟩) ?_; case hy8 => (go_simp; try with_reducible rfl)
          try go_frame
          have p0 : v36.cell? ⟨v28.heap.size, 0, none⟩ = some (.slice none 0 0) := by rw [cell_of_row v36 (v28.heap.size) _ _ _ _ x36]; rfl
          have p1 : v36.cell? ⟨v28.heap.size, 1, none⟩ = some (.slice none 0 0) := by rw [cell_of_row v36 (v28.heap.size) _ _ _ _ x36]; rfl
          have p2 : v36.cell? ⟨v28.heap.size, 2, none⟩ = some (.slice none 0 0) := by rw [cell_of_row v36 (v28.heap.size) _ _ _ _ x36]; rfl
          have p3 : v36.cell? ⟨v28.heap.size, 3, none⟩ = some (.slice none 0 0) := by rw [cell_of_row v36 (v28.heap.size) _ _ _ _ x36]; rfl
          have z0 := unfrozen x36 0
          have z1 := unfrozen x36 1
          have z2 := unfrozen x36 2
          have z3 := unfrozen x36 3
          refine lateP (i := 10) rfl rfl (by kernel_rfl) (by kernel_rfl) (fun K hK => ?_)
          go_simp
          refine hK _ _ ?_; clear hK K
          try go_frame
          refine wpAny_done (by kernel_rfl) ?_ _
          go_wp2
          go_meet
          exact ⟨_, X35, e35, X36, e36, rfl, own_poke4 d36 x36 (by decide) _ _ _ _, own_poke4 r36 x36 (by decide) _ _ _ _, heap_same (heap_same (heap_same (heap_same (x36) (i := 0) (.slice X35 kd e35)) (i := 1) (.slice X36 kn e36)) (i := 2) (.slice none 0 0)) (i := 3) (.slice none 0 0), (Below.setCell ((Below.setCell ((Below.setCell ((Below.setCell (nb36) (p := ⟨v28.heap.size, 0, none⟩) (nb28).size (.slice X35 kd e35))) (p := ⟨v28.heap.size, 1, none⟩) (nb28).size (.slice X36 kn e36))) (p := ⟨v28.heap.size, 2, none⟩) (nb28).size (.slice none 0 0))) (p := ⟨v28.heap.size, 3, none⟩) (nb28).size (.slice none 0 0)), (nb28).size⟩
      · refine ⟨_, rfl, rfl, fun K hK => ?_⟩
        go_simp
        obtain ⟨v37, hv37⟩ : ∃ v, v27.alloc (.cells #[.slice none 0 0, .slice none 0 0, .slice none 0 0, .slice none 0 0] tAns) = v := ⟨_, rfl⟩
        have nb37 : Below w1.heap.size w1 v37 := by rw [← hv37]; exact (nb27).alloc (nb27).size _
        have u37 : v37.ownsRow w1.heap.size 9 1 (.slice (some ⟨w2.heap.size, 0, none⟩) 0 0) 0 [] := by rw [← hv37]; exact own_alloc u27 _
        have x37 : v37.heap[v27.heap.size]? = some (.cells #[.slice none 0 0, .slice none 0 0, .slice none 0 0, .slice none 0 0] tAns (0, 0)) := by rw [← hv37]; exact heap_alloc_new _ _
        try rw [hv37]
        refine hK _ _ (C5.out _ nb37) ?_; clear hK K
        try rw [hv37]
        clear hv37
        try go_frame
        refine forcedP (i := 0) rfl rfl (by kernel_rfl) (fun K hK => ?_)
        go_simp
        obtain ⟨v38, hv38⟩ : ∃ v, v37.alloc (.cells #[] tU8) = v := ⟨_, rfl⟩
        have nb38 : Below w1.heap.size w1 v38 := by rw [← hv38]; exact (nb37).alloc (nb37).size _
        have u38 : v38.ownsRow w1.heap.size 9 1 (.slice (some ⟨w2.heap.size, 0, none⟩) 0 0) 0 [] := by rw [← hv38]; exact own_alloc u37 _
        have x38 : v38.heap[v27.heap.size]? = some (.cells #[.slice none 0 0, .slice none 0 0, .slice none 0 0, .slice none 0 0] tAns (0, 0)) := by rw [← hv38]; exact (heap_alloc_old _ _ (Array.getElem?_eq_some_iff.1 x37).1).trans x37
        have d38 : v38.ownsRow w1.heap.size tU8 1 (.slice (some ⟨v37.heap.size, 0, none⟩) 0 0) 0 [] := by rw [← hv38]; exact own_new v37 (nb37).size tU8 1 0 [] rfl (Nat.zero_le _)
        try rw [hv38]
        refine hK _ _ (C5.out _ nb38) ?_; clear hK K
        try rw [hv38]
        clear hv38
        try go_frame
        refine forcedP (i := 3) rfl rfl (by kernel_rfl) (fun K hK => ?_)
        refine wp_append_rd (.tmp 6) (.tmp 8) 35 rfl w1.heap.size tU8 i0 (.int .u8 0) 1 1 Try.underlying35 hi0 hz0 hz1 hz2 rfl (by decide) (.slice (some ⟨v37.heap.size, 0, none⟩) 0 0) 0 [] rfl d38 w1.heap.size Ad kd cd (cU8 db) rfl (HD3.out.below (nb38)) ZD.out (cU8_one _) (by unfold maxLen; omega) (by omega) (nb38).size ?_
        intro y39 v39 r39 g39
        have nb39 : Below w1.heap.size w1 v39 := (nb38).grown g39 (nb38).size (fun j hj => own_ge d38 hj)
        have u39 := grow_other u38 d38 (by decide) g39
        have x39 := grow_box x38 d38 (by decide) g39
        rw [Nat.zero_add, List.nil_append] at r39
        obtain ⟨X39, e39, rfl, _, _⟩ := own_form r39
        refine hK _ _ (C5.out _ nb39) ?_; clear hK K
        try go_frame
        refine forcedP (i := 7) rfl rfl (by kernel_rfl) (fun K hK => ?_)
        refine wp_append_rd (.tmp 10) (.tmp 12) 36 rfl w1.heap.size 9 k0 (.string ⟨#[]⟩) 1 16 Try.underlying36 hk0 hx0 hx1 hx2 rfl (by decide) (.slice (some ⟨w2.heap.size, 0, none⟩) 0 0) 0 [] rfl u39 w1.heap.size An kn cn (cStr ns) rfl (HU3.out.below (nb39)) ZU.out (cStr_one _) (by unfold maxLen; omega) (by omega) (nb39).size ?_
        intro y40 v40 r40 g40
        have nb40 : Below w1.heap.size w1 v40 := (nb39).grown g40 (nb39).size (fun j hj => own_ge u39 hj)
        have d40 := grow_other r39 u39 (by decide) g40
        have x40 := grow_box x39 u39 (by decide) g40
        rw [Nat.zero_add, List.nil_append] at r40
        obtain ⟨X40, e40, rfl, _, _⟩ := own_form r40
        refine hK _ _ (C5.out _ nb40) ?_; clear hK K
        try go_frame
        refine takeT (i := 8) (v := ?_) rfl (by kernel_rfl) (by kernel_rfl) (by kernel_rfl) (by kernel_rfl) (fun _ _ _ h => h) (C5.out _ nb40) (.inl ⟨by rfl, fun w => .inl ?hy8⟩) ?_; case hy8 => (go_simp; try with_reducible rfl)
        try go_frame
        have p0 : v40.cell? ⟨v27.heap.size, 0, none⟩ = some (.slice none 0 0) := by rw [cell_of_row v40 (v27.heap.size) _ _ _ _ x40]; rfl
        have p1 : v40.cell? ⟨v27.heap.size, 1, none⟩ = some (.slice none 0 0) := by rw [cell_of_row v40 (v27.heap.size) _ _ _ _ x40]; rfl
        have p2 : v40.cell? ⟨v27.heap.size, 2, none⟩ = some (.slice none 0 0) := by rw [cell_of_row v40 (v27.heap.size) _ _ _ _ x40]; rfl
        have p3 : v40.cell? ⟨v27.heap.size, 3, none⟩ = some (.slice none 0 0) := by rw [cell_of_row v40 (v27.heap.size) _ _ _ _ x40]; rfl
        have z0 := unfrozen x40 0
        have z1 := unfrozen x40 1
        have z2 := unfrozen x40 2
        have z3 := unfrozen x40 3
        refine lateP (i := 10) rfl rfl (by kernel_rfl) (by kernel_rfl) (fun K hK => ?_)
        go_simp
        refine hK _ _ ?_; clear hK K
        try go_frame
        refine wpAny_done (by kernel_rfl) ?_ _
        go_wp2
        go_meet
        exact ⟨_, X39, e39, X40, e40, rfl, own_poke4 d40 x40 (by decide) _ _ _ _, own_poke4 r40 x40 (by decide) _ _ _ _, heap_same (heap_same (heap_same (heap_same (x40) (i := 0) (.slice X39 kd e39)) (i := 1) (.slice X40 kn e40)) (i := 2) (.slice none 0 0)) (i := 3) (.slice none 0 0), (Below.setCell ((Below.setCell ((Below.setCell ((Below.setCell (nb40) (p := ⟨v27.heap.size, 0, none⟩) (nb27).size (.slice X39 kd e39))) (p := ⟨v27.heap.size, 1, none⟩) (nb27).size (.slice X40 kn e40))) (p := ⟨v27.heap.size, 2, none⟩) (nb27).size (.slice none 0 0))) (p := ⟨v27.heap.size, 3, none⟩) (nb27).size (.slice none 0 0)), (nb27).size⟩
    · refine ⟨_, rfl, rfl, fun K hK => ?_⟩
      go_simp
      obtain ⟨v41, hv41⟩ : ∃ v, w2.alloc (.cells #[.slice none 0 0, .slice none 0 0, .slice none 0 0, .slice none 0 0] tAns) = v := ⟨_, rfl⟩
      have nb41 : Below w1.heap.size w1 v41 := by rw [← hv41]; exact (nb0).alloc (nb0).size _
      have x41 : v41.heap[w2.heap.size]? = some (.cells #[.slice none 0 0, .slice none 0 0, .slice none 0 0, .slice none 0 0] tAns (0, 0)) := by rw [← hv41]; exact heap_alloc_new _ _
      try rw [hv41]
      refine hK _ _ (C5.out _ nb41) ?_; clear hK K
      try rw [hv41]
      clear hv41
      try go_frame
      refine forkL [0, 4] (by decide) (by kernel_rfl) (fun j hj => ?_)
      simp only [List.mem_cons, List.not_mem_nil, or_false] at hj
      rcases hj with rfl | rfl
      · refine ⟨_, rfl, rfl, fun K hK => ?_⟩
        go_simp
        obtain ⟨v42, hv42⟩ : ∃ v, v41.alloc (.cells #[] tU8) = v := ⟨_, rfl⟩
        have nb42 : Below w1.heap.size w1 v42 := by rw [← hv42]; exact (nb41).alloc (nb41).size _
        have x42 : v42.heap[w2.heap.size]? = some (.cells #[.slice none 0 0, .slice none 0 0, .slice none 0 0, .slice none 0 0] tAns (0, 0)) := by rw [← hv42]; exact (heap_alloc_old _ _ (Array.getElem?_eq_some_iff.1 x41).1).trans x41
        have d42 : v42.ownsRow w1.heap.size tU8 1 (.slice (some ⟨v41.heap.size, 0, none⟩) 0 0) 0 [] := by rw [← hv42]; exact own_new v41 (nb41).size tU8 1 0 [] rfl (Nat.zero_le _)
        try rw [hv42]
        refine hK _ _ (C5.out _ nb42) ?_; clear hK K
        try rw [hv42]
        clear hv42
        try go_frame
        refine forkL [3, 4] (by decide) (by kernel_rfl) (fun j hj => ?_)
        simp only [List.mem_cons, List.not_mem_nil, or_false] at hj
        rcases hj with rfl | rfl
        · refine ⟨_, rfl, rfl, fun K hK => ?_⟩
          refine wp_append_rd (.tmp 6) (.tmp 8) 35 rfl w1.heap.size tU8 i0 (.int .u8 0) 1 1 Try.underlying35 hi0 hz0 hz1 hz2 rfl (by decide) (.slice (some ⟨v41.heap.size, 0, none⟩) 0 0) 0 [] rfl d42 w1.heap.size Ad kd cd (cU8 db) rfl (HD3.out.below (nb42)) ZD.out (cU8_one _) (by unfold maxLen; omega) (by omega) (nb42).size ?_
          intro y43 v43 r43 g43
          have nb43 : Below w1.heap.size w1 v43 := (nb42).grown g43 (nb42).size (fun j hj => own_ge d42 hj)
          have x43 := grow_box x42 d42 (by decide) g43
          rw [Nat.zero_add, List.nil_append] at r43
          obtain ⟨X43, e43, rfl, _, _⟩ := own_form r43
          refine hK _ _ (C5.out _ nb43) ?_; clear hK K
          try go_frame
          refine forcedP (i := 4) rfl rfl (by kernel_rfl) (fun K hK => ?_)
          go_simp
          obtain ⟨v44, hv44⟩ : ∃ v, v43.alloc (.cells #[] 9) = v := ⟨_, rfl⟩
          have nb44 : Below w1.heap.size w1 v44 := by rw [← hv44]; exact (nb43).alloc (nb43).size _
          have d44 : v44.ownsRow w1.heap.size tU8 1 (.slice X43 kd e43) kd (cU8 db) := by rw [← hv44]; exact own_alloc r43 _
          have x44 : v44.heap[w2.heap.size]? = some (.cells #[.slice none 0 0, .slice none 0 0, .slice none 0 0, .slice none 0 0] tAns (0, 0)) := by rw [← hv44]; exact (heap_alloc_old _ _ (Array.getElem?_eq_some_iff.1 x43).1).trans x43
          have u44 : v44.ownsRow w1.heap.size 9 1 (.slice (some ⟨v43.heap.size, 0, none⟩) 0 0) 0 [] := by rw [← hv44]; exact own_new v43 (nb43).size 9 1 0 [] rfl (Nat.zero_le _)
          try rw [hv44]
          refine hK _ _ (C5.out _ nb44) ?_; clear hK K
          try rw [hv44]
          clear hv44
          try go_frame
          refine forcedP (i := 7) rfl rfl (by kernel_rfl) (fun K hK => ?_)
          refine wp_append_rd (.tmp 10) (.tmp 12) 36 rfl w1.heap.size 9 k0 (.string ⟨#[]⟩) 1 16 Try.underlying36 hk0 hx0 hx1 hx2 rfl (by decide) (.slice (some ⟨v43.heap.size, 0, none⟩) 0 0) 0 [] rfl u44 w1.heap.size An kn cn (cStr ns) rfl (HU3.out.below (nb44)) ZU.out (cStr_one _) (by unfold maxLen; omega) (by omega) (nb44).size ?_
          intro y45 v45 r45 g45
          have nb45 : Below w1.heap.size w1 v45 := (nb44).grown g45 (nb44).size (fun j hj => own_ge u44 hj)
          have d45 := grow_other d44 u44 (by decide) g45
          have x45 := grow_box x44 u44 (by decide) g45
          rw [Nat.zero_add, List.nil_append] at r45
          obtain ⟨X45, e45, rfl, _, _⟩ := own_form r45
          refine hK _ _ (C5.out _ nb45) ?_; clear hK K
          try go_frame
          refine takeT (i := 8) (v := ?_) rfl (by kernel_rfl) (by kernel_rfl) (by kernel_rfl) (by kernel_rfl) (fun _ _ _ h => h) (C5.out _ nb45) (.inl ⟨by rfl, fun w => .inl ?hy8⟩) ?_; case hy8 => (go_simp; try with_reducible rfl)
          try go_frame
          have p0 : v45.cell? ⟨w2.heap.size, 0, none⟩ = some (.slice none 0 0) := by rw [cell_of_row v45 (w2.heap.size) _ _ _ _ x45]; rfl
          have p1 : v45.cell? ⟨w2.heap.size, 1, none⟩ = some (.slice none 0 0) := by rw [cell_of_row v45 (w2.heap.size) _ _ _ _ x45]; rfl
          have p2 : v45.cell? ⟨w2.heap.size, 2, none⟩ = some (.slice none 0 0) := by rw [cell_of_row v45 (w2.heap.size) _ _ _ _ x45]; rfl
          have p3 : v45.cell? ⟨w2.heap.size, 3, none⟩ = some (.slice none 0 0) := by rw [cell_of_row v45 (w2.heap.size) _ _ _ _ x45]; rfl
          have z0 := unfrozen x45 0
          have z1 := unfrozen x45 1
          have z2 := unfrozen x45 2
          have z3 := unfrozen x45 3
          refine lateP (i := 10) rfl rfl (by kernel_rfl) (by kernel_rfl) (fun K hK => ?_)
          go_simp
          refine hK _ _ ?_; clear hK K
          try go_frame
          refine wpAny_done (by kernel_rfl) ?_ _
          go_wp2
          go_meet
          exact ⟨_, X43, e43, X45, e45, rfl, own_poke4 d45 x45 (by decide) _ _ _ _, own_poke4 r45 x45 (by decide) _ _ _ _, heap_same (heap_same (heap_same (heap_same (x45) (i := 0) (.slice X43 kd e43)) (i := 1) (.slice X45 kn e45)) (i := 2) (.slice none 0 0)) (i := 3) (.slice none 0 0), (Below.setCell ((Below.setCell ((Below.setCell ((Below.setCell (nb45) (p := ⟨w2.heap.size, 0, none⟩) (nb0).size (.slice X43 kd e43))) (p := ⟨w2.heap.size, 1, none⟩) (nb0).size (.slice X45 kn e45))) (p := ⟨w2.heap.size, 2, none⟩) (nb0).size (.slice none 0 0))) (p := ⟨w2.heap.size, 3, none⟩) (nb0).size (.slice none 0 0)), (nb0).size⟩
        · refine ⟨_, rfl, rfl, fun K hK => ?_⟩
          go_simp
          obtain ⟨v46, hv46⟩ : ∃ v, v42.alloc (.cells #[] 9) = v := ⟨_, rfl⟩
          have nb46 : Below w1.heap.size w1 v46 := by rw [← hv46]; exact (nb42).alloc (nb42).size _
          have d46 : v46.ownsRow w1.heap.size tU8 1 (.slice (some ⟨v41.heap.size, 0, none⟩) 0 0) 0 [] := by rw [← hv46]; exact own_alloc d42 _
          have x46 : v46.heap[w2.heap.size]? = some (.cells #[.slice none 0 0, .slice none 0 0, .slice none 0 0, .slice none 0 0] tAns (0, 0)) := by rw [← hv46]; exact (heap_alloc_old _ _ (Array.getElem?_eq_some_iff.1 x42).1).trans x42
          have u46 : v46.ownsRow w1.heap.size 9 1 (.slice (some ⟨v42.heap.size, 0, none⟩) 0 0) 0 [] := by rw [← hv46]; exact own_new v42 (nb42).size 9 1 0 [] rfl (Nat.zero_le _)
          try rw [hv46]
          refine hK _ _ (C5.out _ nb46) ?_; clear hK K
          try rw [hv46]
          clear hv46
          try go_frame
          refine forcedP (i := 3) rfl rfl (by kernel_rfl) (fun K hK => ?_)
          refine wp_append_rd (.tmp 6) (.tmp 8) 35 rfl w1.heap.size tU8 i0 (.int .u8 0) 1 1 Try.underlying35 hi0 hz0 hz1 hz2 rfl (by decide) (.slice (some ⟨v41.heap.size, 0, none⟩) 0 0) 0 [] rfl d46 w1.heap.size Ad kd cd (cU8 db) rfl (HD3.out.below (nb46)) ZD.out (cU8_one _) (by unfold maxLen; omega) (by omega) (nb46).size ?_
          intro y47 v47 r47 g47
          have nb47 : Below w1.heap.size w1 v47 := (nb46).grown g47 (nb46).size (fun j hj => own_ge d46 hj)
          have u47 := grow_other u46 d46 (by decide) g47
          have x47 := grow_box x46 d46 (by decide) g47
          rw [Nat.zero_add, List.nil_append] at r47
          obtain ⟨X47, e47, rfl, _, _⟩ := own_form r47
          refine hK _ _ (C5.out _ nb47) ?_; clear hK K
          try go_frame
          refine forcedP (i := 7) rfl rfl (by kernel_rfl) (fun K hK => ?_)
          refine wp_append_rd (.tmp 10) (.tmp 12) 36 rfl w1.heap.size 9 k0 (.string ⟨#[]⟩) 1 16 Try.underlying36 hk0 hx0 hx1 hx2 rfl (by decide) (.slice (some ⟨v42.heap.size, 0, none⟩) 0 0) 0 [] rfl u47 w1.heap.size An kn cn (cStr ns) rfl (HU3.out.below (nb47)) ZU.out (cStr_one _) (by unfold maxLen; omega) (by omega) (nb47).size ?_
          intro y48 v48 r48 g48
          have nb48 : Below w1.heap.size w1 v48 := (nb47).grown g48 (nb47).size (fun j hj => own_ge u47 hj)
          have d48 := grow_other r47 u47 (by decide) g48
          have x48 := grow_box x47 u47 (by decide) g48
          rw [Nat.zero_add, List.nil_append] at r48
          obtain ⟨X48, e48, rfl, _, _⟩ := own_form r48
          refine hK _ _ (C5.out _ nb48) ?_; clear hK K
          try go_frame
          refine takeT (i := 8) (v := ?_) rfl (by kernel_rfl) (by kernel_rfl) (by kernel_rfl) (by kernel_rfl) (fun _ _ _ h => h) (C5.out _ nb48) (.inl ⟨by rfl, fun w => .inl ?hy8⟩) ?_; case hy8 => (go_simp; try with_reducible rfl)
          try go_frame
          have p0 : v48.cell? ⟨w2.heap.size, 0, none⟩ = some (.slice none 0 0) := by rw [cell_of_row v48 (w2.heap.size) _ _ _ _ x48]; rfl
          have p1 : v48.cell? ⟨w2.heap.size, 1, none⟩ = some (.slice none 0 0) := by rw [cell_of_row v48 (w2.heap.size) _ _ _ _ x48]; rfl
          have p2 : v48.cell? ⟨w2.heap.size, 2, none⟩ = some (.slice none 0 0) := by rw [cell_of_row v48 (w2.heap.size) _ _ _ _ x48]; rfl
          have p3 : v48.cell? ⟨w2.heap.size, 3, none⟩ = some (.slice none 0 0) := by rw [cell_of_row v48 (w2.heap.size) _ _ _ _ x48]; rfl
          have z0 := unfrozen x48 0
          have z1 := unfrozen x48 1
          have z2 := unfrozen x48 2
          have z3 := unfrozen x48 3
          refine lateP (i := 10) rfl rfl (by kernel_rfl) (by kernel_rfl) (fun K hK => ?_)
          go_simp
          refine hK _ _ ?_; clear hK K
          try go_frame
          refine wpAny_done (by kernel_rfl) ?_ _
          go_wp2
          go_meet
          exact ⟨_, X47, e47, X48, e48, rfl, own_poke4 d48 x48 (by decide) _ _ _ _, own_poke4 r48 x48 (by decide) _ _ _ _, heap_same (heap_same (heap_same (heap_same (x48) (i := 0) (.slice X47 kd e47)) (i := 1) (.slice X48 kn e48)) (i := 2) (.slice none 0 0)) (i := 3) (.slice none 0 0), (Below.setCell ((Below.setCell ((Below.setCell ((Below.setCell (nb48) (p := ⟨w2.heap.size, 0, none⟩) (nb0).size (.slice X47 kd e47))) (p := ⟨w2.heap.size, 1, none⟩) (nb0).size (.slice X48 kn e48))) (p := ⟨w2.heap.size, 2, none⟩) (nb0).size (.slice none 0 0))) (p := ⟨w2.heap.size, 3, none⟩) (nb0).size (.slice none 0 0)), (nb0).size⟩
      · refine ⟨_, rfl, rfl, fun K hK => ?_⟩
        go_simp
        obtain ⟨v49, hv49⟩ : ∃ v, v41.alloc (.cells #[] 9) = v := ⟨_, rfl⟩
        have nb49 : Below w1.heap.size w1 v49 := by rw [← hv49]; exact (nb41).alloc (nb41).size _
        have x49 : v49.heap[w2.heap.size]? = some (.cells #[.slice none 0 0, .slice none 0 0, .slice none 0 0, .slice none 0 0] tAns (0, 0)) := by rw [← hv49]; exact (heap_alloc_old _ _ (Array.getElem?_eq_some_iff.1 x41).1).trans x41
        have u49 : v49.ownsRow w1.heap.size 9 1 (.slice (some ⟨v41.heap.size, 0, none⟩) 0 0) 0 [] := by rw [← hv49]; exact own_new v41 (nb41).size 9 1 0 [] rfl (Nat.zero_le _)
        try rw [hv49]
        refine hK _ _ (C5.out _ nb49) ?_; clear hK K
        try rw [hv49]
        clear hv49
        try go_frame
        refine forcedP (i := 0) rfl rfl (by kernel_rfl) (fun K hK => ?_)
        go_simp
        obtain ⟨v50, hv50⟩ : ∃ v, v49.alloc (.cells #[] tU8) = v := ⟨_, rfl⟩
        have nb50 : Below w1.heap.size w1 v50 := by rw [← hv50]; exact (nb49).alloc (nb49).size _
        have u50 : v50.ownsRow w1.heap.size 9 1 (.slice (some ⟨v41.heap.size, 0, none⟩) 0 0) 0 [] := by rw [← hv50]; exact own_alloc u49 _
        have x50 : v50.heap[w2.heap.size]? = some (.cells #[.slice none 0 0, .slice none 0 0, .slice none 0 0, .slice none 0 0] tAns (0, 0)) := by rw [← hv50]; exact (heap_alloc_old _ _ (Array.getElem?_eq_some_iff.1 x49).1).trans x49
        have d50 : v50.ownsRow w1.heap.size tU8 1 (.slice (some ⟨v49.heap.size, 0, none⟩) 0 0) 0 [] := by rw [← hv50]; exact own_new v49 (nb49).size tU8 1 0 [] rfl (Nat.zero_le _)
        try rw [hv50]
        refine hK _ _ (C5.out _ nb50) ?_; clear hK K
        try rw [hv50]
        clear hv50
        try go_frame
        refine forcedP (i := 3) rfl rfl (by kernel_rfl) (fun K hK => ?_)
        refine wp_append_rd (.tmp 6) (.tmp 8) 35 rfl w1.heap.size tU8 i0 (.int .u8 0) 1 1 Try.underlying35 hi0 hz0 hz1 hz2 rfl (by decide) (.slice (some ⟨v49.heap.size, 0, none⟩) 0 0) 0 [] rfl d50 w1.heap.size Ad kd cd (cU8 db) rfl (HD3.out.below (nb50)) ZD.out (cU8_one _) (by unfold maxLen; omega) (by omega) (nb50).size ?_
        intro y51 v51 r51 g51
        have nb51 : Below w1.heap.size w1 v51 := (nb50).grown g51 (nb50).size (fun j hj => own_ge d50 hj)
        have u51 := grow_other u50 d50 (by decide) g51
        have x51 := grow_box x50 d50 (by decide) g51
        rw [Nat.zero_add, List.nil_append] at r51
        obtain ⟨X51, e51, rfl, _, _⟩ := own_form r51
        refine hK _ _ (C5.out _ nb51) ?_; clear hK K
        try go_frame
        refine forcedP (i := 7) rfl rfl (by kernel_rfl) (fun K hK => ?_)
        refine wp_append_rd (.tmp 10) (.tmp 12) 36 rfl w1.heap.size 9 k0 (.string ⟨#[]⟩) 1 16 Try.underlying36 hk0 hx0 hx1 hx2 rfl (by decide) (.slice (some ⟨v41.heap.size, 0, none⟩) 0 0) 0 [] rfl u51 w1.heap.size An kn cn (cStr ns) rfl (HU3.out.below (nb51)) ZU.out (cStr_one _) (by unfold maxLen; omega) (by omega) (nb51).size ?_
        intro y52 v52 r52 g52
        have nb52 : Below w1.heap.size w1 v52 := (nb51).grown g52 (nb51).size (fun j hj => own_ge u51 hj)
        have d52 := grow_other r51 u51 (by decide) g52
        have x52 := grow_box x51 u51 (by decide) g52
        rw [Nat.zero_add, List.nil_append] at r52
        obtain ⟨X52, e52, rfl, _, _⟩ := own_form r52
        refine hK _ _ (C5.out _ nb52) ?_; clear hK K
        try go_frame
        refine takeT (i := 8) (v := ?_) rfl (by kernel_rfl) (by kernel_rfl) (by kernel_rfl) (by kernel_rfl) (fun _ _ _ h => h) (C5.out _ nb52) (.inl ⟨by rfl, fun w => .inl ?hy8⟩) ?_; case hy8 => (go_simp; try with_reducible rfl)
        try go_frame
        have p0 : v52.cell? ⟨w2.heap.size, 0, none⟩ = some (.slice none 0 0) := by rw [cell_of_row v52 (w2.heap.size) _ _ _ _ x52]; rfl
        have p1 : v52.cell? ⟨w2.heap.size, 1, none⟩ = some (.slice none 0 0) := by rw [cell_of_row v52 (w2.heap.size) _ _ _ _ x52]; rfl
        have p2 : v52.cell? ⟨w2.heap.size, 2, none⟩ = some (.slice none 0 0) := by rw [cell_of_row v52 (w2.heap.size) _ _ _ _ x52]; rfl
        have p3 : v52.cell? ⟨w2.heap.size, 3, none⟩ = some (.slice none 0 0) := by rw [cell_of_row v52 (w2.heap.size) _ _ _ _ x52]; rfl
        have z0 := unfrozen x52 0
        have z1 := unfrozen x52 1
        have z2 := unfrozen x52 2
        have z3 := unfrozen x52 3
        refine lateP (i := 10) rfl rfl (by kernel_rfl) (by kernel_rfl) (fun K hK => ?_)
        go_simp
        refine hK _ _ ?_; clear hK K
        try go_frame
        refine wpAny_done (by kernel_rfl) ?_ _
        go_wp2
        go_meet
        exact ⟨_, X51, e51, X52, e52, rfl, own_poke4 d52 x52 (by decide) _ _ _ _, own_poke4 r52 x52 (by decide) _ _ _ _, heap_same (heap_same (heap_same (heap_same (x52) (i := 0) (.slice X51 kd e51)) (i := 1) (.slice X52 kn e52)) (i := 2) (.slice none 0 0)) (i := 3) (.slice none 0 0), (Below.setCell ((Below.setCell ((Below.setCell ((Below.setCell (nb52) (p := ⟨w2.heap.size, 0, none⟩) (nb0).size (.slice X51 kd e51))) (p := ⟨w2.heap.size, 1, none⟩) (nb0).size (.slice X52 kn e52))) (p := ⟨w2.heap.size, 2, none⟩) (nb0).size (.slice none 0 0))) (p := ⟨w2.heap.size, 3, none⟩) (nb0).size (.slice none 0 0)), (nb0).size⟩
  case rest =>
    obtain ⟨b3, A1, c1, A2, c2, rfl, hrow1, hrow2, hcop⟩ := hcut
    have hb3 : b3 < wc.heap.size := (Array.getElem?_eq_some_iff.1 hcop.box).1
    have HB3 := Lib.hid hb3
    have HROW1 := Lib.hid hrow1
    have HROW2 := Lib.hid hrow2
    have HCOP := Lib.hid hcop
    clear hrow1 hrow2 hcop hb3
    go_upto_region 3 with (fail)
    go_loopw [4] (fun iv wr => ∃ (i : Nat) (Av : Option Addr) (cv : Nat) (dv : List Value), iv = .int .i64 (i : Int) ∧ i ≤ kf ∧ Kept wc wr (fun b => b = b3) ∧ wr.heap[b3]? = some (.cells #[.slice A1 kd c1, .slice A2 kn c2, (.slice Av i cv), .slice none 0 0] tAns (0, 0)) ∧ FilesAt wr wc.heap.size (.slice Av i cv) dv (fs.take i)) (fun iv _ => kf - (intOf iv).toNat)
    case atStart => exact ⟨0, none, 0, [], rfl, by omega, Kept.refl _ _, HCOP.out.box, by rw [List.take_zero]; exact FilesAt.nil _ _⟩
    case round =>
      obtain ⟨i, Av, cv, dv, rfl, hi, hkp, hbox, hfl⟩ := hrel
      have hbw : Below w1.heap.size w1 wr := HCOP.out.back.trans (hkp.to_below HCOP.out.back.size (fun b hb => by rw [hb]; exact HCOP.out.ge))
      have e1 := CF.out wr hbw
      by_cases hlt : i < kf
      · obtain ⟨f, hf⟩ : ∃ f, fs[i]? = some f := ⟨_, List.getElem?_eq_getElem (by have := HKF.out; omega)⟩
        obtain ⟨ga, Ax, cx, rfl, hgl, n0, n1, hox⟩ := cop_file (HS1.out.now) HKF.out hf
        obtain ⟨lx, hlx⟩ : ∃ l, f.2.length = l := ⟨_, rfl⟩
        have hlb := HFB.out f (List.mem_of_getElem? hf)
        rw [hlx] at n1 hox hlb
        obtain ⟨X, hX⟩ : ∃ X : ByteArray, (⟨f.1.toArray⟩ : ByteArray) = X := ⟨_, rfl⟩
        rw [hX] at n0
        have hrx : Rd w1 w1.heap.size 1 Ax lx (cU8 f.2) := Rd.of_own (c := cx) hox
        have hzx : Ax = none → cx = 0 := own_none hox
        have htl : (fs.take i).length = i := by have := HKF.out; simp; omega
        have hro := hfl.row
        rw [htl] at hro
        have hlt2 : (i : Int) < (kf : Int) := by omega
        have hss : ∀ W : World, Below w1.heap.size w1 W → W.heap[b3]? = some (.cells #[.slice A1 kd c1, .slice A2 kn c2, (.slice Av i cv), .slice none 0 0] tAns (0, 0)) → W.cell? ⟨b3, 2, none⟩ = some (.slice Av i cv) ∧ W.cell? ⟨V, 2, none⟩ = some (.slice (some ⟨ga, 0, none⟩) kf cf) ∧ W.cell? ⟨ga, i * 2, none⟩ = some (.string X) ∧ W.cell? ⟨ga, i * 2 + 1, none⟩ = some (.slice Ax lx cx) := fun W hb hx =>
          ⟨by rw [cell_of_row W b3 _ _ _ _ hx]; rfl, CF.out W hb, (hb.cell (p := ⟨ga, i * 2, none⟩) hgl).trans n0, (hb.cell (p := ⟨ga, i * 2 + 1, none⟩) hgl).trans n1⟩
        have Zhss := Lib.hid hss
        have Zhbox := Lib.hid hbox
        have Zhfl := Lib.hid hfl
        have Zhkp := Lib.hid hkp
        have Zhbw := Lib.hid hbw
        have Zhro := Lib.hid hro
        have Zhrx := Lib.hid hrx
        have Zhzx := Lib.hid hzx
        have Zhtl := Lib.hid htl
        have ZhX := Lib.hid hX
        have Zhf := Lib.hid hf
        have Zhlx := Lib.hid hlx
        clear hss hbox hfl hkp hbw hro hrx hzx htl hX hf hlx n0 n1 hgl hox
        go_upto_region 5 with (fail)
        refine wp_region_any (by kernel_rfl) ?_
        change wpAny _ _ _ _ _ _ _ (World.drew _)
        obtain ⟨w2, hw2⟩ : ∃ w2, wr.drew = w2 := ⟨_, rfl⟩
        have nb0 : Below wr.heap.size wr w2 := by rw [← hw2]; exact (Below.refl _ _).drew
        rw [hw2]
        clear hw2
        have bw0 : Below w1.heap.size w1 w2 := Zhbw.out.trans (nb0.mono Zhbw.out.size)
        have bx0 := (nb0.block b3 (Array.getElem?_eq_some_iff.1 Zhbox.out).1).trans Zhbox.out
        have kp0 := Zhkp.out.below nb0
        have fl0 := Zhfl.out.below nb0
        refine wpAny_of_P (S := fun W => W.cell? ⟨b3, 2, none⟩ = some (.slice Av i cv) ∧ W.cell? ⟨V, 2, none⟩ = some (.slice (some ⟨ga, 0, none⟩) kf cf) ∧ W.cell? ⟨ga, i * 2, none⟩ = some (.string X) ∧ W.cell? ⟨ga, i * 2 + 1, none⟩ = some (.slice Ax lx cx)) (late := [20]) _ _ _ _ ?_
        refine takeT (i := 0) (v := ?_) rfl (by kernel_rfl) (by kernel_rfl) (by kernel_rfl) (by kernel_rfl) (fun _ _ _ h => h) (Zhss.out _ bw0 bx0) (.inl ⟨by rfl, fun w => .inl ?hy0⟩) ?_; case hy0 => (go_simp; try with_reducible rfl)
        try go_frame
        refine takePT 16 (i := 1) (v := ?_) rfl (by kernel_rfl) (by kernel_rfl) (by kernel_rfl) (by kernel_rfl) (by kernel_rfl) (by kernel_rfl) (fun _ _ _ h => h) (Zhss.out _ bw0 bx0) (.inl ⟨by rfl, fun w hw => .inl ?hy1⟩) ?_; case hy1 => (obtain ⟨_, _, _, _⟩ := hw; go_simp; try with_reducible rfl)
        try go_frame
        refine takeT (i := 2) (v := ?_) rfl (by kernel_rfl) (by kernel_rfl) (by kernel_rfl) (by kernel_rfl) (fun _ _ _ h => h) (Zhss.out _ bw0 bx0) (.inl ⟨by rfl, fun w => .inl ?hy2⟩) ?_; case hy2 => (go_simp; try with_reducible rfl)
        try go_frame
        refine takePT 16 (i := 3) (v := ?_) rfl (by kernel_rfl) (by kernel_rfl) (by kernel_rfl) (by kernel_rfl) (by kernel_rfl) (by kernel_rfl) (fun _ _ _ h => h) (Zhss.out _ bw0 bx0) (.inl ⟨by rfl, fun w hw => .inl ?hy3⟩) ?_; case hy3 => (obtain ⟨_, _, _, _⟩ := hw; go_simp; try with_reducible rfl)
        try go_frame
        refine takeT (i := 4) (v := ?_) rfl (by kernel_rfl) (by kernel_rfl) (by kernel_rfl) (by kernel_rfl) (fun _ _ _ h => h) (Zhss.out _ bw0 bx0) (.inl ⟨by rfl, fun w => .inl ?hy4⟩) ?_; case hy4 => (go_simp; try with_reducible rfl)
        try go_frame
        refine takeT (i := 5) (v := ?_) rfl (by kernel_rfl) (by kernel_rfl) (by kernel_rfl) (by kernel_rfl) (fun _ _ _ h => h) (Zhss.out _ bw0 bx0) (.inl ⟨by rfl, fun w => .inl ?hy5⟩) ?_; case hy5 => (go_simp; try with_reducible rfl)
        try go_frame
        refine takeT (i := 6) (v := ?_) rfl (by kernel_rfl) (by kernel_rfl) (by kernel_rfl) (by kernel_rfl) (fun _ _ _ h => h) (Zhss.out _ bw0 bx0) (.inl ⟨by rfl, fun w => .inl ?hy6⟩) ?_; case hy6 => (go_simp; try with_reducible rfl)
        try go_frame
        refine takePT 16 (i := 7) (v := ?_) rfl (by kernel_rfl) (by kernel_rfl) (by kernel_rfl) (by kernel_rfl) (by kernel_rfl) (by kernel_rfl) (fun _ _ _ h => h) (Zhss.out _ bw0 bx0) (.inl ⟨by rfl, fun w hw => .inl ?hy7⟩) ?_; case hy7 => (obtain ⟨_, _, _, _⟩ := hw; go_simp; try with_reducible rfl)
        try go_frame
        refine takeT (i := 9) (v := ?_) rfl (by kernel_rfl) (by kernel_rfl) (by kernel_rfl) (by kernel_rfl) (fun _ _ _ h => h) (Zhss.out _ bw0 bx0) (.inl ⟨by rfl, fun w => .inl ?hy9⟩) ?_; case hy9 => (go_simp; try with_reducible rfl)
        try go_frame
        refine takePT 16 (i := 10) (v := ?_) rfl (by kernel_rfl) (by kernel_rfl) (by kernel_rfl) (by kernel_rfl) (by kernel_rfl) (by kernel_rfl) (fun _ _ _ h => h) (Zhss.out _ bw0 bx0) (.inl ⟨by rfl, fun w hw => .inl ?hy10⟩) ?_; case hy10 => (obtain ⟨_, _, _, _⟩ := hw; go_simp; try with_reducible rfl)
        try go_frame
        refine takeT (i := 11) (v := ?_) rfl (by kernel_rfl) (by kernel_rfl) (by kernel_rfl) (by kernel_rfl) (fun _ _ _ h => h) (Zhss.out _ bw0 bx0) (.inl ⟨by rfl, fun w => .inl ?hy11⟩) ?_; case hy11 => (go_simp; try with_reducible rfl)
        try go_frame
        refine takeT (i := 12) (v := ?_) rfl (by kernel_rfl) (by kernel_rfl) (by kernel_rfl) (by kernel_rfl) (fun _ _ _ h => h) (Zhss.out _ bw0 bx0) (.inl ⟨by rfl, fun w => .inl ?hy12⟩) ?_; case hy12 => (go_simp; try with_reducible rfl)
        try go_frame
        refine takeT (i := 13) (v := ?_) rfl (by kernel_rfl) (by kernel_rfl) (by kernel_rfl) (by kernel_rfl) (fun _ _ _ h => h) (Zhss.out _ bw0 bx0) (.inl ⟨by rfl, fun w => .inl ?hy13⟩) ?_; case hy13 => (go_simp; try with_reducible rfl)
        try go_frame
        refine takePT 16 (i := 14) (v := ?_) rfl (by kernel_rfl) (by kernel_rfl) (by kernel_rfl) (by kernel_rfl) (by kernel_rfl) (by kernel_rfl) (fun _ _ _ h => h) (Zhss.out _ bw0 bx0) (.inl ⟨by rfl, fun w hw => .inl ?hy14⟩) ?_; case hy14 => (obtain ⟨_, _, _, _⟩ := hw; go_simp; try with_reducible rfl)
        try go_frame
        refine forcedP (i := 8) rfl rfl (by kernel_rfl) (fun K hK => ?_)
        go_simp
        obtain ⟨w3, hw3⟩ : ∃ v, w2.alloc (.cells #[] tU8) = v := ⟨_, rfl⟩
        have nb1 : Below w2.heap.size w2 w3 := by rw [← hw3]; exact (Below.refl _ _).alloc (Nat.le_refl _) _
        have d1 : w3.ownsRow w2.heap.size tU8 1 (.slice (some ⟨w2.heap.size, 0, none⟩) 0 0) 0 [] := by rw [← hw3]; exact own_new w2 (Nat.le_refl _) tU8 1 0 [] rfl (Nat.zero_le _)
        have bw1 := bw0.trans (nb1.mono bw0.size)
        have bx1 := (nb1.block b3 (Array.getElem?_eq_some_iff.1 bx0).1).trans bx0
        have kp1 := kp0.below nb1
        have fl1 := fl0.below nb1
        try rw [hw3]
        refine hK _ _ (Zhss.out _ bw1 bx1) ?_; clear hK K
        try rw [hw3]
        clear hw3
        try go_frame
        refine forcedP (i := 15) rfl rfl (by kernel_rfl) (fun K hK => ?_)
        refine wp_append_rd (.tmp 30) (.tmp 36) 35 rfl w2.heap.size tU8 i0 (.int .u8 0) 1 1 Try.underlying35 hi0 hz0 hz1 hz2 rfl (by decide) (.slice (some ⟨w2.heap.size, 0, none⟩) 0 0) 0 [] rfl d1 w1.heap.size Ax lx cx (cU8 f.2) rfl (Zhrx.out.below bw1) Zhzx.out (cU8_one _) (by unfold maxLen; omega) (by omega) nb1.size ?_
        intro y3 w4 r2 g2
        have nb2 : Below w2.heap.size w2 w4 := nb1.grown g2 nb1.size (fun j hj => own_ge d1 hj)
        have bw2 := bw0.trans (nb2.mono bw0.size)
        have bx2 := (nb2.block b3 (Array.getElem?_eq_some_iff.1 bx0).1).trans bx0
        have kp2 := kp0.below nb2
        have fl2 := fl0.below nb2
        rw [Nat.zero_add, List.nil_append] at r2
        obtain ⟨X3, e3, rfl, _, _⟩ := own_form r2
        refine hK _ _ (Zhss.out _ bw2 bx2) ?_; clear hK K
        try go_frame
        refine takeT (i := 16) (v := ?_) rfl (by kernel_rfl) (by kernel_rfl) (by kernel_rfl) (by kernel_rfl) (fun _ _ _ h => h) (Zhss.out _ bw2 bx2) (.inl ⟨by rfl, fun w => .inl ?hy16⟩) ?_; case hy16 => (go_simp; try with_reducible rfl)
        try go_frame
        refine forcedP (i := 17) rfl rfl (by kernel_rfl) (fun K hK => ?_)
        go_simp
        obtain ⟨w5, hw5⟩ : ∃ v, w4.alloc (.cells #[.string X, .slice X3 lx e3] tFile) = v := ⟨_, rfl⟩
        have nb3 : Below w4.heap.size w4 w5 := by rw [← hw5]; exact (Below.refl _ _).alloc (Nat.le_refl _) _
        have hw5c : w5.heap[w4.heap.size]? = some (.cells #[.string X, .slice X3 lx e3] tFile (0, 0)) := by rw [← hw5]; exact heap_alloc_new _ _
        have bw3 := bw2.trans (nb3.mono bw2.size)
        have bx3 := (nb3.block b3 (Array.getElem?_eq_some_iff.1 bx2).1).trans bx2
        have kp3 := kp2.below nb3
        have fl3 := fl2.below nb3
        have r3 := own_below r2 nb3
        have s5 : w5.heap.size = w4.heap.size + 1 := by rw [← hw5]; simp
        try rw [hw5]
        refine hK _ _ (Zhss.out _ bw3 bx3) ?_; clear hK K
        try rw [hw5]
        clear hw5
        try go_frame
        refine forcedP (i := 18) rfl rfl (by kernel_rfl) (fun K hK => ?_)
        have hro3 := fl3.row
        rw [Zhtl.out] at hro3
        refine wp_append_lies _ (.tmp 23) (.tmp 39) 22 rfl wc.heap.size tFile j0 (.agg #[.string ⟨#[]⟩, .slice none 0 0]) 2 40 Try.underlying22 hj0 hy0 hy1 hy2 rfl (by decide) (.slice Av i cv) i _ rfl hro3 ⟨w4.heap.size, 0, none⟩ 1 1 [.string X, .slice X3 lx e3] rfl rfl (World.news_of_block (cs := #[.string X, .slice X3 lx e3]) (t := tFile) (fr := (0, 0)) hw5c) (by simp [Value.oneCell']) (by decide) (by unfold maxLen; omega) (by omega) kp3.size w5.heap.size rfl ?_
        intro g6 c6 w6 hrow6 hgrow6 _ _
        have bw4 : Below w1.heap.size w1 w6 := bw3.grown hgrow6 bw3.size (fun g hg => Nat.le_trans HCOP.out.back.size (own_ge hro3 hg))
        have bx4 := grow_box bx3 hro3 (by decide) hgrow6
        have kp4 := kp3.grown hgrow6 (fun g hg => .inr (own_ge hro3 hg))
        have hx3 : w5.ownsRow wc.heap.size tU8 1 (.slice X3 lx e3) f.2.length (cU8 f.2) := by rw [Zhlx.out]; exact own_base r3 (Nat.le_trans Zhkp.out.size nb0.size)
        have fl4 := fl3.snoc (f := f) (w2 := w6) (v2 := .slice (some ⟨g6, 0, none⟩) (i + 1) c6) hx3 (fun g hg y hy e => by obtain ⟨j, hj⟩ := List.mem_iff_getElem?.1 hy; have h1 := (Zhfl.out.lt hj e).2; have h2 := own_ge r3 hg; have := nb0.size; omega) (by rw [Zhtl.out, show encStr f.1 = .string X by rw [← ZhX.out]]; exact hrow6) hgrow6
        rw [← files_take Zhf.out] at fl4
        refine hK _ _ (Zhss.out _ bw4 bx4) ?_; clear hK K
        try go_frame
        refine takeT (i := 19) (v := ?_) rfl (by kernel_rfl) (by kernel_rfl) (by kernel_rfl) (by kernel_rfl) (fun _ _ _ h => h) (Zhss.out _ bw4 bx4) (.inl ⟨by rfl, fun w => .inl ?hy19⟩) ?_; case hy19 => (go_simp; try with_reducible rfl)
        try go_frame
        have p2 : w6.cell? ⟨b3, 2, none⟩ = some (.slice Av i cv) := by rw [cell_of_row w6 b3 _ _ _ _ bx4]; rfl
        have z2 := unfrozen bx4 2
        refine lateP (i := 20) rfl rfl (by kernel_rfl) (by kernel_rfl) (fun K hK => ?_)
        go_simp
        refine hK _ _ ?_; clear hK K
        try go_frame
        refine wpAny_done (by kernel_rfl) ?_ _
        have kp5 := kp4.set (p := ⟨b3, 2, none⟩) rfl (.slice (some ⟨g6, 0, none⟩) (i + 1) c6)
        have bx5 := heap_same bx4 (i := 2) (.slice (some ⟨g6, 0, none⟩) (i + 1) c6)
        have fl5 : FilesAt (w6.setCell ⟨b3, 2, none⟩ (.slice (some ⟨g6, 0, none⟩) (i + 1) c6)) wc.heap.size (.slice (some ⟨g6, 0, none⟩) (i + 1) c6) (dv ++ [.slice X3 lx e3]) (fs.take (i + 1)) := fl4.kept ((Kept.refl w6 (fun b => b = b3)).set (p := ⟨b3, 2, none⟩) rfl _) (fun b hb => by rw [hb]; exact HB3.out)
        have Zk5 := Lib.hid kp5
        have Zb5 := Lib.hid bx5
        have Zf5 := Lib.hid fl5
        clear kp5 bx5 fl5 kp4 bx4 fl4 bw4 kp3 fl3 bx3 bw3 hrow6 hgrow6 hro3 hx3 p2 z2
        go_wp2
        go_roundw
        case rel => exact ⟨i + 1, _, _, _, by go_num, by omega, Zk5.out, Zb5.out, Zf5.out⟩
        case measure => simp [intOf]; omega
      · obtain rfl : kf = i := by omega
        rw [List.take_of_length_le (Nat.le_of_eq HKF.out.symm)] at hfl
        obtain ⟨wd, rfl⟩ : ∃ wd : World, wd = wr := ⟨_, rfl⟩
        obtain ⟨A3, rfl⟩ : ∃ A, A = Av := ⟨_, rfl⟩
        obtain ⟨c3, rfl⟩ : ∃ c, c = cv := ⟨_, rfl⟩
        obtain ⟨fv, rfl⟩ : ∃ v, v = dv := ⟨_, rfl⟩
        have hcd : Cop w1 wd b3 (.slice A1 kd c1) (.slice A2 kn c2) (.slice A3 kf c3) (.slice none 0 0) := ⟨hbox, hbw, HCOP.out.ge⟩
        have HCD := Lib.hid hcd
        have HKD := Lib.hid hkp
        have HFF := Lib.hid hfl
        have hb3d : b3 < wd.heap.size := (Array.getElem?_eq_some_iff.1 hbox).1
        have HBD := Lib.hid hb3d
        clear hcd hkp hfl hbox hbw hb3d
        go_upto_region 7 with (fail)
        go_loopw [5] (fun iv wr => ∃ (i : Nat) (Av : Option Addr) (cv : Nat) (dv : List Value), iv = .int .i64 (i : Int) ∧ i ≤ kg ∧ Kept wd wr (fun b => b = b3) ∧ wr.heap[b3]? = some (.cells #[.slice A1 kd c1, .slice A2 kn c2, .slice A3 kf c3, (.slice Av i cv)] tAns (0, 0)) ∧ FilesAt wr wd.heap.size (.slice Av i cv) dv (gs.take i)) (fun iv _ => kg - (intOf iv).toNat)
        case atStart => exact ⟨0, none, 0, [], rfl, by omega, Kept.refl _ _, HCD.out.box, by rw [List.take_zero]; exact FilesAt.nil _ _⟩
        case round =>
          obtain ⟨i, Av, cv, dv, rfl, hi, hkp, hbox, hfl⟩ := hrel
          have hbw : Below w1.heap.size w1 wr := HCD.out.back.trans (hkp.to_below HCD.out.back.size (fun b hb => by rw [hb]; exact HCOP.out.ge))
          have e1 := CG.out wr hbw
          by_cases hlt : i < kg
          · obtain ⟨f, hf⟩ : ∃ f, gs[i]? = some f := ⟨_, List.getElem?_eq_getElem (by have := HKG.out; omega)⟩
            obtain ⟨ga, Ax, cx, rfl, hgl, n0, n1, hox⟩ := cop_file (HS1.out.safe) HKG.out hf
            obtain ⟨lx, hlx⟩ : ∃ l, f.2.length = l := ⟨_, rfl⟩
            have hlb := HGB.out f (List.mem_of_getElem? hf)
            rw [hlx] at n1 hox hlb
            obtain ⟨X, hX⟩ : ∃ X : ByteArray, (⟨f.1.toArray⟩ : ByteArray) = X := ⟨_, rfl⟩
            rw [hX] at n0
            have hrx : Rd w1 w1.heap.size 1 Ax lx (cU8 f.2) := Rd.of_own (c := cx) hox
            have hzx : Ax = none → cx = 0 := own_none hox
            have htl : (gs.take i).length = i := by have := HKG.out; simp; omega
            have hro := hfl.row
            rw [htl] at hro
            have hlt2 : (i : Int) < (kg : Int) := by omega
            have hss : ∀ W : World, Below w1.heap.size w1 W → W.heap[b3]? = some (.cells #[.slice A1 kd c1, .slice A2 kn c2, .slice A3 kf c3, (.slice Av i cv)] tAns (0, 0)) → W.cell? ⟨b3, 3, none⟩ = some (.slice Av i cv) ∧ W.cell? ⟨V, 3, none⟩ = some (.slice (some ⟨ga, 0, none⟩) kg cg) ∧ W.cell? ⟨ga, i * 2, none⟩ = some (.string X) ∧ W.cell? ⟨ga, i * 2 + 1, none⟩ = some (.slice Ax lx cx) := fun W hb hx =>
              ⟨by rw [cell_of_row W b3 _ _ _ _ hx]; rfl, CG.out W hb, (hb.cell (p := ⟨ga, i * 2, none⟩) hgl).trans n0, (hb.cell (p := ⟨ga, i * 2 + 1, none⟩) hgl).trans n1⟩
            have Zhss := Lib.hid hss
            have Zhbox := Lib.hid hbox
            have Zhfl := Lib.hid hfl
            have Zhkp := Lib.hid hkp
            have Zhbw := Lib.hid hbw
            have Zhro := Lib.hid hro
            have Zhrx := Lib.hid hrx
            have Zhzx := Lib.hid hzx
            have Zhtl := Lib.hid htl
            have ZhX := Lib.hid hX
            have Zhf := Lib.hid hf
            have Zhlx := Lib.hid hlx
            clear hss hbox hfl hkp hbw hro hrx hzx htl hX hf hlx n0 n1 hgl hox
            go_upto_region 9 with (fail)
            refine wp_region_any (by kernel_rfl) ?_
            change wpAny _ _ _ _ _ _ _ (World.drew _)
            obtain ⟨w2, hw2⟩ : ∃ w2, wr.drew = w2 := ⟨_, rfl⟩
            have nb0 : Below wr.heap.size wr w2 := by rw [← hw2]; exact (Below.refl _ _).drew
            rw [hw2]
            clear hw2
            have bw0 : Below w1.heap.size w1 w2 := Zhbw.out.trans (nb0.mono Zhbw.out.size)
            have bx0 := (nb0.block b3 (Array.getElem?_eq_some_iff.1 Zhbox.out).1).trans Zhbox.out
            have kp0 := Zhkp.out.below nb0
            have fl0 := Zhfl.out.below nb0
            refine wpAny_of_P (S := fun W => W.cell? ⟨b3, 3, none⟩ = some (.slice Av i cv) ∧ W.cell? ⟨V, 3, none⟩ = some (.slice (some ⟨ga, 0, none⟩) kg cg) ∧ W.cell? ⟨ga, i * 2, none⟩ = some (.string X) ∧ W.cell? ⟨ga, i * 2 + 1, none⟩ = some (.slice Ax lx cx)) (late := [20]) _ _ _ _ ?_
            refine takeT (i := 0) (v := ?_) rfl (by kernel_rfl) (by kernel_rfl) (by kernel_rfl) (by kernel_rfl) (fun _ _ _ h => h) (Zhss.out _ bw0 bx0) (.inl ⟨by rfl, fun w => .inl ?hy0⟩) ?_; case hy0 => (go_simp; try with_reducible rfl)
            try go_frame
            refine takePT 16 (i := 1) (v := ?_) rfl (by kernel_rfl) (by kernel_rfl) (by kernel_rfl) (by kernel_rfl) (by kernel_rfl) (by kernel_rfl) (fun _ _ _ h => h) (Zhss.out _ bw0 bx0) (.inl ⟨by rfl, fun w hw => .inl ?hy1⟩) ?_; case hy1 => (obtain ⟨_, _, _, _⟩ := hw; go_simp; try with_reducible rfl)
            try go_frame
            refine takeT (i := 2) (v := ?_) rfl (by kernel_rfl) (by kernel_rfl) (by kernel_rfl) (by kernel_rfl) (fun _ _ _ h => h) (Zhss.out _ bw0 bx0) (.inl ⟨by rfl, fun w => .inl ?hy2⟩) ?_; case hy2 => (go_simp; try with_reducible rfl)
            try go_frame
            refine takePT 16 (i := 3) (v := ?_) rfl (by kernel_rfl) (by kernel_rfl) (by kernel_rfl) (by kernel_rfl) (by kernel_rfl) (by kernel_rfl) (fun _ _ _ h => h) (Zhss.out _ bw0 bx0) (.inl ⟨by rfl, fun w hw => .inl ?hy3⟩) ?_; case hy3 => (obtain ⟨_, _, _, _⟩ := hw; go_simp; try with_reducible rfl)
            try go_frame
            refine takeT (i := 4) (v := ?_) rfl (by kernel_rfl) (by kernel_rfl) (by kernel_rfl) (by kernel_rfl) (fun _ _ _ h => h) (Zhss.out _ bw0 bx0) (.inl ⟨by rfl, fun w => .inl ?hy4⟩) ?_; case hy4 => (go_simp; try with_reducible rfl)
            try go_frame
            refine takeT (i := 5) (v := ?_) rfl (by kernel_rfl) (by kernel_rfl) (by kernel_rfl) (by kernel_rfl) (fun _ _ _ h => h) (Zhss.out _ bw0 bx0) (.inl ⟨by rfl, fun w => .inl ?hy5⟩) ?_; case hy5 => (go_simp; try with_reducible rfl)
            try go_frame
            refine takeT (i := 6) (v := ?_) rfl (by kernel_rfl) (by kernel_rfl) (by kernel_rfl) (by kernel_rfl) (fun _ _ _ h => h) (Zhss.out _ bw0 bx0) (.inl ⟨by rfl, fun w => .inl ?hy6⟩) ?_; case hy6 => (go_simp; try with_reducible rfl)
            try go_frame
            refine takePT 16 (i := 7) (v := ?_) rfl (by kernel_rfl) (by kernel_rfl) (by kernel_rfl) (by kernel_rfl) (by kernel_rfl) (by kernel_rfl) (fun _ _ _ h => h) (Zhss.out _ bw0 bx0) (.inl ⟨by rfl, fun w hw => .inl ?hy7⟩) ?_; case hy7 => (obtain ⟨_, _, _, _⟩ := hw; go_simp; try with_reducible rfl)
            try go_frame
            refine takeT (i := 9) (v := ?_) rfl (by kernel_rfl) (by kernel_rfl) (by kernel_rfl) (by kernel_rfl) (fun _ _ _ h => h) (Zhss.out _ bw0 bx0) (.inl ⟨by rfl, fun w => .inl ?hy9⟩) ?_; case hy9 => (go_simp; try with_reducible rfl)
            try go_frame
            refine takePT 16 (i := 10) (v := ?_) rfl (by kernel_rfl) (by kernel_rfl) (by kernel_rfl) (by kernel_rfl) (by kernel_rfl) (by kernel_rfl) (fun _ _ _ h => h) (Zhss.out _ bw0 bx0) (.inl ⟨by rfl, fun w hw => .inl ?hy10⟩) ?_; case hy10 => (obtain ⟨_, _, _, _⟩ := hw; go_simp; try with_reducible rfl)
            try go_frame
            refine takeT (i := 11) (v := ?_) rfl (by kernel_rfl) (by kernel_rfl) (by kernel_rfl) (by kernel_rfl) (fun _ _ _ h => h) (Zhss.out _ bw0 bx0) (.inl ⟨by rfl, fun w => .inl ?hy11⟩) ?_; case hy11 => (go_simp; try with_reducible rfl)
            try go_frame
            refine takeT (i := 12) (v := ?_) rfl (by kernel_rfl) (by kernel_rfl) (by kernel_rfl) (by kernel_rfl) (fun _ _ _ h => h) (Zhss.out _ bw0 bx0) (.inl ⟨by rfl, fun w => .inl ?hy12⟩) ?_; case hy12 => (go_simp; try with_reducible rfl)
            try go_frame
            refine takeT (i := 13) (v := ?_) rfl (by kernel_rfl) (by kernel_rfl) (by kernel_rfl) (by kernel_rfl) (fun _ _ _ h => h) (Zhss.out _ bw0 bx0) (.inl ⟨by rfl, fun w => .inl ?hy13⟩) ?_; case hy13 => (go_simp; try with_reducible rfl)
            try go_frame
            refine takePT 16 (i := 14) (v := ?_) rfl (by kernel_rfl) (by kernel_rfl) (by kernel_rfl) (by kernel_rfl) (by kernel_rfl) (by kernel_rfl) (fun _ _ _ h => h) (Zhss.out _ bw0 bx0) (.inl ⟨by rfl, fun w hw => .inl ?hy14⟩) ?_; case hy14 => (obtain ⟨_, _, _, _⟩ := hw; go_simp; try with_reducible rfl)
            try go_frame
            refine forcedP (i := 8) rfl rfl (by kernel_rfl) (fun K hK => ?_)
            go_simp
            obtain ⟨w3, hw3⟩ : ∃ v, w2.alloc (.cells #[] tU8) = v := ⟨_, rfl⟩
            have nb1 : Below w2.heap.size w2 w3 := by rw [← hw3]; exact (Below.refl _ _).alloc (Nat.le_refl _) _
            have d1 : w3.ownsRow w2.heap.size tU8 1 (.slice (some ⟨w2.heap.size, 0, none⟩) 0 0) 0 [] := by rw [← hw3]; exact own_new w2 (Nat.le_refl _) tU8 1 0 [] rfl (Nat.zero_le _)
            have bw1 := bw0.trans (nb1.mono bw0.size)
            have bx1 := (nb1.block b3 (Array.getElem?_eq_some_iff.1 bx0).1).trans bx0
            have kp1 := kp0.below nb1
            have fl1 := fl0.below nb1
            try rw [hw3]
            refine hK _ _ (Zhss.out _ bw1 bx1) ?_; clear hK K
            try rw [hw3]
            clear hw3
            try go_frame
            refine forcedP (i := 15) rfl rfl (by kernel_rfl) (fun K hK => ?_)
            refine wp_append_rd (.tmp 57) (.tmp 63) 35 rfl w2.heap.size tU8 i0 (.int .u8 0) 1 1 Try.underlying35 hi0 hz0 hz1 hz2 rfl (by decide) (.slice (some ⟨w2.heap.size, 0, none⟩) 0 0) 0 [] rfl d1 w1.heap.size Ax lx cx (cU8 f.2) rfl (Zhrx.out.below bw1) Zhzx.out (cU8_one _) (by unfold maxLen; omega) (by omega) nb1.size ?_
            intro y3 w4 r2 g2
            have nb2 : Below w2.heap.size w2 w4 := nb1.grown g2 nb1.size (fun j hj => own_ge d1 hj)
            have bw2 := bw0.trans (nb2.mono bw0.size)
            have bx2 := (nb2.block b3 (Array.getElem?_eq_some_iff.1 bx0).1).trans bx0
            have kp2 := kp0.below nb2
            have fl2 := fl0.below nb2
            rw [Nat.zero_add, List.nil_append] at r2
            obtain ⟨X3, e3, rfl, _, _⟩ := own_form r2
            refine hK _ _ (Zhss.out _ bw2 bx2) ?_; clear hK K
            try go_frame
            refine takeT (i := 16) (v := ?_) rfl (by kernel_rfl) (by kernel_rfl) (by kernel_rfl) (by kernel_rfl) (fun _ _ _ h => h) (Zhss.out _ bw2 bx2) (.inl ⟨by rfl, fun w => .inl ?hy16⟩) ?_; case hy16 => (go_simp; try with_reducible rfl)
            try go_frame
            refine forcedP (i := 17) rfl rfl (by kernel_rfl) (fun K hK => ?_)
            go_simp
            obtain ⟨w5, hw5⟩ : ∃ v, w4.alloc (.cells #[.string X, .slice X3 lx e3] tFile) = v := ⟨_, rfl⟩
            have nb3 : Below w4.heap.size w4 w5 := by rw [← hw5]; exact (Below.refl _ _).alloc (Nat.le_refl _) _
            have hw5c : w5.heap[w4.heap.size]? = some (.cells #[.string X, .slice X3 lx e3] tFile (0, 0)) := by rw [← hw5]; exact heap_alloc_new _ _
            have bw3 := bw2.trans (nb3.mono bw2.size)
            have bx3 := (nb3.block b3 (Array.getElem?_eq_some_iff.1 bx2).1).trans bx2
            have kp3 := kp2.below nb3
            have fl3 := fl2.below nb3
            have r3 := own_below r2 nb3
            have s5 : w5.heap.size = w4.heap.size + 1 := by rw [← hw5]; simp
            try rw [hw5]
            refine hK _ _ (Zhss.out _ bw3 bx3) ?_; clear hK K
            try rw [hw5]
            clear hw5
            try go_frame
            refine forcedP (i := 18) rfl rfl (by kernel_rfl) (fun K hK => ?_)
            have hro3 := fl3.row
            rw [Zhtl.out] at hro3
            refine wp_append_lies _ (.tmp 50) (.tmp 66) 22 rfl wd.heap.size tFile j0 (.agg #[.string ⟨#[]⟩, .slice none 0 0]) 2 40 Try.underlying22 hj0 hy0 hy1 hy2 rfl (by decide) (.slice Av i cv) i _ rfl hro3 ⟨w4.heap.size, 0, none⟩ 1 1 [.string X, .slice X3 lx e3] rfl rfl (World.news_of_block (cs := #[.string X, .slice X3 lx e3]) (t := tFile) (fr := (0, 0)) hw5c) (by simp [Value.oneCell']) (by decide) (by unfold maxLen; omega) (by omega) kp3.size w5.heap.size rfl ?_
            intro g6 c6 w6 hrow6 hgrow6 _ _
            have bw4 : Below w1.heap.size w1 w6 := bw3.grown hgrow6 bw3.size (fun g hg => Nat.le_trans HCD.out.back.size (own_ge hro3 hg))
            have bx4 := grow_box bx3 hro3 (by decide) hgrow6
            have kp4 := kp3.grown hgrow6 (fun g hg => .inr (own_ge hro3 hg))
            have hx3 : w5.ownsRow wd.heap.size tU8 1 (.slice X3 lx e3) f.2.length (cU8 f.2) := by rw [Zhlx.out]; exact own_base r3 (Nat.le_trans Zhkp.out.size nb0.size)
            have fl4 := fl3.snoc (f := f) (w2 := w6) (v2 := .slice (some ⟨g6, 0, none⟩) (i + 1) c6) hx3 (fun g hg y hy e => by obtain ⟨j, hj⟩ := List.mem_iff_getElem?.1 hy; have h1 := (Zhfl.out.lt hj e).2; have h2 := own_ge r3 hg; have := nb0.size; omega) (by rw [Zhtl.out, show encStr f.1 = .string X by rw [← ZhX.out]]; exact hrow6) hgrow6
            rw [← files_take Zhf.out] at fl4
            refine hK _ _ (Zhss.out _ bw4 bx4) ?_; clear hK K
            try go_frame
            refine takeT (i := 19) (v := ?_) rfl (by kernel_rfl) (by kernel_rfl) (by kernel_rfl) (by kernel_rfl) (fun _ _ _ h => h) (Zhss.out _ bw4 bx4) (.inl ⟨by rfl, fun w => .inl ?hy19⟩) ?_; case hy19 => (go_simp; try with_reducible rfl)
            try go_frame
            have p2 : w6.cell? ⟨b3, 3, none⟩ = some (.slice Av i cv) := by rw [cell_of_row w6 b3 _ _ _ _ bx4]; rfl
            have z2 := unfrozen bx4 3
            refine lateP (i := 20) rfl rfl (by kernel_rfl) (by kernel_rfl) (fun K hK => ?_)
            go_simp
            refine hK _ _ ?_; clear hK K
            try go_frame
            refine wpAny_done (by kernel_rfl) ?_ _
            have kp5 := kp4.set (p := ⟨b3, 3, none⟩) rfl (.slice (some ⟨g6, 0, none⟩) (i + 1) c6)
            have bx5 := heap_same bx4 (i := 3) (.slice (some ⟨g6, 0, none⟩) (i + 1) c6)
            have fl5 : FilesAt (w6.setCell ⟨b3, 3, none⟩ (.slice (some ⟨g6, 0, none⟩) (i + 1) c6)) wd.heap.size (.slice (some ⟨g6, 0, none⟩) (i + 1) c6) (dv ++ [.slice X3 lx e3]) (gs.take (i + 1)) := fl4.kept ((Kept.refl w6 (fun b => b = b3)).set (p := ⟨b3, 3, none⟩) rfl _) (fun b hb => by rw [hb]; exact HBD.out)
            have Zk5 := Lib.hid kp5
            have Zb5 := Lib.hid bx5
            have Zf5 := Lib.hid fl5
            clear kp5 bx5 fl5 kp4 bx4 fl4 bw4 kp3 fl3 bx3 bw3 hrow6 hgrow6 hro3 hx3 p2 z2
            go_wp2
            go_roundw
            case rel => exact ⟨i + 1, _, _, _, by go_num, by omega, Zk5.out, Zb5.out, Zf5.out⟩
            case measure => simp [intOf]; omega
          · obtain rfl : kg = i := by omega
            rw [List.take_of_length_le (Nat.le_of_eq HKG.out.symm)] at hfl
            have hst : wr.rangeAt b3 0 [.slice A1 kd c1, .slice A2 kn c2, .slice A3 kf c3, .slice Av kg cv] := by
              intro j v hv
              rw [Nat.zero_add, cell_of_row wr b3 _ _ _ _ hbox]
              simpa using hv
            have hRr := (hbw.block (V + 1) (by have := HSV.out; omega)).trans HR.out
            have p0 : wr.cell? ⟨V + 1, 0, none⟩ = some (.slice none 0 0) := by rw [cell_of_row wr (V + 1) _ _ _ _ hRr]; rfl
            have p1 : wr.cell? ⟨V + 1, 1, none⟩ = some (.slice none 0 0) := by rw [cell_of_row wr (V + 1) _ _ _ _ hRr]; rfl
            have p2 : wr.cell? ⟨V + 1, 2, none⟩ = some (.slice none 0 0) := by rw [cell_of_row wr (V + 1) _ _ _ _ hRr]; rfl
            have p3 : wr.cell? ⟨V + 1, 3, none⟩ = some (.slice none 0 0) := by rw [cell_of_row wr (V + 1) _ _ _ _ hRr]; rfl
            have z0 := unfrozen hRr 0
            have z1 := unfrozen hRr 1
            have z2 := unfrozen hRr 2
            have z3 := unfrozen hRr 3
            have hR9 := heap_same (heap_same (heap_same (heap_same hRr (i := 0) (.slice A1 kd c1)) (i := 1) (.slice A2 kn c2)) (i := 2) (.slice A3 kf c3)) (i := 3) (.slice Av kg cv)
            have HR9 := Lib.hid hR9
            have HST := Lib.hid hst
            have HFL := Lib.hid hfl
            have HKP := Lib.hid hkp
            have HBW := Lib.hid hbw
            clear hR9 hst hfl hkp hbw hRr hbox
            go_wp2_with (refine wpList_load_mid rfl tAns (.tmp 3) rfl b3 0 rfl [.slice A1 kd c1, .slice A2 kn c2, .slice A3 kf c3, .slice Av kg cv] _ HST.out Try.underlying81 rfl (by kernel_rfl) ?_)
            try simp only [Exit.inBlock, Exit.then]
            refine bodyPost_ret (results_cell_row Try.results42 _ _ (V + 1) tAns _ _ _ rfl HR9.out Try.underlying81 rfl (by kernel_rfl)) rfl ?_
            rw [HV.out]
            have hVb : V + 1 < w1.heap.size := by have := HSV.out; omega
            have q1 := own_row_kept HROW1.out HKD.out (fun g hg => own_off_box HROW1.out HCOP.out.box (by decide) hg)
            have q2 := own_row_kept HROW2.out HKD.out (fun g hg => own_off_box HROW2.out HCOP.out.box (by decide) hg)
            have hb3d : b3 < wc.heap.size := (Array.getElem?_eq_some_iff.1 HCOP.out.box).1
            have q3 := HFF.out.kept HKP.out (fun b hb => by rw [hb]; exact hb3d)
            have r1 := own_row_kept q1 HKP.out (fun g hg => by have := own_off_box HROW1.out HCOP.out.box (by decide) hg; exact this)
            have r2 := own_row_kept q2 HKP.out (fun g hg => by have := own_off_box HROW2.out HCOP.out.box (by decide) hg; exact this)
            have hs4 : Says wr (V + 2) ⟨(A1, kd, c1), (A2, kn, c2), (A3, kf, c3), (Av, kg, cv), fv, dv⟩ db ns fs gs := by
              have hz := HSV.out
              have z1 := HCOP.out.back.size
              have z2 := HKD.out.size
              refine ⟨own_base r1 (by omega), own_base r2 (by omega), q3.lower (by omega), HFL.out.lower (by omega), HKF.out, HKG.out, ?_, ?_⟩
              · have s0 : Span w1.heap.size wc.heap.size [(A1, kd, c1)] := span_own HROW1.out
                have s3 := span_files HFF.out
                have s4 := span_files HFL.out
                have p34 := off_append (off_files HFF.out) (off_files HFL.out) s3 s4 (Nat.le_refl _)
                exact off_append (l1 := [(A1, kd, c1)]) (by simp) p34 s0 ((s3.mono (Nat.le_refl _) HKP.out.size).append (s4.mono z2 (Nat.le_refl _))) (Nat.le_refl _)
              · intro g hg hg'
                have := (HFF.out.row.lt g hg).2
                have := (HFL.out.row.lt g hg').1
                omega
            refine ⟨⟨(A1, kd, c1), (A2, kn, c2), (A3, kf, c3), (Av, kg, cv), fv, dv⟩, rfl, ((((hs4.poke (by simp) _).poke (by simp) _).poke (by simp) _).poke (by simp) _).lower (by omega), ?_⟩
            have hb5 : Below V w wr := ((HV.out ▸ HB1.out).trans (HBW.out.mono (by omega)))
            exact (((hb5.setCell (by simp) _).setCell (by simp) _).setCell (by simp) _).setCell (by simp) _
end Go.Proofs.Ytelgcmcnebncmaa.Ap
