/- The law's own trace: anew. Printed by gen/mkanew.py. -/
import Derived.Test.YtelgcmcnebncmaaTr5
namespace Go.Proofs.Ytelgcmcnebncmaa.Dr
open Go.RowKit Go.Proofs Go.Proofs.Ytelgcmcnebncmaa.Ring

theorem fit_anew {fs : List (Bs × Bs)} {q : Nat} (h : fs.length ≤ q) : Fit (Tr.anew fs) (q + 1) := by
  refine ⟨by simp [Tr.anew], fun k i hk => ?_, fun k l i hk hi => ?_, small_anew h⟩
  · have hkl : k < fs.length := by have := (List.getElem?_eq_some_iff.1 hk).1; simpa [Tr.anew] using this
    change ((List.range fs.length).map some)[k]? = _ at hk
    rw [List.getElem?_map, List.getElem?_range hkl] at hk
    injection hk with hk
    injection hk with hk
    simp [Tr.anew]; omega
  · have hkl : k < fs.length := by have := (List.getElem?_eq_some_iff.1 hk).1; simpa [Tr.anew] using this
    change ((List.range fs.length).map fun i => [i])[k]? = _ at hk
    rw [List.getElem?_map, List.getElem?_range hkl] at hk
    injection hk with hk
    rw [← hk] at hi
    rw [List.mem_singleton.1 hi]
    simp [Tr.anew]; omega
theorem anew_next {fs : List (Bs × Bs)} {i : Nat} {f : Bs × Bs} (hf : fs[i]? = some f) :
    let u := (Tr.anew (fs.take i)).body f.2 f.2.length
    ({ names := u.names ++ [f.1], leads := u.leads ++ [some i], led := u.led ++ [[i]], data := u.data, safe := u.safe } : Tr) = Tr.anew (fs.take (i + 1)) := by
  have hi := (List.getElem?_eq_some_iff.1 hf).1
  dsimp only
  rw [List.take_add_one, hf]
  unfold Tr.anew Tr.body
  simp only [List.length_append, List.length_take, Option.toList_some, List.map_append, List.map_cons, List.map_nil, List.length_cons, List.length_nil, Nat.min_eq_left (Nat.le_of_lt hi), List.range_succ, Nat.zero_add]
theorem St.start (w : World) : TrA (w.alloc (.cells #[.slice none 0 0, .slice none 0 0, .slice none 0 0, .slice none 0 0, .slice none 0 0] tTrace)) (fun k => k = w.heap.size) w.heap.size (Tr.anew []) := by
  refine ⟨.slice none 0 0, .slice none 0 0, .slice none 0 0, .slice none 0 0, .slice none 0 0, [], rfl, ⟨heap_alloc_new _ _, ⟨?_, ?_, ?_⟩, rfl, fun k hk => (by simp; omega), ?_⟩⟩
  · intro i x hx
    match i, hx with
    | 0, hx => cases hx; exact World.ownsRow_nil _ _ _ _
    | 1, hx => cases hx; exact World.ownsRow_nil _ _ _ _
    | 2, hx => cases hx; exact World.ownsRow_nil _ _ _ _
    | 3, hx => cases hx; exact World.ownsRow_nil _ _ _ _
    | 4, hx => cases hx; exact World.ownsRow_nil _ _ _ _
    | k + 5, hx => cases hx
  · intro i x g hx hg
    match i, hx with
    | 0, hx => cases hx; cases hg
    | 1, hx => cases hx; cases hg
    | 2, hx => cases hx; cases hg
    | 3, hx => cases hx; cases hg
    | 4, hx => cases hx; cases hg
    | k + 5, hx => cases hx
  · intro i j x y g hx hy hg
    match i, hx with
    | 0, hx => cases hx; cases hg
    | 1, hx => cases hx; cases hg
    | 2, hx => cases hx; cases hg
    | 3, hx => cases hx; cases hg
    | 4, hx => cases hx; cases hg
    | k + 5, hx => cases hx
  · intro x hx
    simp [shape, Tr.anew] at hx
    rcases hx with rfl | rfl | rfl | rfl | rfl <;> decide
section
variable {w w3 : World} {T : Nat → Prop} {p g n2 c2 : Nat} {t : Tr} {vn vl ve vd vs : Value} {rs : List Value}
theorem St.namesG (h : St w T p (shape t vn vl ve vd vs rs)) {n : Bs} (hg : w.grownBy w3 vn.ownBlock) (ho : w3.ownsRow 0 kStr 1 (.slice (some ⟨g, 0, none⟩) n2 c2) n2 (cStr t.names ++ [encStr n]))
    (hb : vn.ownBlock = some g ∨ w.heap.size ≤ g) : Sturn w (w3.setCell ⟨p, 0, none⟩ (.slice (some ⟨g, 0, none⟩) n2 c2)) T p (shape { t with names := t.names ++ [n] } (.slice (some ⟨g, 0, none⟩) n2 c2) vl ve vd vs rs) := by
  rw [show cStr t.names ++ [encStr n] = cStr (t.names ++ [n]) by simp] at ho
  have hn : (cStr (t.names ++ [n])).length = n2 := by have := ho.1; omega
  refine h.grow (i := 0) rfl (by omega) hg (xs := cStr (t.names ++ [n])) (by rw [hn]; exact ho) fun g' hg' => ?_
  obtain rfl : g = g' := by simpa [Value.ownBlock] using hg'
  exact hb
end
section
variable {w : World}
set_option maxRecDepth 100000 in
set_option maxHeartbeats 16000000 in
theorem anew_any {A : Option Addr} {n c : Nat} {fs : List (Bs × Bs)} (h : FilesRd w A n fs) (hn : n ≤ 1099511627000) :
    Calls Try.prog 35 #[.slice A n c] w fun y w' => ∃ p T, y = .returned (.pointer (some ⟨p, 0, none⟩)) ∧ TrA w' T p (Tr.anew fs) ∧ Below w.heap.size w w' ∧ ∀ k, T k → w.heap.size ≤ k := by
  obtain ⟨V, hV⟩ : ∃ V, w.heap.size = V := ⟨_, rfl⟩
  obtain ⟨s0, hs0, hy0, hy1, hy2⟩ := info_parts infoStr
  obtain ⟨i0, hi0, hz0, hz1, hz2⟩ := info_parts infoInt2
  obtain ⟨j0, hj0, hq0, hq1, hq3⟩ := info_parts infoInts
  have hfn := h.1
  have HH := Lib.hid h
  have HFN := Lib.hid hfn
  clear h hfn
  go_enter Try.func35, Try.ntmps35
  go_upto_region 3 with (fail)
  obtain ⟨w1, hw1⟩ : ∃ w1, w.alloc (.cells #[.slice none 0 0, .slice none 0 0, .slice none 0 0, .slice none 0 0, .slice none 0 0] tTrace) = w1 := ⟨_, rfl⟩
  have hA1 : TrA w1 (fun k => k = V) V (Tr.anew []) := by rw [← hw1, ← hV]; exact St.start w
  have hb1 : Below w.heap.size w w1 := by rw [← hw1]; exact (Below.refl _ _).alloc (Nat.le_refl _) _
  have hs1 : w1.heap.size = V + 1 := by rw [← hw1, ← hV]; simp
  rw [hw1]
  have HA1 := Lib.hid hA1
  have HB1 := Lib.hid hb1
  have HV := Lib.hid hV
  have HSZ := Lib.hid hs1
  clear hA1 hb1 hw1 hV hs1
  go_loopw [4] (fun iv wr => ∃ i : Nat, iv = .int .i64 (i : Int) ∧ i ≤ n ∧ TrT w1 wr (fun k => k = V) V (Tr.anew (fs.take i))) (fun iv _ => n - (intOf iv).toNat)
  case atStart => exact ⟨0, rfl, by omega, by rw [List.take_zero]; exact HA1.out.refl⟩
  case round =>
    obtain ⟨i, rfl, hi, T1, hA, hk1, hs1⟩ := hrel
    have hbr : Below w.heap.size w wr := by
      refine HB1.out.trans (hk1.to_below (B := w.heap.size) HB1.out.size fun k hk => ?_)
      have := HV.out
      have : k = V := hk
      omega
    have hge : ∀ k, T1 k → w.heap.size ≤ k := fun k hk => by
      have := HV.out
      have := HSZ.out
      rcases hs1 k hk with h | h
      · have : k = V := h
        omega
      · omega
    by_cases hlt : i < n
    · obtain ⟨f, hf⟩ : ∃ f, fs[i]? = some f := ⟨_, List.getElem?_eq_getElem (by have := HFN.out; omega)⟩
      obtain ⟨g, Af, cf, rfl, hg, c0, c1, hrd⟩ := HH.out.2 i f hf
      have hlt2 : (i : Int) < (n : Int) := by omega
      have C0w := Lib.hid ((hbr.cell (p := ⟨g, i * 2, none⟩) hg).trans c0)
      have C1 := Lib.hid ((hbr.cell (p := ⟨g, i * 2 + 1, none⟩) hg).trans c1)
      have HRD := Lib.hid (hrd.next hbr)
      have HFT := Lib.hid (fit_anew (fs := fs.take i) (q := n) (by rw [List.length_take]; omega))
      have HAD := Lib.hid (hA.below (w1 := wr.drew) (Below.refl _ _).drew)
      have HKD := Lib.hid (hk1.below (w2 := wr.drew) (Below.refl _ _).drew)
      have HS1 := Lib.hid hs1
      have HGL0 := Lib.hid hg
      have HBR := Lib.hid hbr
      have HF := Lib.hid hf
      have HGT := Lib.hid (fun hT => absurd (hge g hT) (by omega) : T1 g → False)
      have hdl : (Tr.anew (fs.take i)).data.length = i := by simp [Tr.anew]; have := HFN.out; omega
      have HDL := Lib.hid hdl
      clear hA hk1 hs1 hg c0 c1 hrd hbr hf hge hdl
      go_upto_region 5 with (fail)
      refine wp_region_any (by kernel_rfl) ?_
      change wpAny _ _ _ _ _ _ _ (World.drew _)
      refine wpAny_of_P (S := fun w' => w'.cell? ⟨g, i * 2 + 1, none⟩ = some (.slice Af f.2.length cf) ∧ Rd w' wr.heap.size 1 Af f.2.length (cU8 f.2)) (late := [13]) _ _ _ _ ?_
      refine takeT (i := 0) (v := ?_) rfl (by kernel_rfl) (by kernel_rfl) (by kernel_rfl) (by kernel_rfl) (fun _ _ _ h => h) (⟨C1.out, HRD.out⟩) (.inl ⟨by rfl, fun w => .inl ?hy0⟩) ?_; case hy0 => (go_simp; try with_reducible rfl)
      try go_frame
      refine takeT (i := 1) (v := ?_) rfl (by kernel_rfl) (by kernel_rfl) (by kernel_rfl) (by kernel_rfl) (fun _ _ _ h => h) (⟨C1.out, HRD.out⟩) (.inl ⟨by rfl, fun w => .inl ?hy1⟩) ?_; case hy1 => (go_simp; try with_reducible rfl)
      try go_frame
      refine takeT (i := 2) (v := ?_) rfl (by kernel_rfl) (by kernel_rfl) (by kernel_rfl) (by kernel_rfl) (fun _ _ _ h => h) (⟨C1.out, HRD.out⟩) (.inl ⟨by rfl, fun w => .inl ?hy2⟩) ?_; case hy2 => (go_simp; try with_reducible rfl)
      try go_frame
      refine takeT (i := 3) (v := ?_) rfl (by kernel_rfl) (by kernel_rfl) (by kernel_rfl) (by kernel_rfl) (fun _ _ _ h => h) (⟨C1.out, HRD.out⟩) (.inl ⟨by rfl, fun w => .inl ?hy3⟩) ?_; case hy3 => (go_simp; try with_reducible rfl)
      try go_frame
      refine takeT (i := 4) (v := ?_) rfl (by kernel_rfl) (by kernel_rfl) (by kernel_rfl) (by kernel_rfl) (fun _ _ _ h => h) (⟨C1.out, HRD.out⟩) (.inl ⟨by rfl, fun w => .inl ?hy4⟩) ?_; case hy4 => (go_simp; try with_reducible rfl)
      try go_frame
      refine takePT 8 (i := 5) (v := ?_) rfl (by kernel_rfl) (by kernel_rfl) (by kernel_rfl) (by kernel_rfl) (by kernel_rfl) (by kernel_rfl) (fun _ _ _ h => h) (⟨C1.out, HRD.out⟩) (.inl ⟨by rfl, fun w hw => .inl ?hy5⟩) ?_; case hy5 => (obtain ⟨hw1, hw2⟩ := hw; have t1 := run_text (P := Try.prog) w 35 9 5 Try.underlying35 Try.underlying5 Try.underlying9 cf hw2; go_simp; try with_reducible rfl)
      try go_frame
      refine takePT 8 (i := 6) (v := ?_) rfl (by kernel_rfl) (by kernel_rfl) (by kernel_rfl) (by kernel_rfl) (by kernel_rfl) (by kernel_rfl) (fun _ _ _ h => h) (⟨C1.out, HRD.out⟩) (.inl ⟨by rfl, fun w hw => .inl ?hy6⟩) ?_; case hy6 => (obtain ⟨hw1, hw2⟩ := hw; have t1 := run_text (P := Try.prog) w 35 9 5 Try.underlying35 Try.underlying5 Try.underlying9 cf hw2; go_simp; try with_reducible rfl)
      try go_frame
      refine takeT (i := 7) (v := ?_) rfl (by kernel_rfl) (by kernel_rfl) (by kernel_rfl) (by kernel_rfl) (fun _ _ _ h => h) (⟨C1.out, HRD.out⟩) (.inl ⟨by rfl, fun w => .inl ?hy7⟩) ?_; case hy7 => (go_simp; try with_reducible rfl)
      try go_frame
      refine takeT (i := 8) (v := ?_) rfl (by kernel_rfl) (by kernel_rfl) (by kernel_rfl) (by kernel_rfl) (fun _ _ _ h => h) (⟨C1.out, HRD.out⟩) (.inl ⟨by rfl, fun w => .inl ?hy8⟩) ?_; case hy8 => (go_simp; try with_reducible rfl)
      try go_frame
      refine takeT (i := 9) (v := ?_) rfl (by kernel_rfl) (by kernel_rfl) (by kernel_rfl) (by kernel_rfl) (fun _ _ _ h => h) (⟨C1.out, HRD.out⟩) (.inl ⟨by rfl, fun w => .inl ?hy9⟩) ?_; case hy9 => (go_simp; try with_reducible rfl)
      try go_frame
      refine takeT (i := 10) (v := ?_) rfl (by kernel_rfl) (by kernel_rfl) (by kernel_rfl) (by kernel_rfl) (fun _ _ _ h => h) (⟨C1.out, HRD.out⟩) (.inl ⟨by rfl, fun w => .inl ?hy10⟩) ?_; case hy10 => (go_simp; try with_reducible rfl)
      try go_frame
      refine takePT 8 (i := 11) (v := ?_) rfl (by kernel_rfl) (by kernel_rfl) (by kernel_rfl) (by kernel_rfl) (by kernel_rfl) (by kernel_rfl) (fun _ _ _ h => h) (⟨C1.out, HRD.out⟩) (.inl ⟨by rfl, fun w hw => .inl ?hy11⟩) ?_; case hy11 => (obtain ⟨hw1, hw2⟩ := hw; have t1 := run_text (P := Try.prog) w 35 9 5 Try.underlying35 Try.underlying5 Try.underlying9 cf hw2; go_simp; try with_reducible rfl)
      try go_frame
      refine takeT (i := 12) (v := ?_) rfl (by kernel_rfl) (by kernel_rfl) (by kernel_rfl) (by kernel_rfl) (fun _ _ _ h => h) (⟨C1.out, HRD.out⟩) (.inl ⟨by rfl, fun w => .inl ?hy12⟩) ?_; case hy12 => (go_simp; try with_reducible rfl)
      try go_frame
      refine lateP (i := 13) rfl rfl (by kernel_rfl) (by kernel_rfl) (fun K hK => ?_)
      go_simp
      refine (body_any HAD.out HFT.out (by omega) f.2 f.2.length).mono ?_
      rintro y w3 ⟨rfl, h⟩
      obtain ⟨T2, hA2, hk2, hs2⟩ := TrT.join HKD.out HS1.out h
      refine hK _ _ ?_; clear hK K
      try go_frame
      refine takeL (i := 14) (v := ?_) rfl (by kernel_rfl) (by kernel_rfl) (by kernel_rfl) (fun _ _ _ h => h) (.inl ⟨by rfl, fun w => .inl ?hy14⟩) ?_; case hy14 => (go_simp; try with_reducible rfl)
      try go_frame
      refine wpAny_done (by kernel_rfl) ?_ _
      have hk4 := h
      obtain ⟨T3, _, hk4, hs4⟩ := hk4
      have HBW := Lib.hid (HBR.out.trans ((Below.refl w.heap.size wr).drew.trans (hk4.to_below (B := w.heap.size) HBR.out.size fun k hk => (by
        have := HV.out
        have := HSZ.out
        rcases HS1.out k hk with h | h
        · have : k = V := h
          omega
        · omega))))
      have HGL := Lib.hid (Nat.lt_of_lt_of_le HGL0.out HBW.out.size)
      have C0 := Lib.hid ((HBW.out.cell (p := ⟨g, i * 2, none⟩) HGL0.out).trans ((HBR.out.cell (p := ⟨g, i * 2, none⟩) HGL0.out).symm.trans C0w.out))
      obtain ⟨u, hu⟩ : ∃ u, (Tr.anew (fs.take i)).body f.2 f.2.length = u := ⟨_, rfl⟩
      have hfu := HFT.out.body f.2 f.2.length
      rw [hu] at hA2 hfu
      rw [HDL.out]
      obtain ⟨An, cn, Al, cl, Ae, ce, Ad, cd, As, cs, rs, hrl, hst⟩ := St.open hA2
      obtain ⟨hn2, _, _, _, _⟩ := hst.rows hrl
      have hcl := hst.cells
      have HGV := Lib.hid (show ¬ T2 g from fun hT => (by
        have h1 := HGL0.out
        have h2 := HB1.out.size
        have h3 := HV.out
        rcases hs2 g hT with h | h
        · have : g = V := h
          omega
        · omega))
      have HST2 := Lib.hid hst
      have HN := Lib.hid hn2
      have HCL := Lib.hid hcl
      have HRL := Lib.hid hrl
      have HFU := Lib.hid hfu
      have HU := Lib.hid hu
      have HK2 := Lib.hid hk2
      have HS2 := Lib.hid hs2
      have hsm := hfu.small.names
      clear hst hn2 hcl hrl hfu hu hk2 hs2 hA2 h hk4 hs4
      go_upto_region 6 with (fail)
      refine wp_region_any (by kernel_rfl) ?_
      change wpAny _ _ _ _ _ _ _ (World.drew _)
      refine wpAny_of_P (S := fun w' => w'.heap[V]? = some (.cells #[.slice An u.names.length cn, .slice Al u.leads.length cl, .slice Ae u.led.length ce, .slice Ad u.data.length cd, .slice As u.safe.length cs] tTrace (0, 0)) ∧ w'.cell? ⟨g, i * 2, none⟩ = some (encStr f.1)) (late := [14]) _ _ _ _ ?_
      refine takeT (i := 0) (v := ?_) rfl (by kernel_rfl) (by kernel_rfl) (by kernel_rfl) (by kernel_rfl) (fun _ _ _ h => h) (⟨HCL.out, C0.out⟩) (.inl ⟨by rfl, fun w => .inl ?hy0⟩) ?_; case hy0 => (go_simp; try with_reducible rfl)
      try go_frame
      refine takeT (i := 1) (v := ?_) rfl (by kernel_rfl) (by kernel_rfl) (by kernel_rfl) (by kernel_rfl) (fun _ _ _ h => h) (⟨HCL.out, C0.out⟩) (.inl ⟨by rfl, fun w => .inl ?hy1⟩) ?_; case hy1 => (go_simp; try with_reducible rfl)
      try go_frame
      refine takeT (i := 2) (v := ?_) rfl (by kernel_rfl) (by kernel_rfl) (by kernel_rfl) (by kernel_rfl) (fun _ _ _ h => h) (⟨HCL.out, C0.out⟩) (.inl ⟨by rfl, fun w => .inl ?hy2⟩) ?_; case hy2 => (go_simp; try with_reducible rfl)
      try go_frame
      refine takeT (i := 3) (v := ?_) rfl (by kernel_rfl) (by kernel_rfl) (by kernel_rfl) (by kernel_rfl) (fun _ _ _ h => h) (⟨HCL.out, C0.out⟩) (.inl ⟨by rfl, fun w => .inl ?hy3⟩) ?_; case hy3 => (go_simp; try with_reducible rfl)
      try go_frame
      refine takePT 8 (i := 4) (v := ?_) rfl (by kernel_rfl) (by kernel_rfl) (by kernel_rfl) (by kernel_rfl) (by kernel_rfl) (by kernel_rfl) (fun _ _ _ h => h) (⟨HCL.out, C0.out⟩) (.inl ⟨by rfl, fun w hw => .inl ?hy4⟩) ?_; case hy4 => (obtain ⟨hw1, hw2⟩ := hw; have y2 := (head5 hw1).1; clear hw1; go_simp; try with_reducible rfl)
      try go_frame
      refine takeT (i := 5) (v := ?_) rfl (by kernel_rfl) (by kernel_rfl) (by kernel_rfl) (by kernel_rfl) (fun _ _ _ h => h) (⟨HCL.out, C0.out⟩) (.inl ⟨by rfl, fun w => .inl ?hy5⟩) ?_; case hy5 => (go_simp; try with_reducible rfl)
      try go_frame
      refine takeT (i := 6) (v := ?_) rfl (by kernel_rfl) (by kernel_rfl) (by kernel_rfl) (by kernel_rfl) (fun _ _ _ h => h) (⟨HCL.out, C0.out⟩) (.inl ⟨by rfl, fun w => .inl ?hy6⟩) ?_; case hy6 => (go_simp; try with_reducible rfl)
      try go_frame
      refine takeT (i := 7) (v := ?_) rfl (by kernel_rfl) (by kernel_rfl) (by kernel_rfl) (by kernel_rfl) (fun _ _ _ h => h) (⟨HCL.out, C0.out⟩) (.inl ⟨by rfl, fun w => .inl ?hy7⟩) ?_; case hy7 => (go_simp; try with_reducible rfl)
      try go_frame
      refine takeT (i := 8) (v := ?_) rfl (by kernel_rfl) (by kernel_rfl) (by kernel_rfl) (by kernel_rfl) (fun _ _ _ h => h) (⟨HCL.out, C0.out⟩) (.inl ⟨by rfl, fun w => .inl ?hy8⟩) ?_; case hy8 => (go_simp; try with_reducible rfl)
      try go_frame
      refine takePT 8 (i := 9) (v := ?_) rfl (by kernel_rfl) (by kernel_rfl) (by kernel_rfl) (by kernel_rfl) (by kernel_rfl) (by kernel_rfl) (fun _ _ _ h => h) (⟨HCL.out, C0.out⟩) (.inl ⟨by rfl, fun w hw => .inl ?hy9⟩) ?_; case hy9 => (obtain ⟨hw1, hw2⟩ := hw; have y2 := (head5 hw1).1; clear hw1; go_simp; try with_reducible rfl)
      try go_frame
      refine forcedP (i := 10) rfl rfl (by kernel_rfl) (fun K hK => ?_)
      go_simp
      refine hK _ _ (⟨(heap_alloc_old _ _ (HST2.out.low V HST2.out.inP)).trans HCL.out, (World.cell?_alloc_lt _ _ _ HGL.out).trans C0.out⟩) ?_; clear hK K
      try go_frame
      refine forcedP (i := 11) rfl rfl (by kernel_rfl) (fun K hK => ?_)
      refine wp_append_keeps _ (.tmp 32) (.tmp 38) 36 rfl 0 kStr s0 (.string ⟨#[]⟩) 1 16 Try.underlying36 hs0 hy0 hy1 hy2 rfl (by decide) (.slice An u.names.length cn) u.names.length (cStr u.names) rfl (own_alloc HN.out _) ⟨w3.heap.size, 0, none⟩ 1 1 [encStr f.1] rfl rfl (cell_one_new _ _ _) (by simp [Value.oneCell']) (by omega) (by unfold maxLen; omega) (by omega) (Nat.zero_le _) ?_
      intro g2 cap2 w4 hg hgr hat2 hlt2 _
      have hgw := grown_after ((Below.refl w3.heap.size w3).alloc (Nat.le_refl _) (.cells #[encStr f.1] kStr)).drew hgr
      have hd3 := (hgw.block V (HST2.out.low V HST2.out.inP) (fun e => HST2.out.not_p (i := 0) rfl e.symm)).trans HCL.out
      have hgg : some g ≠ (Value.slice An u.names.length cn).ownBlock := fun e => HGV.out (HST2.out.pcs.in_ 0 _ g rfl e.symm)
      have c03 : w4.cell? ⟨g, i * 2, none⟩ = some (encStr f.1) := (World.cell?_of_block (a := ⟨g, i * 2, none⟩) (hgw.block g HGL.out hgg)).trans C0.out
      have hf3 : w4.frozen? ⟨V, 0, none⟩ = false := head5f hd3 0
      have hc3 := (head5 hd3).1
      go_simp
      refine hK _ _ (⟨hd3, c03⟩) ?_; clear hK K
      try go_frame
      refine takeT (i := 12) (v := ?_) rfl (by kernel_rfl) (by kernel_rfl) (by kernel_rfl) (by kernel_rfl) (fun _ _ _ h => h) (⟨hd3, c03⟩) (.inl ⟨by rfl, fun w => .inl ?hy12⟩) ?_; case hy12 => (go_simp; try with_reducible rfl)
      try go_frame
      refine takeT (i := 13) (v := ?_) rfl (by kernel_rfl) (by kernel_rfl) (by kernel_rfl) (by kernel_rfl) (fun _ _ _ h => h) (⟨hd3, c03⟩) (.inl ⟨by rfl, fun w => .inl ?hy13⟩) ?_; case hy13 => (go_simp; try with_reducible rfl)
      try go_frame
      refine lateP (i := 14) rfl rfl (by kernel_rfl) (by kernel_rfl) (fun K hK => ?_)
      go_simp
      refine hK _ _ ?_; clear hK K
      try go_frame
      refine wpAny_done (by kernel_rfl) ?_ _
      have hS := HST2.out.namesG hgw hg (by
        rcases hat2 with h | h
        · exact .inl h
        · exact .inr (by rw [h]; show w3.heap.size ≤ (w3.alloc _).heap.size; simp))
      obtain ⟨T4, hst4, hk4, hs4⟩ := Sturn.join HK2.out HS2.out hS
      have HST4 := Lib.hid hst4
      have HK4 := Lib.hid hk4
      have HS4 := Lib.hid hs4
      clear hS hst4 hk4 hs4 hg hgr hat2 hlt2 hgw hd3 hgg c03 hf3 hc3
      obtain ⟨wa, hwa⟩ : ∃ wa, w4.setCell ⟨V, 0, none⟩ (.slice (some ⟨g2, 0, none⟩) (u.names.length + 1) cap2) = wa := ⟨_, rfl⟩
      rw [hwa] at HST4 HK4 ⊢
      obtain ⟨_, hl4, _, _, _⟩ := HST4.out.rows HRL.out
      obtain ⟨_, x1, _, _, _⟩ := head5 HST4.out.cells
      have HL4 := Lib.hid hl4
      clear hl4 hwa
      have hll : u.leads.length ≤ n + 2 := by have h1 := HFU.out.len.1; have h2 := HFU.out.small.names; omega
      go_upto_region 8 with (at_builtin; go_loud (refine wpList_append_keeps _ rfl (.tmp 46) (.tmp 48) 27 rfl 0 tIntE i0 (.int .i64 0) 1 8 Try.underlying27 hi0 hz0 hz1 hz2 rfl (by decide) (.slice Al u.leads.length cl) u.leads.length (cLead u.leads) rfl (own_alloc HL4.out _) ⟨wa.heap.size, 0, none⟩ 1 1 [.int .i64 (i : Int)] rfl rfl (cell_one_new _ _ _) (by simp [Value.oneCell']) (by omega) (by unfold maxLen; omega) (by omega) (Nat.zero_le _) ?_); go_loud (intro g5 cap5 w5 hg hgr hat hlt _); go_loud (have hd := (HST4.out.head_grown (i := 1) rfl hgr).trans HST4.out.cells; obtain ⟨a0, a1, a2, a3, a4⟩ := head5 hd; have b0 := head5f hd 1); have HG := Lib.hid hg; have HGR := Lib.hid hgr; have HAT2 := Lib.hid hat; clear hg hgr hd hat)
      have hS := HST4.out.leads (x := some i) HGR.out HG.out HAT2.out
      obtain ⟨T5, hst5, hk5, hs5⟩ := Sturn.join HK4.out HS4.out hS
      have HST5 := Lib.hid hst5
      have HK5 := Lib.hid hk5
      have HS5 := Lib.hid hs5
      clear hS hst5 hk5 hs5 HG HGR HAT2 a0 a1 a2 a3 a4 b0 x1 hll
      obtain ⟨wb, hwb⟩ : ∃ wb, w5.setCell ⟨V, 1, none⟩ (.slice (some ⟨g5, 0, none⟩) (u.leads.length + 1) cap5) = wb := ⟨_, rfl⟩
      rw [hwb] at HST5 HK5 ⊢
      obtain ⟨_, _, he5, _, _⟩ := HST5.out.rows HRL.out
      obtain ⟨_, _, x2, _, _⟩ := head5 HST5.out.cells
      have HE5 := Lib.hid he5
      clear he5 hwb
      have hll : u.led.length ≤ n + 2 := by have h1 := HFU.out.len.2.1; have h2 := HFU.out.small.names; omega
      have hnew : ∀ (j : Nat) x, [(Value.slice (some ⟨wb.heap.size, 0, none⟩) 1 1)][j]? = some x → ((wb.alloc (.cells #[.int .i64 (i : Int)] tIntE)).alloc (.cells #[.slice (some ⟨wb.heap.size, 0, none⟩) 1 1] tInts)).cell? ((⟨wb.heap.size + 1, 0, none⟩ : Addr).add j) = some x := by
        have := new_cells (wb.alloc (.cells #[.int .i64 (i : Int)] tIntE)) [.slice (some ⟨wb.heap.size, 0, none⟩) 1 1] tInts
        rw [show (wb.alloc (.cells #[.int .i64 (i : Int)] tIntE)).heap.size = wb.heap.size + 1 by simp] at this
        exact this
      have hg0 : wb.grownBy (wb.alloc (.cells #[.int .i64 (i : Int)] tIntE)) none := grown_of_below ((Below.refl _ _).alloc (Nat.le_refl _) _) _
      have hv0 := World.ownsRow_lit (base := 0) (e := tIntE) (size := 1) wb #[.int .i64 (i : Int)] 1 (Nat.zero_le _) (by unfold maxLen; decide) rfl
      have HG0 := Lib.hid hg0
      have HV0 := Lib.hid hv0
      have HNEW := Lib.hid hnew
      clear hg0 hv0 hnew
      go_upto_region 4 with (at_builtin; go_loud (refine wpList_append_keeps _ rfl (.tmp 56) (.tmp 59) 154 rfl 0 tInts j0 (.slice none 0 0) 1 24 Try.underlying154 hj0 hq0 hq1 hq3 rfl (by decide) (.slice Ae u.led.length ce) u.led.length rs rfl (own_alloc (own_alloc HE5.out _) _) ⟨wb.heap.size + 1, 0, none⟩ 1 1 [.slice (some ⟨wb.heap.size, 0, none⟩) 1 1] rfl rfl HNEW.out (by simp [Value.oneCell']) (by omega) (by unfold maxLen; omega) (by omega) (Nat.zero_le _) ?_); go_loud (intro g6 cap6 w6 hg hgr hat hlt _); go_loud (have hd := ((grown_after (((Below.refl wb.heap.size wb).alloc (Nat.le_refl _) _).alloc (by simp) _) hgr).block V (HST5.out.low V HST5.out.inP) (fun e => HST5.out.not_p (i := 2) rfl e.symm)).trans HST5.out.cells; obtain ⟨a0, a1, a2, a3, a4⟩ := head5 hd; have b0 := head5f hd 2); have HG := Lib.hid hg; have HGR := Lib.hid hgr; have HAT2 := Lib.hid hat; clear hg hgr hd hat)
      have hS := HST5.out.ledNew HRL.out (l := [i]) (v := .slice (some ⟨wb.heap.size, 0, none⟩) 1 1) HG0.out HV0.out (fun g' hg' => (by simp [Value.ownBlock] at hg'; omega)) HGR.out HG.out HAT2.out
      obtain ⟨T6, hst6, hk6, hs6⟩ := Sturn.join HK5.out HS5.out hS
      have HST6 := Lib.hid hst6
      have HK6 := Lib.hid hk6
      have HS6 := Lib.hid hs6
      clear hS hst6 hk6 hs6 HG HGR HAT2 a0 a1 a2 a3 a4 b0 x2 hll
      obtain ⟨wc, hwc⟩ : ∃ wc, w6.setCell ⟨V, 2, none⟩ (.slice (some ⟨g6, 0, none⟩) (u.led.length + 1) cap6) = wc := ⟨_, rfl⟩
      rw [hwc] at HST6 HK6 ⊢
      clear hwc
      go_wp2
      go_roundw
      case rel =>
        refine ⟨i + 1, by go_num, by omega, T6, ?_, HK6.out, HS6.out⟩
        rw [← anew_next HF.out]
        rw [HU.out]
        exact ⟨_, _, _, _, _, _, by have := HRL.out; simp; omega, HST6.out⟩
      case measure => simp [intOf]; omega
    · obtain rfl : i = n := by omega
      rw [List.take_of_length_le (Nat.le_of_eq HFN.out)] at hA
      have HA := Lib.hid hA
      have HBR := Lib.hid hbr
      have HGE := Lib.hid hge
      clear hA hbr hge hk1 hs1
      go_wp2
      go_ret
      exact ⟨V, T1, rfl, HA.out, HBR.out, HGE.out⟩
end
end Go.Proofs.Ytelgcmcnebncmaa.Dr
