/- XRf9, XRf10: merged by tools/merge.py. -/
import Derived.Test.YtelgcmcnebncmaaQ28
namespace Go.Proofs.Ytelgcmcnebncmaa.Dr
set_option linter.unusedVariables false
open Go.RowKit Go.Proofs Go.Proofs.Ytelgcmcnebncmaa.Ring

theorem files_take {D : Dr.D} {l : Dir} {f : Bd → Bs} {i : Nat} {p : Bs × Nat} (hp : l[i]? = some p) : D.files (l.take (i + 1)) f = D.files (l.take i) f ++ [(p.1, f (D.at p.2))] := by
  unfold Dr.D.files
  rw [take_snoc_f hp]
  simp
theorem files_len {D : Dr.D} {l : Dir} {f : Bd → Bs} : (D.files l f).length = l.length := by simp [Dr.D.files]
section
variable {w : World} {S : Nat → Prop} {r m N : Nat} {D : Dr.D}
set_option maxRecDepth 100000 in
set_option maxHeartbeats 8000000 in
theorem rimage_any (h : Rv w S r D m N) (hm : m ≤ 140737488355328) (hN : N ≤ 1099511627776) {fs0 : List (Bs × Bs)} (hfs : D.image = fs0) {n0 : Nat} (hn0 : fs0.length = n0) : Calls Try.prog 17 #[.pointer (some ⟨r, 0, none⟩)] w fun x w' => ∃ A c dv, x = .returned (.slice A n0 c) ∧ FilesAt w' w.heap.size (.slice A n0 c) dv fs0 ∧ Below w.heap.size w w' := by
  subst hfs
  have hn1 : D.now.length = n0 := by rw [← hn0]; exact files_len.symm
  clear hn0
  have hh : ∀ wr, Below w.heap.size w wr → Rv wr S r D m N := fun wr hb => h.below hb
  have hnl : D.now.length ≤ N := h.1.lenN
  have HIN := Lib.hid h.1.inN
  have HDM := Lib.hid (fun i => (h.1.at_ok i).2)
  have HH := Lib.hid hh
  obtain ⟨f0, hf0, hz0, hz1, hz2⟩ := info_parts infoFile
  obtain ⟨V, hV⟩ : ∃ V, w.heap.size = V := ⟨_, rfl⟩
  rw [hV] at HH ⊢
  have HV := Lib.hid hV
  have HN1 := Lib.hid hn1
  clear hh h hV hn1
  go_enter Try.func17, Try.ntmps17
  go_upto_region 5 with (fail)
  go_loopw [3, 4] (fun v iv wr => ∃ (i : Nat) (dv : List Value), iv = .int .i64 (i : Int) ∧ i ≤ D.now.length ∧ FilesAt wr V v dv (D.files (D.now.take i) (·.data)) ∧ Below V w wr) (fun _ iv _ => D.now.length - (intOf iv).toNat)
  case atStart => exact ⟨0, [], rfl, by omega, by rw [List.take_zero]; exact FilesAt.nil _ _, Below.refl _ _⟩
  case round =>
    obtain ⟨i, dv, rfl, hi, hfa, hb⟩ := hrel
    obtain ⟨_, _, vb, vn, vk, vc, ds, cs, hA⟩ := HH.out wr hb
    obtain ⟨Ab, cb, An, cn, Ak, ck, Ad, cd, rfl, rfl, rfl, rfl⟩ := hA.open
    obtain ⟨_, x1, x2, _, _⟩ := rcells hA.head
    by_cases hlt : i < D.now.length
    · obtain ⟨p, hp⟩ : ∃ p, D.now[i]? = some p := ⟨_, List.getElem?_eq_getElem hlt⟩
      obtain ⟨gn, rfl, hgn, _, e0, e1⟩ := ent_cells hA.now (dirE_at hp)
      have hpl : p.2 < D.bd.length := HIN.out p (List.mem_of_getElem? hp)
      obtain ⟨_, gb, cb', Av, cv, hvb, _, hrow, c0, _, _, _⟩ := hA.body hpl
      injection hvb with hvb _ hcb
      subst hvb hcb
      have hlt2 : (i : Int) < (D.now.length : Int) := by omega
      have hpl2 : (p.2 : Int) < (D.bd.length : Int) := by omega
      dsimp only at e0 e1
      have hpm := HDM.out p.2
      obtain ⟨fs, hfsd⟩ : ∃ fs, D.files (D.now.take i) (·.data) = fs := ⟨_, rfl⟩
      have hfl : fs.length = i := by rw [← hfsd, files_len]; simp; omega
      rw [hfsd] at hfa
      obtain ⟨Ao, co, rfl, _, _⟩ := own_form hfa.row
      rw [hfl]
      rw [hfl] at hfa
      have hgb : gb < wr.heap.size := hA.low gb (hA.inB gb rfl)
      have hrl : r < wr.heap.size := hA.low r hA.inR
      have HKEEP := Lib.hid (show ∀ wx, Below wr.heap.size wr wx → wx.cell? ⟨r, 1, none⟩ = some (.slice (some ⟨gb, 0, none⟩) D.bd.length cb) ∧ wx.cell? ⟨r, 2, none⟩ = some (.slice (some ⟨gn, 0, none⟩) D.now.length cn) ∧ wx.cell? ⟨gn, i * 2, none⟩ = some (encStr p.1) ∧ wx.cell? ⟨gn, i * 2 + 1, none⟩ = some (.int .i64 (p.2 : Int)) ∧ wx.cell? ⟨gb, p.2 * 2, none⟩ = some (.slice Av (D.at p.2).data.length cv) from fun wx hx =>
        ⟨(hx.cell (p := ⟨r, 1, none⟩) hrl).trans x1, (hx.cell (p := ⟨r, 2, none⟩) hrl).trans x2, (hx.cell (p := ⟨gn, i * 2, none⟩) hgn).trans e0, (hx.cell (p := ⟨gn, i * 2 + 1, none⟩) hgn).trans e1, (hx.cell (p := ⟨gb, p.2 * 2, none⟩) hgb).trans c0⟩)
      have HS0 := Lib.hid (HKEEP.out wr.drew (Below.refl _ _).drew)
      have HRD := Lib.hid (show Rd wr.drew wr.drew.heap.size 1 Av (D.at p.2).data.length (cU8 (D.at p.2).data) from Rd.of_own hrow)
      have HNL := Lib.hid (own_none hrow)
      have HFA := Lib.hid hfa
      have HFL := Lib.hid hfl
      have HFD := Lib.hid hfsd
      have HB := Lib.hid hb
      have HP := Lib.hid hp
      have HVB := Lib.hid (show V ≤ wr.heap.size from by have := hb.size; have := HV.out; omega)
      clear hfa hb hp hA hrow hfl hfsd e1 c0 hgn hgb hrl
      go_upto_region 7 with (fail)
      refine wp_region_any (by kernel_rfl) ?_
      change wpAny _ _ _ _ _ _ _ (World.drew _)
      refine wpAny_of_P (S := fun w' => w'.cell? ⟨r, 1, none⟩ = some (.slice (some ⟨gb, 0, none⟩) D.bd.length cb) ∧ w'.cell? ⟨r, 2, none⟩ = some (.slice (some ⟨gn, 0, none⟩) D.now.length cn) ∧ w'.cell? ⟨gn, i * 2, none⟩ = some (encStr p.1) ∧ w'.cell? ⟨gn, i * 2 + 1, none⟩ = some (.int .i64 (p.2 : Int)) ∧ w'.cell? ⟨gb, p.2 * 2, none⟩ = some (.slice Av (D.at p.2).data.length cv)) (late := [27]) _ _ _ _ ?_
      refine takeT (i := 0) (v := ?_) rfl (by kernel_rfl) (by kernel_rfl) (by kernel_rfl) (by kernel_rfl) (fun _ _ _ h => h) (HS0.out) (.inl ⟨by rfl, fun w => .inl ?hy0⟩) ?_; case hy0 => (go_simp; try with_reducible rfl)
      try go_frame
      refine takeT (i := 1) (v := ?_) rfl (by kernel_rfl) (by kernel_rfl) (by kernel_rfl) (by kernel_rfl) (fun _ _ _ h => h) (HS0.out) (.inl ⟨by rfl, fun w => .inl ?hy1⟩) ?_; case hy1 => (go_simp; try with_reducible rfl)
      try go_frame
      refine takeT (i := 2) (v := ?_) rfl (by kernel_rfl) (by kernel_rfl) (by kernel_rfl) (by kernel_rfl) (fun _ _ _ h => h) (HS0.out) (.inl ⟨by rfl, fun w => .inl ?hy2⟩) ?_; case hy2 => (go_simp; try with_reducible rfl)
      try go_frame
      refine takeT (i := 3) (v := ?_) rfl (by kernel_rfl) (by kernel_rfl) (by kernel_rfl) (by kernel_rfl) (fun _ _ _ h => h) (HS0.out) (.inl ⟨by rfl, fun w => .inl ?hy3⟩) ?_; case hy3 => (go_simp; try with_reducible rfl)
      try go_frame
      refine takePT 8 (i := 4) (v := ?_) rfl (by kernel_rfl) (by kernel_rfl) (by kernel_rfl) (by kernel_rfl) (by kernel_rfl) (by kernel_rfl) (fun _ _ _ h => h) (HS0.out) (.inl ⟨by rfl, fun w hw => .inl ?hy4⟩) ?_; case hy4 => (obtain ⟨hw1, hw2, hw3, hw4, hw5⟩ := hw; go_simp; try with_reducible rfl)
      try go_frame
      refine takeT (i := 5) (v := ?_) rfl (by kernel_rfl) (by kernel_rfl) (by kernel_rfl) (by kernel_rfl) (fun _ _ _ h => h) (HS0.out) (.inl ⟨by rfl, fun w => .inl ?hy5⟩) ?_; case hy5 => (go_simp; try with_reducible rfl)
      try go_frame
      refine takeT (i := 6) (v := ?_) rfl (by kernel_rfl) (by kernel_rfl) (by kernel_rfl) (by kernel_rfl) (fun _ _ _ h => h) (HS0.out) (.inl ⟨by rfl, fun w => .inl ?hy6⟩) ?_; case hy6 => (go_simp; try with_reducible rfl)
      try go_frame
      refine takeT (i := 7) (v := ?_) rfl (by kernel_rfl) (by kernel_rfl) (by kernel_rfl) (by kernel_rfl) (fun _ _ _ h => h) (HS0.out) (.inl ⟨by rfl, fun w => .inl ?hy7⟩) ?_; case hy7 => (go_simp; try with_reducible rfl)
      try go_frame
      refine takePT 8 (i := 8) (v := ?_) rfl (by kernel_rfl) (by kernel_rfl) (by kernel_rfl) (by kernel_rfl) (by kernel_rfl) (by kernel_rfl) (fun _ _ _ h => h) (HS0.out) (.inl ⟨by rfl, fun w hw => .inl ?hy8⟩) ?_; case hy8 => (obtain ⟨hw1, hw2, hw3, hw4, hw5⟩ := hw; go_simp; try with_reducible rfl)
      try go_frame
      refine takeT (i := 9) (v := ?_) rfl (by kernel_rfl) (by kernel_rfl) (by kernel_rfl) (by kernel_rfl) (fun _ _ _ h => h) (HS0.out) (.inl ⟨by rfl, fun w => .inl ?hy9⟩) ?_; case hy9 => (go_simp; try with_reducible rfl)
      try go_frame
      refine takeT (i := 10) (v := ?_) rfl (by kernel_rfl) (by kernel_rfl) (by kernel_rfl) (by kernel_rfl) (fun _ _ _ h => h) (HS0.out) (.inl ⟨by rfl, fun w => .inl ?hy10⟩) ?_; case hy10 => (go_simp; try with_reducible rfl)
      try go_frame
      refine takeT (i := 11) (v := ?_) rfl (by kernel_rfl) (by kernel_rfl) (by kernel_rfl) (by kernel_rfl) (fun _ _ _ h => h) (HS0.out) (.inl ⟨by rfl, fun w => .inl ?hy11⟩) ?_; case hy11 => (go_simp; try with_reducible rfl)
      try go_frame
      refine takePT 8 (i := 12) (v := ?_) rfl (by kernel_rfl) (by kernel_rfl) (by kernel_rfl) (by kernel_rfl) (by kernel_rfl) (by kernel_rfl) (fun _ _ _ h => h) (HS0.out) (.inl ⟨by rfl, fun w hw => .inl ?hy12⟩) ?_; case hy12 => (obtain ⟨hw1, hw2, hw3, hw4, hw5⟩ := hw; go_simp; try with_reducible rfl)
      try go_frame
      refine takeT (i := 13) (v := ?_) rfl (by kernel_rfl) (by kernel_rfl) (by kernel_rfl) (by kernel_rfl) (fun _ _ _ h => h) (HS0.out) (.inl ⟨by rfl, fun w => .inl ?hy13⟩) ?_; case hy13 => (go_simp; try with_reducible rfl)
      try go_frame
      refine takeT (i := 14) (v := ?_) rfl (by kernel_rfl) (by kernel_rfl) (by kernel_rfl) (by kernel_rfl) (fun _ _ _ h => h) (HS0.out) (.inl ⟨by rfl, fun w => .inl ?hy14⟩) ?_; case hy14 => (go_simp; try with_reducible rfl)
      try go_frame
      refine takeT (i := 15) (v := ?_) rfl (by kernel_rfl) (by kernel_rfl) (by kernel_rfl) (by kernel_rfl) (fun _ _ _ h => h) (HS0.out) (.inl ⟨by rfl, fun w => .inl ?hy15⟩) ?_; case hy15 => (go_simp; try with_reducible rfl)
      try go_frame
      refine takePT 8 (i := 16) (v := ?_) rfl (by kernel_rfl) (by kernel_rfl) (by kernel_rfl) (by kernel_rfl) (by kernel_rfl) (by kernel_rfl) (fun _ _ _ h => h) (HS0.out) (.inl ⟨by rfl, fun w hw => .inl ?hy16⟩) ?_; case hy16 => (obtain ⟨hw1, hw2, hw3, hw4, hw5⟩ := hw; go_simp; try with_reducible rfl)
      try go_frame
      refine takeT (i := 17) (v := ?_) rfl (by kernel_rfl) (by kernel_rfl) (by kernel_rfl) (by kernel_rfl) (fun _ _ _ h => h) (HS0.out) (.inl ⟨by rfl, fun w => .inl ?hy17⟩) ?_; case hy17 => (go_simp; try with_reducible rfl)
      try go_frame
      refine takeT (i := 18) (v := ?_) rfl (by kernel_rfl) (by kernel_rfl) (by kernel_rfl) (by kernel_rfl) (fun _ _ _ h => h) (HS0.out) (.inl ⟨by rfl, fun w => .inl ?hy18⟩) ?_; case hy18 => (go_simp; try with_reducible rfl)
      try go_frame
      refine takeT (i := 19) (v := ?_) rfl (by kernel_rfl) (by kernel_rfl) (by kernel_rfl) (by kernel_rfl) (fun _ _ _ h => h) (HS0.out) (.inl ⟨by rfl, fun w => .inl ?hy19⟩) ?_; case hy19 => (go_simp; try with_reducible rfl)
      try go_frame
      refine takePT 8 (i := 20) (v := ?_) rfl (by kernel_rfl) (by kernel_rfl) (by kernel_rfl) (by kernel_rfl) (by kernel_rfl) (by kernel_rfl) (fun _ _ _ h => h) (HS0.out) (.inl ⟨by rfl, fun w hw => .inl ?hy20⟩) ?_; case hy20 => (obtain ⟨hw1, hw2, hw3, hw4, hw5⟩ := hw; go_simp; try with_reducible rfl)
      try go_frame
      refine takeT (i := 21) (v := ?_) rfl (by kernel_rfl) (by kernel_rfl) (by kernel_rfl) (by kernel_rfl) (fun _ _ _ h => h) (HS0.out) (.inl ⟨by rfl, fun w => .inl ?hy21⟩) ?_; case hy21 => (go_simp; try with_reducible rfl)
      try go_frame
      refine takeT (i := 22) (v := ?_) rfl (by kernel_rfl) (by kernel_rfl) (by kernel_rfl) (by kernel_rfl) (fun _ _ _ h => h) (HS0.out) (.inl ⟨by rfl, fun w => .inl ?hy22⟩) ?_; case hy22 => (go_simp; try with_reducible rfl)
      try go_frame
      refine takePT 8 (i := 23) (v := ?_) rfl (by kernel_rfl) (by kernel_rfl) (by kernel_rfl) (by kernel_rfl) (by kernel_rfl) (by kernel_rfl) (fun _ _ _ h => h) (HS0.out) (.inl ⟨by rfl, fun w hw => .inl ?hy23⟩) ?_; case hy23 => (obtain ⟨hw1, hw2, hw3, hw4, hw5⟩ := hw; go_simp; try with_reducible rfl)
      try go_frame
      refine forcedP (i := 24) rfl rfl (by kernel_rfl) (fun K hK => ?_)
      go_simp
      refine (rcopied_any HRD.out HNL.out (by omega)).mono ?_
      rintro y w1 ⟨A1, c1, rfl, hrow1, hb1⟩
      have hS1 := HKEEP.out w1 ((Below.refl wr.heap.size wr).drew.trans hb1)
      refine hK _ _ (hS1) ?_; clear hK K
      try go_frame
      refine takeT (i := 25) (v := ?_) rfl (by kernel_rfl) (by kernel_rfl) (by kernel_rfl) (by kernel_rfl) (fun _ _ _ h => h) (hS1) (.inl ⟨by rfl, fun w => .inl ?hy25⟩) ?_; case hy25 => (go_simp; try with_reducible rfl)
      try go_frame
      refine forcedP (i := 26) rfl rfl (by kernel_rfl) (fun K hK => ?_)
      go_simp
      have hS2 := HKEEP.out (w1.alloc (.cells #[encStr p.1, .slice A1 (D.at p.2).data.length c1] tFile)) (((Below.refl wr.heap.size wr).drew.trans hb1).alloc hb1.size _)
      refine hK _ _ (hS2) ?_; clear hK K
      try go_frame
      have HFW := Lib.hid ((HFA.out.below ((Below.refl wr.heap.size wr).drew.trans hb1)).below ((Below.refl w1.heap.size w1).alloc (Nat.le_refl _) (.cells #[encStr p.1, .slice A1 (D.at p.2).data.length c1] tFile)))
      have hfr := HFW.out.row
      rw [HFL.out] at hfr
      have HVB9 := Lib.hid (show V ≤ (w1.alloc (.cells #[encStr p.1, .slice A1 (D.at p.2).data.length c1] tFile)).heap.size from by have h1 := hb1.size; have h2 := HVB.out; simp at h1 ⊢; omega)
      refine lateP (i := 27) rfl rfl (by kernel_rfl) (by kernel_rfl) (fun K hK => ?_)
      refine wp_append_keeps _ (.tmp 16) (.tmp 42) 22 rfl V tFile f0 (.agg #[.string ⟨#[]⟩, .slice none 0 0]) 2 40 Try.underlying22 hf0 hz0 hz1 hz2 rfl (by decide) (.slice Ao i co) i (cF fs dv) rfl hfr ⟨w1.heap.size, 0, none⟩ 1 1 [encStr p.1, .slice A1 (D.at p.2).data.length c1] rfl rfl (new_cells _ [encStr p.1, .slice A1 (D.at p.2).data.length c1] tFile) (by simp [Value.oneCell']) (by omega) (by unfold maxLen; omega) (by omega) HVB9.out ?_
      intro g2 cap2 w3 hg hgr hat2 hlt9 _
      go_simp
      refine hK _ _ ?_; clear hK K
      try go_frame
      refine takeL (i := 28) (v := ?_) rfl (by kernel_rfl) (by kernel_rfl) (by kernel_rfl) (fun _ _ _ h => h) (.inl ⟨by rfl, fun w => .inl ?hy28⟩) ?_; case hy28 => (go_simp; try with_reducible rfl)
      try go_frame
      refine wpAny_done (by kernel_rfl) ?_ _
      have hsn := HFW.out.snoc (f := (p.1, (D.at p.2).data)) (x := .slice A1 (D.at p.2).data.length c1) (own_base (own_alloc hrow1 _) (by have h1 := HVB.out; simp; omega)) (fun g hg => (HFA.out.fresh (by have := own_ge hrow1 hg; simpa using this))) (by rw [HFL.out]; exact hg) hgr
      have hb3 : Below V w w3 := ((HB.out.trans (((Below.refl V wr).drew.trans (hb1.mono HVB.out)))).alloc (by have h1 := hb1.size; have h2 := HVB.out; simp at h1; omega) _).grown hgr (by have h1 := hb1.size; have h2 := HVB.out; simp at h1 ⊢; omega) (fun k hk => own_ge HFA.out.row hk)
      have HSN := Lib.hid hsn
      have HB3 := Lib.hid hb3
      clear hsn hb3 hg hgr hat2 hlt9 hrow1 hb1 hS1 hS2 HFW hfr
      go_wp2
      go_roundw
      case rel =>
        refine ⟨i + 1, dv ++ [.slice A1 (D.at p.2).data.length c1], by go_num, by omega, ?_, HB3.out⟩
        rw [files_take HP.out, HFD.out]
        exact HSN.out
      case measure => simp [intOf]; omega
    · obtain rfl : i = D.now.length := by omega
      rw [List.take_length] at hfa
      have hfl : (D.files D.now (·.data)).length = n0 := by rw [files_len]; exact HN1.out
      obtain ⟨Ao, co, rfl, _, _⟩ := own_form hfa.row
      rw [hfl] at hfa ⊢
      have HFA := Lib.hid hfa
      have HB := Lib.hid hb
      clear hfa hb hA hfl
      go_wp2
      refine bodyPost_ret (v := .slice Ao n0 co) (by simp [results, Try.results17, go_sem]) rfl ?_
      exact ⟨Ao, co, dv, rfl, HFA.out, HB.out⟩
end
end Go.Proofs.Ytelgcmcnebncmaa.Dr
namespace Go.Proofs.Ytelgcmcnebncmaa.Dr
set_option linter.unusedVariables false
open Go.RowKit Go.Proofs Go.Proofs.Ytelgcmcnebncmaa.Ring

theorem body_store (w : World) (A : Option Addr) (n c : Nat) (s : Int) : (storeCells ⟨w.heap.size, 0, none⟩ [.slice A n c, .int .i64 s] 0).run Try.prog (w.alloc (.cells #[.slice none 0 0, .int .i64 0] tBd)).drew = .ok () (w.alloc (.cells #[.slice A n c, .int .i64 s] tBd)).drew :=
  run_storeCells_new (P := Try.prog) w.drew tBd #[.slice none 0 0, .int .i64 0] #[.slice A n c, .int .i64 s] (by kernel_rfl) rfl (by simp [Value.oneCell'])
theorem slice_front (w : World) {A : Option Addr} {n c q : Nat} (hq : q ≤ c) : (Instr.slice 35 (.slice A n c) none (some (.int .i64 (q : Int))) none).run Try.prog w = .ok (.slice A q c) w := by
  rw [run_slice_h (P := Try.prog) w 35 A n c (by kernel_rfl) .i64 (q : Int) (by omega) (by omega)]
  have hs : (sizeOf (Try.prog.elem 35)).run Try.prog w = .ok 1 w := by kernel_rfl
  rw [hs]
  unfold sliced
  cases A with
  | none => simp [Result.andThen]
  | some ad =>
    simp [Result.andThen]
    intro _
    unfold Addr.add
    simp
theorem body_range {w : World} {b o : Nat} {x y : Value} (h1 : w.cell? ⟨b, o, none⟩ = some x) (h2 : w.cell? ⟨b, o + 1, none⟩ = some y) : w.rangeAt b o [x, y] := by
  intro j v hv
  match j, hv with
  | 0, hv => cases hv; exact h1
  | 1, hv => cases hv; exact h2
  | j + 2, hv => cases hv
section
variable {w : World} {S : Nat → Prop} {r m N : Nat} {D : Dr.D}
set_option maxRecDepth 100000 in
set_option maxHeartbeats 8000000 in
theorem rsafe_any (h : Rv w S r D m N) (hm : m ≤ 140737488355328) (hN : N ≤ 1099511627776) {fs0 : List (Bs × Bs)} (hfs : D.safe = fs0) {n0 : Nat} (hn0 : fs0.length = n0) : Calls Try.prog 54 #[.pointer (some ⟨r, 0, none⟩)] w fun x w' => ∃ A c dv, x = .returned (.slice A n0 c) ∧ FilesAt w' w.heap.size (.slice A n0 c) dv fs0 ∧ Below w.heap.size w w' := by
  subst hfs
  have hn1 : D.kept.length = n0 := by rw [← hn0]; exact files_len.symm
  clear hn0
  have hh : ∀ wr, Below w.heap.size w wr → Rv wr S r D m N := fun wr hb => h.below hb
  have hnl : D.kept.length ≤ N := by have := h.1.lenK; omega
  have HIN := Lib.hid h.1.inK
  have HDM := Lib.hid (fun i => (h.1.at_ok i).2)
  have HSF := Lib.hid (fun i => (h.1.at_ok i).1)
  have HH := Lib.hid hh
  obtain ⟨f0, hf0, hz0, hz1, hz2⟩ := info_parts infoFile
  obtain ⟨V, hV⟩ : ∃ V, w.heap.size = V := ⟨_, rfl⟩
  rw [hV] at HH ⊢
  have HV := Lib.hid hV
  have HN1 := Lib.hid hn1
  clear hh h hV hn1
  go_enter Try.func54, Try.ntmps54
  go_upto_region 5 with (fail)
  go_loopw [3, 4] (fun v iv wr => ∃ (i : Nat) (dv : List Value), iv = .int .i64 (i : Int) ∧ i ≤ D.kept.length ∧ FilesAt wr V v dv (D.files (D.kept.take i) (fun b => b.data.take b.safe)) ∧ Below V w wr) (fun _ iv _ => D.kept.length - (intOf iv).toNat)
  case atStart => exact ⟨0, [], rfl, by omega, by rw [List.take_zero]; exact FilesAt.nil _ _, Below.refl _ _⟩
  case round =>
    obtain ⟨i, dv, rfl, hi, hfa, hb⟩ := hrel
    obtain ⟨_, _, vb, vn, vk, vc, ds, cs, hA⟩ := HH.out wr hb
    obtain ⟨Ab, cb, An, cn, Ak, ck, Ad, cd, rfl, rfl, rfl, rfl⟩ := hA.open
    obtain ⟨_, x1, _, x2, _⟩ := rcells hA.head
    by_cases hlt : i < D.kept.length
    · obtain ⟨p, hp⟩ : ∃ p, D.kept[i]? = some p := ⟨_, List.getElem?_eq_getElem hlt⟩
      obtain ⟨gn, rfl, hgn, _, e0, e1⟩ := ent_cells hA.kept (dirE_at hp)
      have hpl : p.2 < D.bd.length := HIN.out p (List.mem_of_getElem? hp)
      obtain ⟨_, gb, cb', Av, cv, hvb, _, hrow, c0, c1, _, _⟩ := hA.body hpl
      injection hvb with hvb _ hcb
      subst hvb hcb
      have hlt2 : (i : Int) < (D.kept.length : Int) := by omega
      have hpl2 : (p.2 : Int) < (D.bd.length : Int) := by omega
      dsimp only at e0 e1
      have hpm := HDM.out p.2
      have hsf := HSF.out p.2
      obtain ⟨fs, hfsd⟩ : ∃ fs, D.files (D.kept.take i) (fun b => b.data.take b.safe) = fs := ⟨_, rfl⟩
      have hfl : fs.length = i := by rw [← hfsd, files_len]; simp; omega
      rw [hfsd] at hfa
      obtain ⟨Ao, co, rfl, _, _⟩ := own_form hfa.row
      rw [hfl]
      rw [hfl] at hfa
      have hgb : gb < wr.heap.size := hA.low gb (hA.inB gb rfl)
      have hrl : r < wr.heap.size := hA.low r hA.inR
      have HKEEP := Lib.hid (show ∀ wx, Below wr.heap.size wr wx → wx.cell? ⟨r, 1, none⟩ = some (.slice (some ⟨gb, 0, none⟩) D.bd.length cb) ∧ wx.cell? ⟨r, 3, none⟩ = some (.slice (some ⟨gn, 0, none⟩) D.kept.length ck) ∧ wx.cell? ⟨gn, i * 2, none⟩ = some (encStr p.1) ∧ wx.cell? ⟨gn, i * 2 + 1, none⟩ = some (.int .i64 (p.2 : Int)) ∧ wx.cell? ⟨gb, p.2 * 2, none⟩ = some (.slice Av (D.at p.2).data.length cv) ∧ wx.cell? ⟨gb, p.2 * 2 + 1, none⟩ = some (.int .i64 ((D.at p.2).safe : Int)) from fun wx hx =>
        ⟨(hx.cell (p := ⟨r, 1, none⟩) hrl).trans x1, (hx.cell (p := ⟨r, 3, none⟩) hrl).trans x2, (hx.cell (p := ⟨gn, i * 2, none⟩) hgn).trans e0, (hx.cell (p := ⟨gn, i * 2 + 1, none⟩) hgn).trans e1, (hx.cell (p := ⟨gb, p.2 * 2, none⟩) hgb).trans c0, (hx.cell (p := ⟨gb, p.2 * 2 + 1, none⟩) hgb).trans c1⟩)
      have HS0 := Lib.hid (HKEEP.out wr.drew (Below.refl _ _).drew)
      have HROW := Lib.hid hrow
      have HNL := Lib.hid (own_none hrow)
      have HFA := Lib.hid hfa
      have HFL := Lib.hid hfl
      have HFD := Lib.hid hfsd
      have HB := Lib.hid hb
      have HP := Lib.hid hp
      have HVB := Lib.hid (show V ≤ wr.heap.size from by have := hb.size; have := HV.out; omega)
      clear hfa hb hp hA hrow hfl hfsd e1 c0 c1 hgn hgb hrl
      go_upto_region 7 with (fail)
      refine wp_region_any (by kernel_rfl) ?_
      change wpAny _ _ _ _ _ _ _ (World.drew _)
      refine wpAny_of_P (S := fun w' => w'.cell? ⟨r, 1, none⟩ = some (.slice (some ⟨gb, 0, none⟩) D.bd.length cb) ∧ w'.cell? ⟨r, 3, none⟩ = some (.slice (some ⟨gn, 0, none⟩) D.kept.length ck) ∧ w'.cell? ⟨gn, i * 2, none⟩ = some (encStr p.1) ∧ w'.cell? ⟨gn, i * 2 + 1, none⟩ = some (.int .i64 (p.2 : Int)) ∧ w'.cell? ⟨gb, p.2 * 2, none⟩ = some (.slice Av (D.at p.2).data.length cv) ∧ w'.cell? ⟨gb, p.2 * 2 + 1, none⟩ = some (.int .i64 ((D.at p.2).safe : Int))) (late := [15]) _ _ _ _ ?_
      refine takeT (i := 0) (v := ?_) rfl (by kernel_rfl) (by kernel_rfl) (by kernel_rfl) (by kernel_rfl) (fun _ _ _ h => h) (HS0.out) (.inl ⟨by rfl, fun w => .inl ?hy0⟩) ?_; case hy0 => (go_simp; try with_reducible rfl)
      try go_frame
      refine takeT (i := 1) (v := ?_) rfl (by kernel_rfl) (by kernel_rfl) (by kernel_rfl) (by kernel_rfl) (fun _ _ _ h => h) (HS0.out) (.inl ⟨by rfl, fun w => .inl ?hy1⟩) ?_; case hy1 => (go_simp; try with_reducible rfl)
      try go_frame
      refine takeT (i := 2) (v := ?_) rfl (by kernel_rfl) (by kernel_rfl) (by kernel_rfl) (by kernel_rfl) (fun _ _ _ h => h) (HS0.out) (.inl ⟨by rfl, fun w => .inl ?hy2⟩) ?_; case hy2 => (go_simp; try with_reducible rfl)
      try go_frame
      refine takePT 8 (i := 3) (v := ?_) rfl (by kernel_rfl) (by kernel_rfl) (by kernel_rfl) (by kernel_rfl) (by kernel_rfl) (by kernel_rfl) (fun _ _ _ h => h) (HS0.out) (.inl ⟨by rfl, fun w hw => .inl ?hy3⟩) ?_; case hy3 => (obtain ⟨hw1, hw2, hw3, hw4, hw5, hw6⟩ := hw; have hld := run_loadVar_mid (P := Try.prog) w gb (p.2 * 2) tBd [.slice Av (D.at p.2).data.length cv, .int .i64 ((D.at p.2).safe : Int)] _ (body_range hw5 hw6) Try.underlying139 rfl (by kernel_rfl); go_simp; try with_reducible rfl)
      try go_frame
      refine takeT (i := 4) (v := ?_) rfl (by kernel_rfl) (by kernel_rfl) (by kernel_rfl) (by kernel_rfl) (fun _ _ _ h => h) (HS0.out) (.inl ⟨by rfl, fun w => .inl ?hy4⟩) ?_; case hy4 => (go_simp; try with_reducible rfl)
      try go_frame
      refine takeT (i := 5) (v := ?_) rfl (by kernel_rfl) (by kernel_rfl) (by kernel_rfl) (by kernel_rfl) (fun _ _ _ h => h) (HS0.out) (.inl ⟨by rfl, fun w => .inl ?hy5⟩) ?_; case hy5 => (go_simp; try with_reducible rfl)
      try go_frame
      refine takeT (i := 6) (v := ?_) rfl (by kernel_rfl) (by kernel_rfl) (by kernel_rfl) (by kernel_rfl) (fun _ _ _ h => h) (HS0.out) (.inl ⟨by rfl, fun w => .inl ?hy6⟩) ?_; case hy6 => (go_simp; try with_reducible rfl)
      try go_frame
      refine takePT 8 (i := 7) (v := ?_) rfl (by kernel_rfl) (by kernel_rfl) (by kernel_rfl) (by kernel_rfl) (by kernel_rfl) (by kernel_rfl) (fun _ _ _ h => h) (HS0.out) (.inl ⟨by rfl, fun w hw => .inl ?hy7⟩) ?_; case hy7 => (obtain ⟨hw1, hw2, hw3, hw4, hw5, hw6⟩ := hw; have hld := run_loadVar_mid (P := Try.prog) w gb (p.2 * 2) tBd [.slice Av (D.at p.2).data.length cv, .int .i64 ((D.at p.2).safe : Int)] _ (body_range hw5 hw6) Try.underlying139 rfl (by kernel_rfl); go_simp; try with_reducible rfl)
      try go_frame
      refine takeT (i := 8) (v := ?_) rfl (by kernel_rfl) (by kernel_rfl) (by kernel_rfl) (by kernel_rfl) (fun _ _ _ h => h) (HS0.out) (.inl ⟨by rfl, fun w => .inl ?hy8⟩) ?_; case hy8 => (go_simp; try with_reducible rfl)
      try go_frame
      refine takeT (i := 9) (v := ?_) rfl (by kernel_rfl) (by kernel_rfl) (by kernel_rfl) (by kernel_rfl) (fun _ _ _ h => h) (HS0.out) (.inl ⟨by rfl, fun w => .inl ?hy9⟩) ?_; case hy9 => (go_simp; try with_reducible rfl)
      try go_frame
      refine takeT (i := 10) (v := ?_) rfl (by kernel_rfl) (by kernel_rfl) (by kernel_rfl) (by kernel_rfl) (fun _ _ _ h => h) (HS0.out) (.inl ⟨by rfl, fun w => .inl ?hy10⟩) ?_; case hy10 => (go_simp; try with_reducible rfl)
      try go_frame
      refine takePT 8 (i := 11) (v := ?_) rfl (by kernel_rfl) (by kernel_rfl) (by kernel_rfl) (by kernel_rfl) (by kernel_rfl) (by kernel_rfl) (fun _ _ _ h => h) (HS0.out) (.inl ⟨by rfl, fun w hw => .inl ?hy11⟩) ?_; case hy11 => (obtain ⟨hw1, hw2, hw3, hw4, hw5, hw6⟩ := hw; have hld := run_loadVar_mid (P := Try.prog) w gb (p.2 * 2) tBd [.slice Av (D.at p.2).data.length cv, .int .i64 ((D.at p.2).safe : Int)] _ (body_range hw5 hw6) Try.underlying139 rfl (by kernel_rfl); go_simp; try with_reducible rfl)
      try go_frame
      refine takeT (i := 12) (v := ?_) rfl (by kernel_rfl) (by kernel_rfl) (by kernel_rfl) (by kernel_rfl) (fun _ _ _ h => h) (HS0.out) (.inl ⟨by rfl, fun w => .inl ?hy12⟩) ?_; case hy12 => (go_simp; try with_reducible rfl)
      try go_frame
      refine takePT 8 (i := 13) (v := ?_) rfl (by kernel_rfl) (by kernel_rfl) (by kernel_rfl) (by kernel_rfl) (by kernel_rfl) (by kernel_rfl) (fun _ _ _ h => h) (HS0.out) (.inl ⟨by rfl, fun w hw => .inl ?hy13⟩) ?_; case hy13 => (obtain ⟨hw1, hw2, hw3, hw4, hw5, hw6⟩ := hw; have hld := run_loadVar_mid (P := Try.prog) w gb (p.2 * 2) tBd [.slice Av (D.at p.2).data.length cv, .int .i64 ((D.at p.2).safe : Int)] _ (body_range hw5 hw6) Try.underlying139 rfl (by kernel_rfl); go_simp; try with_reducible rfl)
      try go_frame
      refine forcedP (i := 14) rfl rfl (by kernel_rfl) (fun K hK => ?_)
      go_simp
      refine hK _ _ (HKEEP.out _ (((Below.refl wr.heap.size wr).alloc (Nat.le_refl _) (.cells #[.slice none 0 0, .int .i64 0] tBd)).drew)) ?_; clear hK K
      try go_frame
      have hst := body_store wr Av (D.at p.2).data.length cv ((D.at p.2).safe : Int)
      refine lateP (i := 15) rfl rfl (by kernel_rfl) (by kernel_rfl) (fun K hK => ?_)
      go_simp
      refine hK _ _ ?_; clear hK K
      try go_frame
      refine wpAny_done (by kernel_rfl) ?_ _
      obtain ⟨P, hP⟩ : ∃ P, wr.heap.size = P := ⟨_, rfl⟩
      obtain ⟨wq, hwq⟩ : ∃ wq, (wr.alloc (.cells #[.slice Av (D.at p.2).data.length cv, .int .i64 ((D.at p.2).safe : Int)] tBd)).drew = wq := ⟨_, rfl⟩
      have hbq : Below wr.heap.size wr wq := by rw [← hwq]; exact ((Below.refl _ _).alloc (Nat.le_refl _) _).drew
      have hbx : wq.heap[P]? = some (.cells #[.slice Av (D.at p.2).data.length cv, .int .i64 ((D.at p.2).safe : Int)] tBd (0, 0)) := by rw [← hwq, ← hP]; exact heap_alloc_new wr _
      rw [hwq]
      have HP2 := Lib.hid hP
      clear hst
      rw [hP]
      have hPl : P < wq.heap.size := (Array.getElem?_eq_some_iff.1 hbx).1
      have hKq := HKEEP.out wq hbq
      have hrl2 : r < wq.heap.size := block_of_cell (a := ⟨r, 3, none⟩) hKq.2.1
      have hgn2 : gn < wq.heap.size := block_of_cell (a := ⟨gn, i * 2, none⟩) hKq.2.2.1
      have HKEEP8 := Lib.hid (show ∀ wx, Below wq.heap.size wq wx → wx.cell? ⟨r, 3, none⟩ = some (.slice (some ⟨gn, 0, none⟩) D.kept.length ck) ∧ wx.cell? ⟨gn, i * 2, none⟩ = some (encStr p.1) ∧ wx.cell? ⟨P, 0, none⟩ = some (.slice Av (D.at p.2).data.length cv) ∧ wx.cell? ⟨P, 1, none⟩ = some (.int .i64 ((D.at p.2).safe : Int)) from fun wx hx =>
        ⟨(hx.cell (p := ⟨r, 3, none⟩) hrl2).trans hKq.2.1, (hx.cell (p := ⟨gn, i * 2, none⟩) hgn2).trans hKq.2.2.1, (hx.cell (p := ⟨P, 0, none⟩) hPl).trans (by rw [cell_of_row wq P _ _ _ _ hbx]; rfl), (hx.cell (p := ⟨P, 1, none⟩) hPl).trans (by rw [cell_of_row wq P _ _ _ _ hbx]; rfl)⟩)
      have HS8 := Lib.hid (HKEEP8.out wq.drew (Below.refl _ _).drew)
      have HRD := Lib.hid (show Rd wq.drew wq.drew.heap.size 1 Av (D.at p.2).safe (cU8 ((D.at p.2).data.take (D.at p.2).safe)) from rd_part (Rd.of_own (own_below HROW.out hbq.drew)) hsf)
      have HBQ := Lib.hid hbq
      have hqc : (D.at p.2).safe ≤ cv := by
        obtain ⟨A', c', e', h1, _⟩ := own_form HROW.out
        injection e' with _ _ e'
        omega
      have hsl : ∀ wx : World, (Instr.slice 35 (.slice Av (D.at p.2).data.length cv) none (some (.int .i64 ((D.at p.2).safe : Int))) none).run Try.prog wx = .ok (.slice Av (D.at p.2).safe cv) wx := fun wx => slice_front wx hqc
      clear hwq hP hbq hbx hPl hKq hrl2 hgn2 x1 x2 e0 hpl hpl2
      go_upto_region 8 with (fail)
      refine wp_region_any (by kernel_rfl) ?_
      change wpAny _ _ _ _ _ _ _ (World.drew _)
      refine wpAny_of_P (S := fun w' => w'.cell? ⟨r, 3, none⟩ = some (.slice (some ⟨gn, 0, none⟩) D.kept.length ck) ∧ w'.cell? ⟨gn, i * 2, none⟩ = some (encStr p.1) ∧ w'.cell? ⟨P, 0, none⟩ = some (.slice Av (D.at p.2).data.length cv) ∧ w'.cell? ⟨P, 1, none⟩ = some (.int .i64 ((D.at p.2).safe : Int))) (late := [17]) _ _ _ _ ?_
      refine takeT (i := 0) (v := ?_) rfl (by kernel_rfl) (by kernel_rfl) (by kernel_rfl) (by kernel_rfl) (fun _ _ _ h => h) (HS8.out) (.inl ⟨by rfl, fun w => .inl ?hy0⟩) ?_; case hy0 => (go_simp; try with_reducible rfl)
      try go_frame
      refine takeT (i := 1) (v := ?_) rfl (by kernel_rfl) (by kernel_rfl) (by kernel_rfl) (by kernel_rfl) (fun _ _ _ h => h) (HS8.out) (.inl ⟨by rfl, fun w => .inl ?hy1⟩) ?_; case hy1 => (go_simp; try with_reducible rfl)
      try go_frame
      refine takeT (i := 2) (v := ?_) rfl (by kernel_rfl) (by kernel_rfl) (by kernel_rfl) (by kernel_rfl) (fun _ _ _ h => h) (HS8.out) (.inl ⟨by rfl, fun w => .inl ?hy2⟩) ?_; case hy2 => (go_simp; try with_reducible rfl)
      try go_frame
      refine takeT (i := 3) (v := ?_) rfl (by kernel_rfl) (by kernel_rfl) (by kernel_rfl) (by kernel_rfl) (fun _ _ _ h => h) (HS8.out) (.inl ⟨by rfl, fun w => .inl ?hy3⟩) ?_; case hy3 => (go_simp; try with_reducible rfl)
      try go_frame
      refine takePT 8 (i := 4) (v := ?_) rfl (by kernel_rfl) (by kernel_rfl) (by kernel_rfl) (by kernel_rfl) (by kernel_rfl) (by kernel_rfl) (fun _ _ _ h => h) (HS8.out) (.inl ⟨by rfl, fun w hw => .inl ?hy4⟩) ?_; case hy4 => (obtain ⟨hw1, hw2, hw3, hw4⟩ := hw; go_simp; try with_reducible rfl)
      try go_frame
      refine takeT (i := 5) (v := ?_) rfl (by kernel_rfl) (by kernel_rfl) (by kernel_rfl) (by kernel_rfl) (fun _ _ _ h => h) (HS8.out) (.inl ⟨by rfl, fun w => .inl ?hy5⟩) ?_; case hy5 => (go_simp; try with_reducible rfl)
      try go_frame
      refine takeT (i := 6) (v := ?_) rfl (by kernel_rfl) (by kernel_rfl) (by kernel_rfl) (by kernel_rfl) (fun _ _ _ h => h) (HS8.out) (.inl ⟨by rfl, fun w => .inl ?hy6⟩) ?_; case hy6 => (go_simp; try with_reducible rfl)
      try go_frame
      refine takeT (i := 7) (v := ?_) rfl (by kernel_rfl) (by kernel_rfl) (by kernel_rfl) (by kernel_rfl) (fun _ _ _ h => h) (HS8.out) (.inl ⟨by rfl, fun w => .inl ?hy7⟩) ?_; case hy7 => (go_simp; try with_reducible rfl)
      try go_frame
      refine takePT 8 (i := 8) (v := ?_) rfl (by kernel_rfl) (by kernel_rfl) (by kernel_rfl) (by kernel_rfl) (by kernel_rfl) (by kernel_rfl) (fun _ _ _ h => h) (HS8.out) (.inl ⟨by rfl, fun w hw => .inl ?hy8⟩) ?_; case hy8 => (obtain ⟨hw1, hw2, hw3, hw4⟩ := hw; go_simp; try with_reducible rfl)
      try go_frame
      refine takeT (i := 9) (v := ?_) rfl (by kernel_rfl) (by kernel_rfl) (by kernel_rfl) (by kernel_rfl) (fun _ _ _ h => h) (HS8.out) (.inl ⟨by rfl, fun w => .inl ?hy9⟩) ?_; case hy9 => (go_simp; try with_reducible rfl)
      try go_frame
      refine takePT 8 (i := 10) (v := ?_) rfl (by kernel_rfl) (by kernel_rfl) (by kernel_rfl) (by kernel_rfl) (by kernel_rfl) (by kernel_rfl) (fun _ _ _ h => h) (HS8.out) (.inl ⟨by rfl, fun w hw => .inl ?hy10⟩) ?_; case hy10 => (obtain ⟨hw1, hw2, hw3, hw4⟩ := hw; go_simp; try with_reducible rfl)
      try go_frame
      refine takeT (i := 11) (v := ?_) rfl (by kernel_rfl) (by kernel_rfl) (by kernel_rfl) (by kernel_rfl) (fun _ _ _ h => h) (HS8.out) (.inl ⟨by rfl, fun w => .inl ?hy11⟩) ?_; case hy11 => (go_simp; try with_reducible rfl)
      try go_frame
      refine takePT 8 (i := 12) (v := ?_) rfl (by kernel_rfl) (by kernel_rfl) (by kernel_rfl) (by kernel_rfl) (by kernel_rfl) (by kernel_rfl) (fun _ _ _ h => h) (HS8.out) (.inl ⟨by rfl, fun w hw => .inl ?hy12⟩) ?_; case hy12 => (obtain ⟨hw1, hw2, hw3, hw4⟩ := hw; go_simp; try with_reducible rfl)
      try go_frame
      refine takeT (i := 13) (v := ?_) rfl (by kernel_rfl) (by kernel_rfl) (by kernel_rfl) (by kernel_rfl) (fun _ _ _ h => h) (HS8.out) (.inl ⟨by rfl, fun w => .inl ?hy13⟩) ?_; case hy13 => (go_simp; try with_reducible rfl)
      try go_frame
      refine forcedP (i := 14) rfl rfl (by kernel_rfl) (fun K hK => ?_)
      go_simp
      refine (rcopied_any HRD.out HNL.out (by omega)).mono ?_
      rintro y w1 ⟨A1, c1, rfl, hrow1, hb1⟩
      have hS1 := HKEEP8.out w1 ((Below.refl wq.heap.size wq).drew.trans hb1)
      refine hK _ _ (hS1) ?_; clear hK K
      try go_frame
      refine takeT (i := 15) (v := ?_) rfl (by kernel_rfl) (by kernel_rfl) (by kernel_rfl) (by kernel_rfl) (fun _ _ _ h => h) (hS1) (.inl ⟨by rfl, fun w => .inl ?hy15⟩) ?_; case hy15 => (go_simp; try with_reducible rfl)
      try go_frame
      refine forcedP (i := 16) rfl rfl (by kernel_rfl) (fun K hK => ?_)
      go_simp
      have hS2 := HKEEP8.out (w1.alloc (.cells #[encStr p.1, .slice A1 (D.at p.2).safe c1] tFile)) (((Below.refl wq.heap.size wq).drew.trans hb1).alloc hb1.size _)
      refine hK _ _ (hS2) ?_; clear hK K
      try go_frame
      have HFW := Lib.hid ((HFA.out.below (HBQ.out.trans (((Below.refl wr.heap.size wq).drew.trans (hb1.mono (by show wr.heap.size ≤ wq.drew.heap.size; exact HBQ.out.size)))))).below ((Below.refl w1.heap.size w1).alloc (Nat.le_refl _) (.cells #[encStr p.1, .slice A1 (D.at p.2).safe c1] tFile)))
      have hfr := HFW.out.row
      rw [HFL.out] at hfr
      have HVB9 := Lib.hid (show V ≤ (w1.alloc (.cells #[encStr p.1, .slice A1 (D.at p.2).safe c1] tFile)).heap.size from by have h1 := hb1.size; have h2 := HVB.out; have h3 := HBQ.out.size; simp at h1 ⊢; omega)
      refine lateP (i := 17) rfl rfl (by kernel_rfl) (by kernel_rfl) (fun K hK => ?_)
      refine wp_append_keeps _ (.tmp 31) (.tmp 47) 22 rfl V tFile f0 (.agg #[.string ⟨#[]⟩, .slice none 0 0]) 2 40 Try.underlying22 hf0 hz0 hz1 hz2 rfl (by decide) (.slice Ao i co) i (cF fs dv) rfl hfr ⟨w1.heap.size, 0, none⟩ 1 1 [encStr p.1, .slice A1 (D.at p.2).safe c1] rfl rfl (new_cells _ [encStr p.1, .slice A1 (D.at p.2).safe c1] tFile) (by simp [Value.oneCell']) (by omega) (by unfold maxLen; omega) (by omega) HVB9.out ?_
      intro g2 cap2 w3 hg hgr hat2 hlt9 _
      go_simp
      refine hK _ _ ?_; clear hK K
      try go_frame
      refine takeL (i := 18) (v := ?_) rfl (by kernel_rfl) (by kernel_rfl) (by kernel_rfl) (fun _ _ _ h => h) (.inl ⟨by rfl, fun w => .inl ?hy18⟩) ?_; case hy18 => (go_simp; try with_reducible rfl)
      try go_frame
      refine wpAny_done (by kernel_rfl) ?_ _
      have hsn := HFW.out.snoc (f := (p.1, (D.at p.2).data.take (D.at p.2).safe)) (x := .slice A1 (D.at p.2).safe c1) (by rw [List.length_take, Nat.min_eq_left hsf]; exact own_base (own_alloc hrow1 _) (by have h1 := HVB.out; have h3 := HBQ.out.size; simp; omega)) (fun g hg => (HFA.out.fresh (by have := own_ge hrow1 hg; have h3 := HBQ.out.size; simp at this; omega))) (by rw [HFL.out]; exact hg) hgr
      have hb3 : Below V w w3 := ((HB.out.trans ((HBQ.out.mono HVB.out).trans ((Below.refl V wq).drew.trans (hb1.mono (by have h3 := HBQ.out.size; have h2 := HVB.out; show V ≤ wq.heap.size; omega))))).alloc (by have h1 := hb1.size; have h2 := HVB.out; have h3 := HBQ.out.size; simp at h1; omega) _).grown hgr (by have h1 := hb1.size; have h2 := HVB.out; have h3 := HBQ.out.size; simp at h1 ⊢; omega) (fun k hk => own_ge HFA.out.row hk)
      have HSN := Lib.hid hsn
      have HB3 := Lib.hid hb3
      clear hsn hb3 hg hgr hat2 hlt9 hrow1 hb1 hS1 hS2 HFW hfr hsl
      go_wp2
      go_roundw
      case rel =>
        refine ⟨i + 1, dv ++ [.slice A1 (D.at p.2).safe c1], by go_num, by omega, ?_, HB3.out⟩
        rw [files_take HP.out, HFD.out]
        exact HSN.out
      case measure => simp [intOf]; omega
    · obtain rfl : i = D.kept.length := by omega
      rw [List.take_length] at hfa
      have hfl : (D.files D.kept (fun b => b.data.take b.safe)).length = n0 := by rw [files_len]; exact HN1.out
      obtain ⟨Ao, co, rfl, _, _⟩ := own_form hfa.row
      rw [hfl] at hfa ⊢
      have HFA := Lib.hid hfa
      have HB := Lib.hid hb
      clear hfa hb hA hfl
      go_wp2
      refine bodyPost_ret (v := .slice Ao n0 co) (by simp [results, Try.results54, go_sem]) rfl ?_
      exact ⟨Ao, co, dv, rfl, HFA.out, HB.out⟩
end
end Go.Proofs.Ytelgcmcnebncmaa.Dr
