/- The walks of Image and Safe. -/
import Derived.Test.YtelgcmcnebncmaaD9
import Derived.Test.YtelgcmcnebncmaaFiles
import Derived.Test.YtelgcmcnebncmaaRegS
namespace Go.Proofs.Ytelgcmcnebncmaa.Dr
open Go.RowKit Go.Proofs Go.Proofs.Ytelgcmcnebncmaa.Ring

section
variable {w w' : World} {S : Nat → Prop} {d : Nat} {D : Dr.D} {m N : Nat}
theorem Rise.get_find {l : Dir} (h : Rise l) {i : Nat} {p : Bs × Nat} (hp : l[i]? = some p) : find l p.1 = some p.2 := (find_some h).2 (List.mem_of_getElem? hp)
set_option maxRecDepth 100000 in
set_option maxHeartbeats 4000000 in
theorem image_any (h : Dv w S d D m N) (hm : m ≤ 140737488355328) (hN : N * 40 ≤ 140737488355328) : Calls Try.prog 20 #[.pointer (some ⟨d, 0, none⟩)] w fun x w' => ∃ v dv, x = .returned v ∧ FilesAt w' w.heap.size v dv D.image ∧ Below w.heap.size w w' := by
  obtain ⟨ho, β, vs, nv, kv, pv, ss, h⟩ := h
  obtain ⟨_, _, c2, _⟩ := h.cells
  have hr : Rise (at_ β D.now) := rise_names ho.now (by simp [at_, Function.comp_def])
  have hl : (at_ β D.now).length * 16 ≤ 140737488355328 := by have := ho.lenN; simp only [at_, List.length_map]; omega
  obtain ⟨n, hn⟩ : ∃ n, D.now.length = n := ⟨_, rfl⟩
  have hnN : n ≤ N := by rw [← hn]; exact ho.lenN
  have HN := Lib.hid hn
  have H := Lib.hid h
  have HO := Lib.hid ho
  have HR := Lib.hid hr
  clear h ho hr hn
  go_enter Try.func20, Try.ntmps20
  go_upto_region 5 with (go_at_call 86; refine (names_any H.out.now HR.out hl).mono ?_; rintro x w1 ⟨v1, rfl, hv1, hb1⟩; rw [show (at_ β D.now).length = n by rw [← HN.out]; simp [at_], show (at_ β D.now).map (·.1) = D.now.map (·.1) by simp [at_, Function.comp_def]] at hv1; obtain ⟨A1, k1, rfl, _, _⟩ := own_form hv1)
  have HV1 := Lib.hid hv1
  have HB1 := Lib.hid hb1
  clear hv1 hb1
  obtain ⟨j0, hj0, hq0, hq1, hq2⟩ := info_parts infoFile
  go_loopw [3, 14] (fun ov iv wr => ∃ (i : Nat) (dv : List Value), iv = .int .i64 (i : Int) ∧ i ≤ n ∧ FilesAt wr w1.heap.size ov dv (D.image.take i) ∧ Below w1.heap.size w1 wr) (fun _ iv _ => n - (intOf iv).toNat)
  case atStart => exact ⟨0, [], rfl, by omega, by rw [List.take_zero]; exact FilesAt.nil _ _, Below.refl _ _⟩
  case round =>
    obtain ⟨i, dv, rfl, hi, hf, hb⟩ := hrel
    by_cases hlt : i < n
    · obtain ⟨p, hp⟩ : ∃ p, D.now[i]? = some p := ⟨_, List.getElem?_eq_getElem (by have := HN.out; omega)⟩
      obtain ⟨nm, k⟩ := p
      have hk : k < D.bd.length := HO.out.inN _ (List.mem_of_getElem? hp)
      have hnm := HO.out.namN _ (List.mem_of_getElem? hp)
      have hfind : find D.now nm = some k := Rise.get_find HO.out.now hp
      have hbw : Below w.heap.size w wr := bch HB1.out hb
      have hD := H.out.same (w' := wr) (fun q hq => hbw.block q (H.out.low q hq)) hbw.size
      have e0 : wr.cell? ⟨d, 2, none⟩ = some nv := (c_now hD.head).2.1
      have e1 : (Instr.lookup 104 nv (encStr nm) false).run Try.prog wr = .ok (.pointer (some ⟨β k, 0, none⟩)) wr := by
        have := hD.now.run_look (named_len hnm)
        rw [find_at, hfind] at this
        exact this
      have e2 : wr.cell? ⟨β k, 0, none⟩ = some (vs k) := (c_body (hD.body k hk)).1
      obtain ⟨ad1, hA1, _, had1⟩ := (Rd.of_own HV1.out).2 (by omega)
      subst hA1
      have e3 : wr.cell? (ad1.add i) = some (encStr nm) := by
        have h1 := ((Rd.of_own HV1.out).below hb).cell rfl (k := i) (u := encStr nm) hlt (by simp [cStr, hp])
        exact h1
      have hlt2 : (i : Int) < (n : Int) := by omega
      have hkl := (HO.out.at_ok k).2
      have hrow := hD.row k hk
      have HD := Lib.hid hD
      have HROW := Lib.hid hrow
      have HF := Lib.hid hf
      have HB := Lib.hid hb
      have HBW := Lib.hid hbw
      have HP := Lib.hid hp
      have hlen : (D.image.take i).length = i := by have := HN.out; simp [Dr.D.image, Dr.D.files, List.length_take]; omega
      have HLEN := Lib.hid hlen
      clear hD hf hb hbw hp hfind hnm hrow had1 hlen
      have hro : wr.ownsRow w1.heap.size tFile 2 u3 i (cF (D.image.take i) dv) := by have := HF.out.row; rw [HLEN.out] at this; exact this
      have HRO := Lib.hid hro
      clear hro
      go_wp2_with (first
        | (go_at_call 87; refine (clone_any HROW.out (by omega)).mono ?_; rintro x w5 ⟨x5, rfl, hx5, hb5⟩; obtain ⟨A5, c5, rfl, _, _⟩ := own_form hx5; have HX5 := Lib.hid hx5; have HB5 := Lib.hid hb5; clear hx5 hb5)
        | (at_builtin; refine wpList_append_own _ rfl (.tmp 18) (.tmp 31) 22 rfl w1.heap.size tFile j0 (.agg #[.string ⟨#[]⟩, .slice none 0 0]) 2 40 Try.underlying22 hj0 hq0 hq1 hq2 rfl (by decide) _ _ _ rfl (own_alloc (own_below HRO.out HB5.out) _) ⟨w5.heap.size, 0, none⟩ 1 1 [encStr nm, .slice A5 (D.at k).data.length c5] rfl rfl (new_cells _ _ _) (by simp [Value.oneCell', encStr]) (by unfold maxLen; omega) (by omega) (by have := HB.out.size; have := HB5.out.size; simp; omega) ?_; intro v2 w6 hrow2 hg2 _; have HR2 := Lib.hid hrow2; have HG2 := Lib.hid hg2; clear hrow2 hg2))
      have hbA : Below wr.heap.size wr (w5.alloc (.cells #[encStr nm, .slice A5 (D.at k).data.length c5] tFile)) := HB5.out.alloc HB5.out.size _
      have himg : D.image[i]? = some (nm, (D.at k).data) := by
        unfold Dr.D.image Dr.D.files
        rw [List.getElem?_map, HP.out]
        rfl
      have hF2 := (HF.out.below hbA).snoc (f := (nm, (D.at k).data)) (x := .slice A5 (D.at k).data.length c5) (own_alloc (own_base HX5.out HB.out.size) _) (fun g hg => HF.out.fresh (own_ge HX5.out hg)) (v2 := v2) (w2 := w6) (by rw [HLEN.out]; exact HR2.out) HG2.out
      rw [← take_snoc_f himg] at hF2
      have hb6 : Below w1.heap.size w1 w6 := (HB.out.trans (hbA.mono HB.out.size)).grown HG2.out (by have := HB.out.size; have := hbA.size; omega) (fun g hg => own_ge HRO.out hg)
      have HF2 := Lib.hid hF2
      have HB6 := Lib.hid hb6
      clear hF2 hb6 hbA himg e0 e1 e2 e3
      go_roundw
      case rel => exact ⟨i + 1, _, by go_num, by omega, HF2.out, HB6.out⟩
      case measure => simp [intOf]; omega
    · obtain rfl : n = i := by omega
      rw [List.take_of_length_le (by have := HN.out; simp [Dr.D.image, Dr.D.files]; omega)] at hf
      have HF := Lib.hid hf
      have HB := Lib.hid hb
      clear hf hb
      go_wp2
      go_ret
      exact ⟨_, dv, rfl, HF.out.lower HB1.out.size, bch HB1.out HB.out⟩
set_option maxRecDepth 100000 in
set_option maxHeartbeats 4000000 in
theorem safe_any (h : Dv w S d D m N) (hm : m ≤ 140737488355328) (hN : N * 40 ≤ 140737488355328) : Calls Try.prog 21 #[.pointer (some ⟨d, 0, none⟩)] w fun x w' => ∃ v dv, x = .returned v ∧ FilesAt w' w.heap.size v dv D.safe ∧ Below w.heap.size w w' := by
  obtain ⟨ho, β, vs, nv, kv, pv, ss, h⟩ := h
  obtain ⟨_, _, _, c2, _⟩ := h.cells
  have hr : Rise (at_ β D.kept) := rise_names ho.kept (by simp [at_, Function.comp_def])
  have hl : (at_ β D.kept).length * 16 ≤ 140737488355328 := by have := ho.lenK; simp only [at_, List.length_map]; omega
  obtain ⟨n, hn⟩ : ∃ n, D.kept.length = n := ⟨_, rfl⟩
  have hnN : n ≤ N := by rw [← hn]; have := ho.lenK; omega
  have HN := Lib.hid hn
  have H := Lib.hid h
  have HO := Lib.hid ho
  have HR := Lib.hid hr
  clear h ho hr hn
  go_enter Try.func21, Try.ntmps21
  go_upto_region 5 with (go_at_call 86; refine (names_any H.out.kept HR.out hl).mono ?_; rintro x w1 ⟨v1, rfl, hv1, hb1⟩; rw [show (at_ β D.kept).length = n by rw [← HN.out]; simp [at_], show (at_ β D.kept).map (·.1) = D.kept.map (·.1) by simp [at_, Function.comp_def]] at hv1; obtain ⟨A1, k1, rfl, _, _⟩ := own_form hv1)
  have HV1 := Lib.hid hv1
  have HB1 := Lib.hid hb1
  clear hv1 hb1
  obtain ⟨j0, hj0, hq0, hq1, hq2⟩ := info_parts infoFile
  go_loopw [3, 15] (fun ov iv wr => ∃ (i : Nat) (dv : List Value), iv = .int .i64 (i : Int) ∧ i ≤ n ∧ FilesAt wr w1.heap.size ov dv (D.safe.take i) ∧ Below w1.heap.size w1 wr) (fun _ iv _ => n - (intOf iv).toNat)
  case atStart => exact ⟨0, [], rfl, by omega, by rw [List.take_zero]; exact FilesAt.nil _ _, Below.refl _ _⟩
  case round =>
    obtain ⟨i, dv, rfl, hi, hf, hb⟩ := hrel
    by_cases hlt : i < n
    · obtain ⟨p, hp⟩ : ∃ p, D.kept[i]? = some p := ⟨_, List.getElem?_eq_getElem (by have := HN.out; omega)⟩
      obtain ⟨nm, k⟩ := p
      have hk : k < D.bd.length := HO.out.inK _ (List.mem_of_getElem? hp)
      have hnm := HO.out.namK _ (List.mem_of_getElem? hp)
      have hfind : find D.kept nm = some k := Rise.get_find HO.out.kept hp
      have hbw : Below w.heap.size w wr := bch HB1.out hb
      have hD := H.out.same (w' := wr) (fun q hq => hbw.block q (H.out.low q hq)) hbw.size
      have e0 : wr.cell? ⟨d, 3, none⟩ = some kv := (c_kp hD.head).1
      have e1 : (Instr.lookup 104 kv (encStr nm) false).run Try.prog wr = .ok (.pointer (some ⟨β k, 0, none⟩)) wr := by
        have := hD.kept.run_look (named_len hnm)
        rw [find_at, hfind] at this
        exact this
      have e2 : wr.cell? ⟨β k, 0, none⟩ = some (vs k) := (c_body (hD.body k hk)).1
      obtain ⟨ad1, hA1, _, had1⟩ := (Rd.of_own HV1.out).2 (by omega)
      subst hA1
      have e3 : wr.cell? (ad1.add i) = some (encStr nm) := by
        have h1 := ((Rd.of_own HV1.out).below hb).cell rfl (k := i) (u := encStr nm) hlt (by simp [cStr, hp])
        exact h1
      have hlt2 : (i : Int) < (n : Int) := by omega
      have hkl := (HO.out.at_ok k).2
      have hrow := hD.row k hk
      have HD := Lib.hid hD
      have HROW := Lib.hid hrow
      have HF := Lib.hid hf
      have HB := Lib.hid hb
      have HBW := Lib.hid hbw
      have HP := Lib.hid hp
      have hlen : (D.safe.take i).length = i := by have := HN.out; simp [Dr.D.safe, Dr.D.files, List.length_take]; omega
      have HLEN := Lib.hid hlen
      clear hD hf hb hbw hp hfind hnm hrow had1 hlen
      have hro : wr.ownsRow w1.heap.size tFile 2 u3 i (cF (D.safe.take i) dv) := by have := HF.out.row; rw [HLEN.out] at this; exact this
      have HRO := Lib.hid hro
      clear hro
      go_upto_region 8 with (fail)
      obtain ⟨Ak, ck, hvk, hck1, hck2⟩ := own_form HROW.out
      have hbk := HD.out.body k hk
      rw [hvk] at hbk
      have hro2 := HROW.out
      rw [hvk] at hro2
      have HBK := Lib.hid hbk
      have hsafe := (HO.out.at_ok k).1
      have hs1 : ((D.at k).safe : Int) ≤ (ck : Int) := by omega
      have hs2 : (ck : Int) ≤ 9223372036854775807 := by unfold maxLen at hck2; omega
      have hcut : wr.ownsRow 0 tU8 1 (.slice Ak (D.at k).safe ck) (D.at k).safe (cU8 ((D.at k).data.take (D.at k).safe)) := by
        rw [show cU8 ((D.at k).data.take (D.at k).safe) = (cU8 (D.at k).data).take (D.at k).safe by simp [cU8, List.map_take]]
        rcases Nat.lt_or_ge (D.at k).safe (D.at k).data.length with h | h
        · exact own_front hro2 h
        · have e : (D.at k).safe = (D.at k).data.length := by omega
          rw [e, List.take_of_length_le (by simp [cU8])]
          exact hro2
      have HROW2 := Lib.hid (show wr.drew.ownsRow 0 tU8 1 (.slice Ak (D.at k).safe ck) (D.at k).safe (cU8 ((D.at k).data.take (D.at k).safe)) from hcut)
      clear hvk hbk hro2 hcut hck1 hck2 e0 e1 e2
      refine wp_region_any (by kernel_rfl) ?_
      change wpAny _ _ _ _ _ _ _ (World.drew _)
      refine wpAny_of_P (S := fun w' => w'.heap[β k]? = some (.cells #[.slice Ak (D.at k).data.length ck, .int .i64 ((D.at k).safe : Int)] tBody (0, 0))) (late := [10]) _ _ _ _ ?_
      refine takeT (i := 0) (v := ?_) rfl (by kernel_rfl) (by kernel_rfl) (by kernel_rfl) (by kernel_rfl) (fun _ _ _ h => h) (HBK.out) (.inl ⟨by rfl, fun w => .inl ?hy0⟩) ?_; case hy0 => (go_simp; try with_reducible rfl)
      try go_frame
      refine takeT (i := 1) (v := ?_) rfl (by kernel_rfl) (by kernel_rfl) (by kernel_rfl) (by kernel_rfl) (fun _ _ _ h => h) (HBK.out) (.inl ⟨by rfl, fun w => .inl ?hy1⟩) ?_; case hy1 => (go_simp; try with_reducible rfl)
      try go_frame
      refine takeT (i := 2) (v := ?_) rfl (by kernel_rfl) (by kernel_rfl) (by kernel_rfl) (by kernel_rfl) (fun _ _ _ h => h) (HBK.out) (.inl ⟨by rfl, fun w => .inl ?hy2⟩) ?_; case hy2 => (go_simp; try with_reducible rfl)
      try go_frame
      refine takeT (i := 3) (v := ?_) rfl (by kernel_rfl) (by kernel_rfl) (by kernel_rfl) (by kernel_rfl) (fun _ _ _ h => h) (HBK.out) (.inl ⟨by rfl, fun w => .inl ?hy3⟩) ?_; case hy3 => (go_simp; try with_reducible rfl)
      try go_frame
      refine takeT (i := 4) (v := ?_) rfl (by kernel_rfl) (by kernel_rfl) (by kernel_rfl) (by kernel_rfl) (fun _ _ _ h => h) (HBK.out) (.inl ⟨by rfl, fun w => .inl ?hy4⟩) ?_; case hy4 => (go_simp; try with_reducible rfl)
      try go_frame
      refine takeP (i := 5) (v := ?_) rfl (by kernel_rfl) (by kernel_rfl) (by kernel_rfl) (by kernel_rfl) (by kernel_rfl) (fun _ _ _ h => h) (HBK.out) (.inl ⟨by rfl, fun w hw => .inl ?hy5⟩) ?_; case hy5 => (obtain ⟨y0, y1, _, _⟩ := c_body hw; clear hw; go_simp; try with_reducible rfl)
      try go_frame
      refine takeT (i := 6) (v := ?_) rfl (by kernel_rfl) (by kernel_rfl) (by kernel_rfl) (by kernel_rfl) (fun _ _ _ h => h) (HBK.out) (.inl ⟨by rfl, fun w => .inl ?hy6⟩) ?_; case hy6 => (go_simp; try with_reducible rfl)
      try go_frame
      refine takeT (i := 7) (v := ?_) rfl (by kernel_rfl) (by kernel_rfl) (by kernel_rfl) (by kernel_rfl) (fun _ _ _ h => h) (HBK.out) (.inl ⟨by rfl, fun w => .inl ?hy7⟩) ?_; case hy7 => (go_simp; try with_reducible rfl)
      try go_frame
      refine takeT (i := 8) (v := ?_) rfl (by kernel_rfl) (by kernel_rfl) (by kernel_rfl) (by kernel_rfl) (fun _ _ _ h => h) (HBK.out) (.inl ⟨by rfl, fun w => .inl ?hy8⟩) ?_; case hy8 => (go_simp; try with_reducible rfl)
      try go_frame
      refine takeP (i := 9) (v := ?_) rfl (by kernel_rfl) (by kernel_rfl) (by kernel_rfl) (by kernel_rfl) (by kernel_rfl) (fun _ _ _ h => h) (HBK.out) (.inl ⟨by rfl, fun w hw => .inl ?hy9⟩) ?_; case hy9 => (obtain ⟨y0, y1, _, _⟩ := c_body hw; clear hw; go_simp; try with_reducible rfl)
      try go_frame
      refine lateP (i := 10) rfl rfl (by kernel_rfl) (by kernel_rfl) (fun K hK => ?_)
      go_simp
      refine hK _ _ ?_; clear hK K
      try go_frame
      refine forcedL (i := 11) rfl rfl (by kernel_rfl) (fun K hK => ?_)
      go_simp
      refine (clone_any HROW2.out (by omega)).mono ?_; rintro x w5 ⟨x5, rfl, hx5, hb5⟩
      obtain ⟨A5, c5, rfl, _, _⟩ := own_form hx5
      have HX5 := Lib.hid hx5
      have HB5 := Lib.hid (bch (show Below wr.heap.size wr wr.drew from (Below.refl _ _).drew) hb5)
      clear hx5 hb5
      refine hK _ _ ?_; clear hK K
      try go_frame
      refine takeL (i := 12) (v := ?_) rfl (by kernel_rfl) (by kernel_rfl) (by kernel_rfl) (fun _ _ _ h => h) (.inl ⟨by rfl, fun w => .inl ?hy12⟩) ?_; case hy12 => (go_simp; try with_reducible rfl)
      try go_frame
      refine forcedL (i := 13) rfl rfl (by kernel_rfl) (fun K hK => ?_)
      go_simp
      refine hK _ _ ?_; clear hK K
      try go_frame
      refine forcedL (i := 14) rfl rfl (by kernel_rfl) (fun K hK => ?_)
      refine wp_append_own _ _ _ 22 rfl w1.heap.size tFile j0 (.agg #[.string ⟨#[]⟩, .slice none 0 0]) 2 40 Try.underlying22 hj0 hq0 hq1 hq2 rfl (by decide) u3 _ _ rfl (own_alloc (own_below HRO.out HB5.out) _) ⟨w5.heap.size, 0, none⟩ 1 1 [encStr nm, .slice A5 (D.at k).safe c5] rfl rfl ?_ ?_ ?_ ?_ ?_ ?_
      · exact new_cells _ _ _
      · simp [Value.oneCell', encStr]
      · unfold maxLen; omega
      · omega
      · have := HB.out.size; have := HB5.out.size; simp; omega
      intro v2 w6 hrow2 hg2 _
      have HR2 := Lib.hid hrow2
      have HG2 := Lib.hid hg2
      clear hrow2 hg2
      refine hK _ _ ?_; clear hK K
      try go_frame
      refine takeL (i := 15) (v := ?_) rfl (by kernel_rfl) (by kernel_rfl) (by kernel_rfl) (fun _ _ _ h => h) (.inl ⟨by rfl, fun w => .inl ?hy15⟩) ?_; case hy15 => (go_simp; try with_reducible rfl)
      try go_frame
      refine wpAny_done (by kernel_rfl) ?_ _
      have hbA : Below wr.heap.size wr (w5.alloc (.cells #[encStr nm, .slice A5 (D.at k).safe c5] tFile)) := HB5.out.alloc HB5.out.size _
      have himg : D.safe[i]? = some (nm, (D.at k).data.take (D.at k).safe) := by
        unfold Dr.D.safe Dr.D.files
        rw [List.getElem?_map, HP.out]
        rfl
      have hF2 := (HF.out.below hbA).snoc (f := (nm, (D.at k).data.take (D.at k).safe)) (x := .slice A5 (D.at k).safe c5) (by rw [show ((nm, (D.at k).data.take (D.at k).safe) : Bs × Bs).2.length = (D.at k).safe by simp only [List.length_take]; omega]; exact own_alloc (own_base HX5.out HB.out.size) _) (fun g hg => HF.out.fresh (own_ge HX5.out hg)) (v2 := v2) (w2 := w6) (by rw [HLEN.out]; exact HR2.out) HG2.out
      rw [← take_snoc_f himg] at hF2
      have hb6 : Below w1.heap.size w1 w6 := (HB.out.trans (hbA.mono HB.out.size)).grown HG2.out (by have := HB.out.size; have := hbA.size; omega) (fun g hg => own_ge HRO.out hg)
      have HF2 := Lib.hid hF2
      have HB6 := Lib.hid hb6
      clear hF2 hb6 hbA himg e3
      go_wp2
      go_roundw
      case rel => exact ⟨i + 1, _, by go_num, by omega, HF2.out, HB6.out⟩
      case measure => simp [intOf]; omega
    · obtain rfl : n = i := by omega
      rw [List.take_of_length_le (by have := HN.out; simp [Dr.D.safe, Dr.D.files]; omega)] at hf
      have HF := Lib.hid hf
      have HB := Lib.hid hb
      clear hf hb
      go_wp2
      go_ret
      exact ⟨_, dv, rfl, HF.out.lower HB1.out.size, bch HB1.out HB.out⟩
end
end Go.Proofs.Ytelgcmcnebncmaa.Dr
