/- 'rows': the list of all bytes that answers hold. -/
import Derived.Test.YtelgcmcnebncmaaCop
import Derived.Test.YtelgcmcnebncmaaWBytes
import Derived.Test.YtelgcmcnebncmaaWApTwo
namespace Go.Proofs.Ytelgcmcnebncmaa.Ap
set_option linter.unusedVariables false
open Go.RowKit Go.Proofs Go.Deep Go.Proofs.Ytelgcmcnebncmaa.Dr Go.Proofs.Ytelgcmcnebncmaa.Ring

theorem rows_cells {w : World} {B : Nat} {x : Av4} {db : Bs} {ns : List Bs} {fs gs : List (Bs × Bs)} (h : Says w B x db ns fs gs) : x.rows.map rv = rv x.d :: (x.fv ++ x.gv) := by
  unfold Av4.rows
  rw [List.map_cons, List.map_append, List.map_map, List.map_map]
  congr 1
  have key : ∀ {v : Value} {dv : List Value} {l : List (Bs × Bs)}, FilesAt w B v dv l → dv.map (rv ∘ rowOf) = dv := by
    intro v dv l hf
    refine (List.map_congr_left fun y hy => ?_).trans (List.map_id _)
    obtain ⟨_, _, _, _, h1, _⟩ := files_row hf hy
    exact h1
  rw [key h.now, key h.safe]
theorem files_cell {w : World} {B n c : Nat} {A : Option Addr} {dv : List Value} {fs : List (Bs × Bs)} (h : FilesAt w B (.slice A n c) dv fs) (hn : n = fs.length) {i : Nat} (hi : i < n) :
    ∃ g Ax lx cx, A = some ⟨g, 0, none⟩ ∧ g < w.heap.size ∧ dv[i]? = some (.slice Ax lx cx) ∧ w.cell? ⟨g, i * 2 + 1, none⟩ = some (.slice Ax lx cx) := by
  obtain ⟨f, hf⟩ : ∃ f, fs[i]? = some f := ⟨_, List.getElem?_eq_getElem (by omega)⟩
  obtain ⟨g, Ax, cx, e, hg, _, h2, _⟩ := (h.rd hn.symm).2 i f hf
  refine ⟨g, Ax, f.2.length, cx, e, hg, ?_, h2⟩
  have hdl : i < dv.length := by rw [h.len]; omega
  have hr := h.row
  rw [e, hn] at hr
  have hc1 := World.ownsRow.cellAt hr (i * 2 + 1) (by omega)
  rw [h2, (cF_at fs dv i f dv[i] hf (List.getElem?_eq_getElem hdl)).2] at hc1
  injection hc1 with hc1
  rw [List.getElem?_eq_getElem hdl, hc1]
set_option maxRecDepth 100000 in
set_option maxHeartbeats 4000000 in
theorem rows_any {w : World} {B : Nat} {x : Av4} {db : Bs} {ns : List Bs} {fs gs : List (Bs × Bs)} (h : Says w B x db ns fs gs) (hfm : fs.length ≤ 1099511627776) (hgm : gs.length ≤ 1099511627776) :
    Calls Try.prog 44 #[x.val] w fun e w' => ∃ v, e = .returned v ∧ w'.ownsRow w.heap.size 35 1 v x.rows.length (x.rows.map rv) ∧ Below w.heap.size w w' := by
  have hcl := rows_cells h
  have hxl : x.rows.length = 1 + fs.length + gs.length := by
    unfold Av4.rows
    simp [h.now.len, h.safe.len]; omega
  obtain ⟨⟨Ad, kd, cd⟩, ⟨An, kn, cn⟩, ⟨Af, kf, cf⟩, ⟨Ag, kg, cg⟩, xf, xg⟩ := x
  obtain ⟨i1, hi', hy0, hy1, hy2⟩ := info_parts infoRow8
  obtain ⟨V, hV⟩ : ∃ V, w.heap.size = V := ⟨_, rfl⟩
  have hkf : kf = fs.length := h.lenF
  have hkg : kg = gs.length := h.lenG
  rw [← hkf, ← hkg] at hxl
  rw [← hkf] at hfm
  rw [← hkg] at hgm
  simp only at hcl
  rw [hxl, hcl]
  have hlf : xf.length = kf := by have := h.now.len; simp only at this; omega
  have hlg : xg.length = kg := by have := h.safe.len; simp only at this; omega
  obtain ⟨w1, hw1⟩ : ∃ w1, w.alloc (.cells #[.slice Ad kd cd, .slice An kn cn, .slice Af kf cf, .slice Ag kg cg] tAns) = w1 := ⟨_, rfl⟩
  have hb1 : Below w.heap.size w w1 := by rw [← hw1]; exact (Below.refl _ _).alloc (Nat.le_refl _) _
  have hA : w1.heap[V]? = some (.cells #[.slice Ad kd cd, .slice An kn cn, .slice Af kf cf, .slice Ag kg cg] tAns (0, 0)) := by
    rw [← hw1, ← hV]
    exact heap_alloc_new _ _
  have hsV : w1.heap.size = V + 1 := by rw [← hw1, ← hV]; simp
  have hS1 := h.below hb1
  have hc : ∀ W : World, Below w1.heap.size w1 W → W.cell? ⟨V, 2, none⟩ = some (.slice Af kf cf) ∧ W.cell? ⟨V, 3, none⟩ = some (.slice Ag kg cg) := fun W hb => by
    have h := (hb.block V (by omega)).trans hA
    exact ⟨by rw [cell_of_row W V _ _ _ _ h]; rfl, by rw [cell_of_row W V _ _ _ _ h]; rfl⟩
  have a0 : w1.cell? ⟨V, 0, none⟩ = some (.slice Ad kd cd) := by rw [cell_of_row w1 V _ _ _ _ hA]; rfl
  have HC := Lib.hid hc
  have HS1 := Lib.hid hS1
  have HB1 := Lib.hid hb1
  have HSV := Lib.hid hsV
  have HKF := Lib.hid hkf
  have HKG := Lib.hid hkg
  have HLF := Lib.hid hlf
  have HLG := Lib.hid hlg
  have HV := Lib.hid hV
  clear hcl hxl hb1 hA hsV hS1 hc h hkf hkg hlf hlg
  show Calls Try.prog 44 #[.agg #[.slice Ad kd cd, .slice An kn cn, .slice Af kf cf, .slice Ag kg cg]] w _
  go_enter Try.func44, Try.ntmps44
  go_upto_region 2 with (fail)
  clear hw1 hV
  obtain ⟨w2, hw2⟩ : ∃ w2, w1.alloc (.cells #[.slice Ad kd cd] 35) = w2 := ⟨_, rfl⟩
  have hb2 : Below w1.heap.size w1 w2 := by rw [← hw2]; exact (Below.refl _ _).alloc (Nat.le_refl _) _
  have hr2 : w2.ownsRow w1.heap.size 35 1 (.slice (some ⟨w1.heap.size, 0, none⟩) 1 1) 1 [.slice Ad kd cd] := by
    rw [← hw2]
    exact World.ownsRow_lit w1 #[.slice Ad kd cd] 1 (Nat.le_refl _) (by unfold maxLen; decide) rfl
  rw [hw2]
  clear hw2
  have HB2 := Lib.hid hb2
  have HR2 := Lib.hid hr2
  clear hb2 hr2 a0
  go_upto_region 3 with (fail)
  go_loopw [3, 4] (fun v iv wr => ∃ i : Nat, iv = .int .i64 (i : Int) ∧ i ≤ kf ∧ wr.ownsRow w1.heap.size 35 1 v (1 + i) (.slice Ad kd cd :: xf.take i) ∧ Below w1.heap.size w1 wr) (fun _ iv _ => kf - (intOf iv).toNat)
  case atStart => exact ⟨0, rfl, by omega, by rw [List.take_zero]; exact HR2.out, HB2.out⟩
  case round =>
    obtain ⟨i, rfl, hi, hrow, hb⟩ := hrel
    have e1 := (HC.out wr hb).1
    by_cases hlt : i < kf
    · obtain ⟨ga, Ax, lx, cx, rfl, hgl, hdv, hcx⟩ := files_cell HS1.out.now HKF.out hlt
      have e2 := (hb.cell (p := ⟨ga, i * 2 + 1, none⟩) hgl).trans hcx
      have hlt2 : (i : Int) < (kf : Int) := by omega
      have HROW := Lib.hid (own_alloc hrow (.cells #[.slice Ax lx cx] 35))
      have HB := Lib.hid (hb.alloc hb.size (.cells #[.slice Ax lx cx] 35))
      have HDV := Lib.hid hdv
      clear hrow hb hdv hcx
      go_wp2_with (at_builtin; refine wpList_append_own _ rfl (.tmp 16) (.tmp 23) 85 rfl w1.heap.size 35 i1 (.slice none 0 0) 1 24 Try.underlying85 hi' hy0 hy1 hy2 rfl (by decide) _ _ _ rfl HROW.out ⟨wr.heap.size, 0, none⟩ 1 1 [.slice Ax lx cx] rfl rfl (cell_one_new _ _ _) (by simp [Value.oneCell']) (by unfold maxLen; omega) (by omega) HB.out.size ?_; intro v2 w3 hrow3 hg3 _; have HROW3 := Lib.hid hrow3; have HB3 := Lib.hid (HB.out.grown hg3 HB.out.size (fun j hj => own_ge HROW.out hj)); clear hrow3 hg3)
      go_roundw
      case rel =>
        refine ⟨i + 1, by go_num, by omega, ?_, HB3.out⟩
        rw [List.take_add_one, HDV.out]
        exact HROW3.out
      case measure => simp [intOf]; omega
    · obtain rfl : kf = i := by omega
      rw [List.take_of_length_le (Nat.le_of_eq HLF.out)] at hrow
      have HROW := Lib.hid hrow
      have HB := Lib.hid hb
      clear hrow hb
      go_upto_region 7 with (fail)
      go_loopw [3, 5] (fun v iv wr => ∃ i : Nat, iv = .int .i64 (i : Int) ∧ i ≤ kg ∧ wr.ownsRow w1.heap.size 35 1 v (1 + kf + i) (.slice Ad kd cd :: (xf ++ xg.take i)) ∧ Below w1.heap.size w1 wr) (fun _ iv _ => kg - (intOf iv).toNat)
      case atStart => exact ⟨0, rfl, by omega, by rw [List.take_zero, List.append_nil]; exact HROW.out, HB.out⟩
      case round =>
        clear e1 HROW HB
        obtain ⟨i, rfl, hi2, hrow, hb⟩ := hrel
        have e1 := (HC.out wr hb).2
        by_cases hlt : i < kg
        · obtain ⟨ga, Ax, lx, cx, rfl, hgl, hdv, hcx⟩ := files_cell HS1.out.safe HKG.out hlt
          have e2 := (hb.cell (p := ⟨ga, i * 2 + 1, none⟩) hgl).trans hcx
          have hlt2 : (i : Int) < (kg : Int) := by omega
          have HROW := Lib.hid (own_alloc hrow (.cells #[.slice Ax lx cx] 35))
          have HB := Lib.hid (hb.alloc hb.size (.cells #[.slice Ax lx cx] 35))
          have HDV := Lib.hid hdv
          clear hrow hb hdv hcx
          go_wp2_with (at_builtin; refine wpList_append_own _ rfl (.tmp 32) (.tmp 39) 85 rfl w1.heap.size 35 i1 (.slice none 0 0) 1 24 Try.underlying85 hi' hy0 hy1 hy2 rfl (by decide) _ _ _ rfl HROW.out ⟨wr.heap.size, 0, none⟩ 1 1 [.slice Ax lx cx] rfl rfl (cell_one_new _ _ _) (by simp [Value.oneCell']) (by unfold maxLen; omega) (by omega) HB.out.size ?_; intro v2 w3 hrow3 hg3 _; have HROW3 := Lib.hid hrow3; have HB3 := Lib.hid (HB.out.grown hg3 HB.out.size (fun j hj => own_ge HROW.out hj)); clear hrow3 hg3)
          go_roundw
          case rel =>
            refine ⟨i + 1, by go_num, by omega, ?_, HB3.out⟩
            rw [List.take_add_one, HDV.out, ← List.append_assoc]
            exact HROW3.out
          case measure => simp [intOf]; omega
        · obtain rfl : kg = i := by omega
          rw [List.take_of_length_le (Nat.le_of_eq HLG.out)] at hrow
          have HROW := Lib.hid hrow
          have HB := Lib.hid hb
          clear hrow hb
          go_wp2
          go_ret
          exact ⟨_, rfl, own_base HROW.out (by have := HSV.out; have := HV.out; omega), bch HB1.out HB.out⟩
end Go.Proofs.Ytelgcmcnebncmaa.Ap
namespace Go.Proofs.Ytelgcmcnebncmaa.Ap
set_option linter.unusedVariables false
open Go.RowKit Go.Proofs Go.Deep Go.Proofs.Ytelgcmcnebncmaa.Dr Go.Proofs.Ytelgcmcnebncmaa.Ring

theorem told_form {w : World} {d m N : Nat} {D : Dr.D} (h : ∃ S, Dv w S d D m N) (hm : m ≤ 140737488355328) (hN : N * 40 ≤ 140737488355328) (n : Bs) {db : Bs} {ns : List Bs} {fs gs : List (Bs × Bs)} (h1 : dataOf D n = db) (h2 : D.now.map (·.1) = ns) (h3 : D.image = fs) (h4 : D.safe = gs) :
    Calls Try.prog 41 #[.pointer (some ⟨d, 0, none⟩), encStr n] w fun x w' =>
      ∃ Ad kd cd An kn cn Af kf cf Ag kg cg fv gv, x = .returned (.agg #[.slice Ad kd cd, .slice An kn cn, .slice Af kf cf, .slice Ag kg cg]) ∧ Says w' w.heap.size ⟨(Ad, kd, cd), (An, kn, cn), (Af, kf, cf), (Ag, kg, cg), fv, gv⟩ db ns fs gs ∧ Below w.heap.size w w' := by
  subst h1 h2 h3 h4
  obtain ⟨S, h⟩ := h
  refine (told_any h hm hN n).mono ?_
  rintro x w' ⟨⟨⟨Ad, kd, cd⟩, ⟨An, kn, cn⟩, ⟨Af, kf, cf⟩, ⟨Ag, kg, cg⟩, fv, gv⟩, rfl, hs, hb⟩
  exact ⟨Ad, kd, cd, An, kn, cn, Af, kf, cf, Ag, kg, cg, fv, gv, rfl, hs, hb⟩
theorem copied_form {w : World} {B : Nat} {x : Av4} {db : Bs} {ns : List Bs} {fs gs : List (Bs × Bs)} (h : Says w B x db ns fs gs) (hdm : db.length ≤ 140737488355328) (hnm : ns.length * 16 ≤ 140737488355328) (hfm : fs.length * 40 ≤ 140737488355200) (hgm : gs.length * 40 ≤ 140737488355200)
    (hfb : ∀ f ∈ fs, f.2.length ≤ 140737488355328) (hgb : ∀ f ∈ gs, f.2.length ≤ 140737488355328) :
    Calls Try.prog 42 #[x.val] w fun x w' =>
      ∃ Ad kd cd An kn cn Af kf cf Ag kg cg fv gv, x = .returned (.agg #[.slice Ad kd cd, .slice An kn cn, .slice Af kf cf, .slice Ag kg cg]) ∧ Says w' w.heap.size ⟨(Ad, kd, cd), (An, kn, cn), (Af, kf, cf), (Ag, kg, cg), fv, gv⟩ db ns fs gs ∧ Below w.heap.size w w' := by
  refine (copied_any h hdm hnm hfm hgm hfb hgb).mono ?_
  rintro x w' ⟨⟨⟨Ad, kd, cd⟩, ⟨An, kn, cn⟩, ⟨Af, kf, cf⟩, ⟨Ag, kg, cg⟩, fv, gv⟩, rfl, hs, hb⟩
  exact ⟨Ad, kd, cd, An, kn, cn, Af, kf, cf, Ag, kg, cg, fv, gv, rfl, hs, hb⟩
theorem ans_store (w : World) (Ad : Option Addr) (kd cd : Nat) (An : Option Addr) (kn cn : Nat) (Af : Option Addr) (kf cf : Nat) (Ag : Option Addr) (kg cg : Nat) : (storeCells ⟨w.heap.size, 0, none⟩ [.slice Ad kd cd, .slice An kn cn, .slice Af kf cf, .slice Ag kg cg] 0).run Try.prog (w.alloc (.cells #[.slice none 0 0, .slice none 0 0, .slice none 0 0, .slice none 0 0] tAns)) =
    .ok () (w.alloc (.cells #[.slice Ad kd cd, .slice An kn cn, .slice Af kf cf, .slice Ag kg cg] tAns)) :=
  run_storeCells_new (P := Try.prog) w tAns #[.slice none 0 0, .slice none 0 0, .slice none 0 0, .slice none 0 0] #[.slice Ad kd cd, .slice An kn cn, .slice Af kf cf, .slice Ag kg cg] (by kernel_rfl) rfl (by simp [Value.oneCell'])
/-- All blocks of the answers lie from lo on, below hi. -/
structure In (lo hi : Nat) (x : Av4) : Prop where
  rows : Span lo hi x.rows
  rest : Span lo hi [x.l, x.f, x.g]
theorem Says.inside {w : World} {B : Nat} {x : Av4} {db : Bs} {ns : List Bs} {fs gs : List (Bs × Bs)} (h : Says w B x db ns fs gs) : In B w.heap.size x := by
  refine ⟨h.span, fun r hr g hg => ?_⟩
  rcases List.mem_cons.1 hr with rfl | hr
  · exact h.names.lt g hg
  rcases List.mem_cons.1 hr with rfl | hr
  · exact h.now.row.lt g hg
  obtain rfl := List.mem_singleton.1 hr
  exact h.safe.row.lt g hg
theorem In.mono {lo hi lo' hi' : Nat} {x : Av4} (h : In lo hi x) (h1 : lo' ≤ lo) (h2 : hi ≤ hi') : In lo' hi' x := ⟨h.rows.mono h1 h2, h.rest.mono h1 h2⟩
/-- Answers, in a box. -/
structure Holds (w : World) (lo bx : Nat) (x : Av4) (db : Bs) (ns : List Bs) (fs gs : List (Bs × Bs)) : Prop where
  says : Says w lo x db ns fs gs
  box : w.heap[bx]? = some (.cells #[rv x.d, rv x.l, rv x.f, rv x.g] tAns (0, 0))
  ge : lo ≤ bx
section
variable {w w' wh : World} {lo bx : Nat} {x : Av4} {db : Bs} {ns : List Bs} {fs gs : List (Bs × Bs)}
theorem Holds.same (h : Holds w lo bx x db ns fs gs) (hw : ∀ k, lo ≤ k → k < w.heap.size → w'.heap[k]? = w.heap[k]?) : Holds w' lo bx x db ns fs gs :=
  ⟨h.says.same hw, (hw bx h.ge (Array.getElem?_eq_some_iff.1 h.box).1).trans h.box, h.ge⟩
theorem Holds.below (h : Holds w lo bx x db ns fs gs) (hb : Below w.heap.size w w') : Holds w' lo bx x db ns fs gs := h.same fun k _ hk => hb.block k hk
theorem Holds.lower {lo' : Nat} (h : Holds w lo bx x db ns fs gs) (hl : lo' ≤ lo) : Holds w lo' bx x db ns fs gs := ⟨h.says.lower hl, h.box, Nat.le_trans hl h.ge⟩
theorem Holds.beside {w0 : World} {d m N : Nat} {D : Dr.D} (h : Holds wh lo bx x db ns fs gs) (hs : Beside w0 wh w lo d D m N) : Holds w lo bx x db ns fs gs := by
  obtain ⟨S, _, _, _, _, _, h6⟩ := hs
  exact h.same h6
theorem Holds.kept {S : Nat → Prop} (h : Holds w lo bx x db ns fs gs) (hk : Kept w w' S) (hS : ∀ k, S k → k < lo) : Holds w' lo bx x db ns fs gs :=
  h.same fun k h1 h2 => hk.block k h2 fun h3 => by have := hS k h3; omega
theorem Holds.range (h : Holds w lo bx x db ns fs gs) : w.rangeAt bx 0 [rv x.d, rv x.l, rv x.f, rv x.g] := by
  intro j v hv
  rw [Nat.zero_add, cell_of_row w bx _ _ _ _ h.box]
  simpa using hv
theorem Holds.cell0 (h : Holds w lo bx x db ns fs gs) : w.cell? ⟨bx, 0, none⟩ = some (rv x.d) := by rw [cell_of_row w bx _ _ _ _ h.box]; rfl
theorem Holds.cell1 (h : Holds w lo bx x db ns fs gs) : w.cell? ⟨bx, 1, none⟩ = some (rv x.l) := by rw [cell_of_row w bx _ _ _ _ h.box]; rfl
theorem Holds.cell2 (h : Holds w lo bx x db ns fs gs) : w.cell? ⟨bx, 2, none⟩ = some (rv x.f) := by rw [cell_of_row w bx _ _ _ _ h.box]; rfl
theorem Holds.cell3 (h : Holds w lo bx x db ns fs gs) : w.cell? ⟨bx, 3, none⟩ = some (rv x.g) := by rw [cell_of_row w bx _ _ _ _ h.box]; rfl
theorem Says.row_own (h : Says w lo x db ns fs gs) {r : Row} (hr : r ∈ x.rows) : ∃ xs, w.ownsRow lo tU8 1 (rv r) r.2.1 xs := by
  have key : ∀ {v : Value} {dv : List Value} {l : List (Bs × Bs)}, FilesAt w lo v dv l → r ∈ dv.map rowOf → ∃ xs, w.ownsRow lo tU8 1 (rv r) r.2.1 xs := by
    intro v dv l hf hr
    obtain ⟨y, hy, rfl⟩ := List.mem_map.1 hr
    obtain ⟨i, f, hf1, hf2, e1, e2⟩ := files_row hf hy
    rw [e1, e2]
    exact ⟨_, hf.data i f y hf1 hf2⟩
  rcases List.mem_cons.1 hr with rfl | hr
  · exact ⟨_, h.data⟩
  rcases List.mem_append.1 hr with hr | hr
  · exact key h.now hr
  · exact key h.safe hr
theorem Says.row_len (h : Says w lo x db ns fs gs) {b : Nat} (hd : db.length ≤ b) (hf : ∀ f ∈ fs, f.2.length ≤ b) (hg : ∀ f ∈ gs, f.2.length ≤ b) {r : Row} (hr : r ∈ x.rows) : r.2.1 ≤ b := by
  have key : ∀ {v : Value} {dv : List Value} {l : List (Bs × Bs)}, FilesAt w lo v dv l → (∀ f ∈ l, f.2.length ≤ b) → r ∈ dv.map rowOf → r.2.1 ≤ b := by
    intro v dv l hf hl hr
    obtain ⟨y, hy, rfl⟩ := List.mem_map.1 hr
    obtain ⟨i, f, hf1, hf2, e1, e2⟩ := files_row hf hy
    rw [e2]
    exact hl f (List.mem_of_getElem? hf1)
  rcases List.mem_cons.1 hr with rfl | hr
  · have := h.data.1; simp at this; omega
  rcases List.mem_append.1 hr with hr | hr
  · exact key h.now hf hr
  · exact key h.safe hg hr
end
/-- Rows of another type, boxes of another type stand while these rows' blocks are written. -/
theorem own_rows {w w' : World} {ls : List Row} {t e : TypeId} {z s B n : Nat} {v : Value} {xs : List Value} (h : w.ownsRow B e s v n xs) (hk : Kept w w' (Sb ls)) (hl : ∀ r ∈ ls, ∃ b ys, w.ownsRow b t z (rv r) r.2.1 ys) (hne : e ≠ t) : w'.ownsRow B e s v n xs :=
  own_same h fun g hg => by
    obtain ⟨cur, hcur⟩ := own_lt h hg
    refine hk.block g (Array.getElem?_eq_some_iff.1 hcur).1 ?_
    rintro ⟨i, r, hr, hg2⟩
    obtain ⟨b, ys, h2⟩ := hl r (List.mem_of_getElem? hr)
    exact own_types h h2 hne hg hg2
theorem box_rows {w w' : World} {ls : List Row} {t e : TypeId} {z b : Nat} {cs : Array Value} {fr : Nat × Nat} (h : w.heap[b]? = some (.cells cs e fr)) (hk : Kept w w' (Sb ls)) (hl : ∀ r ∈ ls, ∃ b ys, w.ownsRow b t z (rv r) r.2.1 ys) (hne : e ≠ t) : w'.heap[b]? = some (.cells cs e fr) := by
  refine (hk.block b (Array.getElem?_eq_some_iff.1 h).1 ?_).trans h
  rintro ⟨i, r, hr, hg2⟩
  obtain ⟨b2, ys, h2⟩ := hl r (List.mem_of_getElem? hr)
  obtain ⟨cur, hcur⟩ := own_lt h2 hg2
  rw [h] at hcur
  injection hcur with hcur
  injection hcur with _ hcur _
  exact hne hcur
theorem sb_span {ls : List Row} {lo hi k : Nat} (h : Span lo hi ls) (hk : Sb ls k) : lo ≤ k ∧ k < hi := by
  obtain ⟨i, r, hr, hg⟩ := hk
  exact h r (List.mem_of_getElem? hr) k hg
theorem off_span {lo hi lo' hi' : Nat} {r r' : Row} (h : Span lo hi [r]) (h' : Span lo' hi' [r']) (hl : hi ≤ lo') : Off r r' := fun g hg hg' => by
  have := (h r (List.mem_singleton.2 rfl) g hg).2
  have := (h' r' (List.mem_singleton.2 rfl) g hg').1
  omega
theorem off_symm {r r' : Row} (h : Off r r') : Off r' r := fun g hg hg' => h g hg' hg
theorem image_size {D : Dr.D} {m N : Nat} (h : D.Ok m N) : (∀ f ∈ D.image, f.2.length ≤ m) ∧ (∀ f ∈ D.safe, f.2.length ≤ m) ∧ D.image.length ≤ N ∧ D.safe.length ≤ N ∧ (D.now.map (·.1)).length ≤ N ∧ ∀ n, (dataOf D n).length ≤ m := by
  refine ⟨fun f hf => ?_, fun f hf => ?_, by rw [image_len]; exact h.lenN, by rw [safe_len]; have := h.lenK; omega, by rw [List.length_map]; exact h.lenN, fun n => ?_⟩
  · obtain ⟨p, hp, rfl⟩ := mem_files.1 hf
    exact (h.at_ok p.2).2
  · obtain ⟨p, hp, rfl⟩ := mem_files.1 hf
    have := (h.at_ok p.2).2
    simp only [List.length_take]
    omega
  · unfold dataOf
    split
    · exact (h.at_ok _).2
    · simp
/-- An append to a row that lies from B on leaves what lies below it. -/
theorem grown_outer {w w' : World} {B s n : Nat} {e : TypeId} {v : Value} {xs : List Value} (h : w.ownsRow B e s v n xs) (hg : w.grownBy w' v.ownBlock) (hB : B ≤ w.heap.size) : Below B w w' :=
  (Below.refl B w).grown hg hB fun k hk => own_ge h hk
theorem rows_form {w : World} {B : Nat} {x : Av4} {db : Bs} {ns : List Bs} {fs gs : List (Bs × Bs)} (h : Says w B x db ns fs gs) (hfm : fs.length ≤ 1099511627776) (hgm : gs.length ≤ 1099511627776) {n : Nat} (hn : x.rows.length = n) :
    Calls Try.prog 44 #[x.val] w fun e w' => ∃ R c, e = .returned (.slice R n c) ∧ w'.ownsRow w.heap.size 35 1 (.slice R n c) n (x.rows.map rv) ∧ Below w.heap.size w w' := by
  subst hn
  refine (rows_any h hfm hgm).mono ?_
  rintro e w' ⟨v, rfl, hr, hb⟩
  obtain ⟨R, c, rfl, _, _⟩ := own_form hr
  exact ⟨R, c, rfl, hr, hb⟩
theorem rows_len {w : World} {B : Nat} {x : Av4} {db : Bs} {ns : List Bs} {fs gs : List (Bs × Bs)} (h : Says w B x db ns fs gs) : x.rows.length = 1 + fs.length + gs.length := by
  unfold Av4.rows
  simp [h.now.len, h.safe.len]; omega
theorem rv_one (l : List Row) : ∀ u ∈ l.map rv, u.oneCell' = true := by
  intro u hu
  obtain ⟨r, _, rfl⟩ := List.mem_map.1 hu
  rfl
/-- A list's own block is none of its rows'. -/
theorem outer_off {w : World} {b k c : Nat} {t1 t : TypeId} {z : Nat} {A : Option Addr} {xs : List Value} {ls : List Row} (h : w.ownsRow b t1 1 (.slice A k c) k xs) (hl : ∀ r ∈ ls, ∃ b ys, w.ownsRow b t z (rv r) r.2.1 ys) (hne : t1 ≠ t) : ∀ ad, A = some ad → ¬ Sb ls ad.block := by
  rintro ad rfl ⟨i, r, hr, hg⟩
  obtain ⟨b2, ys, h2⟩ := hl r (List.mem_of_getElem? hr)
  exact own_types h h2 hne (g := ad.block) rfl hg
/-- Answers a, b that were told ahead of the acts, c behind them: their blocks. -/
def Tz (a b c d k : Nat) : Prop := (a ≤ k ∧ k < b) ∨ (c ≤ k ∧ k < d)
theorem span_tz {ls : List Row} {a b c d lo hi : Nat} (h : Span lo hi ls) (h1 : (a ≤ lo ∧ hi ≤ b) ∨ (c ≤ lo ∧ hi ≤ d)) : ∀ r ∈ ls, ∀ g, (rv r).ownBlock = some g → Tz a b c d g := by
  intro r hr g hg
  have := h r hr g hg
  unfold Tz
  omega
theorem sb_tz {ls : List Row} {a b c d k : Nat} (h : ∀ r ∈ ls, ∀ g, (rv r).ownBlock = some g → Tz a b c d g) (hk : Sb ls k) : Tz a b c d k := by
  obtain ⟨i, r, hr, hg⟩ := hk
  exact h r (List.mem_of_getElem? hr) k hg
theorem box_cell {w : World} {b : Nat} {x0 x1 x2 x3 : Value} {t : TypeId} {fr : Nat × Nat} (h : w.heap[b]? = some (.cells #[x0, x1, x2, x3] t fr)) : w.cell? ⟨b, 0, none⟩ = some x0 ∧ w.cell? ⟨b, 1, none⟩ = some x1 ∧ w.cell? ⟨b, 2, none⟩ = some x2 ∧ w.cell? ⟨b, 3, none⟩ = some x3 :=
  ⟨by rw [cell_of_row w b _ _ _ _ h]; rfl, by rw [cell_of_row w b _ _ _ _ h]; rfl, by rw [cell_of_row w b _ _ _ _ h]; rfl, by rw [cell_of_row w b _ _ _ _ h]; rfl⟩
theorem kept_to {w w' : World} {S T : Nat → Prop} (h : Kept w w' S) (hs : ∀ k, S k → T k) : Kept w w' T := h.mono hs
/-- Three lists of names, handed in together. -/
theorem names3 {w : World} {a1 a2 a3 : Option Addr} {n1 c1 n2 c2 n3 c3 : Nat} (h1 : ∃ b ys, w.ownsRow b 9 1 (.slice a1 n1 c1) n1 ys) (h2 : ∃ b ys, w.ownsRow b 9 1 (.slice a2 n2 c2) n2 ys) (h3 : ∃ b ys, w.ownsRow b 9 1 (.slice a3 n3 c3) n3 ys)
    (ho : List.Pairwise Off [(a1, n1, c1), (a2, n2, c2), (a3, n3, c3)]) (m1 : n1 ≤ 17592186044) (m2 : n2 ≤ 17592186044) (m3 : n3 ≤ 17592186044) :
    Calls Try.prog 46 #[.slice (some ⟨w.heap.size, 0, none⟩) 3 3] (w.alloc (.cells #[.slice a1 n1 c1, .slice a2 n2 c2, .slice a3 n3 c3] 36)) fun e w' => e = .returned (.bool true) ∧ Kept w w' (Sb [(a1, n1, c1), (a2, n2, c2), (a3, n3, c3)]) := by
  have hall : ∀ r ∈ [(a1, n1, c1), (a2, n2, c2), (a3, n3, c3)], (∃ b ys, w.ownsRow b 9 1 (rv r) r.2.1 ys) ∧ r.2.1 ≤ 17592186044 := by
    intro r hr
    simp only [List.mem_cons, List.not_mem_nil, or_false] at hr
    rcases hr with rfl | rfl | rfl
    · exact ⟨h1, m1⟩
    · exact ⟨h2, m2⟩
    · exact ⟨h3, m3⟩
  have hal := (Below.refl w.heap.size w).alloc (Nat.le_refl _) (.cells #[.slice a1 n1 c1, .slice a2 n2 c2, .slice a3 n3 c3] 36)
  have hrow := World.ownsRow_lit (base := 0) (e := 36) (size := 1) w #[.slice a1 n1 c1, .slice a2 n2 c2, .slice a3 n3 c3] 3 (Nat.zero_le _) (by unfold maxLen; decide) rfl
  have hown : ∀ r ∈ [(a1, n1, c1), (a2, n2, c2), (a3, n3, c3)], ∃ b ys, (w.alloc (.cells #[.slice a1 n1 c1, .slice a2 n2 c2, .slice a3 n3 c3] 36)).ownsRow b 9 1 (rv r) r.2.1 ys := fun r hr => by
    obtain ⟨b, ys, h⟩ := (hall r hr).1
    exact ⟨b, ys, own_below h hal⟩
  refine (names_any (some ⟨w.heap.size, 0, none⟩) 3 3 [(a1, n1, c1), (a2, n2, c2), (a3, n3, c3)] rfl (by decide) (fun i r hr => (hall r (List.mem_of_getElem? hr)).2) 0 _ (Nat.zero_le _) (Rd.of_own (c := 3) hrow) (outer_off (c := 3) hrow hown (by decide)) (apart_of ho) (fun i r hr => ?_)).mono ?_
  · obtain ⟨b, ys, h⟩ := hown r (List.mem_of_getElem? hr)
    exact ⟨ys, own_base h (Nat.zero_le _)⟩
  · rintro e w' ⟨rfl, hk⟩
    exact ⟨rfl, (Kept.of_below _ hal).trans hk fun k hk => .inl hk⟩
theorem names_own {w : World} {r1 r2 r3 : Row} (h1 : ∃ b ys, w.ownsRow b 9 1 (rv r1) r1.2.1 ys) (h2 : ∃ b ys, w.ownsRow b 9 1 (rv r2) r2.2.1 ys) (h3 : ∃ b ys, w.ownsRow b 9 1 (rv r3) r3.2.1 ys) :
    ∀ r ∈ [r1, r2, r3], ∃ b ys, w.ownsRow b 9 1 (rv r) r.2.1 ys := by
  intro r hr
  simp only [List.mem_cons, List.not_mem_nil, or_false] at hr
  rcases hr with rfl | rfl | rfl
  · exact h1
  · exact h2
  · exact h3
/-- Six lists of files, handed in together. -/
theorem files6 {w : World} {a1 a2 a3 a4 a5 a6 : Option Addr} {n1 c1 n2 c2 n3 c3 n4 c4 n5 c5 n6 c6 : Nat} (h1 : ∃ b ys, w.ownsRow b tFile 2 (.slice a1 n1 c1) n1 ys) (h2 : ∃ b ys, w.ownsRow b tFile 2 (.slice a2 n2 c2) n2 ys) (h3 : ∃ b ys, w.ownsRow b tFile 2 (.slice a3 n3 c3) n3 ys)
    (h4 : ∃ b ys, w.ownsRow b tFile 2 (.slice a4 n4 c4) n4 ys) (h5 : ∃ b ys, w.ownsRow b tFile 2 (.slice a5 n5 c5) n5 ys) (h6 : ∃ b ys, w.ownsRow b tFile 2 (.slice a6 n6 c6) n6 ys)
    (ho : List.Pairwise Off [(a1, n1, c1), (a2, n2, c2), (a3, n3, c3), (a4, n4, c4), (a5, n5, c5), (a6, n6, c6)]) (m1 : n1 ≤ 17592186044) (m2 : n2 ≤ 17592186044) (m3 : n3 ≤ 17592186044) (m4 : n4 ≤ 17592186044) (m5 : n5 ≤ 17592186044) (m6 : n6 ≤ 17592186044) :
    Calls Try.prog 47 #[.slice (some ⟨w.heap.size, 0, none⟩) 6 6] (w.alloc (.cells #[.slice a1 n1 c1, .slice a2 n2 c2, .slice a3 n3 c3, .slice a4 n4 c4, .slice a5 n5 c5, .slice a6 n6 c6] 22)) fun e w' =>
      e = .returned (.bool true) ∧ Kept w w' (Sb [(a1, n1, c1), (a2, n2, c2), (a3, n3, c3), (a4, n4, c4), (a5, n5, c5), (a6, n6, c6)]) := by
  have hall : ∀ r ∈ [(a1, n1, c1), (a2, n2, c2), (a3, n3, c3), (a4, n4, c4), (a5, n5, c5), (a6, n6, c6)], (∃ b ys, w.ownsRow b tFile 2 (rv r) r.2.1 ys) ∧ r.2.1 ≤ 17592186044 := by
    intro r hr
    simp only [List.mem_cons, List.not_mem_nil, or_false] at hr
    rcases hr with rfl | rfl | rfl | rfl | rfl | rfl
    · exact ⟨h1, m1⟩
    · exact ⟨h2, m2⟩
    · exact ⟨h3, m3⟩
    · exact ⟨h4, m4⟩
    · exact ⟨h5, m5⟩
    · exact ⟨h6, m6⟩
  have hal := (Below.refl w.heap.size w).alloc (Nat.le_refl _) (.cells #[.slice a1 n1 c1, .slice a2 n2 c2, .slice a3 n3 c3, .slice a4 n4 c4, .slice a5 n5 c5, .slice a6 n6 c6] 22)
  have hrow := World.ownsRow_lit (base := 0) (e := 22) (size := 1) w #[.slice a1 n1 c1, .slice a2 n2 c2, .slice a3 n3 c3, .slice a4 n4 c4, .slice a5 n5 c5, .slice a6 n6 c6] 6 (Nat.zero_le _) (by unfold maxLen; decide) rfl
  have hown : ∀ r ∈ [(a1, n1, c1), (a2, n2, c2), (a3, n3, c3), (a4, n4, c4), (a5, n5, c5), (a6, n6, c6)], ∃ b ys, (w.alloc (.cells #[.slice a1 n1 c1, .slice a2 n2 c2, .slice a3 n3 c3, .slice a4 n4 c4, .slice a5 n5 c5, .slice a6 n6 c6] 22)).ownsRow b tFile 2 (rv r) r.2.1 ys := fun r hr => by
    obtain ⟨b, ys, h⟩ := (hall r hr).1
    exact ⟨b, ys, own_below h hal⟩
  refine (files_any (some ⟨w.heap.size, 0, none⟩) 6 6 [(a1, n1, c1), (a2, n2, c2), (a3, n3, c3), (a4, n4, c4), (a5, n5, c5), (a6, n6, c6)] rfl (by decide) (fun i r hr => (hall r (List.mem_of_getElem? hr)).2) 0 _ (Nat.zero_le _) (Rd.of_own (c := 6) hrow) (outer_off (c := 6) hrow hown (by decide)) (apart_of ho) (fun i r hr => ?_)).mono ?_
  · obtain ⟨b, ys, h⟩ := hown r (List.mem_of_getElem? hr)
    exact ⟨ys, own_base h (Nat.zero_le _)⟩
  · rintro e w' ⟨rfl, hk⟩
    exact ⟨rfl, (Kept.of_below _ hal).trans hk fun k hk => .inl hk⟩
theorem Says.f_own {w : World} {B : Nat} {x : Av4} {db : Bs} {ns : List Bs} {fs gs : List (Bs × Bs)} (h : Says w B x db ns fs gs) : ∃ b ys, w.ownsRow b tFile 2 (rv x.f) x.f.2.1 ys := by
  rw [h.lenF]; exact ⟨_, _, h.now.row⟩
theorem Says.g_own {w : World} {B : Nat} {x : Av4} {db : Bs} {ns : List Bs} {fs gs : List (Bs × Bs)} (h : Says w B x db ns fs gs) : ∃ b ys, w.ownsRow b tFile 2 (rv x.g) x.g.2.1 ys := by
  rw [h.lenG]; exact ⟨_, _, h.safe.row⟩
theorem Says.l_own {w : World} {B : Nat} {x : Av4} {db : Bs} {ns : List Bs} {fs gs : List (Bs × Bs)} (h : Says w B x db ns fs gs) : ∃ b ys, w.ownsRow b 9 1 (rv x.l) x.l.2.1 ys := ⟨_, _, h.names⟩
theorem In.l {lo hi : Nat} {x : Av4} (h : In lo hi x) : Span lo hi [x.l] := fun r hr => h.rest r (by obtain rfl := List.mem_singleton.1 hr; simp)
theorem In.f {lo hi : Nat} {x : Av4} (h : In lo hi x) : Span lo hi [x.f] := fun r hr => h.rest r (by obtain rfl := List.mem_singleton.1 hr; simp)
theorem In.g {lo hi : Nat} {x : Av4} (h : In lo hi x) : Span lo hi [x.g] := fun r hr => h.rest r (by obtain rfl := List.mem_singleton.1 hr; simp)
end Go.Proofs.Ytelgcmcnebncmaa.Ap
