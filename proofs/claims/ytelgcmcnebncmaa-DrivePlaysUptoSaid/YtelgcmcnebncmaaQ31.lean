/- XRf11: merged by tools/merge.py. -/
import Derived.Test.YtelgcmcnebncmaaQ29
import Derived.Test.YtelgcmcnebncmaaQ30
namespace Go.Proofs.Ytelgcmcnebncmaa.Dr
set_option linter.unusedVariables false
open Go.RowKit Go.Proofs Go.Proofs.Ytelgcmcnebncmaa.Ring

theorem grown_keep {w w' : World} {b b' size size' n n' : Nat} {e e' : TypeId} {v v' : Value} {xs xs' : List Value} (h : w.ownsRow b e size v n xs) (h' : w.ownsRow b' e' size' v' n' xs') (he : e ≠ e') (hg : w.grownBy w' v'.ownBlock) : w'.ownsRow b e size v n xs := by
  refine own_same h fun k hk => ?_
  obtain ⟨cur, h1⟩ := own_lt h hk
  exact hg.block k (Array.getElem?_eq_some_iff.1 h1).1 fun e2 => typ_of h' e2.symm he cur h1
/-- The rows that a loss of power makes. -/
structure CrAt (w : World) (V : Nat) (vb vn : Value) (bl : List Bd) (ds : List Value) (nl : Ents) : Prop where
  bod : w.ownsRow V tBd 2 vb bl.length (cB bl ds)
  dl : ds.length = bl.length
  dat : ∀ (i : Nat) b v, bl[i]? = some b → ds[i]? = some v → w.ownsRow V tU8 1 v b.data.length (cU8 b.data)
  now : EntAt w V vn nl
section
variable {w w' : World} {V : Nat} {vb vn : Value} {bl : List Bd} {ds : List Value} {nl : Ents}
theorem CrAt.below (h : CrAt w V vb vn bl ds nl) (hb : Below w.heap.size w w') : CrAt w' V vb vn bl ds nl :=
  ⟨own_below h.bod hb, h.dl, fun i b v h1 h2 => own_below (h.dat i b v h1 h2) hb, own_below h.now hb⟩
theorem CrAt.addB (h : CrAt w V vb vn bl ds nl) {b : Bd} {x v2 : Value} (hx : w.ownsRow V tU8 1 x b.data.length (cU8 b.data)) (hg : w.grownBy w' vb.ownBlock) (ho : w'.ownsRow V tBd 2 v2 (bl.length + 1) (cB bl ds ++ [x, .int .i64 (b.safe : Int)])) : CrAt w' V v2 vn (bl ++ [b]) (ds ++ [x]) nl := by
  refine ⟨by rw [List.length_append, cB_append _ _ h.dl]; exact ho, by simp [h.dl], fun i b' v' hb' hv' => ?_, grown_keep h.now h.bod (by decide) hg⟩
  rcases Nat.lt_or_ge i bl.length with hlt | hge
  · rw [List.getElem?_append_left hlt] at hb'
    rw [List.getElem?_append_left (by rw [h.dl]; exact hlt)] at hv'
    exact grown_keep (h.dat i b' v' hb' hv') h.bod (by decide) hg
  · have hil := (List.getElem?_eq_some_iff.1 hb').1
    obtain rfl : i = bl.length := by simp at hil; omega
    rw [List.getElem?_append_right (Nat.le_refl _)] at hb'
    rw [List.getElem?_append_right (by rw [h.dl]; exact Nat.le_refl _)] at hv'
    simp at hb'
    simp [h.dl] at hv'
    subst hb' hv'
    exact grown_keep hx h.bod (by decide) hg
theorem CrAt.addN (h : CrAt w V vb vn bl ds nl) {p : Bs × Int} {v2 : Value} (hg : w.grownBy w' vn.ownBlock) (ho : w'.ownsRow V tEnt 2 v2 (nl.length + 1) (cE nl ++ [encStr p.1, .int .i64 p.2])) : CrAt w' V vb v2 bl ds (nl ++ [p]) := by
  refine ⟨grown_keep h.bod h.now (by decide) hg, h.dl, fun i b v h1 h2 => grown_keep (h.dat i b v h1 h2) h.now (by decide) hg, ?_⟩
  unfold EntAt
  rw [List.length_append, cE_append]
  exact ho
end
theorem keep_next {l : Dir} {P : List (List (Bs × Option Nat))} {c : List (Bs × Option Nat)} {i : Nat} (hc : P[i]? = some c) (b : List Bool) :
    keepSome l (P.take (i + 1)) b = if b.getD i false = true then apply (keepSome l (P.take i) b) c else keepSome l (P.take i) b := by
  rw [take_snoc_f hc, keep_append]
  have hl : (P.take i).length = i := by have := (List.getElem?_eq_some_iff.1 hc).1; simp; omega
  rw [hl]
  rcases Nat.lt_or_ge i b.length with h | h
  · rw [List.drop_eq_getElem_cons h, List.getD_eq_getElem?_getD, List.getElem?_eq_getElem h]
    show keepSome (if b[i] = true then apply (keepSome l (P.take i) b) c else keepSome l (P.take i) b) [] (b.drop (i + 1)) = _
    rw [keep_nil]
    rfl
  · rw [List.drop_eq_nil_of_le h, List.getD_eq_getElem?_getD, List.getElem?_eq_none h]
    rw [keep_none]
    rfl
/-- The bodies, the names behind a loss of power, up to a place. -/
def crB (D : Dr.D) (k : Dir) (cuts : List Int) (j : Nat) : List Bd := ((k.zipIdx.map fun p => (D.at p.1.2).left (cuts.getD p.2 0)) : List Bd).take j
def crN (k : Dir) (j : Nat) : Dir := (places k).take j
theorem crB_next {D : Dr.D} {k : Dir} {cuts : List Int} {j : Nat} {p : Bs × Nat} (hp : k[j]? = some p) : crB D k cuts (j + 1) = crB D k cuts j ++ [(D.at p.2).left (cuts.getD j 0)] := by
  unfold crB
  refine take_snoc_f ?_
  rw [List.getElem?_map, List.getElem?_zipIdx, hp]
  simp
theorem crN_next {k : Dir} {j : Nat} {p : Bs × Nat} (hp : k[j]? = some p) : crN k (j + 1) = crN k j ++ [(p.1, j)] := by
  unfold crN
  refine take_snoc_f ?_
  rw [places_at, hp]
  rfl
theorem crB_len {D : Dr.D} {k : Dir} {cuts : List Int} {j : Nat} (hj : j ≤ k.length) : (crB D k cuts j).length = j := by unfold crB; simp; omega
theorem crN_len {k : Dir} {j : Nat} (hj : j ≤ k.length) : (crN k j).length = j := by unfold crN; rw [List.length_take, places_len]; omega
section
variable {w : World} {S : Nat → Prop} {r m N : Nat} {D : Dr.D}
set_option maxRecDepth 100000 in
set_option maxHeartbeats 16000000 in
theorem rcrash_any (h : Rv w S r D m N) (hm : m ≤ 140737488355328) (hN : N ≤ 1099511627776) {Ad Ac : Option Addr} {nd cd nc cc : Nat} {dirs : List Bool} {cuts : List Int}
    (hd : Rd w w.heap.size 1 Ad nd (cBool dirs)) (hc : Rd w w.heap.size 1 Ac nc (cInt cuts)) (hcb : ∀ x ∈ cuts, -9223372036854775808 ≤ x ∧ x ≤ 9223372036854775807) :
    Calls Try.prog 15 #[.pointer (some ⟨r, 0, none⟩), .agg #[.slice Ad nd cd, .slice Ac nc cc]] w fun x w' => x = .returned (.int .i64 0) ∧ Rturn w w' S r (D.crash dirs cuts) m N := by
  have hok := h.1.crash dirs cuts
  have hki := keep_in h.1 dirs
  have hkl := h.1.lenK
  obtain ⟨b0, hb0, hz0, hz1, hz2⟩ := info_parts infoBd
  obtain ⟨e0, he0, hy0, hy1, hy2⟩ := info_parts infoEnt
  have hdl : dirs.length = nd := by simpa using hd.1
  have hcl : cuts.length = nc := by simpa using hc.1
  have HDL := Lib.hid hdl
  have HCL := Lib.hid hcl
  have HCB := Lib.hid hcb
  have HOK := Lib.hid hok
  have HKI := Lib.hid hki
  have HDM := Lib.hid (fun i => h.1.at_ok i)
  have HRK := Lib.hid h.1
  obtain ⟨V, hV⟩ : ∃ V, w.heap.size = V := ⟨_, rfl⟩
  have HW := Lib.hid h
  have HD0 := Lib.hid hd
  have HC0 := Lib.hid hc
  clear hdl hcl hcb hok hki h hd hc
  go_enter Try.func15, Try.ntmps15
  go_upto_region 1 with (fail)
  obtain ⟨wB, hwB⟩ : ∃ wB, w.alloc (.cells #[.slice Ad nd cd, .slice Ac nc cc] 29) = wB := ⟨_, rfl⟩
  have hbB : Below w.heap.size w wB := by rw [← hwB]; exact (Below.refl _ _).alloc (Nat.le_refl _) _
  have hbx : wB.heap[V]? = some (.cells #[.slice Ad nd cd, .slice Ac nc cc] 29 (0, 0)) := by rw [← hwB, ← hV]; exact heap_alloc_new w _
  have hsB : wB.heap.size = V + 1 := by rw [← hwB, ← hV]; simp
  rw [hwB]
  have HBB := Lib.hid hbB
  have HBX := Lib.hid hbx
  have HSB := Lib.hid hsB
  have HV := Lib.hid hV
  obtain ⟨ho, hbn, vb, vn, vk, vc, ds, cs, hA⟩ := HW.out.below hbB
  obtain ⟨Ab, cb, An, cn, Ak, ck, Ap, cp, rfl, rfl, rfl, rfl⟩ := hA.open
  obtain ⟨_, _, _, x3, _⟩ := rcells hA.head
  have HA := Lib.hid hA
  have HHA := Lib.hid (fun (wr : World) (hb : Below wB.heap.size wB wr) => hA.below hb)
  have HFT := Lib.hid (show ∀ wr, Below wB.heap.size wB wr → wr.cell? ⟨V, 0, none⟩ = some (.slice Ad nd cd) ∧ wr.cell? ⟨V, 1, none⟩ = some (.slice Ac nc cc) from fun wr hb =>
    ⟨(hb.cell (p := ⟨V, 0, none⟩) (by show V < wB.heap.size; omega)).trans (by rw [cell_of_row wB V _ _ _ _ hbx]; rfl), (hb.cell (p := ⟨V, 1, none⟩) (by show V < wB.heap.size; omega)).trans (by rw [cell_of_row wB V _ _ _ _ hbx]; rfl)⟩)
  have HDD := Lib.hid (show ∀ wr, Below wB.heap.size wB wr → Rd wr wB.heap.size 1 Ad nd (cBool dirs) from fun wr hb => (HD0.out.next hbB).below hb)
  have HCC := Lib.hid (show ∀ wr, Below wB.heap.size wB wr → Rd wr wB.heap.size 1 Ac nc (cInt cuts) from fun wr hb => (HC0.out.next hbB).below hb)
  clear hwB hbB hbx hsB hV hA ho
  go_upto_region 5 with (fail)
  clear x3
  go_loopw [5, 6] (fun dv iv wr => ∃ (i : Nat) (Aq : Option Addr) (cq : Nat), iv = .int .i64 (i : Int) ∧ dv = .slice Aq (keepSome D.kept (D.pend.take i) dirs).length cq ∧ i ≤ D.pend.length ∧ EntAt wr 0 (.slice Aq (keepSome D.kept (D.pend.take i) dirs).length cq) (dirE (keepSome D.kept (D.pend.take i) dirs)) ∧ Below wB.heap.size wB wr) (fun _ iv _ => D.pend.length - (intOf iv).toNat)
  case atStart => exact ⟨0, Ak, ck, rfl, by rw [List.take_zero, keep_nil], by omega, by rw [List.take_zero, keep_nil]; exact HA.out.kept, Below.refl _ _⟩
  case round =>
    obtain ⟨i, Aq, cq, rfl, rfl, hi, hrow, hb⟩ := hrel
    have hA := HHA.out wr hb
    obtain ⟨_, _, _, _, x4⟩ := rcells hA.head
    obtain ⟨f0, f1⟩ := HFT.out wr hb
    by_cases hlt : i < D.pend.length
    · obtain ⟨c, hcc⟩ : ∃ c, D.pend[i]? = some c := ⟨_, List.getElem?_eq_getElem hlt⟩
      obtain ⟨v, hv⟩ : ∃ v, cs[i]? = some v := ⟨_, List.getElem?_eq_getElem (by have := hA.chg.1; omega)⟩
      have hlt2 : (i : Int) < (D.pend.length : Int) := by omega
      have hnx := keep_next (l := D.kept) hcc dirs
      have hri : Rise (keepSome D.kept (D.pend.take i) dirs) := (keep_ok (D.pend.take i) dirs HRK.out.kept (fun p hp => ⟨HRK.out.inK p hp, HRK.out.namK p hp⟩) (fun c hc => HRK.out.inP c (List.mem_of_mem_take hc))).1
      have hll := len_keep (D.pend.take i) dirs D.kept (fun c hc => HRK.out.oneP c (List.mem_of_mem_take hc))
      rw [List.length_take] at hll
      have HONE := Lib.hid (HRK.out.oneP c (List.mem_of_getElem? hcc))
      by_cases hin : i < nd
      · have hin2 : (i : Int) < (nd : Int) := by omega
        have hin3 : decide ((i : Int) < (nd : Int)) = true := decide_eq_true hin2
        obtain ⟨bb, hbb⟩ : ∃ bb, dirs[i]? = some bb := ⟨_, List.getElem?_eq_getElem (by have := HDL.out; omega)⟩
        obtain ⟨ad, rfl, hadb, hadc⟩ := (HDD.out wr hb).2 (by omega)
        have d0 : wr.cell? (ad.add i) = some (.bool bb) := hadc i _ (by simp [cBool, hbb])
        have hgd : dirs.getD i false = bb := by rw [List.getD_eq_getElem?_getD, hbb]; rfl
        rw [hgd] at hnx
        cases bb with
        | true =>
          rw [if_pos rfl] at hnx
          obtain ⟨gp, rfl⟩ := own_some hA.chg (by omega)
          have hrv := hA.each i c v hcc hv
          obtain ⟨Ax, cx, rfl⟩ := hrv.form
          rw [chgE_len] at hrv hv
          have p0 : wr.cell? ⟨gp, i, none⟩ = some (.slice Ax c.length cx) := own_cell hA.chg (k := i) hlt hv
          have HNX := Lib.hid hnx
          have HROW := Lib.hid hrow
          have HB := Lib.hid hb
          have HRV := Lib.hid hrv
          have HMD := Lib.hid (madeE_dir c hri)
          have HLL := Lib.hid hll
          have HRI := Lib.hid hri
          clear hnx hrow hb hrv hA hcc hv hri hll hbb hgd hadc hadb
          go_wp2_with (go_at_call 83; go_loud (refine (rmade_any (dirE_len _).symm HROW.out (chgE_len _).symm HRV.out (len_made_dir HRI.out c HONE.out (by have := HLL.out; omega)) HMD.out).mono ?_); rintro y w1 ⟨A1, c1, rfl, hrow1, hb1, _⟩; have HROW1 := Lib.hid hrow1; have HB1 := Lib.hid hb1; clear hrow1 hb1)
          go_roundw
          case rel =>
            have h9 := HROW1.out
            rw [dirE_len] at h9
            exact ⟨i + 1, A1, c1, by go_num, by rw [HNX.out, dirE_len], by omega, by rw [HNX.out]; exact h9, HB.out.trans (HB1.out.mono HB.out.size)⟩
          case measure => simp [intOf]; omega
        | false =>
          rw [if_neg (by simp)] at hnx
          have HNX := Lib.hid hnx
          have HROW := Lib.hid hrow
          have HB := Lib.hid hb
          clear hnx hrow hb hA hcc hv hri hll hbb hgd hadc hadb
          go_wp2
          go_roundw
          case rel => exact ⟨i + 1, Aq, cq, by go_num, by rw [HNX.out], by omega, by rw [HNX.out]; exact HROW.out, HB.out⟩
          case measure => simp [intOf]; omega
      · have hin2 : ¬ (i : Int) < (nd : Int) := by omega
        have hin3 : decide ((i : Int) < (nd : Int)) = false := decide_eq_false hin2
        have hgd : dirs.getD i false = false := by rw [List.getD_eq_getElem?_getD, List.getElem?_eq_none (by have := HDL.out; omega)]; rfl
        rw [hgd, if_neg (by simp)] at hnx
        have HNX := Lib.hid hnx
        have HROW := Lib.hid hrow
        have HB := Lib.hid hb
        clear hnx hrow hb hA hcc hv hri hll hgd
        go_wp2
        go_roundw
        case rel => exact ⟨i + 1, Aq, cq, by go_num, by rw [HNX.out], by omega, by rw [HNX.out]; exact HROW.out, HB.out⟩
        case measure => simp [intOf]; omega
    · obtain rfl : i = D.pend.length := by omega
      rw [List.take_length] at hrow ⊢
      obtain ⟨k, hk⟩ : ∃ k, keepSome D.kept D.pend dirs = k := ⟨_, rfl⟩
      have hki := HKI.out
      rw [hk] at hrow hki ⊢
      obtain ⟨hkr, hkin, hkl2⟩ := hki
      have hk5 : k.length ≤ N := Nat.le_trans hkl2 hkl
      have HKR := Lib.hid hkr
      have HKIN := Lib.hid hkin
      have HROWK := Lib.hid hrow
      have HKEQ := Lib.hid hk
      obtain ⟨w2, hw2⟩ : ∃ w2, w2 = wr := ⟨_, rfl⟩
      rw [← hw2] at hb hrow HROWK x4 ⊢
      have HB2 := Lib.hid hb
      obtain ⟨V2, hV2⟩ : ∃ V2, w2.heap.size = V2 := ⟨_, rfl⟩
      have HV2 := Lib.hid hV2
      have HKK := Lib.hid (show ∀ wx, Below w2.heap.size w2 wx → EntAt wx 0 (.slice Aq k.length cq) (dirE k) from fun wx hx => own_below hrow hx)
      have HBW := Lib.hid (show ∀ wx, Below w2.heap.size w2 wx → Below wB.heap.size wB wx from fun wx hx => hb.trans (hx.mono hb.size))
      rw [hV2] at HKK HBW
      clear hw2 hrow hb hA f0 f1 hk hkr hkin hkl2 hV2 hlt
      go_upto_region 12 with (fail)
      clear x4
      go_loopw [7, 8, 9] (fun bv nv jv wx => ∃ (j : Nat) (ds2 : List Value), jv = .int .i64 (j : Int) ∧ j ≤ k.length ∧ CrAt wx V2 bv nv (crB D k cuts j) ds2 (dirE (crN k j)) ∧ Below V2 w2 wx) (fun _ _ jv _ => k.length - (intOf jv).toNat)
      case atStart => exact ⟨0, [], rfl, by omega, ⟨World.ownsRow_nil _ _ _ _, rfl, fun i b v h => (by cases h), World.ownsRow_nil _ _ _ _⟩, Below.refl _ _⟩
      case round =>
        obtain ⟨j, ds2, rfl, hj, hcr, hbx⟩ := hrel
        have hA := HHA.out wr (HBW.out wr hbx)
        by_cases hlt : j < k.length
        · obtain ⟨_, x1, _, _, _⟩ := rcells hA.head
          obtain ⟨f0, f1⟩ := HFT.out wr (HBW.out wr hbx)
          obtain ⟨p, hp⟩ : ∃ p, k[j]? = some p := ⟨_, List.getElem?_eq_getElem hlt⟩
          obtain ⟨gk, rfl, hgk, _, q0, q1⟩ := ent_cells (HKK.out wr hbx) (dirE_at hp)
          have hpl : p.2 < D.bd.length := HKIN.out p (List.mem_of_getElem? hp)
          obtain ⟨_, gb, cb', Av, cv, hvb, _, hrow, c0, c1, _, _⟩ := hA.body hpl
          injection hvb with hvb _ hcb
          subst hvb hcb
          have hlt2 : (j : Int) < (k.length : Int) := by omega
          have hpl2 : (p.2 : Int) < (D.bd.length : Int) := by omega
          dsimp only at q0 q1
          obtain ⟨hsf, hpm⟩ := HDM.out p.2
          have hgb : gb < wr.heap.size := hA.low gb (hA.inB gb rfl)
          have hrl : r < wr.heap.size := hA.low r hA.inR
          have HKEEP := Lib.hid (show ∀ wx, Below wr.heap.size wr wx → wx.cell? ⟨r, 1, none⟩ = some (.slice (some ⟨gb, 0, none⟩) D.bd.length cb) ∧ wx.cell? ⟨gk, j * 2 + 1, none⟩ = some (.int .i64 (p.2 : Int)) ∧ wx.cell? ⟨gb, p.2 * 2, none⟩ = some (.slice Av (D.at p.2).data.length cv) ∧ wx.cell? ⟨gb, p.2 * 2 + 1, none⟩ = some (.int .i64 ((D.at p.2).safe : Int)) from fun wx hx =>
            ⟨(hx.cell (p := ⟨r, 1, none⟩) hrl).trans x1, (hx.cell (p := ⟨gk, j * 2 + 1, none⟩) hgk).trans q1, (hx.cell (p := ⟨gb, p.2 * 2, none⟩) hgb).trans c0, (hx.cell (p := ⟨gb, p.2 * 2 + 1, none⟩) hgb).trans c1⟩)
          have HS14 := Lib.hid (HKEEP.out wr.drew (Below.refl _ _).drew)
          have HROW := Lib.hid hrow
          have HNL := Lib.hid (own_none hrow)
          have HCR0 := Lib.hid hcr
          have HBX2 := Lib.hid hbx
          have HP := Lib.hid hp
          have HVB0 := Lib.hid (show V2 ≤ wr.heap.size from by have := hbx.size; have := HV2.out; omega)
          clear hrow hcr hbx hp hA c0 c1 hgk hgb hrl x1 q1 f0 f1
          go_upto_region 14 with (fail)
          refine wp_region_any (by kernel_rfl) ?_
          change wpAny _ _ _ _ _ _ _ (World.drew _)
          refine wpAny_of_P (S := fun w' => w'.cell? ⟨r, 1, none⟩ = some (.slice (some ⟨gb, 0, none⟩) D.bd.length cb) ∧ w'.cell? ⟨gk, j * 2 + 1, none⟩ = some (.int .i64 (p.2 : Int)) ∧ w'.cell? ⟨gb, p.2 * 2, none⟩ = some (.slice Av (D.at p.2).data.length cv) ∧ w'.cell? ⟨gb, p.2 * 2 + 1, none⟩ = some (.int .i64 ((D.at p.2).safe : Int))) (late := [12]) _ _ _ _ ?_
          refine takeT (i := 0) (v := ?_) rfl (by kernel_rfl) (by kernel_rfl) (by kernel_rfl) (by kernel_rfl) (fun _ _ _ h => h) (HS14.out) (.inl ⟨by rfl, fun w => .inl ?hy0⟩) ?_; case hy0 => (go_simp; try with_reducible rfl)
          try go_frame
          refine takeT (i := 1) (v := ?_) rfl (by kernel_rfl) (by kernel_rfl) (by kernel_rfl) (by kernel_rfl) (fun _ _ _ h => h) (HS14.out) (.inl ⟨by rfl, fun w => .inl ?hy1⟩) ?_; case hy1 => (go_simp; try with_reducible rfl)
          try go_frame
          refine takeT (i := 2) (v := ?_) rfl (by kernel_rfl) (by kernel_rfl) (by kernel_rfl) (by kernel_rfl) (fun _ _ _ h => h) (HS14.out) (.inl ⟨by rfl, fun w => .inl ?hy2⟩) ?_; case hy2 => (go_simp; try with_reducible rfl)
          try go_frame
          refine takePT 8 (i := 3) (v := ?_) rfl (by kernel_rfl) (by kernel_rfl) (by kernel_rfl) (by kernel_rfl) (by kernel_rfl) (by kernel_rfl) (fun _ _ _ h => h) (HS14.out) (.inl ⟨by rfl, fun w hw => .inl ?hy3⟩) ?_; case hy3 => (obtain ⟨hw1, hw2, hw3, hw4⟩ := hw; have hld := run_loadVar_mid (P := Try.prog) w gb (p.2 * 2) tBd [.slice Av (D.at p.2).data.length cv, .int .i64 ((D.at p.2).safe : Int)] _ (body_range hw3 hw4) Try.underlying139 rfl (by kernel_rfl); go_simp; try with_reducible rfl)
          try go_frame
          refine takeT (i := 4) (v := ?_) rfl (by kernel_rfl) (by kernel_rfl) (by kernel_rfl) (by kernel_rfl) (fun _ _ _ h => h) (HS14.out) (.inl ⟨by rfl, fun w => .inl ?hy4⟩) ?_; case hy4 => (go_simp; try with_reducible rfl)
          try go_frame
          refine takeT (i := 5) (v := ?_) rfl (by kernel_rfl) (by kernel_rfl) (by kernel_rfl) (by kernel_rfl) (fun _ _ _ h => h) (HS14.out) (.inl ⟨by rfl, fun w => .inl ?hy5⟩) ?_; case hy5 => (go_simp; try with_reducible rfl)
          try go_frame
          refine takeT (i := 6) (v := ?_) rfl (by kernel_rfl) (by kernel_rfl) (by kernel_rfl) (by kernel_rfl) (fun _ _ _ h => h) (HS14.out) (.inl ⟨by rfl, fun w => .inl ?hy6⟩) ?_; case hy6 => (go_simp; try with_reducible rfl)
          try go_frame
          refine takeT (i := 7) (v := ?_) rfl (by kernel_rfl) (by kernel_rfl) (by kernel_rfl) (by kernel_rfl) (fun _ _ _ h => h) (HS14.out) (.inl ⟨by rfl, fun w => .inl ?hy7⟩) ?_; case hy7 => (go_simp; try with_reducible rfl)
          try go_frame
          refine takePT 8 (i := 8) (v := ?_) rfl (by kernel_rfl) (by kernel_rfl) (by kernel_rfl) (by kernel_rfl) (by kernel_rfl) (by kernel_rfl) (fun _ _ _ h => h) (HS14.out) (.inl ⟨by rfl, fun w hw => .inl ?hy8⟩) ?_; case hy8 => (obtain ⟨hw1, hw2, hw3, hw4⟩ := hw; have hld := run_loadVar_mid (P := Try.prog) w gb (p.2 * 2) tBd [.slice Av (D.at p.2).data.length cv, .int .i64 ((D.at p.2).safe : Int)] _ (body_range hw3 hw4) Try.underlying139 rfl (by kernel_rfl); go_simp; try with_reducible rfl)
          try go_frame
          refine takeT (i := 9) (v := ?_) rfl (by kernel_rfl) (by kernel_rfl) (by kernel_rfl) (by kernel_rfl) (fun _ _ _ h => h) (HS14.out) (.inl ⟨by rfl, fun w => .inl ?hy9⟩) ?_; case hy9 => (go_simp; try with_reducible rfl)
          try go_frame
          refine takePT 8 (i := 10) (v := ?_) rfl (by kernel_rfl) (by kernel_rfl) (by kernel_rfl) (by kernel_rfl) (by kernel_rfl) (by kernel_rfl) (fun _ _ _ h => h) (HS14.out) (.inl ⟨by rfl, fun w hw => .inl ?hy10⟩) ?_; case hy10 => (obtain ⟨hw1, hw2, hw3, hw4⟩ := hw; have hld := run_loadVar_mid (P := Try.prog) w gb (p.2 * 2) tBd [.slice Av (D.at p.2).data.length cv, .int .i64 ((D.at p.2).safe : Int)] _ (body_range hw3 hw4) Try.underlying139 rfl (by kernel_rfl); go_simp; try with_reducible rfl)
          try go_frame
          refine forcedP (i := 11) rfl rfl (by kernel_rfl) (fun K hK => ?_)
          go_simp
          refine hK _ _ (HKEEP.out _ (((Below.refl wr.heap.size wr).alloc (Nat.le_refl _) (.cells #[.slice none 0 0, .int .i64 0] tBd)).drew)) ?_; clear hK K
          try go_frame
          have hst := body_store wr Av (D.at p.2).data.length cv ((D.at p.2).safe : Int)
          refine lateP (i := 12) rfl rfl (by kernel_rfl) (by kernel_rfl) (fun K hK => ?_)
          go_simp
          refine hK _ _ ?_; clear hK K
          try go_frame
          refine wpAny_done (by kernel_rfl) ?_ _
          obtain ⟨P, hP⟩ : ∃ P, wr.heap.size = P := ⟨_, rfl⟩
          obtain ⟨wq, hwq⟩ : ∃ wq, (wr.alloc (.cells #[.slice Av (D.at p.2).data.length cv, .int .i64 ((D.at p.2).safe : Int)] tBd)).drew = wq := ⟨_, rfl⟩
          have hbq : Below wr.heap.size wr wq := by rw [← hwq]; exact ((Below.refl _ _).alloc (Nat.le_refl _) _).drew
          have hbx9 : wq.heap[P]? = some (.cells #[.slice Av (D.at p.2).data.length cv, .int .i64 ((D.at p.2).safe : Int)] tBd (0, 0)) := by rw [← hwq, ← hP]; exact heap_alloc_new wr _
          rw [hwq]
          have HP2 := Lib.hid hP
          clear hst
          rw [hP]
          have hPl : P < wq.heap.size := (Array.getElem?_eq_some_iff.1 hbx9).1
          have HKEEP20 := Lib.hid (show ∀ wx, Below wq.heap.size wq wx → wx.cell? ⟨P, 0, none⟩ = some (.slice Av (D.at p.2).data.length cv) ∧ wx.cell? ⟨P, 1, none⟩ = some (.int .i64 ((D.at p.2).safe : Int)) from fun wx hx =>
            ⟨(hx.cell (p := ⟨P, 0, none⟩) hPl).trans (by rw [cell_of_row wq P _ _ _ _ hbx9]; rfl), (hx.cell (p := ⟨P, 1, none⟩) hPl).trans (by rw [cell_of_row wq P _ _ _ _ hbx9]; rfl)⟩)
          have HS20 := Lib.hid (HKEEP20.out wq.drew (Below.refl _ _).drew)
          obtain ⟨b00, b01⟩ := HKEEP20.out wq (Below.refl _ _)
          have HBQ := Lib.hid hbq
          have HBL := Lib.hid (crB_len (D := D) (cuts := cuts) (Nat.le_of_lt hlt))
          obtain ⟨bl, hbl9⟩ : ∃ bl, crB D k cuts j = bl := ⟨_, rfl⟩
          have HBLQ := Lib.hid hbl9
          have HCR := HCR0
          have HVB := HVB0
          obtain ⟨Ao, co, hbvv, _, _⟩ := own_form HCR0.out.bod
          rw [crB_len (Nat.le_of_lt hlt)] at hbvv
          subst hbvv
          obtain ⟨g0, g1⟩ := HFT.out wq (HBW.out wq (HBX2.out.trans (hbq.mono HVB0.out)))
          have hsd : 0 ≤ ((D.at p.2).data.length : Int) - ((D.at p.2).safe : Int) := by omega
          clear hwq hP hbq hbx9 hPl hpl hpl2
          by_cases hjc : j < nc
          · have hjc2 : (j : Int) < (nc : Int) := by omega
            have hjc3 : decide ((j : Int) < (nc : Int)) = true := decide_eq_true hjc2
            obtain ⟨z, hz⟩ : ∃ z, cuts[j]? = some z := ⟨_, List.getElem?_eq_getElem (by have := HCL.out; omega)⟩
            obtain ⟨hz1', hz2'⟩ := HCB.out z (List.mem_of_getElem? hz)
            obtain ⟨ad, rfl, hadb, hadc⟩ := (HCC.out wq (HBW.out wq (HBX2.out.trans (HBQ.out.mono HVB0.out)))).2 (by omega)
            have d0 : wq.cell? (ad.add j) = some (.int .i64 z) := hadc j _ (by simp [cInt, hz])
            have hgd : cuts.getD j 0 = z := by rw [List.getD_eq_getElem?_getD, hz]; rfl
            by_cases hzp : 0 < z
            · obtain ⟨zn, rfl⟩ : ∃ zn : Nat, z = (zn : Int) := ⟨z.toNat, by omega⟩
              by_cases hov : ((D.at p.2).data.length : Int) - ((D.at p.2).safe : Int) < (zn : Int)
              · have hleft : (D.at p.2).left (cuts.getD j 0) = ⟨(D.at p.2).data.take (D.at p.2).data.length, (D.at p.2).data.length⟩ := by
                  rw [hgd]; unfold Bd.left
                  have : min (max (zn : Int) 0).toNat ((D.at p.2).data.length - (D.at p.2).safe) + (D.at p.2).safe = (D.at p.2).data.length := by omega
                  simp only [this]
                have hsum : ((D.at p.2).safe : Int) + (((D.at p.2).data.length : Int) - ((D.at p.2).safe : Int)) = ((D.at p.2).data.length : Int) := by omega
                clear hz hadb hadc hgd
                have hlnl : (D.at p.2).data.length ≤ (D.at p.2).data.length := by omega
                have hln47 : (D.at p.2).data.length ≤ 140737488355328 := by omega
                have hwr : IntKind.i64.wrap ((D.at p.2).data.length : Int) = ((D.at p.2).data.length : Int) := IntWalk.i64_in _ (by omega)
                have HRD := Lib.hid (show Rd wq.drew wq.drew.heap.size 1 Av (D.at p.2).data.length (cU8 ((D.at p.2).data.take (D.at p.2).data.length)) from rd_part (Rd.of_own (own_below HROW.out HBQ.out.drew)) hlnl)
                have hqc : (D.at p.2).data.length ≤ cv := by
                  obtain ⟨A', c', e', h1, _⟩ := own_form HROW.out
                  injection e' with _ _ e'
                  omega
                have hsl : ∀ wx : World, (Instr.slice 35 (.slice Av (D.at p.2).data.length cv) none (some (.int .i64 ((D.at p.2).data.length : Int))) none).run Try.prog wx = .ok (.slice Av (D.at p.2).data.length cv) wx := fun wx => slice_front wx hqc
                go_upto_region 20 with (fail)
                refine wp_region_any (by kernel_rfl) ?_
                change wpAny _ _ _ _ _ _ _ (World.drew _)
                refine wpAny_of_P (S := fun w' => w'.cell? ⟨P, 0, none⟩ = some (.slice Av (D.at p.2).data.length cv) ∧ w'.cell? ⟨P, 1, none⟩ = some (.int .i64 ((D.at p.2).safe : Int))) (late := [15]) _ _ _ _ ?_
                refine takeT (i := 0) (v := ?_) rfl (by kernel_rfl) (by kernel_rfl) (by kernel_rfl) (by kernel_rfl) (fun _ _ _ h => h) (HS20.out) (.inl ⟨by rfl, fun w => .inl ?hy0⟩) ?_; case hy0 => (go_simp; try with_reducible rfl)
                try go_frame
                refine takeT (i := 1) (v := ?_) rfl (by kernel_rfl) (by kernel_rfl) (by kernel_rfl) (by kernel_rfl) (fun _ _ _ h => h) (HS20.out) (.inl ⟨by rfl, fun w => .inl ?hy1⟩) ?_; case hy1 => (go_simp; try with_reducible rfl)
                try go_frame
                refine takePT 8 (i := 2) (v := ?_) rfl (by kernel_rfl) (by kernel_rfl) (by kernel_rfl) (by kernel_rfl) (by kernel_rfl) (by kernel_rfl) (fun _ _ _ h => h) (HS20.out) (.inl ⟨by rfl, fun w hw => .inl ?hy2⟩) ?_; case hy2 => (obtain ⟨hw1, hw2⟩ := hw; go_simp; try with_reducible rfl)
                try go_frame
                refine takeT (i := 3) (v := ?_) rfl (by kernel_rfl) (by kernel_rfl) (by kernel_rfl) (by kernel_rfl) (fun _ _ _ h => h) (HS20.out) (.inl ⟨by rfl, fun w => .inl ?hy3⟩) ?_; case hy3 => (go_simp; try with_reducible rfl)
                try go_frame
                refine takePT 8 (i := 4) (v := ?_) rfl (by kernel_rfl) (by kernel_rfl) (by kernel_rfl) (by kernel_rfl) (by kernel_rfl) (by kernel_rfl) (fun _ _ _ h => h) (HS20.out) (.inl ⟨by rfl, fun w hw => .inl ?hy4⟩) ?_; case hy4 => (obtain ⟨hw1, hw2⟩ := hw; go_simp; try with_reducible rfl)
                try go_frame
                refine takeT (i := 5) (v := ?_) rfl (by kernel_rfl) (by kernel_rfl) (by kernel_rfl) (by kernel_rfl) (fun _ _ _ h => h) (HS20.out) (.inl ⟨by rfl, fun w => .inl ?hy5⟩) ?_; case hy5 => (go_simp; try with_reducible rfl)
                try go_frame
                refine takeT (i := 6) (v := ?_) rfl (by kernel_rfl) (by kernel_rfl) (by kernel_rfl) (by kernel_rfl) (fun _ _ _ h => h) (HS20.out) (.inl ⟨by rfl, fun w => .inl ?hy6⟩) ?_; case hy6 => (go_simp; try with_reducible rfl)
                try go_frame
                refine takeT (i := 7) (v := ?_) rfl (by kernel_rfl) (by kernel_rfl) (by kernel_rfl) (by kernel_rfl) (fun _ _ _ h => h) (HS20.out) (.inl ⟨by rfl, fun w => .inl ?hy7⟩) ?_; case hy7 => (go_simp; try with_reducible rfl)
                try go_frame
                refine takeT (i := 9) (v := ?_) rfl (by kernel_rfl) (by kernel_rfl) (by kernel_rfl) (by kernel_rfl) (fun _ _ _ h => h) (HS20.out) (.inl ⟨by rfl, fun w => .inl ?hy9⟩) ?_; case hy9 => (go_simp; try with_reducible rfl)
                try go_frame
                refine takePT 8 (i := 10) (v := ?_) rfl (by kernel_rfl) (by kernel_rfl) (by kernel_rfl) (by kernel_rfl) (by kernel_rfl) (by kernel_rfl) (fun _ _ _ h => h) (HS20.out) (.inl ⟨by rfl, fun w hw => .inl ?hy10⟩) ?_; case hy10 => (obtain ⟨hw1, hw2⟩ := hw; go_simp; try with_reducible rfl)
                try go_frame
                refine takeT (i := 11) (v := ?_) rfl (by kernel_rfl) (by kernel_rfl) (by kernel_rfl) (by kernel_rfl) (fun _ _ _ h => h) (HS20.out) (.inl ⟨by rfl, fun w => .inl ?hy11⟩) ?_; case hy11 => (go_simp; try with_reducible rfl)
                try go_frame
                refine takeT (i := 12) (v := ?_) rfl (by kernel_rfl) (by kernel_rfl) (by kernel_rfl) (by kernel_rfl) (fun _ _ _ h => h) (HS20.out) (.inl ⟨by rfl, fun w => .inl ?hy12⟩) ?_; case hy12 => (go_simp; try with_reducible rfl)
                try go_frame
                refine forcedP (i := 8) rfl rfl (by kernel_rfl) (fun K hK => ?_)
                go_simp
                refine (rcopied_any HRD.out HNL.out (by omega)).mono ?_
                rintro y w1 ⟨A1, c1, rfl, hrow1, hb1⟩
                have hS1 := HKEEP20.out w1 ((Below.refl wq.heap.size wq).drew.trans hb1)
                refine hK _ _ (hS1) ?_; clear hK K
                try go_frame
                refine takeT (i := 13) (v := ?_) rfl (by kernel_rfl) (by kernel_rfl) (by kernel_rfl) (by kernel_rfl) (fun _ _ _ h => h) (hS1) (.inl ⟨by rfl, fun w => .inl ?hy13⟩) ?_; case hy13 => (go_simp; try with_reducible rfl)
                try go_frame
                refine forcedP (i := 14) rfl rfl (by kernel_rfl) (fun K hK => ?_)
                go_simp
                have hS2 := HKEEP20.out (w1.alloc (.cells #[.slice A1 (D.at p.2).data.length c1, .int .i64 ((D.at p.2).data.length : Int)] tBd)) (((Below.refl wq.heap.size wq).drew.trans hb1).alloc hb1.size _)
                refine hK _ _ (hS2) ?_; clear hK K
                try go_frame
                have HCW := Lib.hid ((HCR.out.below (HBQ.out.trans (((Below.refl wr.heap.size wq).drew.trans (hb1.mono (by show wr.heap.size ≤ wq.drew.heap.size; exact HBQ.out.size)))))).below ((Below.refl w1.heap.size w1).alloc (Nat.le_refl _) (.cells #[.slice A1 (D.at p.2).data.length c1, .int .i64 ((D.at p.2).data.length : Int)] tBd)))
                have hbr := HCW.out.bod
                rw [HBL.out] at hbr
                have HVB9 := Lib.hid (show V2 ≤ (w1.alloc (.cells #[.slice A1 (D.at p.2).data.length c1, .int .i64 ((D.at p.2).data.length : Int)] tBd)).heap.size from by have h1 := hb1.size; have h2 := HVB.out; have h3 := HBQ.out.size; simp at h1 ⊢; omega)
                refine lateP (i := 15) rfl rfl (by kernel_rfl) (by kernel_rfl) (fun K hK => ?_)
                refine wp_append_keeps _ (.tmp 97) (.tmp 111) 132 rfl V2 tBd b0 (.agg #[.slice none 0 0, .int .i64 0]) 2 32 Try.underlying132 hb0 hz0 hz1 hz2 rfl (by decide) (.slice Ao j co) j (cB (crB D k cuts j) ds2) rfl hbr ⟨w1.heap.size, 0, none⟩ 1 1 [.slice A1 (D.at p.2).data.length c1, .int .i64 ((D.at p.2).data.length : Int)] rfl rfl (new_cells _ [.slice A1 (D.at p.2).data.length c1, .int .i64 ((D.at p.2).data.length : Int)] tBd) (by simp [Value.oneCell']) (by omega) (by unfold maxLen; omega) (by omega) HVB9.out ?_
                intro g2 cap2 w3 hg hgr hat2 hlt9 _
                go_simp
                refine hK _ _ ?_; clear hK K
                try go_frame
                refine takeL (i := 16) (v := ?_) rfl (by kernel_rfl) (by kernel_rfl) (by kernel_rfl) (fun _ _ _ h => h) (.inl ⟨by rfl, fun w => .inl ?hy16⟩) ?_; case hy16 => (go_simp; try with_reducible rfl)
                try go_frame
                refine wpAny_done (by kernel_rfl) ?_ _
                have hcrb := HCW.out.addB (b := ⟨(D.at p.2).data.take (D.at p.2).data.length, (D.at p.2).data.length⟩) (x := .slice A1 (D.at p.2).data.length c1) (by rw [List.length_take, Nat.min_eq_left hlnl]; exact own_base (own_alloc hrow1 _) (by have h1 := HVB.out; have h3 := HBQ.out.size; simp; omega)) hgr (by rw [HBL.out]; exact hg)
                have hb3 : Below V2 w2 w3 := ((HBX2.out.trans ((HBQ.out.mono HVB.out).trans ((Below.refl V2 wq).drew.trans (hb1.mono (by have h3 := HBQ.out.size; have h2 := HVB.out; show V2 ≤ wq.heap.size; omega))))).alloc (by have h1 := hb1.size; have h2 := HVB.out; have h3 := HBQ.out.size; simp at h1; omega) _).grown hgr (by have h1 := hb1.size; have h2 := HVB.out; have h3 := HBQ.out.size; simp at h1 ⊢; omega) (fun k hk => own_ge HCR.out.bod hk)
                rw [← hleft, ← crB_next HP.out] at hcrb
                have HCB9 := Lib.hid hcrb
                have HB3 := Lib.hid hb3
                obtain ⟨_, hgkk, _, _, z0, _⟩ := ent_cells (HKK.out w3 hb3) (dirE_at HP.out)
                injection hgkk with hgkk
                injection hgkk with hgkk
                subst hgkk
                dsimp only at z0
                clear hcrb hb3 hg hgr hat2 hlt9 hrow1 hb1 hS1 hS2 HCW hbr hsl hleft
                obtain ⟨Anw, cnw, rfl, _, _⟩ := own_form HCB9.out.now
                have hcnl : (dirE (crN k j)).length = j := by rw [dirE_len, crN_len (by omega)]
                rw [hcnl]
                have hnrow := HCB9.out.now
                unfold EntAt at hnrow
                rw [hcnl] at hnrow
                have HNROW := Lib.hid hnrow
                have HCNL := Lib.hid hcnl
                have HVB3 := Lib.hid (show V2 ≤ w3.heap.size from by have := HB3.out.size; have := HV2.out; omega)
                clear hnrow hcnl
                go_wp2_with (at_builtin; go_loud (refine wpList_append_keeps _ rfl (.tmp 113) (.tmp 121) 133 rfl V2 tEnt e0 (.agg #[.string ⟨#[]⟩, .int .i64 0]) 2 24 Try.underlying133 he0 hy0 hy1 hy2 rfl (by decide) (.slice Anw j cnw) j (cE (dirE (crN k j))) rfl (own_alloc HNROW.out _) ⟨w3.heap.size, 0, none⟩ 1 1 [encStr p.1, .int .i64 (j : Int)] rfl rfl (new_cells _ [encStr p.1, .int .i64 (j : Int)] tEnt) (by simp [Value.oneCell']) (by omega) (by unfold maxLen; omega) (by omega) (Nat.le_trans HVB3.out (by simp)) ?_); go_loud (intro g4 cap4 w5 hg hgr hat hlt9 _); have HG := Lib.hid hg; have HGR := Lib.hid hgr; clear hg hgr hat hlt9)
                have hcr5 := ((HCB9.out.below ((Below.refl w3.heap.size w3).alloc (Nat.le_refl _) (.cells #[encStr p.1, .int .i64 (j : Int)] tEnt)))).addN (p := (p.1, (j : Int))) (v2 := .slice (some ⟨g4, 0, none⟩) (j + 1) cap4) (by rw [HCNL.out]; exact HGR.out) (by rw [HCNL.out]; exact HG.out)
                rw [show dirE (crN k j) ++ [(p.1, (j : Int))] = dirE (crN k (j + 1)) by rw [crN_next HP.out]; unfold dirE; simp] at hcr5
                have hb5 : Below V2 w2 w5 := (HB3.out.alloc HVB3.out _).grown HGR.out (by have := HVB3.out; simp; omega) (fun k hk => own_ge HNROW.out hk)
                have HCR5 := Lib.hid hcr5
                have HB5 := Lib.hid hb5
                clear hcr5 hb5 z0
                go_roundw
                case rel => exact ⟨j + 1, _, by go_num, by omega, HCR5.out, HB5.out⟩
                case measure => simp [intOf]; omega
              · obtain ⟨ln, hln⟩ : ∃ ln, (D.at p.2).safe + zn = ln := ⟨_, rfl⟩
                have hleft : (D.at p.2).left (cuts.getD j 0) = ⟨(D.at p.2).data.take ln, ln⟩ := by
                  rw [hgd]; unfold Bd.left
                  have : min (max (zn : Int) 0).toNat ((D.at p.2).data.length - (D.at p.2).safe) + (D.at p.2).safe = ln := by omega
                  simp only [this]
                have hsum : ((D.at p.2).safe : Int) + (zn : Int) = (ln : Int) := by omega
                have hln2 : ln ≤ (D.at p.2).data.length := by omega
                clear hz hadb hadc hgd hln
                have hlnl : ln ≤ (D.at p.2).data.length := by omega
                have hln47 : ln ≤ 140737488355328 := by omega
                have hwr : IntKind.i64.wrap (ln : Int) = (ln : Int) := IntWalk.i64_in _ (by omega)
                have HRD := Lib.hid (show Rd wq.drew wq.drew.heap.size 1 Av ln (cU8 ((D.at p.2).data.take ln)) from rd_part (Rd.of_own (own_below HROW.out HBQ.out.drew)) hlnl)
                have hqc : ln ≤ cv := by
                  obtain ⟨A', c', e', h1, _⟩ := own_form HROW.out
                  injection e' with _ _ e'
                  omega
                have hsl : ∀ wx : World, (Instr.slice 35 (.slice Av (D.at p.2).data.length cv) none (some (.int .i64 (ln : Int))) none).run Try.prog wx = .ok (.slice Av ln cv) wx := fun wx => slice_front wx hqc
                go_upto_region 20 with (fail)
                refine wp_region_any (by kernel_rfl) ?_
                change wpAny _ _ _ _ _ _ _ (World.drew _)
                refine wpAny_of_P (S := fun w' => w'.cell? ⟨P, 0, none⟩ = some (.slice Av (D.at p.2).data.length cv) ∧ w'.cell? ⟨P, 1, none⟩ = some (.int .i64 ((D.at p.2).safe : Int))) (late := [15]) _ _ _ _ ?_
                refine takeT (i := 0) (v := ?_) rfl (by kernel_rfl) (by kernel_rfl) (by kernel_rfl) (by kernel_rfl) (fun _ _ _ h => h) (HS20.out) (.inl ⟨by rfl, fun w => .inl ?hy0⟩) ?_; case hy0 => (go_simp; try with_reducible rfl)
                try go_frame
                refine takeT (i := 1) (v := ?_) rfl (by kernel_rfl) (by kernel_rfl) (by kernel_rfl) (by kernel_rfl) (fun _ _ _ h => h) (HS20.out) (.inl ⟨by rfl, fun w => .inl ?hy1⟩) ?_; case hy1 => (go_simp; try with_reducible rfl)
                try go_frame
                refine takePT 8 (i := 2) (v := ?_) rfl (by kernel_rfl) (by kernel_rfl) (by kernel_rfl) (by kernel_rfl) (by kernel_rfl) (by kernel_rfl) (fun _ _ _ h => h) (HS20.out) (.inl ⟨by rfl, fun w hw => .inl ?hy2⟩) ?_; case hy2 => (obtain ⟨hw1, hw2⟩ := hw; go_simp; try with_reducible rfl)
                try go_frame
                refine takeT (i := 3) (v := ?_) rfl (by kernel_rfl) (by kernel_rfl) (by kernel_rfl) (by kernel_rfl) (fun _ _ _ h => h) (HS20.out) (.inl ⟨by rfl, fun w => .inl ?hy3⟩) ?_; case hy3 => (go_simp; try with_reducible rfl)
                try go_frame
                refine takePT 8 (i := 4) (v := ?_) rfl (by kernel_rfl) (by kernel_rfl) (by kernel_rfl) (by kernel_rfl) (by kernel_rfl) (by kernel_rfl) (fun _ _ _ h => h) (HS20.out) (.inl ⟨by rfl, fun w hw => .inl ?hy4⟩) ?_; case hy4 => (obtain ⟨hw1, hw2⟩ := hw; go_simp; try with_reducible rfl)
                try go_frame
                refine takeT (i := 5) (v := ?_) rfl (by kernel_rfl) (by kernel_rfl) (by kernel_rfl) (by kernel_rfl) (fun _ _ _ h => h) (HS20.out) (.inl ⟨by rfl, fun w => .inl ?hy5⟩) ?_; case hy5 => (go_simp; try with_reducible rfl)
                try go_frame
                refine takeT (i := 6) (v := ?_) rfl (by kernel_rfl) (by kernel_rfl) (by kernel_rfl) (by kernel_rfl) (fun _ _ _ h => h) (HS20.out) (.inl ⟨by rfl, fun w => .inl ?hy6⟩) ?_; case hy6 => (go_simp; try with_reducible rfl)
                try go_frame
                refine takeT (i := 7) (v := ?_) rfl (by kernel_rfl) (by kernel_rfl) (by kernel_rfl) (by kernel_rfl) (fun _ _ _ h => h) (HS20.out) (.inl ⟨by rfl, fun w => .inl ?hy7⟩) ?_; case hy7 => (go_simp; try with_reducible rfl)
                try go_frame
                refine takeT (i := 9) (v := ?_) rfl (by kernel_rfl) (by kernel_rfl) (by kernel_rfl) (by kernel_rfl) (fun _ _ _ h => h) (HS20.out) (.inl ⟨by rfl, fun w => .inl ?hy9⟩) ?_; case hy9 => (go_simp; try with_reducible rfl)
                try go_frame
                refine takePT 8 (i := 10) (v := ?_) rfl (by kernel_rfl) (by kernel_rfl) (by kernel_rfl) (by kernel_rfl) (by kernel_rfl) (by kernel_rfl) (fun _ _ _ h => h) (HS20.out) (.inl ⟨by rfl, fun w hw => .inl ?hy10⟩) ?_; case hy10 => (obtain ⟨hw1, hw2⟩ := hw; go_simp; try with_reducible rfl)
                try go_frame
                refine takeT (i := 11) (v := ?_) rfl (by kernel_rfl) (by kernel_rfl) (by kernel_rfl) (by kernel_rfl) (fun _ _ _ h => h) (HS20.out) (.inl ⟨by rfl, fun w => .inl ?hy11⟩) ?_; case hy11 => (go_simp; try with_reducible rfl)
                try go_frame
                refine takeT (i := 12) (v := ?_) rfl (by kernel_rfl) (by kernel_rfl) (by kernel_rfl) (by kernel_rfl) (fun _ _ _ h => h) (HS20.out) (.inl ⟨by rfl, fun w => .inl ?hy12⟩) ?_; case hy12 => (go_simp; try with_reducible rfl)
                try go_frame
                refine forcedP (i := 8) rfl rfl (by kernel_rfl) (fun K hK => ?_)
                go_simp
                refine (rcopied_any HRD.out HNL.out (by omega)).mono ?_
                rintro y w1 ⟨A1, c1, rfl, hrow1, hb1⟩
                have hS1 := HKEEP20.out w1 ((Below.refl wq.heap.size wq).drew.trans hb1)
                refine hK _ _ (hS1) ?_; clear hK K
                try go_frame
                refine takeT (i := 13) (v := ?_) rfl (by kernel_rfl) (by kernel_rfl) (by kernel_rfl) (by kernel_rfl) (fun _ _ _ h => h) (hS1) (.inl ⟨by rfl, fun w => .inl ?hy13⟩) ?_; case hy13 => (go_simp; try with_reducible rfl)
                try go_frame
                refine forcedP (i := 14) rfl rfl (by kernel_rfl) (fun K hK => ?_)
                go_simp
                have hS2 := HKEEP20.out (w1.alloc (.cells #[.slice A1 ln c1, .int .i64 (ln : Int)] tBd)) (((Below.refl wq.heap.size wq).drew.trans hb1).alloc hb1.size _)
                refine hK _ _ (hS2) ?_; clear hK K
                try go_frame
                have HCW := Lib.hid ((HCR.out.below (HBQ.out.trans (((Below.refl wr.heap.size wq).drew.trans (hb1.mono (by show wr.heap.size ≤ wq.drew.heap.size; exact HBQ.out.size)))))).below ((Below.refl w1.heap.size w1).alloc (Nat.le_refl _) (.cells #[.slice A1 ln c1, .int .i64 (ln : Int)] tBd)))
                have hbr := HCW.out.bod
                rw [HBL.out] at hbr
                have HVB9 := Lib.hid (show V2 ≤ (w1.alloc (.cells #[.slice A1 ln c1, .int .i64 (ln : Int)] tBd)).heap.size from by have h1 := hb1.size; have h2 := HVB.out; have h3 := HBQ.out.size; simp at h1 ⊢; omega)
                refine lateP (i := 15) rfl rfl (by kernel_rfl) (by kernel_rfl) (fun K hK => ?_)
                refine wp_append_keeps _ (.tmp 97) (.tmp 111) 132 rfl V2 tBd b0 (.agg #[.slice none 0 0, .int .i64 0]) 2 32 Try.underlying132 hb0 hz0 hz1 hz2 rfl (by decide) (.slice Ao j co) j (cB (crB D k cuts j) ds2) rfl hbr ⟨w1.heap.size, 0, none⟩ 1 1 [.slice A1 ln c1, .int .i64 (ln : Int)] rfl rfl (new_cells _ [.slice A1 ln c1, .int .i64 (ln : Int)] tBd) (by simp [Value.oneCell']) (by omega) (by unfold maxLen; omega) (by omega) HVB9.out ?_
                intro g2 cap2 w3 hg hgr hat2 hlt9 _
                go_simp
                refine hK _ _ ?_; clear hK K
                try go_frame
                refine takeL (i := 16) (v := ?_) rfl (by kernel_rfl) (by kernel_rfl) (by kernel_rfl) (fun _ _ _ h => h) (.inl ⟨by rfl, fun w => .inl ?hy16⟩) ?_; case hy16 => (go_simp; try with_reducible rfl)
                try go_frame
                refine wpAny_done (by kernel_rfl) ?_ _
                have hcrb := HCW.out.addB (b := ⟨(D.at p.2).data.take ln, ln⟩) (x := .slice A1 ln c1) (by rw [List.length_take, Nat.min_eq_left hlnl]; exact own_base (own_alloc hrow1 _) (by have h1 := HVB.out; have h3 := HBQ.out.size; simp; omega)) hgr (by rw [HBL.out]; exact hg)
                have hb3 : Below V2 w2 w3 := ((HBX2.out.trans ((HBQ.out.mono HVB.out).trans ((Below.refl V2 wq).drew.trans (hb1.mono (by have h3 := HBQ.out.size; have h2 := HVB.out; show V2 ≤ wq.heap.size; omega))))).alloc (by have h1 := hb1.size; have h2 := HVB.out; have h3 := HBQ.out.size; simp at h1; omega) _).grown hgr (by have h1 := hb1.size; have h2 := HVB.out; have h3 := HBQ.out.size; simp at h1 ⊢; omega) (fun k hk => own_ge HCR.out.bod hk)
                rw [← hleft, ← crB_next HP.out] at hcrb
                have HCB9 := Lib.hid hcrb
                have HB3 := Lib.hid hb3
                obtain ⟨_, hgkk, _, _, z0, _⟩ := ent_cells (HKK.out w3 hb3) (dirE_at HP.out)
                injection hgkk with hgkk
                injection hgkk with hgkk
                subst hgkk
                dsimp only at z0
                clear hcrb hb3 hg hgr hat2 hlt9 hrow1 hb1 hS1 hS2 HCW hbr hsl hleft
                obtain ⟨Anw, cnw, rfl, _, _⟩ := own_form HCB9.out.now
                have hcnl : (dirE (crN k j)).length = j := by rw [dirE_len, crN_len (by omega)]
                rw [hcnl]
                have hnrow := HCB9.out.now
                unfold EntAt at hnrow
                rw [hcnl] at hnrow
                have HNROW := Lib.hid hnrow
                have HCNL := Lib.hid hcnl
                have HVB3 := Lib.hid (show V2 ≤ w3.heap.size from by have := HB3.out.size; have := HV2.out; omega)
                clear hnrow hcnl
                go_wp2_with (at_builtin; go_loud (refine wpList_append_keeps _ rfl (.tmp 113) (.tmp 121) 133 rfl V2 tEnt e0 (.agg #[.string ⟨#[]⟩, .int .i64 0]) 2 24 Try.underlying133 he0 hy0 hy1 hy2 rfl (by decide) (.slice Anw j cnw) j (cE (dirE (crN k j))) rfl (own_alloc HNROW.out _) ⟨w3.heap.size, 0, none⟩ 1 1 [encStr p.1, .int .i64 (j : Int)] rfl rfl (new_cells _ [encStr p.1, .int .i64 (j : Int)] tEnt) (by simp [Value.oneCell']) (by omega) (by unfold maxLen; omega) (by omega) (Nat.le_trans HVB3.out (by simp)) ?_); go_loud (intro g4 cap4 w5 hg hgr hat hlt9 _); have HG := Lib.hid hg; have HGR := Lib.hid hgr; clear hg hgr hat hlt9)
                have hcr5 := ((HCB9.out.below ((Below.refl w3.heap.size w3).alloc (Nat.le_refl _) (.cells #[encStr p.1, .int .i64 (j : Int)] tEnt)))).addN (p := (p.1, (j : Int))) (v2 := .slice (some ⟨g4, 0, none⟩) (j + 1) cap4) (by rw [HCNL.out]; exact HGR.out) (by rw [HCNL.out]; exact HG.out)
                rw [show dirE (crN k j) ++ [(p.1, (j : Int))] = dirE (crN k (j + 1)) by rw [crN_next HP.out]; unfold dirE; simp] at hcr5
                have hb5 : Below V2 w2 w5 := (HB3.out.alloc HVB3.out _).grown HGR.out (by have := HVB3.out; simp; omega) (fun k hk => own_ge HNROW.out hk)
                have HCR5 := Lib.hid hcr5
                have HB5 := Lib.hid hb5
                clear hcr5 hb5 z0
                go_roundw
                case rel => exact ⟨j + 1, _, by go_num, by omega, HCR5.out, HB5.out⟩
                case measure => simp [intOf]; omega
            · have hleft : (D.at p.2).left (cuts.getD j 0) = ⟨(D.at p.2).data.take (D.at p.2).safe, (D.at p.2).safe⟩ := by
                rw [hgd]; unfold Bd.left
                have : min (max z 0).toNat ((D.at p.2).data.length - (D.at p.2).safe) + (D.at p.2).safe = (D.at p.2).safe := by omega
                simp only [this]
              have hno : ¬ ((D.at p.2).data.length : Int) - ((D.at p.2).safe : Int) < 0 := by omega
              clear hz hadb hadc hgd
              have hlnl : (D.at p.2).safe ≤ (D.at p.2).data.length := by omega
              have hln47 : (D.at p.2).safe ≤ 140737488355328 := by omega
              have hwr : IntKind.i64.wrap ((D.at p.2).safe : Int) = ((D.at p.2).safe : Int) := IntWalk.i64_in _ (by omega)
              have HRD := Lib.hid (show Rd wq.drew wq.drew.heap.size 1 Av (D.at p.2).safe (cU8 ((D.at p.2).data.take (D.at p.2).safe)) from rd_part (Rd.of_own (own_below HROW.out HBQ.out.drew)) hlnl)
              have hqc : (D.at p.2).safe ≤ cv := by
                obtain ⟨A', c', e', h1, _⟩ := own_form HROW.out
                injection e' with _ _ e'
                omega
              have hsl : ∀ wx : World, (Instr.slice 35 (.slice Av (D.at p.2).data.length cv) none (some (.int .i64 ((D.at p.2).safe : Int))) none).run Try.prog wx = .ok (.slice Av (D.at p.2).safe cv) wx := fun wx => slice_front wx hqc
              go_upto_region 20 with (fail)
              refine wp_region_any (by kernel_rfl) ?_
              change wpAny _ _ _ _ _ _ _ (World.drew _)
              refine wpAny_of_P (S := fun w' => w'.cell? ⟨P, 0, none⟩ = some (.slice Av (D.at p.2).data.length cv) ∧ w'.cell? ⟨P, 1, none⟩ = some (.int .i64 ((D.at p.2).safe : Int))) (late := [15]) _ _ _ _ ?_
              refine takeT (i := 0) (v := ?_) rfl (by kernel_rfl) (by kernel_rfl) (by kernel_rfl) (by kernel_rfl) (fun _ _ _ h => h) (HS20.out) (.inl ⟨by rfl, fun w => .inl ?hy0⟩) ?_; case hy0 => (go_simp; try with_reducible rfl)
              try go_frame
              refine takeT (i := 1) (v := ?_) rfl (by kernel_rfl) (by kernel_rfl) (by kernel_rfl) (by kernel_rfl) (fun _ _ _ h => h) (HS20.out) (.inl ⟨by rfl, fun w => .inl ?hy1⟩) ?_; case hy1 => (go_simp; try with_reducible rfl)
              try go_frame
              refine takePT 8 (i := 2) (v := ?_) rfl (by kernel_rfl) (by kernel_rfl) (by kernel_rfl) (by kernel_rfl) (by kernel_rfl) (by kernel_rfl) (fun _ _ _ h => h) (HS20.out) (.inl ⟨by rfl, fun w hw => .inl ?hy2⟩) ?_; case hy2 => (obtain ⟨hw1, hw2⟩ := hw; go_simp; try with_reducible rfl)
              try go_frame
              refine takeT (i := 3) (v := ?_) rfl (by kernel_rfl) (by kernel_rfl) (by kernel_rfl) (by kernel_rfl) (fun _ _ _ h => h) (HS20.out) (.inl ⟨by rfl, fun w => .inl ?hy3⟩) ?_; case hy3 => (go_simp; try with_reducible rfl)
              try go_frame
              refine takePT 8 (i := 4) (v := ?_) rfl (by kernel_rfl) (by kernel_rfl) (by kernel_rfl) (by kernel_rfl) (by kernel_rfl) (by kernel_rfl) (fun _ _ _ h => h) (HS20.out) (.inl ⟨by rfl, fun w hw => .inl ?hy4⟩) ?_; case hy4 => (obtain ⟨hw1, hw2⟩ := hw; go_simp; try with_reducible rfl)
              try go_frame
              refine takeT (i := 5) (v := ?_) rfl (by kernel_rfl) (by kernel_rfl) (by kernel_rfl) (by kernel_rfl) (fun _ _ _ h => h) (HS20.out) (.inl ⟨by rfl, fun w => .inl ?hy5⟩) ?_; case hy5 => (go_simp; try with_reducible rfl)
              try go_frame
              refine takeT (i := 6) (v := ?_) rfl (by kernel_rfl) (by kernel_rfl) (by kernel_rfl) (by kernel_rfl) (fun _ _ _ h => h) (HS20.out) (.inl ⟨by rfl, fun w => .inl ?hy6⟩) ?_; case hy6 => (go_simp; try with_reducible rfl)
              try go_frame
              refine takeT (i := 7) (v := ?_) rfl (by kernel_rfl) (by kernel_rfl) (by kernel_rfl) (by kernel_rfl) (fun _ _ _ h => h) (HS20.out) (.inl ⟨by rfl, fun w => .inl ?hy7⟩) ?_; case hy7 => (go_simp; try with_reducible rfl)
              try go_frame
              refine takeT (i := 9) (v := ?_) rfl (by kernel_rfl) (by kernel_rfl) (by kernel_rfl) (by kernel_rfl) (fun _ _ _ h => h) (HS20.out) (.inl ⟨by rfl, fun w => .inl ?hy9⟩) ?_; case hy9 => (go_simp; try with_reducible rfl)
              try go_frame
              refine takePT 8 (i := 10) (v := ?_) rfl (by kernel_rfl) (by kernel_rfl) (by kernel_rfl) (by kernel_rfl) (by kernel_rfl) (by kernel_rfl) (fun _ _ _ h => h) (HS20.out) (.inl ⟨by rfl, fun w hw => .inl ?hy10⟩) ?_; case hy10 => (obtain ⟨hw1, hw2⟩ := hw; go_simp; try with_reducible rfl)
              try go_frame
              refine takeT (i := 11) (v := ?_) rfl (by kernel_rfl) (by kernel_rfl) (by kernel_rfl) (by kernel_rfl) (fun _ _ _ h => h) (HS20.out) (.inl ⟨by rfl, fun w => .inl ?hy11⟩) ?_; case hy11 => (go_simp; try with_reducible rfl)
              try go_frame
              refine takeT (i := 12) (v := ?_) rfl (by kernel_rfl) (by kernel_rfl) (by kernel_rfl) (by kernel_rfl) (fun _ _ _ h => h) (HS20.out) (.inl ⟨by rfl, fun w => .inl ?hy12⟩) ?_; case hy12 => (go_simp; try with_reducible rfl)
              try go_frame
              refine forcedP (i := 8) rfl rfl (by kernel_rfl) (fun K hK => ?_)
              go_simp
              refine (rcopied_any HRD.out HNL.out (by omega)).mono ?_
              rintro y w1 ⟨A1, c1, rfl, hrow1, hb1⟩
              have hS1 := HKEEP20.out w1 ((Below.refl wq.heap.size wq).drew.trans hb1)
              refine hK _ _ (hS1) ?_; clear hK K
              try go_frame
              refine takeT (i := 13) (v := ?_) rfl (by kernel_rfl) (by kernel_rfl) (by kernel_rfl) (by kernel_rfl) (fun _ _ _ h => h) (hS1) (.inl ⟨by rfl, fun w => .inl ?hy13⟩) ?_; case hy13 => (go_simp; try with_reducible rfl)
              try go_frame
              refine forcedP (i := 14) rfl rfl (by kernel_rfl) (fun K hK => ?_)
              go_simp
              have hS2 := HKEEP20.out (w1.alloc (.cells #[.slice A1 (D.at p.2).safe c1, .int .i64 ((D.at p.2).safe : Int)] tBd)) (((Below.refl wq.heap.size wq).drew.trans hb1).alloc hb1.size _)
              refine hK _ _ (hS2) ?_; clear hK K
              try go_frame
              have HCW := Lib.hid ((HCR.out.below (HBQ.out.trans (((Below.refl wr.heap.size wq).drew.trans (hb1.mono (by show wr.heap.size ≤ wq.drew.heap.size; exact HBQ.out.size)))))).below ((Below.refl w1.heap.size w1).alloc (Nat.le_refl _) (.cells #[.slice A1 (D.at p.2).safe c1, .int .i64 ((D.at p.2).safe : Int)] tBd)))
              have hbr := HCW.out.bod
              rw [HBL.out] at hbr
              have HVB9 := Lib.hid (show V2 ≤ (w1.alloc (.cells #[.slice A1 (D.at p.2).safe c1, .int .i64 ((D.at p.2).safe : Int)] tBd)).heap.size from by have h1 := hb1.size; have h2 := HVB.out; have h3 := HBQ.out.size; simp at h1 ⊢; omega)
              refine lateP (i := 15) rfl rfl (by kernel_rfl) (by kernel_rfl) (fun K hK => ?_)
              refine wp_append_keeps _ (.tmp 97) (.tmp 111) 132 rfl V2 tBd b0 (.agg #[.slice none 0 0, .int .i64 0]) 2 32 Try.underlying132 hb0 hz0 hz1 hz2 rfl (by decide) (.slice Ao j co) j (cB (crB D k cuts j) ds2) rfl hbr ⟨w1.heap.size, 0, none⟩ 1 1 [.slice A1 (D.at p.2).safe c1, .int .i64 ((D.at p.2).safe : Int)] rfl rfl (new_cells _ [.slice A1 (D.at p.2).safe c1, .int .i64 ((D.at p.2).safe : Int)] tBd) (by simp [Value.oneCell']) (by omega) (by unfold maxLen; omega) (by omega) HVB9.out ?_
              intro g2 cap2 w3 hg hgr hat2 hlt9 _
              go_simp
              refine hK _ _ ?_; clear hK K
              try go_frame
              refine takeL (i := 16) (v := ?_) rfl (by kernel_rfl) (by kernel_rfl) (by kernel_rfl) (fun _ _ _ h => h) (.inl ⟨by rfl, fun w => .inl ?hy16⟩) ?_; case hy16 => (go_simp; try with_reducible rfl)
              try go_frame
              refine wpAny_done (by kernel_rfl) ?_ _
              have hcrb := HCW.out.addB (b := ⟨(D.at p.2).data.take (D.at p.2).safe, (D.at p.2).safe⟩) (x := .slice A1 (D.at p.2).safe c1) (by rw [List.length_take, Nat.min_eq_left hlnl]; exact own_base (own_alloc hrow1 _) (by have h1 := HVB.out; have h3 := HBQ.out.size; simp; omega)) hgr (by rw [HBL.out]; exact hg)
              have hb3 : Below V2 w2 w3 := ((HBX2.out.trans ((HBQ.out.mono HVB.out).trans ((Below.refl V2 wq).drew.trans (hb1.mono (by have h3 := HBQ.out.size; have h2 := HVB.out; show V2 ≤ wq.heap.size; omega))))).alloc (by have h1 := hb1.size; have h2 := HVB.out; have h3 := HBQ.out.size; simp at h1; omega) _).grown hgr (by have h1 := hb1.size; have h2 := HVB.out; have h3 := HBQ.out.size; simp at h1 ⊢; omega) (fun k hk => own_ge HCR.out.bod hk)
              rw [← hleft, ← crB_next HP.out] at hcrb
              have HCB9 := Lib.hid hcrb
              have HB3 := Lib.hid hb3
              obtain ⟨_, hgkk, _, _, z0, _⟩ := ent_cells (HKK.out w3 hb3) (dirE_at HP.out)
              injection hgkk with hgkk
              injection hgkk with hgkk
              subst hgkk
              dsimp only at z0
              clear hcrb hb3 hg hgr hat2 hlt9 hrow1 hb1 hS1 hS2 HCW hbr hsl hleft
              obtain ⟨Anw, cnw, rfl, _, _⟩ := own_form HCB9.out.now
              have hcnl : (dirE (crN k j)).length = j := by rw [dirE_len, crN_len (by omega)]
              rw [hcnl]
              have hnrow := HCB9.out.now
              unfold EntAt at hnrow
              rw [hcnl] at hnrow
              have HNROW := Lib.hid hnrow
              have HCNL := Lib.hid hcnl
              have HVB3 := Lib.hid (show V2 ≤ w3.heap.size from by have := HB3.out.size; have := HV2.out; omega)
              clear hnrow hcnl
              go_wp2_with (at_builtin; go_loud (refine wpList_append_keeps _ rfl (.tmp 113) (.tmp 121) 133 rfl V2 tEnt e0 (.agg #[.string ⟨#[]⟩, .int .i64 0]) 2 24 Try.underlying133 he0 hy0 hy1 hy2 rfl (by decide) (.slice Anw j cnw) j (cE (dirE (crN k j))) rfl (own_alloc HNROW.out _) ⟨w3.heap.size, 0, none⟩ 1 1 [encStr p.1, .int .i64 (j : Int)] rfl rfl (new_cells _ [encStr p.1, .int .i64 (j : Int)] tEnt) (by simp [Value.oneCell']) (by omega) (by unfold maxLen; omega) (by omega) (Nat.le_trans HVB3.out (by simp)) ?_); go_loud (intro g4 cap4 w5 hg hgr hat hlt9 _); have HG := Lib.hid hg; have HGR := Lib.hid hgr; clear hg hgr hat hlt9)
              have hcr5 := ((HCB9.out.below ((Below.refl w3.heap.size w3).alloc (Nat.le_refl _) (.cells #[encStr p.1, .int .i64 (j : Int)] tEnt)))).addN (p := (p.1, (j : Int))) (v2 := .slice (some ⟨g4, 0, none⟩) (j + 1) cap4) (by rw [HCNL.out]; exact HGR.out) (by rw [HCNL.out]; exact HG.out)
              rw [show dirE (crN k j) ++ [(p.1, (j : Int))] = dirE (crN k (j + 1)) by rw [crN_next HP.out]; unfold dirE; simp] at hcr5
              have hb5 : Below V2 w2 w5 := (HB3.out.alloc HVB3.out _).grown HGR.out (by have := HVB3.out; simp; omega) (fun k hk => own_ge HNROW.out hk)
              have HCR5 := Lib.hid hcr5
              have HB5 := Lib.hid hb5
              clear hcr5 hb5 z0
              go_roundw
              case rel => exact ⟨j + 1, _, by go_num, by omega, HCR5.out, HB5.out⟩
              case measure => simp [intOf]; omega
          · have hjc2 : ¬ (j : Int) < (nc : Int) := by omega
            have hjc3 : decide ((j : Int) < (nc : Int)) = false := decide_eq_false hjc2
            have hgd : cuts.getD j 0 = 0 := by rw [List.getD_eq_getElem?_getD, List.getElem?_eq_none (by have := HCL.out; omega)]; rfl
            have hleft : (D.at p.2).left (cuts.getD j 0) = ⟨(D.at p.2).data.take (D.at p.2).safe, (D.at p.2).safe⟩ := by
              rw [hgd]; unfold Bd.left
              have : min (max (0 : Int) 0).toNat ((D.at p.2).data.length - (D.at p.2).safe) + (D.at p.2).safe = (D.at p.2).safe := by omega
              simp only [this]
            have hno : ¬ ((D.at p.2).data.length : Int) - ((D.at p.2).safe : Int) < 0 := by omega
            clear hgd
            have hlnl : (D.at p.2).safe ≤ (D.at p.2).data.length := by omega
            have hln47 : (D.at p.2).safe ≤ 140737488355328 := by omega
            have hwr : IntKind.i64.wrap ((D.at p.2).safe : Int) = ((D.at p.2).safe : Int) := IntWalk.i64_in _ (by omega)
            have HRD := Lib.hid (show Rd wq.drew wq.drew.heap.size 1 Av (D.at p.2).safe (cU8 ((D.at p.2).data.take (D.at p.2).safe)) from rd_part (Rd.of_own (own_below HROW.out HBQ.out.drew)) hlnl)
            have hqc : (D.at p.2).safe ≤ cv := by
              obtain ⟨A', c', e', h1, _⟩ := own_form HROW.out
              injection e' with _ _ e'
              omega
            have hsl : ∀ wx : World, (Instr.slice 35 (.slice Av (D.at p.2).data.length cv) none (some (.int .i64 ((D.at p.2).safe : Int))) none).run Try.prog wx = .ok (.slice Av (D.at p.2).safe cv) wx := fun wx => slice_front wx hqc
            go_upto_region 20 with (fail)
            refine wp_region_any (by kernel_rfl) ?_
            change wpAny _ _ _ _ _ _ _ (World.drew _)
            refine wpAny_of_P (S := fun w' => w'.cell? ⟨P, 0, none⟩ = some (.slice Av (D.at p.2).data.length cv) ∧ w'.cell? ⟨P, 1, none⟩ = some (.int .i64 ((D.at p.2).safe : Int))) (late := [15]) _ _ _ _ ?_
            refine takeT (i := 0) (v := ?_) rfl (by kernel_rfl) (by kernel_rfl) (by kernel_rfl) (by kernel_rfl) (fun _ _ _ h => h) (HS20.out) (.inl ⟨by rfl, fun w => .inl ?hy0⟩) ?_; case hy0 => (go_simp; try with_reducible rfl)
            try go_frame
            refine takeT (i := 1) (v := ?_) rfl (by kernel_rfl) (by kernel_rfl) (by kernel_rfl) (by kernel_rfl) (fun _ _ _ h => h) (HS20.out) (.inl ⟨by rfl, fun w => .inl ?hy1⟩) ?_; case hy1 => (go_simp; try with_reducible rfl)
            try go_frame
            refine takePT 8 (i := 2) (v := ?_) rfl (by kernel_rfl) (by kernel_rfl) (by kernel_rfl) (by kernel_rfl) (by kernel_rfl) (by kernel_rfl) (fun _ _ _ h => h) (HS20.out) (.inl ⟨by rfl, fun w hw => .inl ?hy2⟩) ?_; case hy2 => (obtain ⟨hw1, hw2⟩ := hw; go_simp; try with_reducible rfl)
            try go_frame
            refine takeT (i := 3) (v := ?_) rfl (by kernel_rfl) (by kernel_rfl) (by kernel_rfl) (by kernel_rfl) (fun _ _ _ h => h) (HS20.out) (.inl ⟨by rfl, fun w => .inl ?hy3⟩) ?_; case hy3 => (go_simp; try with_reducible rfl)
            try go_frame
            refine takePT 8 (i := 4) (v := ?_) rfl (by kernel_rfl) (by kernel_rfl) (by kernel_rfl) (by kernel_rfl) (by kernel_rfl) (by kernel_rfl) (fun _ _ _ h => h) (HS20.out) (.inl ⟨by rfl, fun w hw => .inl ?hy4⟩) ?_; case hy4 => (obtain ⟨hw1, hw2⟩ := hw; go_simp; try with_reducible rfl)
            try go_frame
            refine takeT (i := 5) (v := ?_) rfl (by kernel_rfl) (by kernel_rfl) (by kernel_rfl) (by kernel_rfl) (fun _ _ _ h => h) (HS20.out) (.inl ⟨by rfl, fun w => .inl ?hy5⟩) ?_; case hy5 => (go_simp; try with_reducible rfl)
            try go_frame
            refine takeT (i := 6) (v := ?_) rfl (by kernel_rfl) (by kernel_rfl) (by kernel_rfl) (by kernel_rfl) (fun _ _ _ h => h) (HS20.out) (.inl ⟨by rfl, fun w => .inl ?hy6⟩) ?_; case hy6 => (go_simp; try with_reducible rfl)
            try go_frame
            refine takeT (i := 7) (v := ?_) rfl (by kernel_rfl) (by kernel_rfl) (by kernel_rfl) (by kernel_rfl) (fun _ _ _ h => h) (HS20.out) (.inl ⟨by rfl, fun w => .inl ?hy7⟩) ?_; case hy7 => (go_simp; try with_reducible rfl)
            try go_frame
            refine takeT (i := 9) (v := ?_) rfl (by kernel_rfl) (by kernel_rfl) (by kernel_rfl) (by kernel_rfl) (fun _ _ _ h => h) (HS20.out) (.inl ⟨by rfl, fun w => .inl ?hy9⟩) ?_; case hy9 => (go_simp; try with_reducible rfl)
            try go_frame
            refine takePT 8 (i := 10) (v := ?_) rfl (by kernel_rfl) (by kernel_rfl) (by kernel_rfl) (by kernel_rfl) (by kernel_rfl) (by kernel_rfl) (fun _ _ _ h => h) (HS20.out) (.inl ⟨by rfl, fun w hw => .inl ?hy10⟩) ?_; case hy10 => (obtain ⟨hw1, hw2⟩ := hw; go_simp; try with_reducible rfl)
            try go_frame
            refine takeT (i := 11) (v := ?_) rfl (by kernel_rfl) (by kernel_rfl) (by kernel_rfl) (by kernel_rfl) (fun _ _ _ h => h) (HS20.out) (.inl ⟨by rfl, fun w => .inl ?hy11⟩) ?_; case hy11 => (go_simp; try with_reducible rfl)
            try go_frame
            refine takeT (i := 12) (v := ?_) rfl (by kernel_rfl) (by kernel_rfl) (by kernel_rfl) (by kernel_rfl) (fun _ _ _ h => h) (HS20.out) (.inl ⟨by rfl, fun w => .inl ?hy12⟩) ?_; case hy12 => (go_simp; try with_reducible rfl)
            try go_frame
            refine forcedP (i := 8) rfl rfl (by kernel_rfl) (fun K hK => ?_)
            go_simp
            refine (rcopied_any HRD.out HNL.out (by omega)).mono ?_
            rintro y w1 ⟨A1, c1, rfl, hrow1, hb1⟩
            have hS1 := HKEEP20.out w1 ((Below.refl wq.heap.size wq).drew.trans hb1)
            refine hK _ _ (hS1) ?_; clear hK K
            try go_frame
            refine takeT (i := 13) (v := ?_) rfl (by kernel_rfl) (by kernel_rfl) (by kernel_rfl) (by kernel_rfl) (fun _ _ _ h => h) (hS1) (.inl ⟨by rfl, fun w => .inl ?hy13⟩) ?_; case hy13 => (go_simp; try with_reducible rfl)
            try go_frame
            refine forcedP (i := 14) rfl rfl (by kernel_rfl) (fun K hK => ?_)
            go_simp
            have hS2 := HKEEP20.out (w1.alloc (.cells #[.slice A1 (D.at p.2).safe c1, .int .i64 ((D.at p.2).safe : Int)] tBd)) (((Below.refl wq.heap.size wq).drew.trans hb1).alloc hb1.size _)
            refine hK _ _ (hS2) ?_; clear hK K
            try go_frame
            have HCW := Lib.hid ((HCR.out.below (HBQ.out.trans (((Below.refl wr.heap.size wq).drew.trans (hb1.mono (by show wr.heap.size ≤ wq.drew.heap.size; exact HBQ.out.size)))))).below ((Below.refl w1.heap.size w1).alloc (Nat.le_refl _) (.cells #[.slice A1 (D.at p.2).safe c1, .int .i64 ((D.at p.2).safe : Int)] tBd)))
            have hbr := HCW.out.bod
            rw [HBL.out] at hbr
            have HVB9 := Lib.hid (show V2 ≤ (w1.alloc (.cells #[.slice A1 (D.at p.2).safe c1, .int .i64 ((D.at p.2).safe : Int)] tBd)).heap.size from by have h1 := hb1.size; have h2 := HVB.out; have h3 := HBQ.out.size; simp at h1 ⊢; omega)
            refine lateP (i := 15) rfl rfl (by kernel_rfl) (by kernel_rfl) (fun K hK => ?_)
            refine wp_append_keeps _ (.tmp 97) (.tmp 111) 132 rfl V2 tBd b0 (.agg #[.slice none 0 0, .int .i64 0]) 2 32 Try.underlying132 hb0 hz0 hz1 hz2 rfl (by decide) (.slice Ao j co) j (cB (crB D k cuts j) ds2) rfl hbr ⟨w1.heap.size, 0, none⟩ 1 1 [.slice A1 (D.at p.2).safe c1, .int .i64 ((D.at p.2).safe : Int)] rfl rfl (new_cells _ [.slice A1 (D.at p.2).safe c1, .int .i64 ((D.at p.2).safe : Int)] tBd) (by simp [Value.oneCell']) (by omega) (by unfold maxLen; omega) (by omega) HVB9.out ?_
            intro g2 cap2 w3 hg hgr hat2 hlt9 _
            go_simp
            refine hK _ _ ?_; clear hK K
            try go_frame
            refine takeL (i := 16) (v := ?_) rfl (by kernel_rfl) (by kernel_rfl) (by kernel_rfl) (fun _ _ _ h => h) (.inl ⟨by rfl, fun w => .inl ?hy16⟩) ?_; case hy16 => (go_simp; try with_reducible rfl)
            try go_frame
            refine wpAny_done (by kernel_rfl) ?_ _
            have hcrb := HCW.out.addB (b := ⟨(D.at p.2).data.take (D.at p.2).safe, (D.at p.2).safe⟩) (x := .slice A1 (D.at p.2).safe c1) (by rw [List.length_take, Nat.min_eq_left hlnl]; exact own_base (own_alloc hrow1 _) (by have h1 := HVB.out; have h3 := HBQ.out.size; simp; omega)) hgr (by rw [HBL.out]; exact hg)
            have hb3 : Below V2 w2 w3 := ((HBX2.out.trans ((HBQ.out.mono HVB.out).trans ((Below.refl V2 wq).drew.trans (hb1.mono (by have h3 := HBQ.out.size; have h2 := HVB.out; show V2 ≤ wq.heap.size; omega))))).alloc (by have h1 := hb1.size; have h2 := HVB.out; have h3 := HBQ.out.size; simp at h1; omega) _).grown hgr (by have h1 := hb1.size; have h2 := HVB.out; have h3 := HBQ.out.size; simp at h1 ⊢; omega) (fun k hk => own_ge HCR.out.bod hk)
            rw [← hleft, ← crB_next HP.out] at hcrb
            have HCB9 := Lib.hid hcrb
            have HB3 := Lib.hid hb3
            obtain ⟨_, hgkk, _, _, z0, _⟩ := ent_cells (HKK.out w3 hb3) (dirE_at HP.out)
            injection hgkk with hgkk
            injection hgkk with hgkk
            subst hgkk
            dsimp only at z0
            clear hcrb hb3 hg hgr hat2 hlt9 hrow1 hb1 hS1 hS2 HCW hbr hsl hleft
            obtain ⟨Anw, cnw, rfl, _, _⟩ := own_form HCB9.out.now
            have hcnl : (dirE (crN k j)).length = j := by rw [dirE_len, crN_len (by omega)]
            rw [hcnl]
            have hnrow := HCB9.out.now
            unfold EntAt at hnrow
            rw [hcnl] at hnrow
            have HNROW := Lib.hid hnrow
            have HCNL := Lib.hid hcnl
            have HVB3 := Lib.hid (show V2 ≤ w3.heap.size from by have := HB3.out.size; have := HV2.out; omega)
            clear hnrow hcnl
            go_wp2_with (at_builtin; go_loud (refine wpList_append_keeps _ rfl (.tmp 113) (.tmp 121) 133 rfl V2 tEnt e0 (.agg #[.string ⟨#[]⟩, .int .i64 0]) 2 24 Try.underlying133 he0 hy0 hy1 hy2 rfl (by decide) (.slice Anw j cnw) j (cE (dirE (crN k j))) rfl (own_alloc HNROW.out _) ⟨w3.heap.size, 0, none⟩ 1 1 [encStr p.1, .int .i64 (j : Int)] rfl rfl (new_cells _ [encStr p.1, .int .i64 (j : Int)] tEnt) (by simp [Value.oneCell']) (by omega) (by unfold maxLen; omega) (by omega) (Nat.le_trans HVB3.out (by simp)) ?_); go_loud (intro g4 cap4 w5 hg hgr hat hlt9 _); have HG := Lib.hid hg; have HGR := Lib.hid hgr; clear hg hgr hat hlt9)
            have hcr5 := ((HCB9.out.below ((Below.refl w3.heap.size w3).alloc (Nat.le_refl _) (.cells #[encStr p.1, .int .i64 (j : Int)] tEnt)))).addN (p := (p.1, (j : Int))) (v2 := .slice (some ⟨g4, 0, none⟩) (j + 1) cap4) (by rw [HCNL.out]; exact HGR.out) (by rw [HCNL.out]; exact HG.out)
            rw [show dirE (crN k j) ++ [(p.1, (j : Int))] = dirE (crN k (j + 1)) by rw [crN_next HP.out]; unfold dirE; simp] at hcr5
            have hb5 : Below V2 w2 w5 := (HB3.out.alloc HVB3.out _).grown HGR.out (by have := HVB3.out; simp; omega) (fun k hk => own_ge HNROW.out hk)
            have HCR5 := Lib.hid hcr5
            have HB5 := Lib.hid hb5
            clear hcr5 hb5 z0
            go_roundw
            case rel => exact ⟨j + 1, _, by go_num, by omega, HCR5.out, HB5.out⟩
            case measure => simp [intOf]; omega
        · obtain rfl : j = k.length := by omega
          have hbT := HBB.out.trans ((HBW.out wr hbx).mono HBB.out.size)
          have hVw : w.heap.size ≤ V2 := by have h1 := HBB.out.size; have h2 := HB2.out.size; have h3 := HV2.out; omega
          have hbl : crB D k cuts k.length = (k.zipIdx.map fun p => (D.at p.1.2).left (cuts.getD p.2 0) : List Bd) := by unfold crB; rw [List.take_of_length_le (by simp)]
          have hnl : crN k k.length = places k := by unfold crN; rw [List.take_of_length_le (by rw [places_len]; exact Nat.le_refl _)]
          have hD : (⟨D.room, k.zipIdx.map fun p => (D.at p.1.2).left (cuts.getD p.2 0), places k, places k, []⟩ : Dr.D) = D.crash dirs cuts := by rw [Dr.D.crash_eq, HKEQ.out]
          rw [hbl, hnl] at hcr
          obtain ⟨bl, hblq⟩ : ∃ bl, (k.zipIdx.map fun p => (D.at p.1.2).left (cuts.getD p.2 0) : List Bd) = bl := ⟨_, rfl⟩
          have hbl5 : bl.length ≤ N := by rw [← hblq]; simp; exact hk5
          rw [hblq] at hcr hD
          obtain ⟨Aw, cw, rfl, _, _⟩ := own_form hcr.bod
          obtain ⟨Au, cu, rfl, _, _⟩ := own_form hcr.now
          have hlow : ∀ q, (S q ∨ (w.heap.size ≤ q ∧ q < wr.heap.size)) → q < wr.heap.size := fun q hq => by
            rcases hq with hq | hq
            · exact Nat.lt_of_lt_of_le (HW.out.low q hq) hbT.size
            · exact hq.2
          have hown : ∀ {e size n : Nat} {v : Value} {xs : List Value}, wr.ownsRow V2 e size v n xs → ∀ g, v.ownBlock = some g → (S g ∨ (w.heap.size ≤ g ∧ g < wr.heap.size)) := fun h g hg =>
            .inr ⟨Nat.le_trans hVw (own_ge h hg), (Array.getElem?_eq_some_iff.1 (own_lt h hg).choose_spec).1⟩
          have h1 := hA.putBod (w' := wr) (S' := fun q => S q ∨ (w.heap.size ≤ q ∧ q < wr.heap.size)) (fun q hq => .inl hq) hlow rfl (fun h _ => h) (v := (.slice Aw bl.length cw)) (bd := bl) (ds' := ds2) (own_base hcr.bod (Nat.zero_le _)) hcr.dl (fun i b v h1 h2 => own_base (hcr.dat i b v h1 h2) (Nat.zero_le _)) (hown hcr.bod) (fun v hv g hg => by
            obtain ⟨i, hi⟩ := List.getElem?_of_mem hv
            have hil := (List.getElem?_eq_some_iff.1 hi).1
            exact hown (hcr.dat i _ v (List.getElem?_eq_getElem (by rw [← hcr.dl]; exact hil)) hi) g hg)
          have hn1 : EntAt (wr.setCell ⟨r, 1, none⟩ (.slice Aw bl.length cw)) 0 (.slice Au (dirE (places k)).length cu) (dirE (places k)) := (hA.field 1 (.slice Aw bl.length cw) hA).2 (own_base hcr.now (Nat.zero_le _)) (by decide)
          have h2 := h1.setNow (l := places k) (v := (.slice Au (dirE (places k)).length cu)) hn1 (hown hcr.now)
          have hn2 : EntAt ((wr.setCell ⟨r, 1, none⟩ (.slice Aw bl.length cw)).setCell ⟨r, 2, none⟩ (.slice Au (dirE (places k)).length cu)) 0 (.slice Au (dirE (places k)).length cu) (dirE (places k)) := (h1.field 2 (.slice Au (dirE (places k)).length cu) h1).2 hn1 (by decide)
          have h3 := h2.setKept (l := places k) (v := (.slice Au (dirE (places k)).length cu)) hn2 (hown hcr.now)
          have h4 := h3.setChg (p := []) (cs' := []) (v := .slice none 0 0) (World.ownsRow_nil _ _ _ _) (fun j c v hj => (by cases hj)) (fun g hg => (by cases hg)) (fun v hv => (by cases hv))
          have H4 := Lib.hid (show RefAt _ _ r (D.crash dirs cuts) _ _ _ _ _ _ from by rw [← hD]; exact h4)
          have HBN := Lib.hid (show (D.crash dirs cuts).bd.length ≤ N from by rw [← hD]; exact hbl5)
          have HK := Lib.hid (((((Kept.of_below S hbT).set (p := ⟨r, 1, none⟩) hA.inR (.slice Aw bl.length cw)).set (p := ⟨r, 2, none⟩) hA.inR (.slice Au (dirE (places k)).length cu)).set (p := ⟨r, 3, none⟩) hA.inR (.slice Au (dirE (places k)).length cu)).set (p := ⟨r, 4, none⟩) hA.inR (.slice none 0 0))
          obtain ⟨_, x1, _, _, _⟩ := rcells hA.head
          have f1 := rfroz hA.head 1
          obtain ⟨_, _, x2, _, _⟩ := rcells h1.head
          have f2 := rfroz h1.head 2
          obtain ⟨_, _, _, x3, _⟩ := rcells h2.head
          have f3 := rfroz h2.head 3
          obtain ⟨_, _, _, _, x4⟩ := rcells h3.head
          have f4 := rfroz h3.head 4
          clear h1 h2 h3 h4 hA hcr hbx hlow hown hn1 hn2 hbT hbl hnl hD hblq hbl5
          go_wp2
          go_ret
          exact ⟨rfl, _, ⟨HOK.out, HBN.out, _, _, _, _, _, _, H4.out⟩, HK.out, fun q hq => hq.imp (fun h => h) (fun h => h.1)⟩
end
end Go.Proofs.Ytelgcmcnebncmaa.Dr
