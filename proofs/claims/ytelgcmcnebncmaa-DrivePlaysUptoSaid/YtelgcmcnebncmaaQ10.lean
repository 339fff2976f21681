/- XD3: merged by tools/merge.py. -/
import Derived.Test.YtelgcmcnebncmaaQ08
import Derived.Test.YtelgcmcnebncmaaQ09
namespace Go.Proofs.Ytelgcmcnebncmaa.Dr
open Go.RowKit Go.Proofs Go.Proofs.Ytelgcmcnebncmaa.Ring

theorem c_now {w : World} {d : Nat} {a b x y z : Value} (h : w.heap[d]? = some (.cells #[a, b, x, y, z] tDrive (0, 0))) : w.cell? ⟨d, 1, none⟩ = some b ∧ w.cell? ⟨d, 2, none⟩ = some x ∧ w.cell? ⟨d, 4, none⟩ = some z ∧ w.frozen? ⟨d, 1, none⟩ = false ∧ w.frozen? ⟨d, 4, none⟩ = false := by
  refine ⟨?_, ?_, ?_, ?_, ?_⟩ <;> first | (rw [cell_of_row w d _ _ _ _ h]; rfl) | (unfold World.frozen?; rw [show w.heap[(⟨d, _, none⟩ : Addr).block]? = _ from h]; simp)
theorem c_maps {w : World} {d : Nat} {a b x y z : Value} (h : w.heap[d]? = some (.cells #[a, b, x, y, z] tDrive (0, 0))) : w.cell? ⟨d, 2, none⟩ = some x ∧ w.cell? ⟨d, 3, none⟩ = some y ∧ w.frozen? ⟨d, 2, none⟩ = false ∧ w.frozen? ⟨d, 3, none⟩ = false := by
  refine ⟨?_, ?_, ?_, ?_⟩ <;> first | (rw [cell_of_row w d _ _ _ _ h]; rfl) | (unfold World.frozen?; rw [show w.heap[(⟨d, _, none⟩ : Addr).block]? = _ from h]; simp)
theorem c_step {w : World} {d : Nat} {a b : Value} (h : w.heap[d]? = some (.cells #[a, b] tStep (0, 0))) : w.cell? ⟨d, 0, none⟩ = some a ∧ w.cell? ⟨d, 1, none⟩ = some b :=
  ⟨by rw [cell_of_row w d _ _ _ _ h]; rfl, by rw [cell_of_row w d _ _ _ _ h]; rfl⟩
theorem infoSteps : (Try.prog.info? tSteps).map (fun i => (i.zero, i.size, i.bytes)) = some (some (.slice none 0 0), 1, 24) := by kernel_rfl
theorem cStep_at {β : Nat → Nat} {c : List (Bs × Option Nat)} {i : Nat} {s : Bs × Option Nat} {w : World} {base : Nat} {v : Value} {n : Nat} (h : w.ownsRow base tStep 2 v n (cStep β c)) (hn : c.length = n) (hs : c[i]? = some s) :
    ∃ g cap, v = .slice (some ⟨g, 0, none⟩) n cap ∧ w.cell? ⟨g, i * 2, none⟩ = some (encStr s.1) ∧ w.cell? ⟨g, i * 2 + 1, none⟩ = some (ptr (s.2.map β)) := by
  rw [cStep_cS] at h
  exact own_cells h (by simpa using hn) (s := (s.1, s.2.map β)) (by rw [List.getElem?_map, hs]; rfl)
theorem apply_in {B : Nat} (c : List (Bs × Option Nat)) : ∀ l : Dir, (∀ x ∈ l, x.2 < B) → (∀ s ∈ c, ∀ i, s.2 = some i → i < B) → ∀ x ∈ apply l c, x.2 < B := by
  induction c with
  | nil => exact fun l h _ => h
  | cons s r ih =>
    intro l h1 h2
    refine ih (put l s.1 s.2) (fun x hx => ?_) fun s hs => h2 s (by simp [hs])
    rcases mem_put.1 hx with ⟨hx, _⟩ | ⟨_, e2⟩
    · exact h1 x hx
    · exact h2 s (by simp) _ e2
theorem wrap_sub (x y : Int) : wrap64 (wrap64 x - y) = wrap64 (x - y) := by unfold wrap64; omega
theorem wrap_add (x y : Int) : wrap64 (wrap64 x + y) = wrap64 (x + y) := by unfold wrap64; omega

section
variable {w : World} {S : Nat → Prop} {d : Nat} {D : D} {β : Nat → Nat} {vs : Nat → Value} {nv kv pv : Value} {ss : List Value} {m N : Nat}
set_option maxRecDepth 100000 in
set_option maxHeartbeats 20000000 in
theorem change_any (h : DvAt w S d D (wrap64 (D.used : Int)) β vs nv kv pv ss) (ho : D.Ok m N) {c : List (Bs × Option Nat)} (hc : ∀ s ∈ c, named s.1 = true ∧ ∀ i, s.2 = some i → i < D.bd.length) {v : Value} {n : Nat} (hn : c.length = n) (hv : w.ownsRow 0 tStep 2 v n (cStep β c)) (hvS : ∀ k, v.ownBlock = some k → ¬ S k)
    (hN : D.now.length + n < maxLen) (hP : (D.pend.length + 1) * 24 ≤ 140737488355328) :
    Calls Try.prog 89 #[.pointer (some ⟨d, 0, none⟩), v] w fun x w' => x = .returned (.tuple #[]) ∧ ∃ S' nv' kv' pv' ss', DvAt w' S' d (D.change c) (wrap64 ((D.change c).used : Int)) β vs nv' kv' pv' ss' ∧ Kept w w' S ∧ ∀ k, S' k → S k ∨ v.ownBlock = some k ∨ w.heap.size ≤ k := by
  obtain ⟨_, c1, c2, c3, c4, f0, f1, f2, f3, f4⟩ := h.cells
  obtain ⟨A, cap, rfl, hb1, hb2⟩ := own_form hv
  have hnb : n ≤ 9223372036854775807 := by unfold maxLen at hb2; omega
  have hmn := fun (w : World) (p : Option Nat) => run_eql_map_nil_sl (P := Try.prog) w 104 kStr 145 p undirU
  have hmk := fun w => run_makeMap (P := Try.prog) 104 w
  have hvlt : ∀ k, (Value.slice A n cap).ownBlock = some k → k < w.heap.size := fun k hk => by obtain ⟨cur, h1⟩ := own_lt hv hk; exact (Array.getElem?_eq_some_iff.1 h1).1
  have HV := Lib.hid hv
  have HO := Lib.hid ho
  have HC := Lib.hid hc
  have HN := Lib.hid hn
  have HM := Lib.hid hN
  have HP := Lib.hid hP
  have H := Lib.hid h
  have HVS := Lib.hid hvS
  have HVL := Lib.hid hvlt
  clear hb1 hb2 hv hc hn hN hP hvS ho hvlt
  have hform := h.now.form
  have hkform := h.kept.form
  have HB := Lib.hid h.both
  clear h
  go_enter Try.func89, Try.ntmps89
  rcases hz : mapBlock nv with _ | b0
  · have hz2 := HB.out.1 hz
    rw [hz] at hform
    rw [hz2] at hkform
    subst hform hkform
    have hw2 : ((w.alloc (.map #[] 0)).alloc (.map #[] 0)).heap[d]? = some (.cells #[.int .i64 (D.room : Int), .int .i64 (wrap64 (D.used : Int)), .map none, .map none, pv] tDrive (0, 0)) := (((heap_alloc_old _ _ (by have := (Array.getElem?_eq_some_iff.1 H.out.head).1; simp; omega)).trans (heap_alloc_old _ _ (Array.getElem?_eq_some_iff.1 H.out.head).1)).trans H.out.head)
    obtain ⟨g2, g3, g4, g5⟩ := c_maps hw2
    have HK := Lib.hid H.out.woken
    clear hw2
    have hK1 : Kept w ((((w.alloc (.map #[] 0)).alloc (.map #[] 0)).setCell ⟨d, 2, none⟩ (.map (some w.heap.size))).setCell ⟨d, 3, none⟩ (.map (some (w.heap.size + 1)))) S := (((Kept.refl w S).below ((Below.refl _ _).alloc (Nat.le_refl _) _)).below ((Below.refl _ _).alloc (Nat.le_refl _) _)).set H.out.inD _ |>.set H.out.inD _
    go_upto_region 2 with (fail)
    obtain ⟨w1, hw1⟩ : ∃ w1, (((w.alloc (.map #[] 0)).alloc (.map #[] 0)).setCell ⟨d, 2, none⟩ (.map (some w.heap.size))).setCell ⟨d, 3, none⟩ (.map (some (w.heap.size + 1))) = w1 := ⟨_, rfl⟩
    rw [hw1] at HK hK1 ⊢
    obtain ⟨S1, hS1⟩ : ∃ S1 : Nat → Prop, (fun k => S k ∨ k = w.heap.size ∨ k = w.heap.size + 1) = S1 := ⟨_, rfl⟩
    have HS1 : RowKit.Hid (∀ k, S1 k → S k ∨ w.heap.size ≤ k) := Lib.hid (by rw [← hS1]; rintro k (hk | rfl | rfl); exact .inl hk; exact .inr (Nat.le_refl _); exact .inr (Nat.le_succ _))
    rw [hS1] at HK
    have H1 : RowKit.Hid (DvAt w1 S1 d D (wrap64 (D.used : Int)) β vs (.map (some w.heap.size)) (.map (some (w.heap.size + 1))) pv ss) := HK
    obtain ⟨b1, hb1⟩ : ∃ b1, w.heap.size = b1 := ⟨_, rfl⟩
    obtain ⟨kv1, hkv1⟩ : ∃ kv1, Value.map (some (w.heap.size + 1)) = kv1 := ⟨_, rfl⟩
    rw [hkv1, hb1] at H1
    rw [hb1] at ⊢
    have HK1 := Lib.hid hK1
    clear hw1 hS1 HK hK1 hb1 hkv1 g2 g3 g4 g5 c2 c3 hz2 hz
    go_upto_region 3 with (fail)
    go_loopw [22] (fun iv wr => ∃ i : Nat, iv = .int .i64 (i : Int) ∧ i ≤ n ∧ DvAt wr S1 d { D with now := apply D.now (c.take i) } (wrap64 (sumL D.bd (apply D.now (c.take i)) : Int)) β vs (.map (some b1)) kv1 pv ss ∧ Kept w1 wr S1) (fun iv _ => n - (intOf iv).toNat)
    case atStart => exact ⟨0, rfl, by omega, H1.out, Kept.refl _ _⟩
    case round =>
      obtain ⟨i, rfl, hi, hd, hkp⟩ := hrel
      by_cases hlt : i < n
      · obtain ⟨s, hs⟩ : ∃ s, c[i]? = some s := ⟨_, List.getElem?_eq_getElem (by have := HN.out; omega)⟩
        obtain ⟨g, cap', e, c0', c1'⟩ := cStep_at HV.out HN.out hs
        injection e with e1 e2 e3
        subst e1 e3
        obtain ⟨nm, dst⟩ := s
        have hnm := (HC.out _ (List.mem_of_getElem? hs)).1
        have hdi := (HC.out _ (List.mem_of_getElem? hs)).2
        simp only at hnm hdi
        have hg1 : ¬ S1 g := fun h => by
          rcases HS1.out g h with h | h
          · exact HVS.out g rfl h
          · have := HVL.out g rfl; omega
        have hgb : wr.heap[g]? = w.heap[g]? := (hkp.block g (Nat.lt_of_lt_of_le (HVL.out g rfl) HK1.out.size) hg1).trans (HK1.out.block g (HVL.out g rfl) (HVS.out g rfl))
        have d0 : wr.cell? ⟨g, i * 2, none⟩ = some (.string ⟨nm.toArray⟩) := (World.cell?_of_block hgb).trans c0'
        obtain ⟨p, hp⟩ : ∃ p, ptr (dst.map β) = .pointer p := by cases dst <;> exact ⟨_, rfl⟩
        have d1 : wr.cell? ⟨g, i * 2 + 1, none⟩ = some (.pointer p) := ((World.cell?_of_block hgb).trans c1').trans (congrArg some hp)
        have hlt2 : (i : Int) < (n : Int) := by omega
        obtain ⟨l, hl⟩ : ∃ l, apply D.now (c.take i) = l := ⟨_, rfl⟩
        have hsn := apply_snoc D.now c hs
        rw [hl] at hd hsn
        have hll : l.length + 1 < maxLen := by
          have h1 := len_apply_le (c.take i) D.now
          have h2 := HM.out
          rw [hl, List.length_take] at h1
          have h3 := HN.out
          omega
        have hli : Rise l ∧ ∀ x ∈ l, x.2 < D.bd.length := by
          rw [← hl]
          exact ⟨rise_apply HO.out.now _, apply_in _ _ HO.out.inN fun s hs => (HC.out s (List.mem_of_mem_take hs)).2⟩
        have HLI := Lib.hid hli
        clear hli
        have HSN := Lib.hid hsn
        have HL := Lib.hid hl
        have HD := Lib.hid hd
        have HKP := Lib.hid hkp
        have HPP := Lib.hid hp
        have HNM := Lib.hid hnm
        have HDI := Lib.hid hdi
        have HLL := Lib.hid hll
        clear c0' c1' hs hd hkp hgb hsn hl hp hnm hdi hg1 hll
        go_upto_region 5 with (refine wpList_loadStep rfl (.tmp 24) rfl g (i * 2) rfl d0 d1 ?_)
        have hA : DvAt (wr.alloc (.cells #[.string ⟨nm.toArray⟩, .pointer p] tStep)) S1 d { D with now := l } (wrap64 (sumL D.bd l : Int)) β vs (.map (some b1)) kv1 pv ss := HD.out.same (fun k hk => heap_alloc_old _ _ (HD.out.low k hk)) (by simp)
        have hVa := heap_alloc_new wr (.cells #[.string ⟨nm.toArray⟩, .pointer p] tStep)
        have hKa := HKP.out.below ((Below.refl wr.heap.size wr).alloc (Nat.le_refl _) (.cells #[.string ⟨nm.toArray⟩, .pointer p] tStep))
        have hV1 : ¬ S1 wr.heap.size := fun h => by have := HD.out.low _ h; omega
        obtain ⟨wa, hwa⟩ : ∃ wa, wr.alloc (.cells #[.string ⟨nm.toArray⟩, .pointer p] tStep) = wa := ⟨_, rfl⟩
        obtain ⟨V, hV⟩ : ∃ V, wr.heap.size = V := ⟨_, rfl⟩
        rw [hwa] at hA hVa hKa ⊢
        rw [hV] at hVa hV1 ⊢
        have HA := Lib.hid hA
        have HVA := Lib.hid hVa
        have HKA := Lib.hid hKa
        have HV1 := Lib.hid hV1
        clear hA hVa hKa hwa hV d0 d1 hV1
        have y2 : wa.drew.cell? ⟨d, 2, none⟩ = some (.map (some b1)) := (c_now HA.out.head).2.1
        have z0 : wa.drew.cell? ⟨V, 0, none⟩ = some (.string ⟨nm.toArray⟩) := (c_step HVA.out).1
        have z1 : wa.drew.cell? ⟨V, 1, none⟩ = some (.pointer p) := (c_step HVA.out).2
        have hlk : (Instr.lookup 104 (.map (some b1)) (.string ⟨nm.toArray⟩) false).run Try.prog wa.drew = .ok (ptr ((find l nm).map β)) wa.drew := by
          have := (HA.out.now.same (w' := wa.drew) fun b _ => rfl).run_look (named_len HNM.out)
          rw [find_at] at this
          exact this
        cases hf : find l nm with
        | none =>
          rw [hf] at hlk
          simp only [Option.map_none, ptr] at hlk
          have HF := Lib.hid hf
          go_region
          go_upto_region 8 with (fail)
          clear y2 z0 z1 hlk
          have hB : DvAt (wa.drew) S1 d { D with now := l } (wrap64 (sumL D.bd l : Int)) β vs (.map (some b1)) kv1 pv ss := HA.out.same (fun k _ => rfl) (Nat.le_refl _)
          have hVb : (wa.drew).heap[V]? = some (.cells #[.string ⟨nm.toArray⟩, .pointer p] tStep (0, 0)) := HVA.out
          have hKb : Kept w1 (wa.drew) S1 := HKA.out.below ((Below.refl _ _).drew)
          obtain ⟨wb, hw⟩ : ∃ wz, wa.drew = wz := ⟨_, rfl⟩
          rw [hw] at hB hVb hKb ⊢
          have HB := Lib.hid hB
          have HVB := Lib.hid hVb
          have HKB := Lib.hid hKb
          clear hw hB hVb hKb
          have z1' : wb.cell? ⟨V, 1, none⟩ = some (.pointer p) := (c_step HVB.out).2
          cases dst with
          | none =>
            obtain rfl : none = p := by have := HPP.out; simpa [ptr] using this
            go_upto_region 10 with (fail)
            clear z1'
            have hU : wrap64 (sumL D.bd l : Int) = wrap64 (sumL D.bd (put l nm (none : Option Nat)) : Int) := by
              have h1 := sumL_put (bd := D.bd) HLI.out.1 nm (none : Option Nat)
              rw [HF.out] at h1
              have h2 : sumL D.bd (put l nm (none : Option Nat)) + 0 = sumL D.bd l + 0 := h1
              clear h1
              first | rw [wrap_sub, wrap_add] | rw [wrap_sub] | rw [wrap_add] | skip
              exact congrArg wrap64 (by omega)
            have HU := Lib.hid hU
            clear hU
            refine wp_region_any (by kernel_rfl) ?_
            change wpAny _ _ _ _ _ _ _ (World.drew _)
            refine wpAny_of_P (S := fun w' => w'.heap[d]? = some (.cells #[.int .i64 (D.room : Int), .int .i64 (wrap64 (sumL D.bd l : Int)), .map (some b1), kv1, pv] tDrive (0, 0)) ∧ w'.heap[V]? = some (.cells #[.string ⟨nm.toArray⟩, .pointer none] tStep (0, 0))) (late := [6]) _ _ _ _ ?_
            refine takeT (i := 0) (v := ?_) rfl (by kernel_rfl) (by kernel_rfl) (by kernel_rfl) (by kernel_rfl) (fun _ _ _ h => h) (⟨HB.out.head, HVB.out⟩) (.inl ⟨by rfl, fun w => .inl ?hy0⟩) ?_; case hy0 => (go_simp; try with_reducible rfl)
            try go_frame
            refine takeT (i := 1) (v := ?_) rfl (by kernel_rfl) (by kernel_rfl) (by kernel_rfl) (by kernel_rfl) (fun _ _ _ h => h) (⟨HB.out.head, HVB.out⟩) (.inl ⟨by rfl, fun w => .inl ?hy1⟩) ?_; case hy1 => (go_simp; try with_reducible rfl)
            try go_frame
            refine takeT (i := 2) (v := ?_) rfl (by kernel_rfl) (by kernel_rfl) (by kernel_rfl) (by kernel_rfl) (fun _ _ _ h => h) (⟨HB.out.head, HVB.out⟩) (.inl ⟨by rfl, fun w => .inl ?hy2⟩) ?_; case hy2 => (go_simp; try with_reducible rfl)
            try go_frame
            refine takeP (i := 3) (v := ?_) rfl (by kernel_rfl) (by kernel_rfl) (by kernel_rfl) (by kernel_rfl) (by kernel_rfl) (fun _ _ _ h => h) (⟨HB.out.head, HVB.out⟩) (.inl ⟨by rfl, fun w hw => .inl ?hy3⟩) ?_; case hy3 => (obtain ⟨hw1, hw2⟩ := hw; have y2 := (c_now hw1).2.1; obtain ⟨y0, y1⟩ := c_step hw2; clear hw1 hw2; go_simp; try with_reducible rfl)
            try go_frame
            refine forcedP (i := 4) rfl rfl (by kernel_rfl) (fun K hK => ?_)
            have y0 : wb.drew.cell? ⟨V, 0, none⟩ = some (.string ⟨nm.toArray⟩) := (c_step HVB.out).1
            have y1 : wb.drew.cell? ⟨V, 1, none⟩ = some (.pointer none) := (c_step HVB.out).2
            go_simp
            refine hK _ _ (⟨HB.out.head, HVB.out⟩) ?_; clear hK K
            try go_frame
            refine forcedP (i := 5) rfl rfl (by kernel_rfl) (fun K hK => ?_)
            clear y0 y1
            go_simp
            refine hK _ _ (⟨(heap_alloc_old _ _ (Array.getElem?_eq_some_iff.1 HB.out.head).1).trans HB.out.head, (heap_alloc_old _ _ (Array.getElem?_eq_some_iff.1 HVB.out).1).trans HVB.out⟩) ?_; clear hK K
            try go_frame
            refine lateP (i := 6) rfl rfl (by kernel_rfl) (by kernel_rfl) (fun K hK => ?_)
            go_simp
            have hown : (wb.drew.alloc (.cells #[.string ⟨nm.toArray⟩, .pointer none] tStep)).ownsRow 0 tStep 2 (.slice (some ⟨wb.heap.size, 0, none⟩) 1 1) 1 (cS [(nm, (none : Option Nat))]) := own_new wb.drew (Nat.zero_le _) tStep 2 1 (cS [(nm, (none : Option Nat))]) rfl (by unfold maxLen; omega)
            refine (apply_any ((HB.out.now.same (w' := wb.drew.alloc (.cells #[.string ⟨nm.toArray⟩, .pointer none] tStep)) fun x hx => heap_alloc_old _ _ (HB.out.now.lt hx))) hown rfl (fun s hs => (by obtain rfl := List.mem_singleton.1 hs; exact named_len HNM.out)) (by simp only [at_, List.length_map]; exact HLL.out)).mono ?_
            rintro x wn ⟨rfl, hdn, hkn⟩
            refine hK _ _ ?_; clear hK K
            try go_frame
            refine wpAny_done (by kernel_rfl) ?_ _
            have hD2 : DvAt (wb.drew.alloc (.cells #[.string ⟨nm.toArray⟩, .pointer none] tStep)) S1 d { D with now := l } (wrap64 (sumL D.bd l : Int)) β vs (.map (some b1)) kv1 pv ss := HB.out.same (fun k hk => heap_alloc_old _ _ (HB.out.low k hk)) (by simp)
            rw [show apply (at_ β l) [(nm, (none : Option Nat))] = at_ β (put l nm (none : Option Nat)) from put_at β l nm (none : Option Nat)] at hdn
            have hD3 := hD2.stands (b := b1) rfl hdn hkn
            have hK3 : Kept w1 wn S1 := ((HKB.out.below ((Below.refl _ _).drew.alloc (Nat.le_refl _) (.cells #[.string ⟨nm.toArray⟩, .pointer none] tStep)))).trans hkn fun x hx => .inl (by rw [hx]; exact HB.out.inN b1 rfl)
            rw [HU.out, ← HSN.out] at hD3
            have HD3 := Lib.hid hD3
            have HK3 := Lib.hid hK3
            clear hD2 hD3 hK3 hdn hkn hown
            go_wp2
            go_roundw
            case rel => exact ⟨i + 1, by go_num, by omega, HD3.out, HK3.out⟩
            case measure => simp [intOf]; omega
          | some t =>
            obtain rfl : some (⟨β t, 0, none⟩ : Addr) = p := by have := HPP.out; simpa [ptr] using this
            have ht := HDI.out t rfl
            obtain ⟨At, ct, hvt, _, _⟩ := own_form (show wb.ownsRow 0 tU8 1 (vs t) (D.at t).data.length (cU8 (D.at t).data) from HB.out.row t ht)
            have yb : wb.drew.cell? ⟨β t, 0, none⟩ = some (.slice At (D.at t).data.length ct) := by rw [← hvt]; exact (HB.out.bcells ht).1
            have yu : wb.drew.cell? ⟨d, 1, none⟩ = some (.int .i64 (wrap64 (sumL D.bd l : Int))) := (c_now HB.out.head).1
            have yf : wb.drew.frozen? ⟨d, 1, none⟩ = false := (c_now HB.out.head).2.2.2.1
            have yz : wb.drew.cell? ⟨V, 1, none⟩ = some (.pointer (some ⟨β t, 0, none⟩)) := z1'
            go_upto_region 9 with (fail)
            go_region
            go_upto_region 10 with (fail)
            clear yb yu yf yz z1' hvt
            have hB : DvAt ((wb.setCell ⟨d, 1, none⟩ (.int .i64 (wrap64 (wrap64 (sumL D.bd l : Int) + ((D.at t).data.length : Int))))).drew) S1 d { D with now := l } (wrap64 (wrap64 (sumL D.bd l : Int) + ((D.at t).data.length : Int))) β vs (.map (some b1)) kv1 pv ss := (HB.out.used (wrap64 (wrap64 (sumL D.bd l : Int) + ((D.at t).data.length : Int)))).same (fun k _ => rfl) (Nat.le_refl _)
            have hVb : ((wb.setCell ⟨d, 1, none⟩ (.int .i64 (wrap64 (wrap64 (sumL D.bd l : Int) + ((D.at t).data.length : Int))))).drew).heap[V]? = some (.cells #[.string ⟨nm.toArray⟩, .pointer (some ⟨β t, 0, none⟩)] tStep (0, 0)) := (Below.heap_setCell _ _ _ V (fun e => HV1.out (e ▸ HB.out.inD))).trans HVB.out
            have hKb : Kept w1 ((wb.setCell ⟨d, 1, none⟩ (.int .i64 (wrap64 (wrap64 (sumL D.bd l : Int) + ((D.at t).data.length : Int))))).drew) S1 := (HKB.out.set HB.out.inD (.int .i64 (wrap64 (wrap64 (sumL D.bd l : Int) + ((D.at t).data.length : Int))))).below (show Below _ _ ((wb.setCell ⟨d, 1, none⟩ (.int .i64 (wrap64 (wrap64 (sumL D.bd l : Int) + ((D.at t).data.length : Int))))).drew) from ((Below.refl _ _).drew))
            obtain ⟨wc, hw⟩ : ∃ wz, (wb.setCell ⟨d, 1, none⟩ (.int .i64 (wrap64 (wrap64 (sumL D.bd l : Int) + ((D.at t).data.length : Int))))).drew = wz := ⟨_, rfl⟩
            rw [hw] at hB hVb hKb ⊢
            have HC := Lib.hid hB
            have HVC := Lib.hid hVb
            have HKC := Lib.hid hKb
            clear hw hB hVb hKb
            have hU : wrap64 (wrap64 (sumL D.bd l : Int) + ((D.at t).data.length : Int)) = wrap64 (sumL D.bd (put l nm (some t)) : Int) := by
              have h1 := sumL_put (bd := D.bd) HLI.out.1 nm (some t)
              rw [HF.out] at h1
              have h2 : sumL D.bd (put l nm (some t)) + 0 = sumL D.bd l + (D.at t).data.length := h1
              clear h1
              first | rw [wrap_sub, wrap_add] | rw [wrap_sub] | rw [wrap_add] | skip
              exact congrArg wrap64 (by omega)
            have HU := Lib.hid hU
            clear hU
            refine wp_region_any (by kernel_rfl) ?_
            change wpAny _ _ _ _ _ _ _ (World.drew _)
            refine wpAny_of_P (S := fun w' => w'.heap[d]? = some (.cells #[.int .i64 (D.room : Int), .int .i64 (wrap64 (wrap64 (sumL D.bd l : Int) + ((D.at t).data.length : Int))), .map (some b1), kv1, pv] tDrive (0, 0)) ∧ w'.heap[V]? = some (.cells #[.string ⟨nm.toArray⟩, .pointer (some ⟨β t, 0, none⟩)] tStep (0, 0))) (late := [6]) _ _ _ _ ?_
            refine takeT (i := 0) (v := ?_) rfl (by kernel_rfl) (by kernel_rfl) (by kernel_rfl) (by kernel_rfl) (fun _ _ _ h => h) (⟨HC.out.head, HVC.out⟩) (.inl ⟨by rfl, fun w => .inl ?hy0⟩) ?_; case hy0 => (go_simp; try with_reducible rfl)
            try go_frame
            refine takeT (i := 1) (v := ?_) rfl (by kernel_rfl) (by kernel_rfl) (by kernel_rfl) (by kernel_rfl) (fun _ _ _ h => h) (⟨HC.out.head, HVC.out⟩) (.inl ⟨by rfl, fun w => .inl ?hy1⟩) ?_; case hy1 => (go_simp; try with_reducible rfl)
            try go_frame
            refine takeT (i := 2) (v := ?_) rfl (by kernel_rfl) (by kernel_rfl) (by kernel_rfl) (by kernel_rfl) (fun _ _ _ h => h) (⟨HC.out.head, HVC.out⟩) (.inl ⟨by rfl, fun w => .inl ?hy2⟩) ?_; case hy2 => (go_simp; try with_reducible rfl)
            try go_frame
            refine takeP (i := 3) (v := ?_) rfl (by kernel_rfl) (by kernel_rfl) (by kernel_rfl) (by kernel_rfl) (by kernel_rfl) (fun _ _ _ h => h) (⟨HC.out.head, HVC.out⟩) (.inl ⟨by rfl, fun w hw => .inl ?hy3⟩) ?_; case hy3 => (obtain ⟨hw1, hw2⟩ := hw; have y2 := (c_now hw1).2.1; obtain ⟨y0, y1⟩ := c_step hw2; clear hw1 hw2; go_simp; try with_reducible rfl)
            try go_frame
            refine forcedP (i := 4) rfl rfl (by kernel_rfl) (fun K hK => ?_)
            have y0 : wc.drew.cell? ⟨V, 0, none⟩ = some (.string ⟨nm.toArray⟩) := (c_step HVC.out).1
            have y1 : wc.drew.cell? ⟨V, 1, none⟩ = some (.pointer (some ⟨β t, 0, none⟩)) := (c_step HVC.out).2
            go_simp
            refine hK _ _ (⟨HC.out.head, HVC.out⟩) ?_; clear hK K
            try go_frame
            refine forcedP (i := 5) rfl rfl (by kernel_rfl) (fun K hK => ?_)
            clear y0 y1
            go_simp
            refine hK _ _ (⟨(heap_alloc_old _ _ (Array.getElem?_eq_some_iff.1 HC.out.head).1).trans HC.out.head, (heap_alloc_old _ _ (Array.getElem?_eq_some_iff.1 HVC.out).1).trans HVC.out⟩) ?_; clear hK K
            try go_frame
            refine lateP (i := 6) rfl rfl (by kernel_rfl) (by kernel_rfl) (fun K hK => ?_)
            go_simp
            have hown : (wc.drew.alloc (.cells #[.string ⟨nm.toArray⟩, .pointer (some ⟨β t, 0, none⟩)] tStep)).ownsRow 0 tStep 2 (.slice (some ⟨wc.heap.size, 0, none⟩) 1 1) 1 (cS [(nm, (some (β t)))]) := own_new wc.drew (Nat.zero_le _) tStep 2 1 (cS [(nm, (some (β t)))]) rfl (by unfold maxLen; omega)
            refine (apply_any ((HC.out.now.same (w' := wc.drew.alloc (.cells #[.string ⟨nm.toArray⟩, .pointer (some ⟨β t, 0, none⟩)] tStep)) fun x hx => heap_alloc_old _ _ (HC.out.now.lt hx))) hown rfl (fun s hs => (by obtain rfl := List.mem_singleton.1 hs; exact named_len HNM.out)) (by simp only [at_, List.length_map]; exact HLL.out)).mono ?_
            rintro x wn ⟨rfl, hdn, hkn⟩
            refine hK _ _ ?_; clear hK K
            try go_frame
            refine wpAny_done (by kernel_rfl) ?_ _
            have hD2 : DvAt (wc.drew.alloc (.cells #[.string ⟨nm.toArray⟩, .pointer (some ⟨β t, 0, none⟩)] tStep)) S1 d { D with now := l } (wrap64 (wrap64 (sumL D.bd l : Int) + ((D.at t).data.length : Int))) β vs (.map (some b1)) kv1 pv ss := HC.out.same (fun k hk => heap_alloc_old _ _ (HC.out.low k hk)) (by simp)
            rw [show apply (at_ β l) [(nm, (some (β t)))] = at_ β (put l nm (some t)) from put_at β l nm (some t)] at hdn
            have hD3 := hD2.stands (b := b1) rfl hdn hkn
            have hK3 : Kept w1 wn S1 := ((HKC.out.below ((Below.refl _ _).drew.alloc (Nat.le_refl _) (.cells #[.string ⟨nm.toArray⟩, .pointer (some ⟨β t, 0, none⟩)] tStep)))).trans hkn fun x hx => .inl (by rw [hx]; exact HC.out.inN b1 rfl)
            rw [HU.out, ← HSN.out] at hD3
            have HD3 := Lib.hid hD3
            have HK3 := Lib.hid hK3
            clear hD2 hD3 hK3 hdn hkn hown
            go_wp2
            go_roundw
            case rel => exact ⟨i + 1, by go_num, by omega, HD3.out, HK3.out⟩
            case measure => simp [intOf]; omega
        | some k =>
          rw [hf] at hlk
          simp only [Option.map_some, ptr] at hlk
          have HF := Lib.hid hf
          have hk := (HLI.out.2 _ ((find_some HLI.out.1).1 hf))
          obtain ⟨Ak, ck, hvk, _, _⟩ := own_form (show wa.ownsRow 0 tU8 1 (vs k) (D.at k).data.length (cU8 (D.at k).data) from HA.out.row k hk)
          have yb : wa.drew.drew.cell? ⟨β k, 0, none⟩ = some (.slice Ak (D.at k).data.length ck) := by rw [← hvk]; exact (HA.out.bcells hk).1
          have yu : wa.drew.drew.cell? ⟨d, 1, none⟩ = some (.int .i64 (wrap64 (sumL D.bd l : Int))) := (c_now HA.out.head).1
          have yf : wa.drew.drew.frozen? ⟨d, 1, none⟩ = false := (c_now HA.out.head).2.2.2.1
          go_region
          go_upto_region 7 with (fail)
          go_region
          go_upto_region 8 with (fail)
          clear y2 z0 z1 hlk yb yu yf hvk
          have hB : DvAt ((wa.setCell ⟨d, 1, none⟩ (.int .i64 (wrap64 (wrap64 (sumL D.bd l : Int) - ((D.at k).data.length : Int))))).drew.drew) S1 d { D with now := l } (wrap64 (wrap64 (sumL D.bd l : Int) - ((D.at k).data.length : Int))) β vs (.map (some b1)) kv1 pv ss := (HA.out.used (wrap64 (wrap64 (sumL D.bd l : Int) - ((D.at k).data.length : Int)))).same (fun k _ => rfl) (Nat.le_refl _)
          have hVb : ((wa.setCell ⟨d, 1, none⟩ (.int .i64 (wrap64 (wrap64 (sumL D.bd l : Int) - ((D.at k).data.length : Int))))).drew.drew).heap[V]? = some (.cells #[.string ⟨nm.toArray⟩, .pointer p] tStep (0, 0)) := (Below.heap_setCell _ _ _ V (fun e => HV1.out (e ▸ HA.out.inD))).trans HVA.out
          have hKb : Kept w1 ((wa.setCell ⟨d, 1, none⟩ (.int .i64 (wrap64 (wrap64 (sumL D.bd l : Int) - ((D.at k).data.length : Int))))).drew.drew) S1 := (HKA.out.set HA.out.inD (.int .i64 (wrap64 (wrap64 (sumL D.bd l : Int) - ((D.at k).data.length : Int))))).below (show Below _ _ ((wa.setCell ⟨d, 1, none⟩ (.int .i64 (wrap64 (wrap64 (sumL D.bd l : Int) - ((D.at k).data.length : Int))))).drew.drew) from ((Below.refl _ _).drew.drew))
          obtain ⟨wb, hw⟩ : ∃ wz, (wa.setCell ⟨d, 1, none⟩ (.int .i64 (wrap64 (wrap64 (sumL D.bd l : Int) - ((D.at k).data.length : Int))))).drew.drew = wz := ⟨_, rfl⟩
          rw [hw] at hB hVb hKb ⊢
          have HB := Lib.hid hB
          have HVB := Lib.hid hVb
          have HKB := Lib.hid hKb
          clear hw hB hVb hKb
          have z1' : wb.cell? ⟨V, 1, none⟩ = some (.pointer p) := (c_step HVB.out).2
          cases dst with
          | none =>
            obtain rfl : none = p := by have := HPP.out; simpa [ptr] using this
            go_upto_region 10 with (fail)
            clear z1'
            have hU : wrap64 (wrap64 (sumL D.bd l : Int) - ((D.at k).data.length : Int)) = wrap64 (sumL D.bd (put l nm (none : Option Nat)) : Int) := by
              have h1 := sumL_put (bd := D.bd) HLI.out.1 nm (none : Option Nat)
              rw [HF.out] at h1
              have h2 : sumL D.bd (put l nm (none : Option Nat)) + (D.at k).data.length = sumL D.bd l + 0 := h1
              clear h1
              first | rw [wrap_sub, wrap_add] | rw [wrap_sub] | rw [wrap_add] | skip
              exact congrArg wrap64 (by omega)
            have HU := Lib.hid hU
            clear hU
            refine wp_region_any (by kernel_rfl) ?_
            change wpAny _ _ _ _ _ _ _ (World.drew _)
            refine wpAny_of_P (S := fun w' => w'.heap[d]? = some (.cells #[.int .i64 (D.room : Int), .int .i64 (wrap64 (wrap64 (sumL D.bd l : Int) - ((D.at k).data.length : Int))), .map (some b1), kv1, pv] tDrive (0, 0)) ∧ w'.heap[V]? = some (.cells #[.string ⟨nm.toArray⟩, .pointer none] tStep (0, 0))) (late := [6]) _ _ _ _ ?_
            refine takeT (i := 0) (v := ?_) rfl (by kernel_rfl) (by kernel_rfl) (by kernel_rfl) (by kernel_rfl) (fun _ _ _ h => h) (⟨HB.out.head, HVB.out⟩) (.inl ⟨by rfl, fun w => .inl ?hy0⟩) ?_; case hy0 => (go_simp; try with_reducible rfl)
            try go_frame
            refine takeT (i := 1) (v := ?_) rfl (by kernel_rfl) (by kernel_rfl) (by kernel_rfl) (by kernel_rfl) (fun _ _ _ h => h) (⟨HB.out.head, HVB.out⟩) (.inl ⟨by rfl, fun w => .inl ?hy1⟩) ?_; case hy1 => (go_simp; try with_reducible rfl)
            try go_frame
            refine takeT (i := 2) (v := ?_) rfl (by kernel_rfl) (by kernel_rfl) (by kernel_rfl) (by kernel_rfl) (fun _ _ _ h => h) (⟨HB.out.head, HVB.out⟩) (.inl ⟨by rfl, fun w => .inl ?hy2⟩) ?_; case hy2 => (go_simp; try with_reducible rfl)
            try go_frame
            refine takeP (i := 3) (v := ?_) rfl (by kernel_rfl) (by kernel_rfl) (by kernel_rfl) (by kernel_rfl) (by kernel_rfl) (fun _ _ _ h => h) (⟨HB.out.head, HVB.out⟩) (.inl ⟨by rfl, fun w hw => .inl ?hy3⟩) ?_; case hy3 => (obtain ⟨hw1, hw2⟩ := hw; have y2 := (c_now hw1).2.1; obtain ⟨y0, y1⟩ := c_step hw2; clear hw1 hw2; go_simp; try with_reducible rfl)
            try go_frame
            refine forcedP (i := 4) rfl rfl (by kernel_rfl) (fun K hK => ?_)
            have y0 : wb.drew.cell? ⟨V, 0, none⟩ = some (.string ⟨nm.toArray⟩) := (c_step HVB.out).1
            have y1 : wb.drew.cell? ⟨V, 1, none⟩ = some (.pointer none) := (c_step HVB.out).2
            go_simp
            refine hK _ _ (⟨HB.out.head, HVB.out⟩) ?_; clear hK K
            try go_frame
            refine forcedP (i := 5) rfl rfl (by kernel_rfl) (fun K hK => ?_)
            clear y0 y1
            go_simp
            refine hK _ _ (⟨(heap_alloc_old _ _ (Array.getElem?_eq_some_iff.1 HB.out.head).1).trans HB.out.head, (heap_alloc_old _ _ (Array.getElem?_eq_some_iff.1 HVB.out).1).trans HVB.out⟩) ?_; clear hK K
            try go_frame
            refine lateP (i := 6) rfl rfl (by kernel_rfl) (by kernel_rfl) (fun K hK => ?_)
            go_simp
            have hown : (wb.drew.alloc (.cells #[.string ⟨nm.toArray⟩, .pointer none] tStep)).ownsRow 0 tStep 2 (.slice (some ⟨wb.heap.size, 0, none⟩) 1 1) 1 (cS [(nm, (none : Option Nat))]) := own_new wb.drew (Nat.zero_le _) tStep 2 1 (cS [(nm, (none : Option Nat))]) rfl (by unfold maxLen; omega)
            refine (apply_any ((HB.out.now.same (w' := wb.drew.alloc (.cells #[.string ⟨nm.toArray⟩, .pointer none] tStep)) fun x hx => heap_alloc_old _ _ (HB.out.now.lt hx))) hown rfl (fun s hs => (by obtain rfl := List.mem_singleton.1 hs; exact named_len HNM.out)) (by simp only [at_, List.length_map]; exact HLL.out)).mono ?_
            rintro x wn ⟨rfl, hdn, hkn⟩
            refine hK _ _ ?_; clear hK K
            try go_frame
            refine wpAny_done (by kernel_rfl) ?_ _
            have hD2 : DvAt (wb.drew.alloc (.cells #[.string ⟨nm.toArray⟩, .pointer none] tStep)) S1 d { D with now := l } (wrap64 (wrap64 (sumL D.bd l : Int) - ((D.at k).data.length : Int))) β vs (.map (some b1)) kv1 pv ss := HB.out.same (fun k hk => heap_alloc_old _ _ (HB.out.low k hk)) (by simp)
            rw [show apply (at_ β l) [(nm, (none : Option Nat))] = at_ β (put l nm (none : Option Nat)) from put_at β l nm (none : Option Nat)] at hdn
            have hD3 := hD2.stands (b := b1) rfl hdn hkn
            have hK3 : Kept w1 wn S1 := ((HKB.out.below ((Below.refl _ _).drew.alloc (Nat.le_refl _) (.cells #[.string ⟨nm.toArray⟩, .pointer none] tStep)))).trans hkn fun x hx => .inl (by rw [hx]; exact HB.out.inN b1 rfl)
            rw [HU.out, ← HSN.out] at hD3
            have HD3 := Lib.hid hD3
            have HK3 := Lib.hid hK3
            clear hD2 hD3 hK3 hdn hkn hown
            go_wp2
            go_roundw
            case rel => exact ⟨i + 1, by go_num, by omega, HD3.out, HK3.out⟩
            case measure => simp [intOf]; omega
          | some t =>
            obtain rfl : some (⟨β t, 0, none⟩ : Addr) = p := by have := HPP.out; simpa [ptr] using this
            have ht := HDI.out t rfl
            obtain ⟨At, ct, hvt, _, _⟩ := own_form (show wb.ownsRow 0 tU8 1 (vs t) (D.at t).data.length (cU8 (D.at t).data) from HB.out.row t ht)
            have yb : wb.drew.cell? ⟨β t, 0, none⟩ = some (.slice At (D.at t).data.length ct) := by rw [← hvt]; exact (HB.out.bcells ht).1
            have yu : wb.drew.cell? ⟨d, 1, none⟩ = some (.int .i64 (wrap64 (wrap64 (sumL D.bd l : Int) - ((D.at k).data.length : Int)))) := (c_now HB.out.head).1
            have yf : wb.drew.frozen? ⟨d, 1, none⟩ = false := (c_now HB.out.head).2.2.2.1
            have yz : wb.drew.cell? ⟨V, 1, none⟩ = some (.pointer (some ⟨β t, 0, none⟩)) := z1'
            go_upto_region 9 with (fail)
            go_region
            go_upto_region 10 with (fail)
            clear yb yu yf yz z1' hvt
            have hB : DvAt ((wb.setCell ⟨d, 1, none⟩ (.int .i64 (wrap64 (wrap64 (wrap64 (sumL D.bd l : Int) - ((D.at k).data.length : Int)) + ((D.at t).data.length : Int))))).drew) S1 d { D with now := l } (wrap64 (wrap64 (wrap64 (sumL D.bd l : Int) - ((D.at k).data.length : Int)) + ((D.at t).data.length : Int))) β vs (.map (some b1)) kv1 pv ss := (HB.out.used (wrap64 (wrap64 (wrap64 (sumL D.bd l : Int) - ((D.at k).data.length : Int)) + ((D.at t).data.length : Int)))).same (fun k _ => rfl) (Nat.le_refl _)
            have hVb : ((wb.setCell ⟨d, 1, none⟩ (.int .i64 (wrap64 (wrap64 (wrap64 (sumL D.bd l : Int) - ((D.at k).data.length : Int)) + ((D.at t).data.length : Int))))).drew).heap[V]? = some (.cells #[.string ⟨nm.toArray⟩, .pointer (some ⟨β t, 0, none⟩)] tStep (0, 0)) := (Below.heap_setCell _ _ _ V (fun e => HV1.out (e ▸ HB.out.inD))).trans HVB.out
            have hKb : Kept w1 ((wb.setCell ⟨d, 1, none⟩ (.int .i64 (wrap64 (wrap64 (wrap64 (sumL D.bd l : Int) - ((D.at k).data.length : Int)) + ((D.at t).data.length : Int))))).drew) S1 := (HKB.out.set HB.out.inD (.int .i64 (wrap64 (wrap64 (wrap64 (sumL D.bd l : Int) - ((D.at k).data.length : Int)) + ((D.at t).data.length : Int))))).below (show Below _ _ ((wb.setCell ⟨d, 1, none⟩ (.int .i64 (wrap64 (wrap64 (wrap64 (sumL D.bd l : Int) - ((D.at k).data.length : Int)) + ((D.at t).data.length : Int))))).drew) from ((Below.refl _ _).drew))
            obtain ⟨wc, hw⟩ : ∃ wz, (wb.setCell ⟨d, 1, none⟩ (.int .i64 (wrap64 (wrap64 (wrap64 (sumL D.bd l : Int) - ((D.at k).data.length : Int)) + ((D.at t).data.length : Int))))).drew = wz := ⟨_, rfl⟩
            rw [hw] at hB hVb hKb ⊢
            have HC := Lib.hid hB
            have HVC := Lib.hid hVb
            have HKC := Lib.hid hKb
            clear hw hB hVb hKb
            have hU : wrap64 (wrap64 (wrap64 (sumL D.bd l : Int) - ((D.at k).data.length : Int)) + ((D.at t).data.length : Int)) = wrap64 (sumL D.bd (put l nm (some t)) : Int) := by
              have h1 := sumL_put (bd := D.bd) HLI.out.1 nm (some t)
              rw [HF.out] at h1
              have h2 : sumL D.bd (put l nm (some t)) + (D.at k).data.length = sumL D.bd l + (D.at t).data.length := h1
              clear h1
              first | rw [wrap_sub, wrap_add] | rw [wrap_sub] | rw [wrap_add] | skip
              exact congrArg wrap64 (by omega)
            have HU := Lib.hid hU
            clear hU
            refine wp_region_any (by kernel_rfl) ?_
            change wpAny _ _ _ _ _ _ _ (World.drew _)
            refine wpAny_of_P (S := fun w' => w'.heap[d]? = some (.cells #[.int .i64 (D.room : Int), .int .i64 (wrap64 (wrap64 (wrap64 (sumL D.bd l : Int) - ((D.at k).data.length : Int)) + ((D.at t).data.length : Int))), .map (some b1), kv1, pv] tDrive (0, 0)) ∧ w'.heap[V]? = some (.cells #[.string ⟨nm.toArray⟩, .pointer (some ⟨β t, 0, none⟩)] tStep (0, 0))) (late := [6]) _ _ _ _ ?_
            refine takeT (i := 0) (v := ?_) rfl (by kernel_rfl) (by kernel_rfl) (by kernel_rfl) (by kernel_rfl) (fun _ _ _ h => h) (⟨HC.out.head, HVC.out⟩) (.inl ⟨by rfl, fun w => .inl ?hy0⟩) ?_; case hy0 => (go_simp; try with_reducible rfl)
            try go_frame
            refine takeT (i := 1) (v := ?_) rfl (by kernel_rfl) (by kernel_rfl) (by kernel_rfl) (by kernel_rfl) (fun _ _ _ h => h) (⟨HC.out.head, HVC.out⟩) (.inl ⟨by rfl, fun w => .inl ?hy1⟩) ?_; case hy1 => (go_simp; try with_reducible rfl)
            try go_frame
            refine takeT (i := 2) (v := ?_) rfl (by kernel_rfl) (by kernel_rfl) (by kernel_rfl) (by kernel_rfl) (fun _ _ _ h => h) (⟨HC.out.head, HVC.out⟩) (.inl ⟨by rfl, fun w => .inl ?hy2⟩) ?_; case hy2 => (go_simp; try with_reducible rfl)
            try go_frame
            refine takeP (i := 3) (v := ?_) rfl (by kernel_rfl) (by kernel_rfl) (by kernel_rfl) (by kernel_rfl) (by kernel_rfl) (fun _ _ _ h => h) (⟨HC.out.head, HVC.out⟩) (.inl ⟨by rfl, fun w hw => .inl ?hy3⟩) ?_; case hy3 => (obtain ⟨hw1, hw2⟩ := hw; have y2 := (c_now hw1).2.1; obtain ⟨y0, y1⟩ := c_step hw2; clear hw1 hw2; go_simp; try with_reducible rfl)
            try go_frame
            refine forcedP (i := 4) rfl rfl (by kernel_rfl) (fun K hK => ?_)
            have y0 : wc.drew.cell? ⟨V, 0, none⟩ = some (.string ⟨nm.toArray⟩) := (c_step HVC.out).1
            have y1 : wc.drew.cell? ⟨V, 1, none⟩ = some (.pointer (some ⟨β t, 0, none⟩)) := (c_step HVC.out).2
            go_simp
            refine hK _ _ (⟨HC.out.head, HVC.out⟩) ?_; clear hK K
            try go_frame
            refine forcedP (i := 5) rfl rfl (by kernel_rfl) (fun K hK => ?_)
            clear y0 y1
            go_simp
            refine hK _ _ (⟨(heap_alloc_old _ _ (Array.getElem?_eq_some_iff.1 HC.out.head).1).trans HC.out.head, (heap_alloc_old _ _ (Array.getElem?_eq_some_iff.1 HVC.out).1).trans HVC.out⟩) ?_; clear hK K
            try go_frame
            refine lateP (i := 6) rfl rfl (by kernel_rfl) (by kernel_rfl) (fun K hK => ?_)
            go_simp
            have hown : (wc.drew.alloc (.cells #[.string ⟨nm.toArray⟩, .pointer (some ⟨β t, 0, none⟩)] tStep)).ownsRow 0 tStep 2 (.slice (some ⟨wc.heap.size, 0, none⟩) 1 1) 1 (cS [(nm, (some (β t)))]) := own_new wc.drew (Nat.zero_le _) tStep 2 1 (cS [(nm, (some (β t)))]) rfl (by unfold maxLen; omega)
            refine (apply_any ((HC.out.now.same (w' := wc.drew.alloc (.cells #[.string ⟨nm.toArray⟩, .pointer (some ⟨β t, 0, none⟩)] tStep)) fun x hx => heap_alloc_old _ _ (HC.out.now.lt hx))) hown rfl (fun s hs => (by obtain rfl := List.mem_singleton.1 hs; exact named_len HNM.out)) (by simp only [at_, List.length_map]; exact HLL.out)).mono ?_
            rintro x wn ⟨rfl, hdn, hkn⟩
            refine hK _ _ ?_; clear hK K
            try go_frame
            refine wpAny_done (by kernel_rfl) ?_ _
            have hD2 : DvAt (wc.drew.alloc (.cells #[.string ⟨nm.toArray⟩, .pointer (some ⟨β t, 0, none⟩)] tStep)) S1 d { D with now := l } (wrap64 (wrap64 (wrap64 (sumL D.bd l : Int) - ((D.at k).data.length : Int)) + ((D.at t).data.length : Int))) β vs (.map (some b1)) kv1 pv ss := HC.out.same (fun k hk => heap_alloc_old _ _ (HC.out.low k hk)) (by simp)
            rw [show apply (at_ β l) [(nm, (some (β t)))] = at_ β (put l nm (some t)) from put_at β l nm (some t)] at hdn
            have hD3 := hD2.stands (b := b1) rfl hdn hkn
            have hK3 : Kept w1 wn S1 := ((HKC.out.below ((Below.refl _ _).drew.alloc (Nat.le_refl _) (.cells #[.string ⟨nm.toArray⟩, .pointer (some ⟨β t, 0, none⟩)] tStep)))).trans hkn fun x hx => .inl (by rw [hx]; exact HC.out.inN b1 rfl)
            rw [HU.out, ← HSN.out] at hD3
            have HD3 := Lib.hid hD3
            have HK3 := Lib.hid hK3
            clear hD2 hD3 hK3 hdn hkn hown
            go_wp2
            go_roundw
            case rel => exact ⟨i + 1, by go_num, by omega, HD3.out, HK3.out⟩
            case measure => simp [intOf]; omega
      · obtain rfl : n = i := by omega
        rw [List.take_of_length_le (by have := HN.out; omega)] at hd
        have hrow : wr.ownsRow 0 tStep 2 (.slice A n cap) n (cStep β c) := own_same HV.out fun k hk => (hkp.block k (Nat.lt_of_lt_of_le (HVL.out k hk) HK1.out.size) (fun h => by
          rcases HS1.out k h with h | h
          · exact HVS.out k hk h
          · have := HVL.out k hk; omega)).trans (HK1.out.block k (HVL.out k hk) (HVS.out k hk))
        obtain ⟨j0, hj0, hq0, hq1, hq2⟩ := info_parts infoSteps
        have HD := Lib.hid hd
        have HKP := Lib.hid hkp
        have HROW := Lib.hid hrow
        have hP := HP.out
        have y4 : wr.cell? ⟨d, 4, none⟩ = some pv := (c_now hd.head).2.2.1
        clear hd hkp hrow
        go_wp2_with (first
          | (at_builtin; go_loud (refine wpList_append_keeps _ rfl (.tmp 75) (.tmp 77) 105 rfl 0 tSteps j0 (.slice none 0 0) 1 24 Try.underlying105 hj0 hq0 hq1 hq2 rfl (by decide) pv D.pend.length ss rfl (own_alloc HD.out.pend _) ⟨wr.heap.size, 0, none⟩ 1 1 [.slice A n cap] rfl rfl (cell_one_new _ _ _) (by simp [Value.oneCell']) (by omega) (by unfold maxLen; omega) (by omega) (Nat.zero_le _) ?_); go_loud (intro g1 cap1 w3 hg1 hgr1 hat1 hlt1 _); go_loud (have hd3 : w3.heap[d]? = some (.cells #[.int .i64 (D.room : Int), .int .i64 (wrap64 (sumL D.bd (apply D.now c) : Int)), .map (some b1), kv1, pv] tDrive (0, 0)) := (hgr1.block d (by have := (Array.getElem?_eq_some_iff.1 HD.out.head).1; simp; omega) (fun e => HD.out.d_not.2.2.2.2.1 d e.symm rfl)).trans ((heap_alloc_old _ _ (Array.getElem?_eq_some_iff.1 HD.out.head).1).trans HD.out.head)); go_loud (have y5 := (c_now hd3).2.2.1; have y6 := (c_now hd3).2.2.2.2); have HG1 := Lib.hid hg1; have HGR1 := Lib.hid hgr1; clear hg1 hgr1 hd3))
        refine bodyPost_end (v := .tuple #[]) (by simp [results, Try.results89, go_sem]) rfl ⟨rfl, ?_⟩
        have hA := (HD.out.same (w' := wr.alloc (.cells #[.slice A n cap] tSteps)) (fun k hk => heap_alloc_old _ _ (HD.out.low k hk)) (by simp)).pended HG1.out rfl HGR1.out (by rcases hat1 with h | h; exact .inl h; exact .inr (Nat.le_of_eq h.symm)) hlt1 (v := .slice A n cap) (c := c) (by rw [HN.out]; exact own_alloc HROW.out _) (by simp [mapBlock])
        refine ⟨_, _, _, _, _, hA, ?_, ?_⟩
        · refine ((HK1.out.trans HKP.out HS1.out).below ((Below.refl _ _).alloc (Nat.le_refl _) (.cells #[.slice A n cap] tSteps))).grown HGR1.out (fun k hk => ?_) |>.set H.out.inD _
          exact HS1.out k (HD.out.inP k hk)
        · rintro k (hk | hk | ⟨_, hk⟩)
          · rcases HS1.out k hk with h | h
            · exact .inl h
            · exact .inr (.inr h)
          · exact .inr (.inl hk)
          · exact .inr (.inr (by have h1 := HK1.out.size; have h2 := HKP.out.size; simp at hk; omega))
  · rw [hz] at hform
    subst hform
    go_upto_region 2 with (fail)
    have HS1 : RowKit.Hid (∀ k, S k → S k ∨ w.heap.size ≤ k) := Lib.hid (fun k hk => .inl hk)
    have HK1 := Lib.hid (Kept.refl w S)
    obtain ⟨S1, hS1⟩ : ∃ S1, S = S1 := ⟨_, rfl⟩
    obtain ⟨b1, rfl⟩ : ∃ b1, b1 = b0 := ⟨_, rfl⟩
    obtain ⟨kv1, hkv1⟩ : ∃ kv1, kv = kv1 := ⟨_, rfl⟩
    have H1 : RowKit.Hid (DvAt w S1 d D (wrap64 (D.used : Int)) β vs (.map (some b1)) kv1 pv ss) := by rw [← hS1, ← hkv1]; exact H
    have HS1 : RowKit.Hid (∀ k, S1 k → S k ∨ w.heap.size ≤ k) := by rw [← hS1]; exact HS1
    clear c2 c3 hz hkv1 hS1
    go_upto_region 3 with (fail)
    go_loopw [22] (fun iv wr => ∃ i : Nat, iv = .int .i64 (i : Int) ∧ i ≤ n ∧ DvAt wr S1 d { D with now := apply D.now (c.take i) } (wrap64 (sumL D.bd (apply D.now (c.take i)) : Int)) β vs (.map (some b1)) kv1 pv ss ∧ Kept w wr S1) (fun iv _ => n - (intOf iv).toNat)
    case atStart => exact ⟨0, rfl, by omega, H1.out, Kept.refl _ _⟩
    case round =>
      obtain ⟨i, rfl, hi, hd, hkp⟩ := hrel
      by_cases hlt : i < n
      · obtain ⟨s, hs⟩ : ∃ s, c[i]? = some s := ⟨_, List.getElem?_eq_getElem (by have := HN.out; omega)⟩
        obtain ⟨g, cap', e, c0', c1'⟩ := cStep_at HV.out HN.out hs
        injection e with e1 e2 e3
        subst e1 e3
        obtain ⟨nm, dst⟩ := s
        have hnm := (HC.out _ (List.mem_of_getElem? hs)).1
        have hdi := (HC.out _ (List.mem_of_getElem? hs)).2
        simp only at hnm hdi
        have hg1 : ¬ S1 g := fun h => by
          rcases HS1.out g h with h | h
          · exact HVS.out g rfl h
          · have := HVL.out g rfl; omega
        have hgb : wr.heap[g]? = w.heap[g]? := (hkp.block g (Nat.lt_of_lt_of_le (HVL.out g rfl) HK1.out.size) hg1).trans (HK1.out.block g (HVL.out g rfl) (HVS.out g rfl))
        have d0 : wr.cell? ⟨g, i * 2, none⟩ = some (.string ⟨nm.toArray⟩) := (World.cell?_of_block hgb).trans c0'
        obtain ⟨p, hp⟩ : ∃ p, ptr (dst.map β) = .pointer p := by cases dst <;> exact ⟨_, rfl⟩
        have d1 : wr.cell? ⟨g, i * 2 + 1, none⟩ = some (.pointer p) := ((World.cell?_of_block hgb).trans c1').trans (congrArg some hp)
        have hlt2 : (i : Int) < (n : Int) := by omega
        obtain ⟨l, hl⟩ : ∃ l, apply D.now (c.take i) = l := ⟨_, rfl⟩
        have hsn := apply_snoc D.now c hs
        rw [hl] at hd hsn
        have hll : l.length + 1 < maxLen := by
          have h1 := len_apply_le (c.take i) D.now
          have h2 := HM.out
          rw [hl, List.length_take] at h1
          have h3 := HN.out
          omega
        have hli : Rise l ∧ ∀ x ∈ l, x.2 < D.bd.length := by
          rw [← hl]
          exact ⟨rise_apply HO.out.now _, apply_in _ _ HO.out.inN fun s hs => (HC.out s (List.mem_of_mem_take hs)).2⟩
        have HLI := Lib.hid hli
        clear hli
        have HSN := Lib.hid hsn
        have HL := Lib.hid hl
        have HD := Lib.hid hd
        have HKP := Lib.hid hkp
        have HPP := Lib.hid hp
        have HNM := Lib.hid hnm
        have HDI := Lib.hid hdi
        have HLL := Lib.hid hll
        clear c0' c1' hs hd hkp hgb hsn hl hp hnm hdi hg1 hll
        go_upto_region 5 with (refine wpList_loadStep rfl (.tmp 24) rfl g (i * 2) rfl d0 d1 ?_)
        have hA : DvAt (wr.alloc (.cells #[.string ⟨nm.toArray⟩, .pointer p] tStep)) S1 d { D with now := l } (wrap64 (sumL D.bd l : Int)) β vs (.map (some b1)) kv1 pv ss := HD.out.same (fun k hk => heap_alloc_old _ _ (HD.out.low k hk)) (by simp)
        have hVa := heap_alloc_new wr (.cells #[.string ⟨nm.toArray⟩, .pointer p] tStep)
        have hKa := HKP.out.below ((Below.refl wr.heap.size wr).alloc (Nat.le_refl _) (.cells #[.string ⟨nm.toArray⟩, .pointer p] tStep))
        have hV1 : ¬ S1 wr.heap.size := fun h => by have := HD.out.low _ h; omega
        obtain ⟨wa, hwa⟩ : ∃ wa, wr.alloc (.cells #[.string ⟨nm.toArray⟩, .pointer p] tStep) = wa := ⟨_, rfl⟩
        obtain ⟨V, hV⟩ : ∃ V, wr.heap.size = V := ⟨_, rfl⟩
        rw [hwa] at hA hVa hKa ⊢
        rw [hV] at hVa hV1 ⊢
        have HA := Lib.hid hA
        have HVA := Lib.hid hVa
        have HKA := Lib.hid hKa
        have HV1 := Lib.hid hV1
        clear hA hVa hKa hwa hV d0 d1 hV1
        have y2 : wa.drew.cell? ⟨d, 2, none⟩ = some (.map (some b1)) := (c_now HA.out.head).2.1
        have z0 : wa.drew.cell? ⟨V, 0, none⟩ = some (.string ⟨nm.toArray⟩) := (c_step HVA.out).1
        have z1 : wa.drew.cell? ⟨V, 1, none⟩ = some (.pointer p) := (c_step HVA.out).2
        have hlk : (Instr.lookup 104 (.map (some b1)) (.string ⟨nm.toArray⟩) false).run Try.prog wa.drew = .ok (ptr ((find l nm).map β)) wa.drew := by
          have := (HA.out.now.same (w' := wa.drew) fun b _ => rfl).run_look (named_len HNM.out)
          rw [find_at] at this
          exact this
        cases hf : find l nm with
        | none =>
          rw [hf] at hlk
          simp only [Option.map_none, ptr] at hlk
          have HF := Lib.hid hf
          go_region
          go_upto_region 8 with (fail)
          clear y2 z0 z1 hlk
          have hB : DvAt (wa.drew) S1 d { D with now := l } (wrap64 (sumL D.bd l : Int)) β vs (.map (some b1)) kv1 pv ss := HA.out.same (fun k _ => rfl) (Nat.le_refl _)
          have hVb : (wa.drew).heap[V]? = some (.cells #[.string ⟨nm.toArray⟩, .pointer p] tStep (0, 0)) := HVA.out
          have hKb : Kept w (wa.drew) S1 := HKA.out.below ((Below.refl _ _).drew)
          obtain ⟨wb, hw⟩ : ∃ wz, wa.drew = wz := ⟨_, rfl⟩
          rw [hw] at hB hVb hKb ⊢
          have HB := Lib.hid hB
          have HVB := Lib.hid hVb
          have HKB := Lib.hid hKb
          clear hw hB hVb hKb
          have z1' : wb.cell? ⟨V, 1, none⟩ = some (.pointer p) := (c_step HVB.out).2
          cases dst with
          | none =>
            obtain rfl : none = p := by have := HPP.out; simpa [ptr] using this
            go_upto_region 10 with (fail)
            clear z1'
            have hU : wrap64 (sumL D.bd l : Int) = wrap64 (sumL D.bd (put l nm (none : Option Nat)) : Int) := by
              have h1 := sumL_put (bd := D.bd) HLI.out.1 nm (none : Option Nat)
              rw [HF.out] at h1
              have h2 : sumL D.bd (put l nm (none : Option Nat)) + 0 = sumL D.bd l + 0 := h1
              clear h1
              first | rw [wrap_sub, wrap_add] | rw [wrap_sub] | rw [wrap_add] | skip
              exact congrArg wrap64 (by omega)
            have HU := Lib.hid hU
            clear hU
            refine wp_region_any (by kernel_rfl) ?_
            change wpAny _ _ _ _ _ _ _ (World.drew _)
            refine wpAny_of_P (S := fun w' => w'.heap[d]? = some (.cells #[.int .i64 (D.room : Int), .int .i64 (wrap64 (sumL D.bd l : Int)), .map (some b1), kv1, pv] tDrive (0, 0)) ∧ w'.heap[V]? = some (.cells #[.string ⟨nm.toArray⟩, .pointer none] tStep (0, 0))) (late := [6]) _ _ _ _ ?_
            refine takeT (i := 0) (v := ?_) rfl (by kernel_rfl) (by kernel_rfl) (by kernel_rfl) (by kernel_rfl) (fun _ _ _ h => h) (⟨HB.out.head, HVB.out⟩) (.inl ⟨by rfl, fun w => .inl ?hy0⟩) ?_; case hy0 => (go_simp; try with_reducible rfl)
            try go_frame
            refine takeT (i := 1) (v := ?_) rfl (by kernel_rfl) (by kernel_rfl) (by kernel_rfl) (by kernel_rfl) (fun _ _ _ h => h) (⟨HB.out.head, HVB.out⟩) (.inl ⟨by rfl, fun w => .inl ?hy1⟩) ?_; case hy1 => (go_simp; try with_reducible rfl)
            try go_frame
            refine takeT (i := 2) (v := ?_) rfl (by kernel_rfl) (by kernel_rfl) (by kernel_rfl) (by kernel_rfl) (fun _ _ _ h => h) (⟨HB.out.head, HVB.out⟩) (.inl ⟨by rfl, fun w => .inl ?hy2⟩) ?_; case hy2 => (go_simp; try with_reducible rfl)
            try go_frame
            refine takeP (i := 3) (v := ?_) rfl (by kernel_rfl) (by kernel_rfl) (by kernel_rfl) (by kernel_rfl) (by kernel_rfl) (fun _ _ _ h => h) (⟨HB.out.head, HVB.out⟩) (.inl ⟨by rfl, fun w hw => .inl ?hy3⟩) ?_; case hy3 => (obtain ⟨hw1, hw2⟩ := hw; have y2 := (c_now hw1).2.1; obtain ⟨y0, y1⟩ := c_step hw2; clear hw1 hw2; go_simp; try with_reducible rfl)
            try go_frame
            refine forcedP (i := 4) rfl rfl (by kernel_rfl) (fun K hK => ?_)
            have y0 : wb.drew.cell? ⟨V, 0, none⟩ = some (.string ⟨nm.toArray⟩) := (c_step HVB.out).1
            have y1 : wb.drew.cell? ⟨V, 1, none⟩ = some (.pointer none) := (c_step HVB.out).2
            go_simp
            refine hK _ _ (⟨HB.out.head, HVB.out⟩) ?_; clear hK K
            try go_frame
            refine forcedP (i := 5) rfl rfl (by kernel_rfl) (fun K hK => ?_)
            clear y0 y1
            go_simp
            refine hK _ _ (⟨(heap_alloc_old _ _ (Array.getElem?_eq_some_iff.1 HB.out.head).1).trans HB.out.head, (heap_alloc_old _ _ (Array.getElem?_eq_some_iff.1 HVB.out).1).trans HVB.out⟩) ?_; clear hK K
            try go_frame
            refine lateP (i := 6) rfl rfl (by kernel_rfl) (by kernel_rfl) (fun K hK => ?_)
            go_simp
            have hown : (wb.drew.alloc (.cells #[.string ⟨nm.toArray⟩, .pointer none] tStep)).ownsRow 0 tStep 2 (.slice (some ⟨wb.heap.size, 0, none⟩) 1 1) 1 (cS [(nm, (none : Option Nat))]) := own_new wb.drew (Nat.zero_le _) tStep 2 1 (cS [(nm, (none : Option Nat))]) rfl (by unfold maxLen; omega)
            refine (apply_any ((HB.out.now.same (w' := wb.drew.alloc (.cells #[.string ⟨nm.toArray⟩, .pointer none] tStep)) fun x hx => heap_alloc_old _ _ (HB.out.now.lt hx))) hown rfl (fun s hs => (by obtain rfl := List.mem_singleton.1 hs; exact named_len HNM.out)) (by simp only [at_, List.length_map]; exact HLL.out)).mono ?_
            rintro x wn ⟨rfl, hdn, hkn⟩
            refine hK _ _ ?_; clear hK K
            try go_frame
            refine wpAny_done (by kernel_rfl) ?_ _
            have hD2 : DvAt (wb.drew.alloc (.cells #[.string ⟨nm.toArray⟩, .pointer none] tStep)) S1 d { D with now := l } (wrap64 (sumL D.bd l : Int)) β vs (.map (some b1)) kv1 pv ss := HB.out.same (fun k hk => heap_alloc_old _ _ (HB.out.low k hk)) (by simp)
            rw [show apply (at_ β l) [(nm, (none : Option Nat))] = at_ β (put l nm (none : Option Nat)) from put_at β l nm (none : Option Nat)] at hdn
            have hD3 := hD2.stands (b := b1) rfl hdn hkn
            have hK3 : Kept w wn S1 := ((HKB.out.below ((Below.refl _ _).drew.alloc (Nat.le_refl _) (.cells #[.string ⟨nm.toArray⟩, .pointer none] tStep)))).trans hkn fun x hx => .inl (by rw [hx]; exact HB.out.inN b1 rfl)
            rw [HU.out, ← HSN.out] at hD3
            have HD3 := Lib.hid hD3
            have HK3 := Lib.hid hK3
            clear hD2 hD3 hK3 hdn hkn hown
            go_wp2
            go_roundw
            case rel => exact ⟨i + 1, by go_num, by omega, HD3.out, HK3.out⟩
            case measure => simp [intOf]; omega
          | some t =>
            obtain rfl : some (⟨β t, 0, none⟩ : Addr) = p := by have := HPP.out; simpa [ptr] using this
            have ht := HDI.out t rfl
            obtain ⟨At, ct, hvt, _, _⟩ := own_form (show wb.ownsRow 0 tU8 1 (vs t) (D.at t).data.length (cU8 (D.at t).data) from HB.out.row t ht)
            have yb : wb.drew.cell? ⟨β t, 0, none⟩ = some (.slice At (D.at t).data.length ct) := by rw [← hvt]; exact (HB.out.bcells ht).1
            have yu : wb.drew.cell? ⟨d, 1, none⟩ = some (.int .i64 (wrap64 (sumL D.bd l : Int))) := (c_now HB.out.head).1
            have yf : wb.drew.frozen? ⟨d, 1, none⟩ = false := (c_now HB.out.head).2.2.2.1
            have yz : wb.drew.cell? ⟨V, 1, none⟩ = some (.pointer (some ⟨β t, 0, none⟩)) := z1'
            go_upto_region 9 with (fail)
            go_region
            go_upto_region 10 with (fail)
            clear yb yu yf yz z1' hvt
            have hB : DvAt ((wb.setCell ⟨d, 1, none⟩ (.int .i64 (wrap64 (wrap64 (sumL D.bd l : Int) + ((D.at t).data.length : Int))))).drew) S1 d { D with now := l } (wrap64 (wrap64 (sumL D.bd l : Int) + ((D.at t).data.length : Int))) β vs (.map (some b1)) kv1 pv ss := (HB.out.used (wrap64 (wrap64 (sumL D.bd l : Int) + ((D.at t).data.length : Int)))).same (fun k _ => rfl) (Nat.le_refl _)
            have hVb : ((wb.setCell ⟨d, 1, none⟩ (.int .i64 (wrap64 (wrap64 (sumL D.bd l : Int) + ((D.at t).data.length : Int))))).drew).heap[V]? = some (.cells #[.string ⟨nm.toArray⟩, .pointer (some ⟨β t, 0, none⟩)] tStep (0, 0)) := (Below.heap_setCell _ _ _ V (fun e => HV1.out (e ▸ HB.out.inD))).trans HVB.out
            have hKb : Kept w ((wb.setCell ⟨d, 1, none⟩ (.int .i64 (wrap64 (wrap64 (sumL D.bd l : Int) + ((D.at t).data.length : Int))))).drew) S1 := (HKB.out.set HB.out.inD (.int .i64 (wrap64 (wrap64 (sumL D.bd l : Int) + ((D.at t).data.length : Int))))).below (show Below _ _ ((wb.setCell ⟨d, 1, none⟩ (.int .i64 (wrap64 (wrap64 (sumL D.bd l : Int) + ((D.at t).data.length : Int))))).drew) from ((Below.refl _ _).drew))
            obtain ⟨wc, hw⟩ : ∃ wz, (wb.setCell ⟨d, 1, none⟩ (.int .i64 (wrap64 (wrap64 (sumL D.bd l : Int) + ((D.at t).data.length : Int))))).drew = wz := ⟨_, rfl⟩
            rw [hw] at hB hVb hKb ⊢
            have HC := Lib.hid hB
            have HVC := Lib.hid hVb
            have HKC := Lib.hid hKb
            clear hw hB hVb hKb
            have hU : wrap64 (wrap64 (sumL D.bd l : Int) + ((D.at t).data.length : Int)) = wrap64 (sumL D.bd (put l nm (some t)) : Int) := by
              have h1 := sumL_put (bd := D.bd) HLI.out.1 nm (some t)
              rw [HF.out] at h1
              have h2 : sumL D.bd (put l nm (some t)) + 0 = sumL D.bd l + (D.at t).data.length := h1
              clear h1
              first | rw [wrap_sub, wrap_add] | rw [wrap_sub] | rw [wrap_add] | skip
              exact congrArg wrap64 (by omega)
            have HU := Lib.hid hU
            clear hU
            refine wp_region_any (by kernel_rfl) ?_
            change wpAny _ _ _ _ _ _ _ (World.drew _)
            refine wpAny_of_P (S := fun w' => w'.heap[d]? = some (.cells #[.int .i64 (D.room : Int), .int .i64 (wrap64 (wrap64 (sumL D.bd l : Int) + ((D.at t).data.length : Int))), .map (some b1), kv1, pv] tDrive (0, 0)) ∧ w'.heap[V]? = some (.cells #[.string ⟨nm.toArray⟩, .pointer (some ⟨β t, 0, none⟩)] tStep (0, 0))) (late := [6]) _ _ _ _ ?_
            refine takeT (i := 0) (v := ?_) rfl (by kernel_rfl) (by kernel_rfl) (by kernel_rfl) (by kernel_rfl) (fun _ _ _ h => h) (⟨HC.out.head, HVC.out⟩) (.inl ⟨by rfl, fun w => .inl ?hy0⟩) ?_; case hy0 => (go_simp; try with_reducible rfl)
            try go_frame
            refine takeT (i := 1) (v := ?_) rfl (by kernel_rfl) (by kernel_rfl) (by kernel_rfl) (by kernel_rfl) (fun _ _ _ h => h) (⟨HC.out.head, HVC.out⟩) (.inl ⟨by rfl, fun w => .inl ?hy1⟩) ?_; case hy1 => (go_simp; try with_reducible rfl)
            try go_frame
            refine takeT (i := 2) (v := ?_) rfl (by kernel_rfl) (by kernel_rfl) (by kernel_rfl) (by kernel_rfl) (fun _ _ _ h => h) (⟨HC.out.head, HVC.out⟩) (.inl ⟨by rfl, fun w => .inl ?hy2⟩) ?_; case hy2 => (go_simp; try with_reducible rfl)
            try go_frame
            refine takeP (i := 3) (v := ?_) rfl (by kernel_rfl) (by kernel_rfl) (by kernel_rfl) (by kernel_rfl) (by kernel_rfl) (fun _ _ _ h => h) (⟨HC.out.head, HVC.out⟩) (.inl ⟨by rfl, fun w hw => .inl ?hy3⟩) ?_; case hy3 => (obtain ⟨hw1, hw2⟩ := hw; have y2 := (c_now hw1).2.1; obtain ⟨y0, y1⟩ := c_step hw2; clear hw1 hw2; go_simp; try with_reducible rfl)
            try go_frame
            refine forcedP (i := 4) rfl rfl (by kernel_rfl) (fun K hK => ?_)
            have y0 : wc.drew.cell? ⟨V, 0, none⟩ = some (.string ⟨nm.toArray⟩) := (c_step HVC.out).1
            have y1 : wc.drew.cell? ⟨V, 1, none⟩ = some (.pointer (some ⟨β t, 0, none⟩)) := (c_step HVC.out).2
            go_simp
            refine hK _ _ (⟨HC.out.head, HVC.out⟩) ?_; clear hK K
            try go_frame
            refine forcedP (i := 5) rfl rfl (by kernel_rfl) (fun K hK => ?_)
            clear y0 y1
            go_simp
            refine hK _ _ (⟨(heap_alloc_old _ _ (Array.getElem?_eq_some_iff.1 HC.out.head).1).trans HC.out.head, (heap_alloc_old _ _ (Array.getElem?_eq_some_iff.1 HVC.out).1).trans HVC.out⟩) ?_; clear hK K
            try go_frame
            refine lateP (i := 6) rfl rfl (by kernel_rfl) (by kernel_rfl) (fun K hK => ?_)
            go_simp
            have hown : (wc.drew.alloc (.cells #[.string ⟨nm.toArray⟩, .pointer (some ⟨β t, 0, none⟩)] tStep)).ownsRow 0 tStep 2 (.slice (some ⟨wc.heap.size, 0, none⟩) 1 1) 1 (cS [(nm, (some (β t)))]) := own_new wc.drew (Nat.zero_le _) tStep 2 1 (cS [(nm, (some (β t)))]) rfl (by unfold maxLen; omega)
            refine (apply_any ((HC.out.now.same (w' := wc.drew.alloc (.cells #[.string ⟨nm.toArray⟩, .pointer (some ⟨β t, 0, none⟩)] tStep)) fun x hx => heap_alloc_old _ _ (HC.out.now.lt hx))) hown rfl (fun s hs => (by obtain rfl := List.mem_singleton.1 hs; exact named_len HNM.out)) (by simp only [at_, List.length_map]; exact HLL.out)).mono ?_
            rintro x wn ⟨rfl, hdn, hkn⟩
            refine hK _ _ ?_; clear hK K
            try go_frame
            refine wpAny_done (by kernel_rfl) ?_ _
            have hD2 : DvAt (wc.drew.alloc (.cells #[.string ⟨nm.toArray⟩, .pointer (some ⟨β t, 0, none⟩)] tStep)) S1 d { D with now := l } (wrap64 (wrap64 (sumL D.bd l : Int) + ((D.at t).data.length : Int))) β vs (.map (some b1)) kv1 pv ss := HC.out.same (fun k hk => heap_alloc_old _ _ (HC.out.low k hk)) (by simp)
            rw [show apply (at_ β l) [(nm, (some (β t)))] = at_ β (put l nm (some t)) from put_at β l nm (some t)] at hdn
            have hD3 := hD2.stands (b := b1) rfl hdn hkn
            have hK3 : Kept w wn S1 := ((HKC.out.below ((Below.refl _ _).drew.alloc (Nat.le_refl _) (.cells #[.string ⟨nm.toArray⟩, .pointer (some ⟨β t, 0, none⟩)] tStep)))).trans hkn fun x hx => .inl (by rw [hx]; exact HC.out.inN b1 rfl)
            rw [HU.out, ← HSN.out] at hD3
            have HD3 := Lib.hid hD3
            have HK3 := Lib.hid hK3
            clear hD2 hD3 hK3 hdn hkn hown
            go_wp2
            go_roundw
            case rel => exact ⟨i + 1, by go_num, by omega, HD3.out, HK3.out⟩
            case measure => simp [intOf]; omega
        | some k =>
          rw [hf] at hlk
          simp only [Option.map_some, ptr] at hlk
          have HF := Lib.hid hf
          have hk := (HLI.out.2 _ ((find_some HLI.out.1).1 hf))
          obtain ⟨Ak, ck, hvk, _, _⟩ := own_form (show wa.ownsRow 0 tU8 1 (vs k) (D.at k).data.length (cU8 (D.at k).data) from HA.out.row k hk)
          have yb : wa.drew.drew.cell? ⟨β k, 0, none⟩ = some (.slice Ak (D.at k).data.length ck) := by rw [← hvk]; exact (HA.out.bcells hk).1
          have yu : wa.drew.drew.cell? ⟨d, 1, none⟩ = some (.int .i64 (wrap64 (sumL D.bd l : Int))) := (c_now HA.out.head).1
          have yf : wa.drew.drew.frozen? ⟨d, 1, none⟩ = false := (c_now HA.out.head).2.2.2.1
          go_region
          go_upto_region 7 with (fail)
          go_region
          go_upto_region 8 with (fail)
          clear y2 z0 z1 hlk yb yu yf hvk
          have hB : DvAt ((wa.setCell ⟨d, 1, none⟩ (.int .i64 (wrap64 (wrap64 (sumL D.bd l : Int) - ((D.at k).data.length : Int))))).drew.drew) S1 d { D with now := l } (wrap64 (wrap64 (sumL D.bd l : Int) - ((D.at k).data.length : Int))) β vs (.map (some b1)) kv1 pv ss := (HA.out.used (wrap64 (wrap64 (sumL D.bd l : Int) - ((D.at k).data.length : Int)))).same (fun k _ => rfl) (Nat.le_refl _)
          have hVb : ((wa.setCell ⟨d, 1, none⟩ (.int .i64 (wrap64 (wrap64 (sumL D.bd l : Int) - ((D.at k).data.length : Int))))).drew.drew).heap[V]? = some (.cells #[.string ⟨nm.toArray⟩, .pointer p] tStep (0, 0)) := (Below.heap_setCell _ _ _ V (fun e => HV1.out (e ▸ HA.out.inD))).trans HVA.out
          have hKb : Kept w ((wa.setCell ⟨d, 1, none⟩ (.int .i64 (wrap64 (wrap64 (sumL D.bd l : Int) - ((D.at k).data.length : Int))))).drew.drew) S1 := (HKA.out.set HA.out.inD (.int .i64 (wrap64 (wrap64 (sumL D.bd l : Int) - ((D.at k).data.length : Int))))).below (show Below _ _ ((wa.setCell ⟨d, 1, none⟩ (.int .i64 (wrap64 (wrap64 (sumL D.bd l : Int) - ((D.at k).data.length : Int))))).drew.drew) from ((Below.refl _ _).drew.drew))
          obtain ⟨wb, hw⟩ : ∃ wz, (wa.setCell ⟨d, 1, none⟩ (.int .i64 (wrap64 (wrap64 (sumL D.bd l : Int) - ((D.at k).data.length : Int))))).drew.drew = wz := ⟨_, rfl⟩
          rw [hw] at hB hVb hKb ⊢
          have HB := Lib.hid hB
          have HVB := Lib.hid hVb
          have HKB := Lib.hid hKb
          clear hw hB hVb hKb
          have z1' : wb.cell? ⟨V, 1, none⟩ = some (.pointer p) := (c_step HVB.out).2
          cases dst with
          | none =>
            obtain rfl : none = p := by have := HPP.out; simpa [ptr] using this
            go_upto_region 10 with (fail)
            clear z1'
            have hU : wrap64 (wrap64 (sumL D.bd l : Int) - ((D.at k).data.length : Int)) = wrap64 (sumL D.bd (put l nm (none : Option Nat)) : Int) := by
              have h1 := sumL_put (bd := D.bd) HLI.out.1 nm (none : Option Nat)
              rw [HF.out] at h1
              have h2 : sumL D.bd (put l nm (none : Option Nat)) + (D.at k).data.length = sumL D.bd l + 0 := h1
              clear h1
              first | rw [wrap_sub, wrap_add] | rw [wrap_sub] | rw [wrap_add] | skip
              exact congrArg wrap64 (by omega)
            have HU := Lib.hid hU
            clear hU
            refine wp_region_any (by kernel_rfl) ?_
            change wpAny _ _ _ _ _ _ _ (World.drew _)
            refine wpAny_of_P (S := fun w' => w'.heap[d]? = some (.cells #[.int .i64 (D.room : Int), .int .i64 (wrap64 (wrap64 (sumL D.bd l : Int) - ((D.at k).data.length : Int))), .map (some b1), kv1, pv] tDrive (0, 0)) ∧ w'.heap[V]? = some (.cells #[.string ⟨nm.toArray⟩, .pointer none] tStep (0, 0))) (late := [6]) _ _ _ _ ?_
            refine takeT (i := 0) (v := ?_) rfl (by kernel_rfl) (by kernel_rfl) (by kernel_rfl) (by kernel_rfl) (fun _ _ _ h => h) (⟨HB.out.head, HVB.out⟩) (.inl ⟨by rfl, fun w => .inl ?hy0⟩) ?_; case hy0 => (go_simp; try with_reducible rfl)
            try go_frame
            refine takeT (i := 1) (v := ?_) rfl (by kernel_rfl) (by kernel_rfl) (by kernel_rfl) (by kernel_rfl) (fun _ _ _ h => h) (⟨HB.out.head, HVB.out⟩) (.inl ⟨by rfl, fun w => .inl ?hy1⟩) ?_; case hy1 => (go_simp; try with_reducible rfl)
            try go_frame
            refine takeT (i := 2) (v := ?_) rfl (by kernel_rfl) (by kernel_rfl) (by kernel_rfl) (by kernel_rfl) (fun _ _ _ h => h) (⟨HB.out.head, HVB.out⟩) (.inl ⟨by rfl, fun w => .inl ?hy2⟩) ?_; case hy2 => (go_simp; try with_reducible rfl)
            try go_frame
            refine takeP (i := 3) (v := ?_) rfl (by kernel_rfl) (by kernel_rfl) (by kernel_rfl) (by kernel_rfl) (by kernel_rfl) (fun _ _ _ h => h) (⟨HB.out.head, HVB.out⟩) (.inl ⟨by rfl, fun w hw => .inl ?hy3⟩) ?_; case hy3 => (obtain ⟨hw1, hw2⟩ := hw; have y2 := (c_now hw1).2.1; obtain ⟨y0, y1⟩ := c_step hw2; clear hw1 hw2; go_simp; try with_reducible rfl)
            try go_frame
            refine forcedP (i := 4) rfl rfl (by kernel_rfl) (fun K hK => ?_)
            have y0 : wb.drew.cell? ⟨V, 0, none⟩ = some (.string ⟨nm.toArray⟩) := (c_step HVB.out).1
            have y1 : wb.drew.cell? ⟨V, 1, none⟩ = some (.pointer none) := (c_step HVB.out).2
            go_simp
            refine hK _ _ (⟨HB.out.head, HVB.out⟩) ?_; clear hK K
            try go_frame
            refine forcedP (i := 5) rfl rfl (by kernel_rfl) (fun K hK => ?_)
            clear y0 y1
            go_simp
            refine hK _ _ (⟨(heap_alloc_old _ _ (Array.getElem?_eq_some_iff.1 HB.out.head).1).trans HB.out.head, (heap_alloc_old _ _ (Array.getElem?_eq_some_iff.1 HVB.out).1).trans HVB.out⟩) ?_; clear hK K
            try go_frame
            refine lateP (i := 6) rfl rfl (by kernel_rfl) (by kernel_rfl) (fun K hK => ?_)
            go_simp
            have hown : (wb.drew.alloc (.cells #[.string ⟨nm.toArray⟩, .pointer none] tStep)).ownsRow 0 tStep 2 (.slice (some ⟨wb.heap.size, 0, none⟩) 1 1) 1 (cS [(nm, (none : Option Nat))]) := own_new wb.drew (Nat.zero_le _) tStep 2 1 (cS [(nm, (none : Option Nat))]) rfl (by unfold maxLen; omega)
            refine (apply_any ((HB.out.now.same (w' := wb.drew.alloc (.cells #[.string ⟨nm.toArray⟩, .pointer none] tStep)) fun x hx => heap_alloc_old _ _ (HB.out.now.lt hx))) hown rfl (fun s hs => (by obtain rfl := List.mem_singleton.1 hs; exact named_len HNM.out)) (by simp only [at_, List.length_map]; exact HLL.out)).mono ?_
            rintro x wn ⟨rfl, hdn, hkn⟩
            refine hK _ _ ?_; clear hK K
            try go_frame
            refine wpAny_done (by kernel_rfl) ?_ _
            have hD2 : DvAt (wb.drew.alloc (.cells #[.string ⟨nm.toArray⟩, .pointer none] tStep)) S1 d { D with now := l } (wrap64 (wrap64 (sumL D.bd l : Int) - ((D.at k).data.length : Int))) β vs (.map (some b1)) kv1 pv ss := HB.out.same (fun k hk => heap_alloc_old _ _ (HB.out.low k hk)) (by simp)
            rw [show apply (at_ β l) [(nm, (none : Option Nat))] = at_ β (put l nm (none : Option Nat)) from put_at β l nm (none : Option Nat)] at hdn
            have hD3 := hD2.stands (b := b1) rfl hdn hkn
            have hK3 : Kept w wn S1 := ((HKB.out.below ((Below.refl _ _).drew.alloc (Nat.le_refl _) (.cells #[.string ⟨nm.toArray⟩, .pointer none] tStep)))).trans hkn fun x hx => .inl (by rw [hx]; exact HB.out.inN b1 rfl)
            rw [HU.out, ← HSN.out] at hD3
            have HD3 := Lib.hid hD3
            have HK3 := Lib.hid hK3
            clear hD2 hD3 hK3 hdn hkn hown
            go_wp2
            go_roundw
            case rel => exact ⟨i + 1, by go_num, by omega, HD3.out, HK3.out⟩
            case measure => simp [intOf]; omega
          | some t =>
            obtain rfl : some (⟨β t, 0, none⟩ : Addr) = p := by have := HPP.out; simpa [ptr] using this
            have ht := HDI.out t rfl
            obtain ⟨At, ct, hvt, _, _⟩ := own_form (show wb.ownsRow 0 tU8 1 (vs t) (D.at t).data.length (cU8 (D.at t).data) from HB.out.row t ht)
            have yb : wb.drew.cell? ⟨β t, 0, none⟩ = some (.slice At (D.at t).data.length ct) := by rw [← hvt]; exact (HB.out.bcells ht).1
            have yu : wb.drew.cell? ⟨d, 1, none⟩ = some (.int .i64 (wrap64 (wrap64 (sumL D.bd l : Int) - ((D.at k).data.length : Int)))) := (c_now HB.out.head).1
            have yf : wb.drew.frozen? ⟨d, 1, none⟩ = false := (c_now HB.out.head).2.2.2.1
            have yz : wb.drew.cell? ⟨V, 1, none⟩ = some (.pointer (some ⟨β t, 0, none⟩)) := z1'
            go_upto_region 9 with (fail)
            go_region
            go_upto_region 10 with (fail)
            clear yb yu yf yz z1' hvt
            have hB : DvAt ((wb.setCell ⟨d, 1, none⟩ (.int .i64 (wrap64 (wrap64 (wrap64 (sumL D.bd l : Int) - ((D.at k).data.length : Int)) + ((D.at t).data.length : Int))))).drew) S1 d { D with now := l } (wrap64 (wrap64 (wrap64 (sumL D.bd l : Int) - ((D.at k).data.length : Int)) + ((D.at t).data.length : Int))) β vs (.map (some b1)) kv1 pv ss := (HB.out.used (wrap64 (wrap64 (wrap64 (sumL D.bd l : Int) - ((D.at k).data.length : Int)) + ((D.at t).data.length : Int)))).same (fun k _ => rfl) (Nat.le_refl _)
            have hVb : ((wb.setCell ⟨d, 1, none⟩ (.int .i64 (wrap64 (wrap64 (wrap64 (sumL D.bd l : Int) - ((D.at k).data.length : Int)) + ((D.at t).data.length : Int))))).drew).heap[V]? = some (.cells #[.string ⟨nm.toArray⟩, .pointer (some ⟨β t, 0, none⟩)] tStep (0, 0)) := (Below.heap_setCell _ _ _ V (fun e => HV1.out (e ▸ HB.out.inD))).trans HVB.out
            have hKb : Kept w ((wb.setCell ⟨d, 1, none⟩ (.int .i64 (wrap64 (wrap64 (wrap64 (sumL D.bd l : Int) - ((D.at k).data.length : Int)) + ((D.at t).data.length : Int))))).drew) S1 := (HKB.out.set HB.out.inD (.int .i64 (wrap64 (wrap64 (wrap64 (sumL D.bd l : Int) - ((D.at k).data.length : Int)) + ((D.at t).data.length : Int))))).below (show Below _ _ ((wb.setCell ⟨d, 1, none⟩ (.int .i64 (wrap64 (wrap64 (wrap64 (sumL D.bd l : Int) - ((D.at k).data.length : Int)) + ((D.at t).data.length : Int))))).drew) from ((Below.refl _ _).drew))
            obtain ⟨wc, hw⟩ : ∃ wz, (wb.setCell ⟨d, 1, none⟩ (.int .i64 (wrap64 (wrap64 (wrap64 (sumL D.bd l : Int) - ((D.at k).data.length : Int)) + ((D.at t).data.length : Int))))).drew = wz := ⟨_, rfl⟩
            rw [hw] at hB hVb hKb ⊢
            have HC := Lib.hid hB
            have HVC := Lib.hid hVb
            have HKC := Lib.hid hKb
            clear hw hB hVb hKb
            have hU : wrap64 (wrap64 (wrap64 (sumL D.bd l : Int) - ((D.at k).data.length : Int)) + ((D.at t).data.length : Int)) = wrap64 (sumL D.bd (put l nm (some t)) : Int) := by
              have h1 := sumL_put (bd := D.bd) HLI.out.1 nm (some t)
              rw [HF.out] at h1
              have h2 : sumL D.bd (put l nm (some t)) + (D.at k).data.length = sumL D.bd l + (D.at t).data.length := h1
              clear h1
              first | rw [wrap_sub, wrap_add] | rw [wrap_sub] | rw [wrap_add] | skip
              exact congrArg wrap64 (by omega)
            have HU := Lib.hid hU
            clear hU
            refine wp_region_any (by kernel_rfl) ?_
            change wpAny _ _ _ _ _ _ _ (World.drew _)
            refine wpAny_of_P (S := fun w' => w'.heap[d]? = some (.cells #[.int .i64 (D.room : Int), .int .i64 (wrap64 (wrap64 (wrap64 (sumL D.bd l : Int) - ((D.at k).data.length : Int)) + ((D.at t).data.length : Int))), .map (some b1), kv1, pv] tDrive (0, 0)) ∧ w'.heap[V]? = some (.cells #[.string ⟨nm.toArray⟩, .pointer (some ⟨β t, 0, none⟩)] tStep (0, 0))) (late := [6]) _ _ _ _ ?_
            refine takeT (i := 0) (v := ?_) rfl (by kernel_rfl) (by kernel_rfl) (by kernel_rfl) (by kernel_rfl) (fun _ _ _ h => h) (⟨HC.out.head, HVC.out⟩) (.inl ⟨by rfl, fun w => .inl ?hy0⟩) ?_; case hy0 => (go_simp; try with_reducible rfl)
            try go_frame
            refine takeT (i := 1) (v := ?_) rfl (by kernel_rfl) (by kernel_rfl) (by kernel_rfl) (by kernel_rfl) (fun _ _ _ h => h) (⟨HC.out.head, HVC.out⟩) (.inl ⟨by rfl, fun w => .inl ?hy1⟩) ?_; case hy1 => (go_simp; try with_reducible rfl)
            try go_frame
            refine takeT (i := 2) (v := ?_) rfl (by kernel_rfl) (by kernel_rfl) (by kernel_rfl) (by kernel_rfl) (fun _ _ _ h => h) (⟨HC.out.head, HVC.out⟩) (.inl ⟨by rfl, fun w => .inl ?hy2⟩) ?_; case hy2 => (go_simp; try with_reducible rfl)
            try go_frame
            refine takeP (i := 3) (v := ?_) rfl (by kernel_rfl) (by kernel_rfl) (by kernel_rfl) (by kernel_rfl) (by kernel_rfl) (fun _ _ _ h => h) (⟨HC.out.head, HVC.out⟩) (.inl ⟨by rfl, fun w hw => .inl ?hy3⟩) ?_; case hy3 => (obtain ⟨hw1, hw2⟩ := hw; have y2 := (c_now hw1).2.1; obtain ⟨y0, y1⟩ := c_step hw2; clear hw1 hw2; go_simp; try with_reducible rfl)
            try go_frame
            refine forcedP (i := 4) rfl rfl (by kernel_rfl) (fun K hK => ?_)
            have y0 : wc.drew.cell? ⟨V, 0, none⟩ = some (.string ⟨nm.toArray⟩) := (c_step HVC.out).1
            have y1 : wc.drew.cell? ⟨V, 1, none⟩ = some (.pointer (some ⟨β t, 0, none⟩)) := (c_step HVC.out).2
            go_simp
            refine hK _ _ (⟨HC.out.head, HVC.out⟩) ?_; clear hK K
            try go_frame
            refine forcedP (i := 5) rfl rfl (by kernel_rfl) (fun K hK => ?_)
            clear y0 y1
            go_simp
            refine hK _ _ (⟨(heap_alloc_old _ _ (Array.getElem?_eq_some_iff.1 HC.out.head).1).trans HC.out.head, (heap_alloc_old _ _ (Array.getElem?_eq_some_iff.1 HVC.out).1).trans HVC.out⟩) ?_; clear hK K
            try go_frame
            refine lateP (i := 6) rfl rfl (by kernel_rfl) (by kernel_rfl) (fun K hK => ?_)
            go_simp
            have hown : (wc.drew.alloc (.cells #[.string ⟨nm.toArray⟩, .pointer (some ⟨β t, 0, none⟩)] tStep)).ownsRow 0 tStep 2 (.slice (some ⟨wc.heap.size, 0, none⟩) 1 1) 1 (cS [(nm, (some (β t)))]) := own_new wc.drew (Nat.zero_le _) tStep 2 1 (cS [(nm, (some (β t)))]) rfl (by unfold maxLen; omega)
            refine (apply_any ((HC.out.now.same (w' := wc.drew.alloc (.cells #[.string ⟨nm.toArray⟩, .pointer (some ⟨β t, 0, none⟩)] tStep)) fun x hx => heap_alloc_old _ _ (HC.out.now.lt hx))) hown rfl (fun s hs => (by obtain rfl := List.mem_singleton.1 hs; exact named_len HNM.out)) (by simp only [at_, List.length_map]; exact HLL.out)).mono ?_
            rintro x wn ⟨rfl, hdn, hkn⟩
            refine hK _ _ ?_; clear hK K
            try go_frame
            refine wpAny_done (by kernel_rfl) ?_ _
            have hD2 : DvAt (wc.drew.alloc (.cells #[.string ⟨nm.toArray⟩, .pointer (some ⟨β t, 0, none⟩)] tStep)) S1 d { D with now := l } (wrap64 (wrap64 (wrap64 (sumL D.bd l : Int) - ((D.at k).data.length : Int)) + ((D.at t).data.length : Int))) β vs (.map (some b1)) kv1 pv ss := HC.out.same (fun k hk => heap_alloc_old _ _ (HC.out.low k hk)) (by simp)
            rw [show apply (at_ β l) [(nm, (some (β t)))] = at_ β (put l nm (some t)) from put_at β l nm (some t)] at hdn
            have hD3 := hD2.stands (b := b1) rfl hdn hkn
            have hK3 : Kept w wn S1 := ((HKC.out.below ((Below.refl _ _).drew.alloc (Nat.le_refl _) (.cells #[.string ⟨nm.toArray⟩, .pointer (some ⟨β t, 0, none⟩)] tStep)))).trans hkn fun x hx => .inl (by rw [hx]; exact HC.out.inN b1 rfl)
            rw [HU.out, ← HSN.out] at hD3
            have HD3 := Lib.hid hD3
            have HK3 := Lib.hid hK3
            clear hD2 hD3 hK3 hdn hkn hown
            go_wp2
            go_roundw
            case rel => exact ⟨i + 1, by go_num, by omega, HD3.out, HK3.out⟩
            case measure => simp [intOf]; omega
      · obtain rfl : n = i := by omega
        rw [List.take_of_length_le (by have := HN.out; omega)] at hd
        have hrow : wr.ownsRow 0 tStep 2 (.slice A n cap) n (cStep β c) := own_same HV.out fun k hk => (hkp.block k (Nat.lt_of_lt_of_le (HVL.out k hk) HK1.out.size) (fun h => by
          rcases HS1.out k h with h | h
          · exact HVS.out k hk h
          · have := HVL.out k hk; omega)).trans (HK1.out.block k (HVL.out k hk) (HVS.out k hk))
        obtain ⟨j0, hj0, hq0, hq1, hq2⟩ := info_parts infoSteps
        have HD := Lib.hid hd
        have HKP := Lib.hid hkp
        have HROW := Lib.hid hrow
        have hP := HP.out
        have y4 : wr.cell? ⟨d, 4, none⟩ = some pv := (c_now hd.head).2.2.1
        clear hd hkp hrow
        go_wp2_with (first
          | (at_builtin; go_loud (refine wpList_append_keeps _ rfl (.tmp 75) (.tmp 77) 105 rfl 0 tSteps j0 (.slice none 0 0) 1 24 Try.underlying105 hj0 hq0 hq1 hq2 rfl (by decide) pv D.pend.length ss rfl (own_alloc HD.out.pend _) ⟨wr.heap.size, 0, none⟩ 1 1 [.slice A n cap] rfl rfl (cell_one_new _ _ _) (by simp [Value.oneCell']) (by omega) (by unfold maxLen; omega) (by omega) (Nat.zero_le _) ?_); go_loud (intro g1 cap1 w3 hg1 hgr1 hat1 hlt1 _); go_loud (have hd3 : w3.heap[d]? = some (.cells #[.int .i64 (D.room : Int), .int .i64 (wrap64 (sumL D.bd (apply D.now c) : Int)), .map (some b1), kv1, pv] tDrive (0, 0)) := (hgr1.block d (by have := (Array.getElem?_eq_some_iff.1 HD.out.head).1; simp; omega) (fun e => HD.out.d_not.2.2.2.2.1 d e.symm rfl)).trans ((heap_alloc_old _ _ (Array.getElem?_eq_some_iff.1 HD.out.head).1).trans HD.out.head)); go_loud (have y5 := (c_now hd3).2.2.1; have y6 := (c_now hd3).2.2.2.2); have HG1 := Lib.hid hg1; have HGR1 := Lib.hid hgr1; clear hg1 hgr1 hd3))
        refine bodyPost_end (v := .tuple #[]) (by simp [results, Try.results89, go_sem]) rfl ⟨rfl, ?_⟩
        have hA := (HD.out.same (w' := wr.alloc (.cells #[.slice A n cap] tSteps)) (fun k hk => heap_alloc_old _ _ (HD.out.low k hk)) (by simp)).pended HG1.out rfl HGR1.out (by rcases hat1 with h | h; exact .inl h; exact .inr (Nat.le_of_eq h.symm)) hlt1 (v := .slice A n cap) (c := c) (by rw [HN.out]; exact own_alloc HROW.out _) (by simp [mapBlock])
        refine ⟨_, _, _, _, _, hA, ?_, ?_⟩
        · refine ((HK1.out.trans HKP.out HS1.out).below ((Below.refl _ _).alloc (Nat.le_refl _) (.cells #[.slice A n cap] tSteps))).grown HGR1.out (fun k hk => ?_) |>.set H.out.inD _
          exact HS1.out k (HD.out.inP k hk)
        · rintro k (hk | hk | ⟨_, hk⟩)
          · rcases HS1.out k hk with h | h
            · exact .inl h
            · exact .inr (.inr h)
          · exact .inr (.inl hk)
          · exact .inr (.inr (by have h1 := HK1.out.size; have h2 := HKP.out.size; simp at hk; omega))
end
end Go.Proofs.Ytelgcmcnebncmaa.Dr
