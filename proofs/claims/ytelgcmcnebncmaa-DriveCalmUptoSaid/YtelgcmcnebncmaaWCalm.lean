/- The walk of DriveCalm. -/
import Derived.Test.YtelgcmcnebncmaaL9
namespace Go.Proofs.Ytelgcmcnebncmaa.Dr
open Go.RowKit Go.Proofs Go.Proofs.Ytelgcmcnebncmaa.Ring

theorem plays_joined {D : Dr.D} (h : D.Joined) : ∀ (l : List Ac), (plays D l).Joined := by
  intro l
  induction l generalizing D with
  | nil => exact h
  | cons a r ih => exact ih (h.step a)
theorem begun_joined {how room : Int} {fs : List (Bs × Bs)} {D : Dr.D} (h : begun how room fs = some D) : D.Joined := by
  unfold begun at h
  split at h
  · unfold Dr.D.new at h
    split at h
    · injection h with h; subst h; rfl
    · cases h
  · split at h
    · unfold Dr.D.load at h
      split at h
      · obtain ⟨h1, h2⟩ := loadAt_joined fs (d := Dr.D.fresh room.toNat) rfl rfl h
        exact joined_of h1 h2
      · cases h
    · injection h with h; subst h; rfl
set_option maxRecDepth 100000 in
set_option maxHeartbeats 8000000 in
theorem calm_any (k : Kv) (all : Bool) (w : World) (hk : k.In w w.heap.size) : Calls Try.prog 6 #[.agg k.cells.toArray, .bool all] w fun x w' => x = .returned (.bool true) ∧ Below w.heap.size w w' := by
  obtain ⟨V, hV⟩ : ∃ V, w.heap.size = V := ⟨_, rfl⟩
  rw [hV] at hk ⊢
  have HK := Lib.hid hk
  clear hk
  go_enter Try.func6, Try.ntmps6
  go_upto_region 1 with (fail)
  obtain ⟨w0, hw0⟩ : ∃ w0, w.alloc (.cells k.cells.toArray tKeep) = w0 := ⟨_, rfl⟩
  have hA0 : w0.heap[V]? = some (.cells k.cells.toArray tKeep (0, 0)) := by
    rw [← hw0, ← hV]
    exact heap_alloc_new _ _
  have hb0 : Below V w w0 := by
    rw [← hw0, ← hV]
    exact (Below.refl _ _).alloc (Nat.le_refl _) _
  have hs0 : w0.heap.size = V + 1 := by rw [← hw0, ← hV]; simp
  rw [hw0]
  clear hw0 hV
  have HA0 := Lib.hid hA0
  have HB0 := Lib.hid hb0
  have HS0 := Lib.hid hs0
  clear hA0 hb0 hs0
  go_upto_region 2 with (go_at_call 25; refine (awake_any w0).mono ?_; rintro x w1 ⟨rfl, hb1⟩; have HB1 := Lib.hid hb1; clear hb1)
  have hbw1 : Below V w w1 := HB0.out.trans (HB1.out.mono (by have := HS0.out; omega))
  have hbox : ∀ wr, Below (V + 1) w1 wr → wr.rangeAt V 0 k.cells := fun wr hb => keep_box (((hb.block V (by have := HB1.out.size; have := HS0.out; omega)).trans (HB1.out.block V (by have := HS0.out; omega))).trans HA0.out)
  have hV1 : V + 1 ≤ w1.heap.size := by have := HB1.out.size; have := HS0.out; omega
  have hk1 : k.In w1 V := HK.out.below hbw1
  have HBW1 := Lib.hid hbw1
  have HBOX := Lib.hid hbox
  have HV1 := Lib.hid hV1
  have HK1 := Lib.hid hk1
  clear hbw1 hbox hV1 hk1 HK HA0 HB0 HB1 HS0
  have hst : w1.rangeAt V 0 [.int .i64 k.how, .int .i64 k.room, .slice k.Af k.nf k.cf] := by
    intro j v hv
    refine HBOX.out w1 (Below.refl _ _) j v ?_
    match j, hv with
    | 0, hv => exact hv
    | 1, hv => exact hv
    | 2, hv => exact hv
    | j + 3, hv => cases hv
  have HST := Lib.hid hst
  clear hst
  go_upto_region 5 with (first
    | (refine wpList_load_mid rfl tStart (.tmp 18) rfl V 0 rfl [.int .i64 k.how, .int .i64 k.room, .slice k.Af k.nf k.cf] _ HST.out Try.underlying24 rfl (by kernel_rfl) ?_)
    | (go_at_call 12; refine (made_any (how := k.how) (room := k.room) HK1.out.files (by have := HV1.out; omega)).mono ?_; rintro x w2 hmade; obtain ⟨p, hx, hp⟩ := hmade.ptr; subst hx; have HP := Lib.hid hp; clear hp hmade))
  obtain ⟨hb2, hp⟩ := HP.out
  obtain ⟨e3, _, _, _, _⟩ := keep_cells (HBOX.out w2 (hb2.mono HV1.out))
  have HB2 := Lib.hid hb2
  clear hb2 HST HP
  rcases hp with ⟨_, rfl⟩ | ⟨D, d, hD, rfl, hown⟩
  · clear HBOX
    go_wp2
    go_ret
    exact ⟨rfl, HBW1.out.trans (HB2.out.mono (by have := HV1.out; omega))⟩
  have hj := plays_joined (begun_joined hD) (k.la.map (·.a))
  have HOWN := Lib.hid hown
  have HJ := Lib.hid hj
  clear hown hD hj
  go_upto_region 8 with (go_at_call 27; refine (HOWN.out.played (B := V) (by have := HV1.out; omega) (HK1.out.acts.below (HB2.out.mono (by have := HV1.out; omega))) (by omega) (by omega)).mono ?_; rintro x w3 ⟨rfl, h⟩; have H3 := Lib.hid h; clear h)
  obtain ⟨D1, hD1⟩ : ∃ D1, plays D (k.la.map (·.a)) = D1 := ⟨_, rfl⟩
  rw [hD1] at H3 HJ
  clear hD1 e3 HOWN
  obtain ⟨m, hm⟩ : ∃ m, 1099511627776 + 1099511627776 = m := ⟨_, rfl⟩
  obtain ⟨N, hN⟩ : ∃ N, 1048576 + 1048576 = N := ⟨_, rfl⟩
  rw [hm, hN] at H3
  have hm2 : m ≤ 2199023255552 := by omega
  have hN2 : N ≤ 2097152 := by omega
  clear hm hN
  obtain ⟨fs4, hfs4⟩ : ∃ fs, D1.image = fs := ⟨_, rfl⟩
  obtain ⟨n4, hn4⟩ : ∃ n, fs4.length = n := ⟨_, rfl⟩
  obtain ⟨fs5, hfs5⟩ : ∃ fs, D1.safe = fs := ⟨_, rfl⟩
  obtain ⟨n5, hn5⟩ : ∃ n, fs5.length = n := ⟨_, rfl⟩
  have hn4N : n4 ≤ N := by rw [← hn4, ← hfs4, image_len]; exact H3.out.ok.lenN
  have HFS4 := Lib.hid hfs4
  have HN4 := Lib.hid hn4
  have HFS5 := Lib.hid hfs5
  have HN5 := Lib.hid hn5
  clear hfs4 hn4 hfs5 hn5
  go_upto_region 9 with (go_at_call 20; refine (image_form H3.out.dv (by omega) (by omega) HFS4.out HN4.out).mono ?_; rintro x w4 ⟨A4, c4, dv4, rfl, hf4, hb4⟩; have HF4 := Lib.hid hf4; have HB4 := Lib.hid hb4; clear hf4 hb4)
  have h4 := H3.out.below HB4.out
  have H4 := Lib.hid h4
  clear h4
  go_upto_region 10 with (go_at_call 21; refine (safe_form H4.out.dv (by omega) (by omega) HFS5.out HN5.out).mono ?_; rintro x w5 ⟨A5, c5, dv5, rfl, hf5, hb5⟩; have HF5 := Lib.hid hf5; have HB5 := Lib.hid hb5; clear hf5 hb5)
  have hb35 : Below w3.heap.size w3 w5 := bch HB4.out HB5.out
  have HB35 := Lib.hid hb35
  have HF45 := Lib.hid (HF4.out.below HB5.out)
  have HF55 := Lib.hid (HF5.out.lower HB4.out.size)
  clear hb35 HF4 HF5
  go_upto_region 11 with (fail)
  obtain ⟨E, hE⟩ : ∃ E, w5.heap.size = E := ⟨_, rfl⟩
  obtain ⟨w6, hw6⟩ : ∃ w6, w5.alloc (.cells #[.slice none 0 0, .slice none 0 0] tFate) = w6 := ⟨_, rfl⟩
  have hE6 : w6.heap[E]? = some (.cells #[.slice none 0 0, .slice none 0 0] tFate (0, 0)) := by rw [← hw6, ← hE]; exact heap_alloc_new _ _
  have hs6 : w6.heap.size = E + 1 := by rw [← hw6, ← hE]; simp
  have hb6 : Below E w5 w6 := by rw [← hw6, ← hE]; exact (Below.refl _ _).alloc (Nat.le_refl _) _
  rw [hw6, hE]
  have HE := Lib.hid hE
  have HE6 := Lib.hid hE6
  have HS6 := Lib.hid hs6
  have HB6 := Lib.hid hb6
  clear hw6 hE hE6 hs6 hb6
  go_upto_if 38 with (fail)
  go_cut [9] from 39 to 67 (fun sv wr => ∃ A9 n9 c9 dv9 fs9 Ad nd cd Au nu cu dirs cuts, sv = .slice A9 n9 c9 ∧ FilesAt wr w3.heap.size (.slice A9 n9 c9) dv9 fs9 ∧ fs9.length = n9 ∧ wr.heap[E]? = some (.cells #[.slice Ad nd cd, .slice Au nu cu] tFate (0, 0)) ∧ wr.ownsRow (E + 1) tBool 1 (.slice Ad nd cd) nd (cBool dirs) ∧ wr.ownsRow (E + 1) tInt 1 (.slice Au nu cu) nu (cInt cuts) ∧
    (∀ x ∈ cuts, -9223372036854775808 ≤ x ∧ x ≤ 9223372036854775807) ∧ Below E w5 wr ∧ (D1.crash dirs cuts).image = fs9)
  case first =>
    cases all with
    | false =>
      have hcn : (D1.crash [] []).image = fs5 := by rw [← HFS5.out]; exact crash_none H3.out.ok
      go_wp2
      go_meet
      exact ⟨A5, n5, c5, dv5, fs5, none, 0, 0, none, 0, 0, [], [], rfl, HF55.out.below (by rw [HE.out]; exact HB6.out), HN5.out, HE6.out, World.ownsRow_nil _ _ _ _, World.ownsRow_nil _ _ _ _, (fun x hx => by cases hx), HB6.out, hcn⟩
    | true =>
      obtain ⟨P, hP⟩ : ∃ P, D1.pend.length = P := ⟨_, rfl⟩
      have hPN : P ≤ N := by have := H3.out.ok.lenK; omega
      have HPL := Lib.hid hP
      clear hP
      obtain ⟨i0, hi0, hz0, hz1, hz2⟩ := info_parts infoBool
      obtain ⟨j0, hj0, hy0, hy1, hy2⟩ := info_parts infoInt
      have h3E : w3.heap.size ≤ E := by have := HB35.out.size; have := HE.out; omega
      go_upto_region 13 with (fail)
      go_loopw [11] (fun iv wr => ∃ (i : Nat) (vD : Value), iv = .int .i64 (i : Int) ∧ i ≤ P ∧ wr.heap[E]? = some (.cells #[vD, .slice none 0 0] tFate (0, 0)) ∧ wr.ownsRow (E + 1) tBool 1 vD i (cBool (List.replicate i true)) ∧ Below E w5 wr) (fun iv _ => P - (intOf iv).toNat)
      case atStart => exact ⟨0, _, rfl, by omega, HE6.out, World.ownsRow_nil _ _ _ _, HB6.out⟩
      case round =>
        obtain ⟨i, vD, rfl, hi, hEr, hrow, hb⟩ := hrel
        obtain ⟨AD, cD, rfl, _, _⟩ := own_form hrow
        obtain ⟨wq, rfl⟩ : ∃ wq, wq = wr := ⟨_, rfl⟩
        have hoq : Own w1 wq d D1 m N := H3.out.below (HB35.out.trans (hb.mono h3E))
        have HOQ := Lib.hid hoq
        have HER := Lib.hid hEr
        have HROW := Lib.hid hrow
        have HB := Lib.hid hb
        have hEl : E < wq.heap.size := (Array.getElem?_eq_some_iff.1 hEr).1
        clear hoq hEr hrow hb
        by_cases hlt : i < P
        · have hlt2 : (i : Int) < (P : Int) := by omega
          have c0 : wq.cell? ⟨E, 0, none⟩ = some (.slice AD i cD) := by rw [cell_of_row wq E _ _ _ _ HER.out]; rfl
          have hb1 : Below wq.heap.size wq (wq.alloc (.cells #[.bool true] tBool)) := (Below.refl _ _).alloc (Nat.le_refl _) _
          go_wp2_with (first
            | (go_at_call 22; refine (HOQ.out.pending HPL.out).mono ?_; rintro x wn ⟨rfl, rfl⟩)
            | (at_builtin; refine wpList_append_own _ rfl (.tmp 46) (.tmp 47) 26 rfl (E + 1) tBool i0 (.bool false) 1 1 Try.underlying26 hi0 hz0 hz1 hz2 rfl (by decide) _ _ _ rfl (own_alloc HROW.out _) ⟨wq.heap.size, 0, none⟩ 1 1 [.bool true] rfl rfl (new_cells _ _ _) (by simp [Value.oneCell']) (by unfold maxLen; omega) (by omega) (by simp; omega) ?_; intro v2 w9 hrow2 hg2 _; have hE2 : w9.heap[E]? = some (.cells #[.slice AD i cD, .slice none 0 0] tFate (0, 0)) := ((hg2.block E (by simp; omega) fun e => by { have := own_ge HROW.out e.symm; omega }).trans (heap_alloc_old _ _ hEl)).trans HER.out; have c2 : w9.cell? ⟨E, 0, none⟩ = some (.slice AD i cD) := by { rw [cell_of_row w9 E _ _ _ _ hE2]; rfl }; have z2 := unfrozen hE2 0; obtain ⟨A2, k2, rfl, _, _⟩ := own_form hrow2; have HE2 := Lib.hid hE2; have HR2 := Lib.hid hrow2; have HG2 := Lib.hid hg2; clear hE2 hrow2 hg2))
          have hE3 := heap_same HE2.out (i := 0) (.slice A2 (i + 1) k2)
          have hrow3 : (w9.setCell ⟨E, 0, none⟩ (.slice A2 (i + 1) k2)).ownsRow (E + 1) tBool 1 (.slice A2 (i + 1) k2) (i + 1) (cBool (List.replicate (i + 1) true)) := by
            rw [List.replicate_succ', show cBool (List.replicate i true ++ [true]) = cBool (List.replicate i true) ++ [.bool true] by simp [cBool]]
            exact own_same HR2.out fun g hg => Below.heap_setCell w9 ⟨E, 0, none⟩ _ g (fun e => by have := own_ge HR2.out hg; have e2 : g = E := e; omega)
          have hb3 : Below E w5 (w9.setCell ⟨E, 0, none⟩ (.slice A2 (i + 1) k2)) := ((HB.out.trans (hb1.mono (by omega))).grown HG2.out (by simp; omega) (fun g hg => by have := own_ge HROW.out hg; omega)).setCell (by show E ≤ E; omega) _
          have HE3 := Lib.hid hE3
          have HROW3 := Lib.hid hrow3
          have HB3 := Lib.hid hb3
          clear hb1 hE3 hrow3 hb3 c0 c2 z2
          go_roundw
          case rel => exact ⟨i + 1, _, by go_num, by omega, HE3.out, HROW3.out, HB3.out⟩
          case measure => simp [intOf]; omega
        · obtain rfl : P = i := by omega
          go_upto_region 17 with (go_at_call 22; refine (HOQ.out.pending HPL.out).mono ?_; rintro x wn ⟨rfl, rfl⟩)
          obtain ⟨lens, hlens⟩ : ∃ l : List Int, (fs4.map fun f => (f.2.length : Int)) = l := ⟨_, rfl⟩
          have hll : lens.length = n4 := by rw [← hlens]; simp [HN4.out]
          have HLENS := Lib.hid hlens
          have HLL := Lib.hid hll
          clear hlens hll
          go_loopw [12] (fun iv wr => ∃ (i : Nat) (vC : Value), iv = .int .i64 (i : Int) ∧ i ≤ n4 ∧ wr.heap[E]? = some (.cells #[.slice AD P cD, vC] tFate (0, 0)) ∧ wr.ownsRow (E + 1) tBool 1 (.slice AD P cD) P (cBool (List.replicate P true)) ∧ wr.ownsRow (E + 1) tInt 1 vC i (cInt (lens.take i)) ∧ Below E w5 wr) (fun iv _ => n4 - (intOf iv).toNat)
          case atStart => exact ⟨0, _, rfl, by omega, HER.out, HROW.out, World.ownsRow_nil _ _ _ _, HB.out⟩
          case round =>
            obtain ⟨i, vC, rfl, hi, hEr, hrowD, hrowC, hb⟩ := hrel
            obtain ⟨AC, cC, rfl, _, _⟩ := own_form hrowC
            obtain ⟨wz, rfl⟩ : ∃ wz, wz = wr := ⟨_, rfl⟩
            by_cases hlt : i < n4
            · obtain ⟨f, hf⟩ : ∃ f, fs4[i]? = some f := ⟨_, List.getElem?_eq_getElem (by have := HN4.out; omega)⟩
              have hlen : lens[i]? = some (f.2.length : Int) := by rw [← HLENS.out, List.getElem?_map, hf]; rfl
              have hg4E : ∀ g, A4 = some ⟨g, 0, none⟩ → g < E := fun g e => by
                have h1 := own_lt HF45.out.row (g := g) (by rw [e]; rfl)
                obtain ⟨cur, h1⟩ := h1
                have := (Array.getElem?_eq_some_iff.1 h1).1
                have := HE.out
                omega
              obtain ⟨g4, Af, cf, rfl, hg4, a0, a1, _⟩ := ((HF45.out.below (by rw [HE.out]; exact hb)).rd HN4.out).2 i f hf
              have hEl2 : E < wz.heap.size := (Array.getElem?_eq_some_iff.1 hEr).1
              have c1 : wz.drew.cell? ⟨E, 1, none⟩ = some (.slice AC i cC) := by rw [cell_of_row wz.drew E _ _ _ _ hEr]; rfl
              have c2 : wz.drew.cell? ⟨g4, i * 2 + 1, none⟩ = some (.slice Af f.2.length cf) := a1
              have hlt2 : (i : Int) < (n4 : Int) := by omega
              have HER2 := Lib.hid hEr
              have HRD := Lib.hid hrowD
              have HRC := Lib.hid hrowC
              have HB2 := Lib.hid hb
              have HLEN := Lib.hid hlen
              have hg4b : g4 < E := hg4E g4 rfl
              clear hEr hrowD hrowC hb hlen hf a0 a1 hg4E
              go_upto_region 19 with (fail)
              refine wp_region_any (by kernel_rfl) ?_
              change wpAny _ _ _ _ _ _ _ (World.drew _)
              refine wpAny_of_P (S := fun w' => w'.cell? ⟨E, 1, none⟩ = some (.slice AC i cC) ∧ w'.cell? ⟨g4, i * 2 + 1, none⟩ = some (.slice Af f.2.length cf)) (late := [11]) _ _ _ _ ?_
              refine takeT (i := 0) (v := ?_) rfl (by kernel_rfl) (by kernel_rfl) (by kernel_rfl) (by kernel_rfl) (fun _ _ _ h => h) (⟨c1, c2⟩) (.inl ⟨by rfl, fun w => .inl ?hy0⟩) ?_; case hy0 => (go_simp; try with_reducible rfl)
              try go_frame
              refine takePT 8 (i := 1) (v := ?_) rfl (by kernel_rfl) (by kernel_rfl) (by kernel_rfl) (by kernel_rfl) (by kernel_rfl) (by kernel_rfl) (fun _ _ _ h => h) (⟨c1, c2⟩) (.inl ⟨by rfl, fun w hw => .inl ?hy1⟩) ?_; case hy1 => (obtain ⟨_, _⟩ := hw; go_simp; try with_reducible rfl)
              try go_frame
              refine takeT (i := 2) (v := ?_) rfl (by kernel_rfl) (by kernel_rfl) (by kernel_rfl) (by kernel_rfl) (fun _ _ _ h => h) (⟨c1, c2⟩) (.inl ⟨by rfl, fun w => .inl ?hy2⟩) ?_; case hy2 => (go_simp; try with_reducible rfl)
              try go_frame
              refine takeT (i := 3) (v := ?_) rfl (by kernel_rfl) (by kernel_rfl) (by kernel_rfl) (by kernel_rfl) (fun _ _ _ h => h) (⟨c1, c2⟩) (.inl ⟨by rfl, fun w => .inl ?hy3⟩) ?_; case hy3 => (go_simp; try with_reducible rfl)
              try go_frame
              refine takeT (i := 4) (v := ?_) rfl (by kernel_rfl) (by kernel_rfl) (by kernel_rfl) (by kernel_rfl) (fun _ _ _ h => h) (⟨c1, c2⟩) (.inl ⟨by rfl, fun w => .inl ?hy4⟩) ?_; case hy4 => (go_simp; try with_reducible rfl)
              try go_frame
              refine takeT (i := 5) (v := ?_) rfl (by kernel_rfl) (by kernel_rfl) (by kernel_rfl) (by kernel_rfl) (fun _ _ _ h => h) (⟨c1, c2⟩) (.inl ⟨by rfl, fun w => .inl ?hy5⟩) ?_; case hy5 => (go_simp; try with_reducible rfl)
              try go_frame
              refine takePT 8 (i := 6) (v := ?_) rfl (by kernel_rfl) (by kernel_rfl) (by kernel_rfl) (by kernel_rfl) (by kernel_rfl) (by kernel_rfl) (fun _ _ _ h => h) (⟨c1, c2⟩) (.inl ⟨by rfl, fun w hw => .inl ?hy6⟩) ?_; case hy6 => (obtain ⟨_, _⟩ := hw; go_simp; try with_reducible rfl)
              try go_frame
              refine takeT (i := 7) (v := ?_) rfl (by kernel_rfl) (by kernel_rfl) (by kernel_rfl) (by kernel_rfl) (fun _ _ _ h => h) (⟨c1, c2⟩) (.inl ⟨by rfl, fun w => .inl ?hy7⟩) ?_; case hy7 => (go_simp; try with_reducible rfl)
              try go_frame
              refine forcedP (i := 8) rfl rfl (by kernel_rfl) (fun K hK => ?_)
              go_simp
              refine hK _ _ ⟨(World.cell?_alloc_lt wz.drew _ _ hEl2).trans c1, (World.cell?_alloc_lt wz.drew _ _ hg4).trans c2⟩ ?_; clear hK K
              try go_frame
              refine forcedP (i := 9) rfl rfl (by kernel_rfl) (fun K hK => ?_)
              refine wp_append_own _ (.tmp 57) (.tmp 64) 27 rfl (E + 1) tInt j0 (.int .i64 0) 1 8 Try.underlying27 hj0 hy0 hy1 hy2 rfl (by decide) _ _ _ rfl (own_alloc (w := wz.drew) HRC.out (.cells #[.int .i64 (f.2.length : Int)] tInt)) ⟨wz.heap.size, 0, none⟩ 1 1 [.int .i64 (f.2.length : Int)] rfl rfl (new_cells wz.drew _ _) (by simp [Value.oneCell']) (by unfold maxLen; omega) (by omega) (by simp; omega) ?_
              intro v2 w9 hrow2 hg2 _
              have hb1 : Below wz.heap.size wz ((wz.drew).alloc (.cells #[.int .i64 (f.2.length : Int)] tInt)) := ((Below.refl _ _).drew).alloc (Nat.le_refl _) _
              have hE2 : w9.heap[E]? = some (.cells #[.slice AD P cD, .slice AC i cC] tFate (0, 0)) := ((hg2.block E (by simp; omega) fun e => by have := own_ge HRC.out e.symm; omega).trans (heap_alloc_old wz.drew _ hEl2)).trans HER2.out
              have hb9 : Below (E + 1) wz w9 := (hb1.mono (by omega)).grown hg2 (by simp; omega) (fun g hg => own_ge HRC.out hg)
              have c3 : w9.cell? ⟨E, 1, none⟩ = some (.slice AC i cC) := by rw [cell_of_row w9 E _ _ _ _ hE2]; rfl
              have z3 := unfrozen hE2 1
              have c4 : w9.cell? ⟨g4, i * 2 + 1, none⟩ = some (.slice Af f.2.length cf) := (hb9.cell (p := ⟨g4, i * 2 + 1, none⟩) (by show g4 < E + 1; omega)).trans c2
              obtain ⟨A2, k2, rfl, _, _⟩ := own_form hrow2
              refine hK _ _ ⟨c3, c4⟩ ?_; clear hK K
              try go_frame
              refine takeT (i := 10) (v := ?_) rfl (by kernel_rfl) (by kernel_rfl) (by kernel_rfl) (by kernel_rfl) (fun _ _ _ h => h) (⟨c3, c4⟩) (.inl ⟨by rfl, fun w => .inl ?hy10⟩) ?_; case hy10 => (go_simp; try with_reducible rfl)
              try go_frame
              refine lateP (i := 11) rfl rfl (by kernel_rfl) (by kernel_rfl) (fun K hK => ?_)
              go_simp
              refine hK _ _ ?_; clear hK K
              try go_frame
              refine wpAny_done (by kernel_rfl) ?_ _
              have hE3 := heap_same hE2 (i := 1) (.slice A2 (i + 1) k2)
              have hrowC3 : (w9.setCell ⟨E, 1, none⟩ (.slice A2 (i + 1) k2)).ownsRow (E + 1) tInt 1 (.slice A2 (i + 1) k2) (i + 1) (cInt (lens.take (i + 1))) := by
                rw [take_snoc_f HLEN.out, show cInt (lens.take i ++ [(f.2.length : Int)]) = cInt (lens.take i) ++ [.int .i64 (f.2.length : Int)] by simp [cInt]]
                exact own_same hrow2 fun g hg => Below.heap_setCell w9 ⟨E, 1, none⟩ _ g (fun e => by have := own_ge hrow2 hg; have e2 : g = E := e; omega)
              have hrowD3 : (w9.setCell ⟨E, 1, none⟩ (.slice A2 (i + 1) k2)).ownsRow (E + 1) tBool 1 (.slice AD P cD) P (cBool (List.replicate P true)) := by
                refine own_same HRD.out fun g hg => ?_
                have h1 := own_ge HRD.out hg
                obtain ⟨cur, h2⟩ := own_lt HRD.out hg
                have h3 := (Array.getElem?_eq_some_iff.1 h2).1
                refine (Below.heap_setCell w9 ⟨E, 1, none⟩ _ g (fun e => by have e2 : g = E := e; omega)).trans ?_
                refine (hg2.block g (by simp; omega) fun e => ?_).trans (heap_alloc_old wz.drew _ h3)
                exact own_types HRD.out HRC.out (by decide) hg e.symm
              have hb3 : Below E w5 (w9.setCell ⟨E, 1, none⟩ (.slice A2 (i + 1) k2)) := (HB2.out.trans (hb9.mono (by omega))).setCell (by show E ≤ E; omega) _
              have HE3 := Lib.hid hE3
              have HRC3 := Lib.hid hrowC3
              have HRD3 := Lib.hid hrowD3
              have HB3 := Lib.hid hb3
              clear hE2 hE3 hrow2 hrowC3 hrowD3 hb1 hb9 hb3 hg2 c1 c2 c3 c4 z3
              go_wp2
              go_roundw
              case rel => exact ⟨i + 1, _, by go_num, by omega, HE3.out, HRD3.out, HRC3.out, HB3.out⟩
              case measure => simp [intOf]; omega
            · obtain rfl : n4 = i := by omega
              rw [List.take_of_length_le (by have := HLL.out; omega)] at hrowC
              have hlb : ∀ x ∈ lens, -9223372036854775808 ≤ x ∧ x ≤ 9223372036854775807 := by
                intro x hx
                rw [← HLENS.out] at hx
                obtain ⟨f, hf, rfl⟩ := List.mem_map.1 hx
                rw [← HFS4.out] at hf
                obtain ⟨p, hp, rfl⟩ := mem_files.1 hf
                have := (H3.out.ok.at_ok p.2).2
                show _ ≤ ((D1.at p.2).data.length : Int) ∧ ((D1.at p.2).data.length : Int) ≤ _
                omega
              have hcr : (D1.crash (List.replicate P true) lens).image = fs4 := by
                rw [← HLENS.out, ← HFS4.out, ← HPL.out]
                have := crash_all H3.out.ok HJ.out
                rw [show (D1.image.map fun f => (f.2.length : Int)) = D1.now.map fun p => ((D1.at p.2).data.length : Int) by simp [Dr.D.image, Dr.D.files, Function.comp_def]]
                exact this
              have hf9 := HF45.out.below (w1 := wz) (by rw [HE.out]; exact hb)
              have HLB := Lib.hid hlb
              have HCR := Lib.hid hcr
              have HF9 := Lib.hid hf9
              have HEr := Lib.hid hEr
              have HRD := Lib.hid hrowD
              have HRC := Lib.hid hrowC
              have HB2 := Lib.hid hb
              clear hlb hcr hf9 hEr hrowD hrowC hb
              go_wp2
              go_meet
              exact ⟨A4, n4, c4, dv4, fs4, AD, P, cD, AC, n4, cC, _, lens, rfl, HF9.out, HN4.out, HEr.out, HRD.out, HRC.out, HLB.out, HB2.out, HCR.out⟩
  case rest =>
    obtain ⟨A9, n9, c9, dv9, fs9, Ad, nd, cd, Au, nu, cu, dirs, cuts, rfl, hf9, hn9, hE9, hrd, hrc, hcb, hb9, hcr⟩ := hcut
    have hb3c : Below w3.heap.size w3 wc := HB35.out.trans (hb9.mono (by have := HB35.out.size; have := HE.out; omega))
    have hnc : Own w1 wc d D1 m N := H3.out.below hb3c
    have hbE : Below w5.heap.size w5 wc := by rw [HE.out]; exact hb9
    have hf4c := HF45.out.below hbE
    have hrc4 : FilesRd wc A4 n4 fs4 := hf4c.rd HN4.out
    have hcut := hnc.ok
    have HF9 := Lib.hid hf9
    have HN9 := Lib.hid hn9
    have HE9 := Lib.hid hE9
    have HRD := Lib.hid hrd
    have HRC := Lib.hid hrc
    have HCB := Lib.hid hcb
    have HCR := Lib.hid hcr
    have HB3C := Lib.hid hb3c
    have HNC := Lib.hid hnc
    have HR4 := Lib.hid hrc4
    have hEc : E < wc.heap.size := (Array.getElem?_eq_some_iff.1 hE9).1
    have HEC := Lib.hid hEc
    clear hf9 hn9 hE9 hrd hrc hcb hb9 hcr hb3c hnc hbE hf4c hrc4 hcut hEc HE6 HS6 HB6
    have hn9N : n9 ≤ 4398046511104 := by
      have h1 := (HNC.out.ok.crash dirs cuts).lenN
      rw [← HN9.out, ← HCR.out, image_len]
      omega
    go_upto_region 22 with (go_at_call 39; refine (load_back HNC.out.ok (by omega) (by omega) (by rw [HFS4.out]; exact HR4.out)).mono ?_; rintro x w7 ⟨L, l, rfl, h, h1, h2, h3⟩; rw [HFS4.out] at h1 h2; have HL := Lib.hid h; have HLI := Lib.hid h1; have HLS := Lib.hid h2; have HLP := Lib.hid (show L.pend.length = 0 by rw [h3]; rfl); clear h h1 h2 h3)
    have HR7 := Lib.hid (HR4.out.below HL.out.back)
    go_upto_region 24 with (first
      | (go_at_call 20; refine (image_form HL.out.dv (by omega) (by omega) HLI.out HN4.out).mono ?_; rintro x w8 ⟨A8, c8, dv8, rfl, hf, hb⟩; have HI8 := Lib.hid (hf.rd HN4.out); have HR8 := Lib.hid (HR7.out.below hb); have HL8 := Lib.hid (HL.out.below hb); clear hf hb HR7 HL)
      | (go_at_call 19; refine (sameFiles_any HI8.out HR8.out (by omega)).mono ?_; rintro x w9 ⟨rfl, hb⟩; have HR9 := Lib.hid (HR8.out.below hb); have HL9 := Lib.hid (HL8.out.below hb); clear hb HI8 HR8 HL8)
      | (go_at_call 21; refine (safe_form HL9.out.dv (by omega) (by omega) HLS.out HN4.out).mono ?_; rintro x w10 ⟨A10, c10, dv10, rfl, hf, hb⟩; have HI10 := Lib.hid (hf.rd HN4.out); have HR10 := Lib.hid (HR9.out.below hb); have HL10 := Lib.hid (HL9.out.below hb); clear hf hb HR9 HL9)
      | (go_at_call 19; refine (sameFiles_any HI10.out HR10.out (by omega)).mono ?_; rintro x w11 ⟨rfl, hb⟩; have HL11 := Lib.hid (HL10.out.below hb); clear hb HI10 HR10 HL10)
      | (go_at_call 22; refine (HL11.out.pending HLP.out).mono ?_; rintro x wn ⟨rfl, rfl⟩))
    have hbc := HL11.out.back
    have hb3 : Below w3.heap.size w3 w11 := HB3C.out.trans (hbc.mono HB3C.out.size)
    have hbs := H3.out.beside hb3
    have hf9 := HF9.out.below hbc
    have hE11 := (hbc.block E HEC.out).trans HE9.out
    have c0 : w11.cell? ⟨E, 0, none⟩ = some (.slice Ad nd cd) := by rw [cell_of_row w11 E _ _ _ _ hE11]; rfl
    have c1 : w11.cell? ⟨E, 1, none⟩ = some (.slice Au nu cu) := by rw [cell_of_row w11 E _ _ _ _ hE11]; rfl
    have hrd := own_below HRD.out hbc
    have hrc := own_below HRC.out hbc
    have hloE : w3.heap.size ≤ E := by have := HB35.out.size; have := HE.out; omega
    have hdS : ∀ ad, Ad = some ad → w3.heap.size ≤ ad.block ∧ ad.block < w11.heap.size := by
      intro ad e
      rcases hrd.2 with ⟨e1, _⟩ | ⟨g, cap, cur, e1, h1, h2, _⟩
      · injection e1 with e1; rw [e] at e1; cases e1
      · injection e1 with e1; rw [e] at e1; injection e1 with e1; subst e1
        exact ⟨by show w3.heap.size ≤ g; omega, (Array.getElem?_eq_some_iff.1 h2).1⟩
    have hcS : ∀ ad, Au = some ad → w3.heap.size ≤ ad.block ∧ ad.block < w11.heap.size := by
      intro ad e
      rcases hrc.2 with ⟨e1, _⟩ | ⟨g, cap, cur, e1, h1, h2, _⟩
      · injection e1 with e1; rw [e] at e1; cases e1
      · injection e1 with e1; rw [e] at e1; injection e1 with e1; subst e1
        exact ⟨by show w3.heap.size ≤ g; omega, (Array.getElem?_eq_some_iff.1 h2).1⟩
    obtain ⟨D2, hD2⟩ : ∃ D2, D1.crash dirs cuts = D2 := ⟨_, rfl⟩
    have hi2 : D2.image = fs9 := by rw [← hD2]; exact HCR.out
    have hs2 : D2.safe = fs9 := by rw [← hi2, ← hD2]; exact crash_safe HNC.out.ok dirs cuts
    obtain ⟨D3, hD3⟩ : ∃ D3, D2.crash k.dirs k.cuts = D3 := ⟨_, rfl⟩
    have hok2 : D2.Ok m N := by rw [← hD2]; exact HNC.out.ok.crash dirs cuts
    have hi3 : D3.image = fs9 := by
      rw [← hD3, crash_calm hok2 (by rw [← hD2]; exact crash_kept dirs cuts) (by rw [← hD2]; rfl) (by rw [hs2, hi2])]
      exact hi2
    have hp3 : D3.pend.length = 0 := by rw [← hD3]; rfl
    have HBS := Lib.hid hbs
    have HF11 := Lib.hid hf9
    have HRD11 := Lib.hid (Rd.of_own hrd)
    have HRC11 := Lib.hid (Rd.of_own hrc)
    have HDS := Lib.hid hdS
    have HCS := Lib.hid hcS
    have HD2 := Lib.hid hD2
    have HI2 := Lib.hid hi2
    have HS2 := Lib.hid hs2
    have HD3 := Lib.hid hD3
    have HI3 := Lib.hid hi3
    have HP3 := Lib.hid hp3
    have hbV : ∀ wr, Below w1.heap.size w1 wr → wr.rangeAt V 7 [.slice k.Ad k.nd k.cd, .slice k.Au k.nu k.cu] := fun wr hb => (keep_cells (HBOX.out wr (hb.mono HV1.out))).2.2.2.2
    have HBV := Lib.hid hbV
    have hfa : ∀ wr, Below w1.heap.size w1 wr → FateIn wr w1.heap.size k.dirs k.cuts k.Ad k.nd k.cd k.Au k.nu k.cu := fun wr hb => ((HK1.out.below (hb.mono (by have := HV1.out; omega))).fate).more (by have := HV1.out; omega)
    have HFA := Lib.hid hfa
    clear hbc hb3 hbs hf9 hE11 hrd hrc hloE hdS hcS hD2 hi2 hs2 hD3 hok2 hi3 hp3 hbV hfa
    go_upto_region 26 with (first
      | (go_at_call 16; refine (HBS.out.crash (by omega) (by omega) HRD11.out HRC11.out HCB.out HDS.out HCS.out HD2.out).mono ?_; rintro x w12 ⟨rfl, h⟩; have HC12 := Lib.hid h; have HF12 := Lib.hid (HF11.out.beside h); clear h HBS)
      | (go_at_call 18; refine (num_any 0 _).mono ?_; rintro x wn ⟨rfl, rfl⟩)
      | (go_at_call 20; refine (image_form HC12.out.dv (by omega) (by omega) HI2.out HN9.out).mono ?_; rintro x w13 ⟨A13, c13, dv13, rfl, hf, hb⟩; have HI13 := Lib.hid (hf.rd HN9.out); have HR13 := Lib.hid ((HF12.out.below hb).rd HN9.out); have HC13 := Lib.hid (HC12.out.below hb); clear hf hb HC12)
      | (go_at_call 19; refine (sameFiles_any HI13.out HR13.out (by omega)).mono ?_; rintro x w14 ⟨rfl, hb⟩; have HC14 := Lib.hid (HC13.out.below hb); have HR14 := Lib.hid (HR13.out.below hb); clear hb HI13 HR13 HC13)
      | (go_at_call 21; refine (safe_form HC14.out.dv (by omega) (by omega) HS2.out HN9.out).mono ?_; rintro x w15 ⟨A15, c15, dv15, rfl, hf, hb⟩; have HI15 := Lib.hid (hf.rd HN9.out); have HR15 := Lib.hid (HR14.out.below hb); have HC15 := Lib.hid (HC14.out.below hb); clear hf hb HC14 HR14)
      | (go_at_call 19; refine (sameFiles_any HI15.out HR15.out (by omega)).mono ?_; rintro x w16 ⟨rfl, hb⟩; have HC16 := Lib.hid (HC15.out.below hb); clear hb HI15 HR15 HC15))
    clear c0 c1
    have e7 := HBV.out w16 HC16.out.own.back
    have HE7 := Lib.hid e7
    have HFA16 := Lib.hid (HFA.out w16 HC16.out.own.back)
    clear e7
    go_wp2_with (first
      | (refine wpList_load_mid rfl 29 (.tmp 111) rfl V 7 rfl [.slice k.Ad k.nd k.cd, .slice k.Au k.nu k.cu] _ HE7.out Try.underlying29 rfl (by kernel_rfl) ?_)
      | (go_at_call 16; refine (HC16.out.crash_in (by omega) (by omega) HFA16.out HD3.out).mono ?_; rintro x w17 ⟨rfl, h⟩; have HC17 := Lib.hid h; have HF17 := Lib.hid (HF11.out.beside h); clear h)
      | (go_at_call 18; refine (num_any 0 _).mono ?_; rintro x wn ⟨rfl, rfl⟩)
      | (go_at_call 20; refine (image_form HC17.out.dv (by omega) (by omega) HI3.out HN9.out).mono ?_; rintro x w18 ⟨A18, c18, dv18, rfl, hf, hb⟩; have HI18 := Lib.hid (hf.rd HN9.out); have HR18 := Lib.hid ((HF17.out.below hb).rd HN9.out); have HC18 := Lib.hid (HC17.out.below hb); clear hf hb)
      | (go_at_call 19; refine (sameFiles_any HI18.out HR18.out (by omega)).mono ?_; rintro x w19 ⟨rfl, hb⟩; have HC19 := Lib.hid (HC18.out.below hb); clear hb)
      | (go_at_call 22; refine (HC19.out.pending HP3.out).mono ?_; rintro x wn ⟨rfl, rfl⟩))
    go_ret
    exact ⟨rfl, HBW1.out.trans (HC19.out.own.back.mono (by have := HV1.out; omega))⟩
end Go.Proofs.Ytelgcmcnebncmaa.Dr
