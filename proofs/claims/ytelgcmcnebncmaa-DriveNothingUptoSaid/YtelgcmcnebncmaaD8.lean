/- The walks of Cut and Flip. -/
import Derived.Test.YtelgcmcnebncmaaD7
namespace Go.Proofs.Ytelgcmcnebncmaa.Dr
open Go.RowKit Go.Proofs Go.Proofs.Ytelgcmcnebncmaa.Ring

theorem setBody_self {D : Dr.D} {i : Nat} (hi : i < D.bd.length) : D.setBody i (D.at i) = D := by
  unfold Dr.D.setBody Dr.D.at
  rw [List.getD_eq_getElem?_getD, List.getElem?_eq_getElem hi]
  simp
theorem own_front {w : World} {base : Nat} {e : TypeId} {A : Option Addr} {n c q : Nat} {xs : List Value} (h : w.ownsRow base e 1 (.slice A n c) n xs) (hq : q < n) : w.ownsRow base e 1 (.slice A q c) q (xs.take q) := by
  have hl := h.1
  rcases h.2 with ⟨_, h0⟩ | ⟨g, cap, cur, e1, h1, h2, h3, h4, h5, h6⟩
  · omega
  · injection e1 with e1 e2 e3
    subst e1 e3
    refine ⟨by rw [List.length_take]; omega, .inr ⟨g, c, cur, rfl, h1, h2, by omega, h4, h5, ?_⟩⟩
    rw [← h6, List.take_take]
    congr 1
    omega
section
variable {w w' : World} {S : Nat → Prop} {d : Nat} {D : Dr.D} {m N : Nat}
set_option maxRecDepth 100000 in
set_option maxHeartbeats 4000000 in
theorem cut_any (h : Dv w S d D m N) (hm : m ≤ 140737488355328) (n : Bs) (k : Int) : Calls Try.prog 80 #[.pointer (some ⟨d, 0, none⟩), encStr n, .int .i64 k] w fun x w' => x = .returned (.int .i64 (D.cut n k).2) ∧ Turn w w' S d (D.cut n k).1 m N := by
  have h0 := h
  have hok := h.1.cut n k
  obtain ⟨ho, β, vs, nv, kv, pv, ss, h⟩ := h
  by_cases hnk : (named n && decide (k < 0)) = true
  · have he : D.cut n k = (D, 2) := by unfold Dr.D.cut; rw [if_pos hnk]
    have hn : named n = true := ((Bool.and_eq_true _ _).mp hnk).1
    have hk : k < 0 := of_decide_eq_true ((Bool.and_eq_true _ _).mp hnk).2
    rw [he]
    have H0 := Lib.hid h0
    clear h ho he h0 hok hnk
    go_enter Try.func80, Try.ntmps80
    go_wp2_with (go_at_call 88; refine (named_any n _).mono ?_; rintro x w1 ⟨rfl, rfl⟩; rw [hn])
    go_ret
    exact ⟨rfl, Turn.refl H0.out⟩
  · have hcase : named n = false ∨ named n = true ∧ 0 ≤ k := by
      cases hn : named n
      · exact .inl rfl
      · rw [hn] at hnk
        refine .inr ⟨rfl, ?_⟩
        by_cases hk : k < 0
        · exact absurd (by rw [decide_eq_true hk]; rfl) hnk
        · omega
    cases hl : D.look n with
    | error e =>
      have he : D.cut n k = (D, e) := by unfold Dr.D.cut; rw [if_neg hnk, hl]
      have hne0 : ¬ e = 0 := by have := look_ne hl; simpa using this
      have hne : (e != 0) = true := by rw [bne, look_ne hl]; rfl
      rw [he]
      have H0 := Lib.hid h0
      have H := Lib.hid h
      have HL := Lib.hid hl
      clear h ho he h0 hok hnk hl
      rcases hcase with hn | ⟨hn, hk⟩
      all_goals
        go_enter Try.func80, Try.ntmps80
        go_wp2_with (first
          | (go_at_call 88; refine (named_any n _).mono ?_; rintro x w1 ⟨rfl, rfl⟩; rw [hn])
          | (go_at_call 90; refine (find_any H.out n).mono ?_; rintro x w1 ⟨rfl, rfl⟩; rw [HL.out]; simp only [found]))
        go_ret
        exact ⟨rfl, Turn.refl H0.out⟩
    | ok i =>
      have hn := (look_ok ho hl).1
      have hk0 : 0 ≤ k := by
        rcases hcase with h | h
        · rw [hn] at h; cases h
        · exact h.2
      clear hcase
      obtain ⟨q, rfl⟩ : ∃ q : Nat, k = (q : Int) := ⟨k.toNat, by omega⟩
      have hi := (look_in ho hl).2
      have hai := ho.at_ok i
      have he : D.cut n (q : Int) = (D.setBody i ⟨(D.at i).data.take q, min (D.at i).safe q⟩, 0) := by unfold Dr.D.cut; rw [if_neg hnk, hl]; rfl
      obtain ⟨A, c, hv, hlc, hcm⟩ := own_form (h.row i hi)
      obtain ⟨c0, c1, f0, f1⟩ := c_body (h.body i hi)
      rw [hv] at c0
      by_cases hq : (D.at i).data.length ≤ q
      · have hself : (⟨(D.at i).data.take q, min (D.at i).safe q⟩ : Bd) = D.at i := by
          rw [List.take_of_length_le hq, Nat.min_eq_left (by omega)]
        rw [he, hself, setBody_self hi]
        have hge : (q : Int) ≥ ((D.at i).data.length : Int) := by omega
        have H0 := Lib.hid h0
        have H := Lib.hid h
        have HL := Lib.hid hl
        clear h ho he h0 hok hnk hl hv hself hq
        go_enter Try.func80, Try.ntmps80
        go_wp2_with (first
          | (go_at_call 88; refine (named_any n _).mono ?_; rintro x w1 ⟨rfl, rfl⟩; rw [hn])
          | (go_at_call 90; refine (find_any H.out n).mono ?_; rintro x w1 ⟨rfl, rfl⟩; rw [HL.out]; simp only [found]))
        go_ret
        exact ⟨rfl, Turn.refl H0.out⟩
      · rw [he] at hok ⊢
        have hge : ¬ (q : Int) ≥ ((D.at i).data.length : Int) := by omega
        have hus : (D.setBody i ⟨(D.at i).data.take q, min (D.at i).safe q⟩).used + (D.at i).data.length = D.used + q := by
          have h1 := used_set ho hl ⟨(D.at i).data.take q, min (D.at i).safe q⟩
          rw [show (Bd.data ⟨(D.at i).data.take q, min (D.at i).safe q⟩).length = q by rw [List.length_take]; omega] at h1
          exact h1
        have e0 : w.drew.cell? ⟨β i, 0, none⟩ = some (.slice A (D.at i).data.length c) := c0
        have e1 : w.drew.cell? ⟨d, 1, none⟩ = some (.int .i64 (wrap64 (D.used : Int))) := h.cells.2.1
        have e2 : w.drew.frozen? ⟨d, 1, none⟩ = false := (c_now h.head).2.2.2.1
        have hqc : (q : Int) ≤ (c : Int) := by omega
        have hqm : (c : Int) ≤ 9223372036854775807 := by unfold maxLen at hcm; omega
        have H := Lib.hid h
        have HL := Lib.hid hl
        have HOK := Lib.hid hok
        have HUS := Lib.hid hus
        have HV := Lib.hid hv
        clear h ho he h0 hok hnk hl hv hus
        go_enter Try.func80, Try.ntmps80
        go_upto_region 6 with (first
          | (go_at_call 88; refine (named_any n _).mono ?_; rintro x w1 ⟨rfl, rfl⟩; rw [hn])
          | (go_at_call 90; refine (find_any H.out n).mono ?_; rintro x w1 ⟨rfl, rfl⟩; rw [HL.out]; simp only [found]))
        go_region
        go_upto_region 7 with (fail)
        have hW := (H.out.used (wrap64 (wrap64 (D.used : Int) - (((D.at i).data.length : Int) - (q : Int))))).same (w' := (w.setCell ⟨d, 1, none⟩ (.int .i64 (wrap64 (wrap64 (D.used : Int) - (((D.at i).data.length : Int) - (q : Int)))))).drew) (fun k _ => rfl) (Nat.le_refl _)
        have hK : Kept w (w.setCell ⟨d, 1, none⟩ (.int .i64 (wrap64 (wrap64 (D.used : Int) - (((D.at i).data.length : Int) - (q : Int)))))).drew S := ((Kept.refl w S).set (p := ⟨d, 1, none⟩) H.out.inD _).below ((Below.refl _ _).drew)
        obtain ⟨wb, hwb⟩ : ∃ wb, (w.setCell ⟨d, 1, none⟩ (.int .i64 (wrap64 (wrap64 (D.used : Int) - (((D.at i).data.length : Int) - (q : Int)))))).drew = wb := ⟨_, rfl⟩
        rw [hwb] at hW hK ⊢
        have hu : wrap64 (wrap64 (D.used : Int) - (((D.at i).data.length : Int) - (q : Int))) = wrap64 ((D.setBody i ⟨(D.at i).data.take q, min (D.at i).safe q⟩).used : Int) := by
          rw [wrap_sub]
          exact congrArg wrap64 (by have := HUS.out; omega)
        rw [hu] at hW
        obtain ⟨b0, b1, g0, g1⟩ := c_body (hW.body i hi)
        rw [HV.out] at b0
        obtain ⟨_, b2, _, g2⟩ := c_body (heap_same (hW.body i hi) (.slice A q c) (i := 0))
        have HW := Lib.hid hW
        have HK := Lib.hid hK
        clear hW hK hwb hu e0 e1 e2 c0 c1 f0 f1
        go_wp2
        go_ret
        have hmin : min ((D.at i).safe : Int) (q : Int) = ((min (D.at i).safe q : Nat) : Int) := by omega
        rw [hmin]
        have hrow : ((wb.setCell ⟨β i, 0, none⟩ (.slice A q c)).setCell ⟨β i, 1, none⟩ (.int .i64 ((min (D.at i).safe q : Nat) : Int))).ownsRow 0 tU8 1 (.slice A q c) ((D.at i).data.take q).length (cU8 ((D.at i).data.take q)) := by
          have h1 := HW.out.row i hi
          rw [HV.out] at h1
          have h2 := own_front h1 (q := q) (by omega)
          rw [show ((D.at i).data.take q).length = q by rw [List.length_take]; omega, show cU8 ((D.at i).data.take q) = (cU8 (D.at i).data).take q by simp [cU8, List.map_take]]
          refine own_same h2 fun g hg => ?_
          obtain ⟨cur, h3⟩ := own_lt h2 hg
          have hne : g ≠ β i := fun e => ne_ty (HW.out.body i hi) h3 (by decide) e.symm
          exact (Below.heap_setCell _ _ _ g hne).trans (Below.heap_setCell _ _ _ g hne)
        have h2 := HW.out.bodied (w' := (wb.setCell ⟨β i, 0, none⟩ (.slice A q c)).setCell ⟨β i, 1, none⟩ (.int .i64 ((min (D.at i).safe q : Nat) : Int))) hi (b := ⟨(D.at i).data.take q, min (D.at i).safe q⟩) (v' := .slice A q c) (heap_same (heap_same (HW.out.body i hi) _) _) hrow
          (fun g hg => .inl (by rw [HV.out]; cases A with | none => (simp [Value.ownBlock] at hg) | some _ => (simpa [Value.ownBlock] using hg))) (fun k _ hk _ => (Below.heap_setCell _ _ _ k hk).trans (Below.heap_setCell _ _ _ k hk)) (by simp [World.setCell])
        refine ⟨rfl, Turn.of HOK.out h2 rfl ((HK.out.set (p := ⟨β i, 0, none⟩) (H.out.inB i hi) _).set (p := ⟨β i, 1, none⟩) (H.out.inB i hi) _) ?_⟩
        rintro k (hk | hk)
        · exact .inl hk
        · exact .inl (H.out.inV i k hi (by rw [HV.out]; cases A with | none => (simp [Value.ownBlock] at hk) | some _ => (simpa [Value.ownBlock] using hk)))
end
end Go.Proofs.Ytelgcmcnebncmaa.Dr
