/- XRf1: merged by tools/merge.py. -/
import Derived.Test.YtelgcmcnebncmaaQ21
namespace Go.Proofs.Ytelgcmcnebncmaa.Dr
open Go.RowKit Go.Proofs Go.Proofs.Ytelgcmcnebncmaa.Ring

set_option maxRecDepth 100000 in
theorem rnamed_any (n : Bs) (w : World) : Calls Try.prog 97 #[encStr n] w fun x w' => x = .returned (.bool (Dr.named n)) ∧ w = w' := by
  unfold Dr.named
  by_cases h1 : 1 ≤ n.length
  · by_cases h2 : n.length ≤ 1024
    · have e : decide (1 ≤ n.length ∧ n.length ≤ 1024) = true := by simp [h1, h2]
      have h3 : (1 : Int) ≤ (n.length : Int) := by omega
      have h4 : (n.length : Int) ≤ 1024 := by omega
      rw [e]
      clear e
      go_enter Try.func97, Try.ntmps97
      go_wp2
      go_ret
      exact ⟨rfl, rfl⟩
    · have e : decide (1 ≤ n.length ∧ n.length ≤ 1024) = false := by simp [h2]
      have h3 : (1 : Int) ≤ (n.length : Int) := by omega
      have h4 : ¬ (n.length : Int) ≤ 1024 := by omega
      rw [e]
      clear e
      go_enter Try.func97, Try.ntmps97
      go_wp2
      go_ret
      exact ⟨rfl, rfl⟩
  · have e : decide (1 ≤ n.length ∧ n.length ≤ 1024) = false := by simp [h1]
    have h3 : ¬ (1 : Int) ≤ (n.length : Int) := by omega
    rw [e]
    clear e
    go_enter Try.func97, Try.ntmps97
    go_wp2
    go_ret
    exact ⟨rfl, rfl⟩
section
variable {w : World} {base : Nat}
theorem ent_cells {A : Option Addr} {n c i : Nat} {l : Ents} {p : Bs × Int} (h : EntAt w base (.slice A n c) l) (hp : l[i]? = some p) : ∃ g, A = some ⟨g, 0, none⟩ ∧ g < w.heap.size ∧ base ≤ g ∧ w.cell? ⟨g, i * 2, none⟩ = some (encStr p.1) ∧ w.cell? ⟨g, i * 2 + 1, none⟩ = some (.int .i64 p.2) := by
  have hn : n = l.length := by
    rcases h.2 with ⟨h1, h2⟩ | ⟨_, _, _, h1, _⟩
    · injection h1 with _ h1 _; omega
    · injection h1 with _ h1 _
  subst hn
  have hi := (List.getElem?_eq_some_iff.1 hp).1
  obtain ⟨g, rfl⟩ := own_some h (by omega)
  obtain ⟨c0, c1⟩ := cE_at l i p hp
  obtain ⟨cur, h1⟩ := own_lt h (g := g) rfl
  exact ⟨g, rfl, (Array.getElem?_eq_some_iff.1 h1).1, own_ge h rfl, own_cellS h c0, own_cellS h c1⟩
theorem EntAt.len {v : Value} {l : Ents} (h : EntAt w base v l) : l.length ≤ 9223372036854775807 := by
  obtain ⟨A, c, rfl, h1, h2⟩ := own_form h
  unfold maxLen at h2
  omega
theorem EntAt.form {v : Value} {l : Ents} (h : EntAt w base v l) : ∃ A c, v = .slice A l.length c := by
  obtain ⟨A, c, rfl, _, _⟩ := own_form h
  exact ⟨A, c, rfl⟩
set_option maxRecDepth 100000 in
set_option maxHeartbeats 4000000 in
theorem rfind_any {A : Option Addr} {n c : Nat} {l : Ents} (hn : n = l.length) (h : EntAt w base (.slice A n c) l) (nm : Bs) {z : Int} (hz : findE l nm = z) : Calls Try.prog 98 #[.slice A n c, encStr nm] w fun x w' => x = .returned (.int .i64 z) ∧ w = w' := by
  subst hn
  have hml := h.len
  have H := Lib.hid h
  have HZ := Lib.hid hz
  clear h hz
  go_enter Try.func98, Try.ntmps98
  go_upto_region 2 with (fail)
  go_loopw [5] (fun iv wr => ∃ i : Nat, iv = .int .i64 (i : Int) ∧ w = wr ∧ i ≤ l.length ∧ ∀ (j : Nat) p, j < i → l[j]? = some p → p.1 ≠ nm) (fun iv _ => l.length - (intOf iv).toNat)
  case atStart => exact ⟨0, rfl, rfl, by omega, fun j p hj => by omega⟩
  case round =>
    obtain ⟨i, rfl, rfl, hi, hno⟩ := hrel
    by_cases hlt : i < l.length
    · obtain ⟨p, hp⟩ : ∃ p, l[i]? = some p := ⟨_, List.getElem?_eq_getElem hlt⟩
      obtain ⟨g, rfl, _, _, e0, e1⟩ := ent_cells H.out hp
      have hlt2 : (i : Int) < (l.length : Int) := by omega
      have HP := Lib.hid hp
      have HNO := Lib.hid hno
      clear hp hno
      by_cases hpn : p.1 = nm
      · subst hpn
        go_wp2
        go_ret
        refine ⟨?_, rfl⟩
        have hf : l.find? (fun q => decide (q.1 = p.1)) = some p := by
          rw [List.find?_eq_some_iff_getElem]
          obtain ⟨h1, h2⟩ := List.getElem?_eq_some_iff.1 HP.out
          refine ⟨by simp, i, h1, h2, fun j hj => ?_⟩
          have := HNO.out j _ hj (List.getElem?_eq_getElem (by omega))
          simpa using this
        have hz : p.2 = z := by have h0 := HZ.out; unfold findE at h0; rw [hf] at h0; exact h0
        exact ret_int hz
      · have hq : (p.1 == nm) = false := by simpa using hpn
        go_wp2
        go_roundw
        case rel =>
          refine ⟨i + 1, by go_num, trivial, by omega, fun j p' hj hp' => ?_⟩
          rcases Nat.lt_or_ge j i with h1 | h1
          · exact HNO.out j p' h1 hp'
          · obtain rfl : j = i := by omega
            rw [HP.out] at hp'
            injection hp' with hp'
            rw [← hp']; exact hpn
        case measure => simp [intOf]; omega
    · obtain rfl : i = l.length := by omega
      have hf : l.find? (fun q => decide (q.1 = nm)) = none := by
        rw [List.find?_eq_none]
        intro q hq
        obtain ⟨j, hj⟩ := List.mem_iff_getElem?.1 hq
        have := hno j q (List.getElem?_eq_some_iff.1 hj).1 hj
        simpa using this
      have hz : -1 = z := by have h0 := HZ.out; unfold findE at h0; rw [hf] at h0; exact h0
      have HZ2 := Lib.hid hz
      clear hz hf hno
      go_wp2
      go_ret
      exact ⟨ret_int HZ2.out, rfl⟩
theorem less_before : ∀ x y : Bs, Op.bytesLess x y = bytesBefore x y
  | [], [] => rfl
  | [], _ :: _ => rfl
  | _ :: _, [] => rfl
  | x :: a, y :: b => by
    unfold Op.bytesLess bytesBefore
    rw [less_before a b]
    try rfl
set_option maxRecDepth 100000 in
set_option maxHeartbeats 8000000 in
theorem rset_any {A : Option Addr} {n c : Nat} {l : Ents} (hn : n = l.length) (h : EntAt w base (.slice A n c) l) (hl : l.length ≤ 4398046511104) (nm : Bs) (z : Int) {r : Ents} (hr : setE l nm z = r) :
    Calls Try.prog 99 #[.slice A n c, encStr nm, .int .i64 z] w fun x w' => ∃ A' c', x = .returned (.slice A' r.length c') ∧ EntAt w' w.heap.size (.slice A' r.length c') r ∧ Below w.heap.size w w' := by
  subst hn
  obtain ⟨e0, he0, hz0, hz1, hz2⟩ := info_parts infoEnt
  obtain ⟨V, hV⟩ : ∃ V, w.heap.size = V := ⟨_, rfl⟩
  rw [hV]
  have hab : ∀ wr, Below V w wr → EntAt wr base (.slice A l.length c) l := fun wr hb => own_below h (hV ▸ hb)
  have HAB := Lib.hid hab
  have HR := Lib.hid hr
  have HV := Lib.hid hV
  clear h hr hab hV
  go_enter Try.func99, Try.ntmps99
  go_upto_region 3 with (fail)
  go_loopw [7, 8] (fun v iv wr => ∃ i : Nat, iv = .int .i64 (i : Int) ∧ i ≤ l.length ∧ EntAt wr V v (l.take i) ∧ Below V w wr ∧ ∀ (j : Nat) p, j < i → l[j]? = some p → bytesBefore p.1 nm = true) (fun _ iv _ => l.length - (intOf iv).toNat)
  case atStart => exact ⟨0, rfl, by omega, by rw [List.take_zero]; exact World.ownsRow_nil _ _ _ _, Below.refl _ _, fun j p hj => by omega⟩
  case round =>
    obtain ⟨i, rfl, hi, hrow, hb, hall⟩ := hrel
    by_cases hlt : i < l.length
    · obtain ⟨p, hp⟩ : ∃ p, l[i]? = some p := ⟨_, List.getElem?_eq_getElem hlt⟩
      obtain ⟨g, rfl, hgl, _, e1, e2⟩ := ent_cells (HAB.out wr hb) hp
      have hlt2 : (i : Int) < (l.length : Int) := by omega
      by_cases hbf : bytesBefore p.1 nm = true
      · have hbf2 : Op.bytesLess p.1 nm = true := by rw [less_before]; exact hbf
        obtain ⟨Ao, co, rfl⟩ := hrow.form
        have hio : (l.take i).length = i := by simp; omega
        rw [hio] at hrow ⊢
        unfold EntAt at hrow
        rw [hio] at hrow
        have hrange : wr.rangeAt g (i * 2) [encStr p.1, .int .i64 p.2] := by
          intro j v hv
          match j, hv with
          | 0, hv => cases hv; exact e1
          | 1, hv => cases hv; exact e2
          | j + 2, hv => cases hv
        have HROW := Lib.hid hrow
        have HB := Lib.hid hb
        have HP := Lib.hid hp
        have HRG := Lib.hid hrange
        have HALL := Lib.hid (show ∀ (j : Nat) q, j < i + 1 → l[j]? = some q → bytesBefore q.1 nm = true from fun j q hj hq => by
          rcases Nat.lt_or_ge j i with h1 | h1
          · exact hall j q h1 hq
          · obtain rfl : j = i := by omega
            rw [hp] at hq
            injection hq with hq
            rw [← hq]; exact hbf)
        have HVB := Lib.hid (show V ≤ wr.heap.size from by have := hb.size; have := HV.out; omega)
        clear hrow hb hp hrange hall hbf e2 hgl
        go_wp2_with (first
          | (refine wpList_load_mid rfl tEnt (.tmp 25) rfl g (i * 2) rfl [encStr p.1, .int .i64 p.2] _ HRG.out Try.underlying141 rfl (by kernel_rfl) ?_)
          | (at_builtin; go_loud (refine wpList_append_keeps _ rfl (.tmp 22) (.tmp 27) 133 rfl V tEnt e0 (.agg #[.string ⟨#[]⟩, .int .i64 0]) 2 24 Try.underlying133 he0 hz0 hz1 hz2 rfl (by decide) _ i (cE (l.take i)) rfl (own_alloc HROW.out _) ⟨wr.heap.size, 0, none⟩ 1 1 [encStr p.1, .int .i64 p.2] rfl rfl (new_cells _ [encStr p.1, .int .i64 p.2] tEnt) (by simp [Value.oneCell']) (by omega) (by unfold maxLen; omega) (by omega) (Nat.le_trans HVB.out (by simp)) ?_); go_loud (intro g2 cap2 w3 hg hgr hat hlt9 _); have HG := Lib.hid hg; have HGR := Lib.hid hgr; clear hg hgr hat hlt9))
        have hb3 : Below V w w3 := (HB.out.alloc HVB.out _).grown HGR.out (by simp; have := HVB.out; omega) fun k hk => own_ge HROW.out hk
        have HB3 := Lib.hid hb3
        clear hb3
        go_roundw
        case rel =>
          refine ⟨i + 1, by go_num, by omega, ?_, HB3.out, HALL.out⟩
          unfold EntAt
          rw [take_snoc_f HP.out, cE_append, List.length_append, List.length_take, Nat.min_eq_left (by omega)]
          exact HG.out
        case measure => simp [intOf]; omega
      · have hbf2 : Op.bytesLess p.1 nm = false := by rw [less_before]; simpa using hbf
        have he := ahead_of (l := l) (n := nm) (i := i) (by omega) hall (fun q hq => by rw [hp] at hq; injection hq with hq; rw [← hq]; simpa using hbf)
        obtain ⟨Ao, co, rfl⟩ := hrow.form
        have hio : (l.take i).length = i := by simp; omega
        rw [hio] at hrow ⊢
        unfold EntAt at hrow
        rw [hio] at hrow
        have HROW := Lib.hid hrow
        have HB := Lib.hid hb
        have HE := Lib.hid he
        have HVB := Lib.hid (show V ≤ wr.heap.size from by have := hb.size; have := HV.out; omega)
        obtain ⟨wo, rfl⟩ : ∃ wo, wo = wr := ⟨_, rfl⟩
        have HP := Lib.hid hp
        clear hrow hb he hp hall hbf hio
        by_cases hz0' : 0 ≤ z
        · go_upto_region 8 with (at_builtin; go_loud (refine wpList_append_keeps _ rfl (.tmp 33) (.tmp 37) 133 rfl V tEnt e0 (.agg #[.string ⟨#[]⟩, .int .i64 0]) 2 24 Try.underlying133 he0 hz0 hz1 hz2 rfl (by decide) _ i (cE (l.take i)) rfl (own_alloc HROW.out _) ⟨wo.heap.size, 0, none⟩ 1 1 [encStr nm, .int .i64 z] rfl rfl (new_cells _ [encStr nm, .int .i64 z] tEnt) (by simp [Value.oneCell']) (by omega) (by unfold maxLen; omega) (by omega) (Nat.le_trans HVB.out (by simp)) ?_); go_loud (intro g2 cap2 w4 hg hgr hat hlt9 _); have HG := Lib.hid hg; have HGR := Lib.hid hgr; clear hg hgr hat hlt9)
          have HB2 := Lib.hid (show Below V w w4 from (HB.out.alloc HVB.out _).grown HGR.out (by simp; have := HVB.out; omega) fun k hk => own_ge HROW.out hk)
          obtain ⟨pre, hpe⟩ : ∃ pre, l.take i ++ [(nm, z)] = pre := ⟨_, rfl⟩
          have hpn2 : pre.length = i + 1 := by rw [← hpe]; simp; omega
          have hpre : EntAt w4 V (.slice (some ⟨g2, 0, none⟩) (i + 1) cap2) pre := by
            unfold EntAt
            rw [hpn2, ← hpe, cE_append]
            exact HG.out
          have HMID := Lib.hid (show l.take i ++ (if 0 ≤ z then [(nm, z)] else []) = pre from by rw [if_pos hz0', hpe])
          clear hpe HG HGR HROW HB
          clear e1
          obtain ⟨g, hgA, _, _, e1, _⟩ := ent_cells (HAB.out w4 HB2.out) HP.out
          first | subst hgA | (obtain rfl : _ = g := by injection hgA with hgA; injection hgA) | skip
          by_cases hpn : p.1 = nm
          · have hq : (p.1 == nm) = true := by simpa using hpn
            have hfin : pre ++ l.drop (i + 1) = setE l nm z := by
              have hs := skip_of (l := l) (n := nm) (i := i)
              rw [HP.out, if_pos (by simpa using hpn)] at hs
              unfold setE
              rw [HE.out.1, HE.out.2, hs, HMID.out]
              
            clear hpn
            go_upto_region 10 with (fail)
            clear e1 hq
            have hpl2 : pre.length + (l.drop (i + 1)).length ≤ l.length + 1 := by simp; omega
            have HPL := Lib.hid hpl2
            have HPRE := Lib.hid hpre
            have HFIN := Lib.hid hfin
            clear hpl2 hpre hfin
            go_loopw [7, 8] (fun v iv wr => ∃ k : Nat, iv = .int .i64 (k : Int) ∧ i + 1 ≤ k ∧ k ≤ l.length ∧ EntAt wr V v (pre ++ (l.drop (i + 1)).take (k - (i + 1))) ∧ Below V w wr) (fun _ iv _ => l.length - (intOf iv).toNat)
            case atStart => exact ⟨i + 1, by first | rfl | go_num, Nat.le_refl _, by omega, by rw [Nat.sub_self, List.take_zero, List.append_nil]; exact HPRE.out, HB2.out⟩
            case round =>
              obtain ⟨k, rfl, hk1, hk2, hrow, hb⟩ := hrel
              by_cases hlt : k < l.length
              · obtain ⟨p3, hp3⟩ : ∃ p, l[k]? = some p := ⟨_, List.getElem?_eq_getElem hlt⟩
                obtain ⟨g, hgA, hgl, _, e1, e2⟩ := ent_cells (HAB.out wr hb) hp3
                have hlt2 : (k : Int) < (l.length : Int) := by omega
                obtain ⟨Ao, co, rfl⟩ := hrow.form
                obtain ⟨n3, hn3⟩ : ∃ n3, pre.length + (k - (i + 1)) = n3 := ⟨_, rfl⟩
                have hio : (pre ++ (l.drop (i + 1)).take (k - (i + 1))).length = n3 := by rw [← hn3]; simp; omega
                rw [hio] at hrow ⊢
                unfold EntAt at hrow
                rw [hio] at hrow
                have hrange : wr.rangeAt g (k * 2) [encStr p3.1, .int .i64 p3.2] := by
                  intro j v hv
                  match j, hv with
                  | 0, hv => cases hv; exact e1
                  | 1, hv => cases hv; exact e2
                  | j + 2, hv => cases hv
                have HROW := Lib.hid hrow
                have HB := Lib.hid hb
                have HP := Lib.hid hp3
                have HRG := Lib.hid hrange
                have HVB := Lib.hid (show V ≤ wr.heap.size from by have := hb.size; have := HV.out; omega)
                have hpl3 : n3 ≤ l.length + 1 := by have := HPL.out; simp at this; omega
                have HN3 := Lib.hid hn3
                clear hn3
                clear hrow hb hp3 hrange e1 e2 hgl hio
                first | subst hgA | (obtain rfl : _ = g := by injection hgA with hgA; injection hgA) | skip
                go_wp2_with (first
                  | (refine wpList_load_mid rfl tEnt (.tmp 61) rfl g (k * 2) rfl [encStr p3.1, .int .i64 p3.2] _ HRG.out Try.underlying141 rfl (by kernel_rfl) ?_)
                  | (at_builtin; go_loud (refine wpList_append_keeps _ rfl (.tmp 58) (.tmp 63) 133 rfl V tEnt e0 (.agg #[.string ⟨#[]⟩, .int .i64 0]) 2 24 Try.underlying133 he0 hz0 hz1 hz2 rfl (by decide) _ n3 (cE (pre ++ (l.drop (i + 1)).take (k - (i + 1)))) rfl (own_alloc HROW.out _) ⟨wr.heap.size, 0, none⟩ 1 1 [encStr p3.1, .int .i64 p3.2] rfl rfl (new_cells _ [encStr p3.1, .int .i64 p3.2] tEnt) (by simp [Value.oneCell']) (by omega) (by unfold maxLen; omega) (by omega) (Nat.le_trans HVB.out (by simp)) ?_); go_loud (intro g3 cap3 w5 hg hgr hat hlt9 _); have HG := Lib.hid hg; have HGR := Lib.hid hgr; clear hg hgr hat hlt9))
                have HB3 := Lib.hid (show Below V w w5 from (HB.out.alloc HVB.out _).grown HGR.out (by simp; have := HVB.out; omega) fun k hk => own_ge HROW.out hk)
                go_roundw
                case rel =>
                  refine ⟨k + 1, by go_num, by omega, by omega, ?_, HB3.out⟩
                  have e : (l.drop (i + 1)).take (k + 1 - (i + 1)) = (l.drop (i + 1)).take (k - (i + 1)) ++ [p3] := by
                    rw [show k + 1 - (i + 1) = k - (i + 1) + 1 by omega]
                    refine take_snoc_f ?_
                    rw [List.getElem?_drop, show i + 1 + (k - (i + 1)) = k by omega]
                    exact HP.out
                  unfold EntAt
                  rw [e, ← List.append_assoc, cE_append, show (pre ++ (l.drop (i + 1)).take (k - (i + 1)) ++ [p3]).length = n3 + 1 by have := HN3.out; simp; omega]
                  exact HG.out
                case measure => simp [intOf]; omega
              · obtain rfl : k = l.length := by omega
                rw [List.take_of_length_le (by simp), HFIN.out, HR.out] at hrow
                obtain ⟨Ao, co, rfl⟩ := hrow.form
                have HROW := Lib.hid hrow
                have HB := Lib.hid hb
                clear hrow hb
                go_wp2
                go_ret
                exact ⟨Ao, co, rfl, HROW.out, HB.out⟩
          · have hq : (p.1 == nm) = false := by simpa using hpn
            have hfin : pre ++ l.drop i = setE l nm z := by
              have hs := skip_of (l := l) (n := nm) (i := i)
              rw [HP.out, if_neg (by simpa using hpn)] at hs
              unfold setE
              rw [HE.out.1, HE.out.2, hs, HMID.out]
            clear hpn
            go_upto_region 10 with (fail)
            clear e1 hq
            have hpl2 : pre.length + (l.drop (i)).length ≤ l.length + 1 := by simp; omega
            have HPL := Lib.hid hpl2
            have HPRE := Lib.hid hpre
            have HFIN := Lib.hid hfin
            clear hpl2 hpre hfin
            go_loopw [7, 8] (fun v iv wr => ∃ k : Nat, iv = .int .i64 (k : Int) ∧ i ≤ k ∧ k ≤ l.length ∧ EntAt wr V v (pre ++ (l.drop (i)).take (k - (i))) ∧ Below V w wr) (fun _ iv _ => l.length - (intOf iv).toNat)
            case atStart => exact ⟨i, by first | rfl | go_num, Nat.le_refl _, by omega, by rw [Nat.sub_self, List.take_zero, List.append_nil]; exact HPRE.out, HB2.out⟩
            case round =>
              obtain ⟨k, rfl, hk1, hk2, hrow, hb⟩ := hrel
              by_cases hlt : k < l.length
              · obtain ⟨p3, hp3⟩ : ∃ p, l[k]? = some p := ⟨_, List.getElem?_eq_getElem hlt⟩
                obtain ⟨g, hgA, hgl, _, e1, e2⟩ := ent_cells (HAB.out wr hb) hp3
                have hlt2 : (k : Int) < (l.length : Int) := by omega
                obtain ⟨Ao, co, rfl⟩ := hrow.form
                obtain ⟨n3, hn3⟩ : ∃ n3, pre.length + (k - (i)) = n3 := ⟨_, rfl⟩
                have hio : (pre ++ (l.drop (i)).take (k - (i))).length = n3 := by rw [← hn3]; simp; omega
                rw [hio] at hrow ⊢
                unfold EntAt at hrow
                rw [hio] at hrow
                have hrange : wr.rangeAt g (k * 2) [encStr p3.1, .int .i64 p3.2] := by
                  intro j v hv
                  match j, hv with
                  | 0, hv => cases hv; exact e1
                  | 1, hv => cases hv; exact e2
                  | j + 2, hv => cases hv
                have HROW := Lib.hid hrow
                have HB := Lib.hid hb
                have HP := Lib.hid hp3
                have HRG := Lib.hid hrange
                have HVB := Lib.hid (show V ≤ wr.heap.size from by have := hb.size; have := HV.out; omega)
                have hpl3 : n3 ≤ l.length + 1 := by have := HPL.out; simp at this; omega
                have HN3 := Lib.hid hn3
                clear hn3
                clear hrow hb hp3 hrange e1 e2 hgl hio
                first | subst hgA | (obtain rfl : _ = g := by injection hgA with hgA; injection hgA) | skip
                go_wp2_with (first
                  | (refine wpList_load_mid rfl tEnt (.tmp 61) rfl g (k * 2) rfl [encStr p3.1, .int .i64 p3.2] _ HRG.out Try.underlying141 rfl (by kernel_rfl) ?_)
                  | (at_builtin; go_loud (refine wpList_append_keeps _ rfl (.tmp 58) (.tmp 63) 133 rfl V tEnt e0 (.agg #[.string ⟨#[]⟩, .int .i64 0]) 2 24 Try.underlying133 he0 hz0 hz1 hz2 rfl (by decide) _ n3 (cE (pre ++ (l.drop (i)).take (k - (i)))) rfl (own_alloc HROW.out _) ⟨wr.heap.size, 0, none⟩ 1 1 [encStr p3.1, .int .i64 p3.2] rfl rfl (new_cells _ [encStr p3.1, .int .i64 p3.2] tEnt) (by simp [Value.oneCell']) (by omega) (by unfold maxLen; omega) (by omega) (Nat.le_trans HVB.out (by simp)) ?_); go_loud (intro g3 cap3 w5 hg hgr hat hlt9 _); have HG := Lib.hid hg; have HGR := Lib.hid hgr; clear hg hgr hat hlt9))
                have HB3 := Lib.hid (show Below V w w5 from (HB.out.alloc HVB.out _).grown HGR.out (by simp; have := HVB.out; omega) fun k hk => own_ge HROW.out hk)
                go_roundw
                case rel =>
                  refine ⟨k + 1, by go_num, by omega, by omega, ?_, HB3.out⟩
                  have e : (l.drop (i)).take (k + 1 - (i)) = (l.drop (i)).take (k - (i)) ++ [p3] := by
                    rw [show k + 1 - (i) = k - (i) + 1 by omega]
                    refine take_snoc_f ?_
                    rw [List.getElem?_drop, show i + (k - (i)) = k by omega]
                    exact HP.out
                  unfold EntAt
                  rw [e, ← List.append_assoc, cE_append, show (pre ++ (l.drop (i)).take (k - (i)) ++ [p3]).length = n3 + 1 by have := HN3.out; simp; omega]
                  exact HG.out
                case measure => simp [intOf]; omega
              · obtain rfl : k = l.length := by omega
                rw [List.take_of_length_le (by simp), HFIN.out, HR.out] at hrow
                obtain ⟨Ao, co, rfl⟩ := hrow.form
                have HROW := Lib.hid hrow
                have HB := Lib.hid hb
                clear hrow hb
                go_wp2
                go_ret
                exact ⟨Ao, co, rfl, HROW.out, HB.out⟩
        · go_upto_region 8 with (fail)
          have HB2 := HB
          obtain ⟨pre, hpe⟩ : ∃ pre, l.take i = pre := ⟨_, rfl⟩
          have hpn2 : pre.length = i := by rw [← hpe]; simp; omega
          have hpre : EntAt wo V (.slice Ao i co) pre := by
            unfold EntAt
            rw [hpn2, ← hpe]
            exact HROW.out
          have HMID := Lib.hid (show l.take i ++ (if 0 ≤ z then [(nm, z)] else []) = pre from by rw [if_neg hz0', List.append_nil, hpe])
          clear hpe HROW HB
          clear e1
          obtain ⟨g, hgA, _, _, e1, _⟩ := ent_cells (HAB.out wo HB2.out) HP.out
          first | subst hgA | (obtain rfl : _ = g := by injection hgA with hgA; injection hgA) | skip
          by_cases hpn : p.1 = nm
          · have hq : (p.1 == nm) = true := by simpa using hpn
            have hfin : pre ++ l.drop (i + 1) = setE l nm z := by
              have hs := skip_of (l := l) (n := nm) (i := i)
              rw [HP.out, if_pos (by simpa using hpn)] at hs
              unfold setE
              rw [HE.out.1, HE.out.2, hs, HMID.out]
              
            clear hpn
            go_upto_region 10 with (fail)
            clear e1 hq
            have hpl2 : pre.length + (l.drop (i + 1)).length ≤ l.length + 1 := by simp; omega
            have HPL := Lib.hid hpl2
            have HPRE := Lib.hid hpre
            have HFIN := Lib.hid hfin
            clear hpl2 hpre hfin
            go_loopw [7, 8] (fun v iv wr => ∃ k : Nat, iv = .int .i64 (k : Int) ∧ i + 1 ≤ k ∧ k ≤ l.length ∧ EntAt wr V v (pre ++ (l.drop (i + 1)).take (k - (i + 1))) ∧ Below V w wr) (fun _ iv _ => l.length - (intOf iv).toNat)
            case atStart => exact ⟨i + 1, by first | rfl | go_num, Nat.le_refl _, by omega, by rw [Nat.sub_self, List.take_zero, List.append_nil]; exact HPRE.out, HB2.out⟩
            case round =>
              obtain ⟨k, rfl, hk1, hk2, hrow, hb⟩ := hrel
              by_cases hlt : k < l.length
              · obtain ⟨p3, hp3⟩ : ∃ p, l[k]? = some p := ⟨_, List.getElem?_eq_getElem hlt⟩
                obtain ⟨g, hgA, hgl, _, e1, e2⟩ := ent_cells (HAB.out wr hb) hp3
                have hlt2 : (k : Int) < (l.length : Int) := by omega
                obtain ⟨Ao, co, rfl⟩ := hrow.form
                obtain ⟨n3, hn3⟩ : ∃ n3, pre.length + (k - (i + 1)) = n3 := ⟨_, rfl⟩
                have hio : (pre ++ (l.drop (i + 1)).take (k - (i + 1))).length = n3 := by rw [← hn3]; simp; omega
                rw [hio] at hrow ⊢
                unfold EntAt at hrow
                rw [hio] at hrow
                have hrange : wr.rangeAt g (k * 2) [encStr p3.1, .int .i64 p3.2] := by
                  intro j v hv
                  match j, hv with
                  | 0, hv => cases hv; exact e1
                  | 1, hv => cases hv; exact e2
                  | j + 2, hv => cases hv
                have HROW := Lib.hid hrow
                have HB := Lib.hid hb
                have HP := Lib.hid hp3
                have HRG := Lib.hid hrange
                have HVB := Lib.hid (show V ≤ wr.heap.size from by have := hb.size; have := HV.out; omega)
                have hpl3 : n3 ≤ l.length + 1 := by have := HPL.out; simp at this; omega
                have HN3 := Lib.hid hn3
                clear hn3
                clear hrow hb hp3 hrange e1 e2 hgl hio
                first | subst hgA | (obtain rfl : _ = g := by injection hgA with hgA; injection hgA) | skip
                go_wp2_with (first
                  | (refine wpList_load_mid rfl tEnt (.tmp 61) rfl g (k * 2) rfl [encStr p3.1, .int .i64 p3.2] _ HRG.out Try.underlying141 rfl (by kernel_rfl) ?_)
                  | (at_builtin; go_loud (refine wpList_append_keeps _ rfl (.tmp 58) (.tmp 63) 133 rfl V tEnt e0 (.agg #[.string ⟨#[]⟩, .int .i64 0]) 2 24 Try.underlying133 he0 hz0 hz1 hz2 rfl (by decide) _ n3 (cE (pre ++ (l.drop (i + 1)).take (k - (i + 1)))) rfl (own_alloc HROW.out _) ⟨wr.heap.size, 0, none⟩ 1 1 [encStr p3.1, .int .i64 p3.2] rfl rfl (new_cells _ [encStr p3.1, .int .i64 p3.2] tEnt) (by simp [Value.oneCell']) (by omega) (by unfold maxLen; omega) (by omega) (Nat.le_trans HVB.out (by simp)) ?_); go_loud (intro g3 cap3 w5 hg hgr hat hlt9 _); have HG := Lib.hid hg; have HGR := Lib.hid hgr; clear hg hgr hat hlt9))
                have HB3 := Lib.hid (show Below V w w5 from (HB.out.alloc HVB.out _).grown HGR.out (by simp; have := HVB.out; omega) fun k hk => own_ge HROW.out hk)
                go_roundw
                case rel =>
                  refine ⟨k + 1, by go_num, by omega, by omega, ?_, HB3.out⟩
                  have e : (l.drop (i + 1)).take (k + 1 - (i + 1)) = (l.drop (i + 1)).take (k - (i + 1)) ++ [p3] := by
                    rw [show k + 1 - (i + 1) = k - (i + 1) + 1 by omega]
                    refine take_snoc_f ?_
                    rw [List.getElem?_drop, show i + 1 + (k - (i + 1)) = k by omega]
                    exact HP.out
                  unfold EntAt
                  rw [e, ← List.append_assoc, cE_append, show (pre ++ (l.drop (i + 1)).take (k - (i + 1)) ++ [p3]).length = n3 + 1 by have := HN3.out; simp; omega]
                  exact HG.out
                case measure => simp [intOf]; omega
              · obtain rfl : k = l.length := by omega
                rw [List.take_of_length_le (by simp), HFIN.out, HR.out] at hrow
                obtain ⟨Ao, co, rfl⟩ := hrow.form
                have HROW := Lib.hid hrow
                have HB := Lib.hid hb
                clear hrow hb
                go_wp2
                go_ret
                exact ⟨Ao, co, rfl, HROW.out, HB.out⟩
          · have hq : (p.1 == nm) = false := by simpa using hpn
            have hfin : pre ++ l.drop i = setE l nm z := by
              have hs := skip_of (l := l) (n := nm) (i := i)
              rw [HP.out, if_neg (by simpa using hpn)] at hs
              unfold setE
              rw [HE.out.1, HE.out.2, hs, HMID.out]
            clear hpn
            go_upto_region 10 with (fail)
            clear e1 hq
            have hpl2 : pre.length + (l.drop (i)).length ≤ l.length + 1 := by simp; omega
            have HPL := Lib.hid hpl2
            have HPRE := Lib.hid hpre
            have HFIN := Lib.hid hfin
            clear hpl2 hpre hfin
            go_loopw [7, 8] (fun v iv wr => ∃ k : Nat, iv = .int .i64 (k : Int) ∧ i ≤ k ∧ k ≤ l.length ∧ EntAt wr V v (pre ++ (l.drop (i)).take (k - (i))) ∧ Below V w wr) (fun _ iv _ => l.length - (intOf iv).toNat)
            case atStart => exact ⟨i, by first | rfl | go_num, Nat.le_refl _, by omega, by rw [Nat.sub_self, List.take_zero, List.append_nil]; exact HPRE.out, HB2.out⟩
            case round =>
              obtain ⟨k, rfl, hk1, hk2, hrow, hb⟩ := hrel
              by_cases hlt : k < l.length
              · obtain ⟨p3, hp3⟩ : ∃ p, l[k]? = some p := ⟨_, List.getElem?_eq_getElem hlt⟩
                obtain ⟨g, hgA, hgl, _, e1, e2⟩ := ent_cells (HAB.out wr hb) hp3
                have hlt2 : (k : Int) < (l.length : Int) := by omega
                obtain ⟨Ao, co, rfl⟩ := hrow.form
                obtain ⟨n3, hn3⟩ : ∃ n3, pre.length + (k - (i)) = n3 := ⟨_, rfl⟩
                have hio : (pre ++ (l.drop (i)).take (k - (i))).length = n3 := by rw [← hn3]; simp; omega
                rw [hio] at hrow ⊢
                unfold EntAt at hrow
                rw [hio] at hrow
                have hrange : wr.rangeAt g (k * 2) [encStr p3.1, .int .i64 p3.2] := by
                  intro j v hv
                  match j, hv with
                  | 0, hv => cases hv; exact e1
                  | 1, hv => cases hv; exact e2
                  | j + 2, hv => cases hv
                have HROW := Lib.hid hrow
                have HB := Lib.hid hb
                have HP := Lib.hid hp3
                have HRG := Lib.hid hrange
                have HVB := Lib.hid (show V ≤ wr.heap.size from by have := hb.size; have := HV.out; omega)
                have hpl3 : n3 ≤ l.length + 1 := by have := HPL.out; simp at this; omega
                have HN3 := Lib.hid hn3
                clear hn3
                clear hrow hb hp3 hrange e1 e2 hgl hio
                first | subst hgA | (obtain rfl : _ = g := by injection hgA with hgA; injection hgA) | skip
                go_wp2_with (first
                  | (refine wpList_load_mid rfl tEnt (.tmp 61) rfl g (k * 2) rfl [encStr p3.1, .int .i64 p3.2] _ HRG.out Try.underlying141 rfl (by kernel_rfl) ?_)
                  | (at_builtin; go_loud (refine wpList_append_keeps _ rfl (.tmp 58) (.tmp 63) 133 rfl V tEnt e0 (.agg #[.string ⟨#[]⟩, .int .i64 0]) 2 24 Try.underlying133 he0 hz0 hz1 hz2 rfl (by decide) _ n3 (cE (pre ++ (l.drop (i)).take (k - (i)))) rfl (own_alloc HROW.out _) ⟨wr.heap.size, 0, none⟩ 1 1 [encStr p3.1, .int .i64 p3.2] rfl rfl (new_cells _ [encStr p3.1, .int .i64 p3.2] tEnt) (by simp [Value.oneCell']) (by omega) (by unfold maxLen; omega) (by omega) (Nat.le_trans HVB.out (by simp)) ?_); go_loud (intro g3 cap3 w5 hg hgr hat hlt9 _); have HG := Lib.hid hg; have HGR := Lib.hid hgr; clear hg hgr hat hlt9))
                have HB3 := Lib.hid (show Below V w w5 from (HB.out.alloc HVB.out _).grown HGR.out (by simp; have := HVB.out; omega) fun k hk => own_ge HROW.out hk)
                go_roundw
                case rel =>
                  refine ⟨k + 1, by go_num, by omega, by omega, ?_, HB3.out⟩
                  have e : (l.drop (i)).take (k + 1 - (i)) = (l.drop (i)).take (k - (i)) ++ [p3] := by
                    rw [show k + 1 - (i) = k - (i) + 1 by omega]
                    refine take_snoc_f ?_
                    rw [List.getElem?_drop, show i + (k - (i)) = k by omega]
                    exact HP.out
                  unfold EntAt
                  rw [e, ← List.append_assoc, cE_append, show (pre ++ (l.drop (i)).take (k - (i)) ++ [p3]).length = n3 + 1 by have := HN3.out; simp; omega]
                  exact HG.out
                case measure => simp [intOf]; omega
              · obtain rfl : k = l.length := by omega
                rw [List.take_of_length_le (by simp), HFIN.out, HR.out] at hrow
                obtain ⟨Ao, co, rfl⟩ := hrow.form
                have HROW := Lib.hid hrow
                have HB := Lib.hid hb
                clear hrow hb
                go_wp2
                go_ret
                exact ⟨Ao, co, rfl, HROW.out, HB.out⟩
    · have hlt2 : ¬ (i : Int) < (l.length : Int) := by omega
      have he := ahead_of (l := l) (n := nm) (i := i) (by omega) hall (fun q hq => by rw [List.getElem?_eq_none (by omega)] at hq; cases hq)
      obtain ⟨Ao, co, rfl⟩ := hrow.form
      have hio : (l.take i).length = i := by simp; omega
      rw [hio] at hrow ⊢
      unfold EntAt at hrow
      rw [hio] at hrow
      have HROW := Lib.hid hrow
      have HB := Lib.hid hb
      have HE := Lib.hid he
      have HVB := Lib.hid (show V ≤ wr.heap.size from by have := hb.size; have := HV.out; omega)
      obtain ⟨wo, rfl⟩ : ∃ wo, wo = wr := ⟨_, rfl⟩
      clear hrow hb he hall hio
      by_cases hz0' : 0 ≤ z
      · go_upto_region 8 with (at_builtin; go_loud (refine wpList_append_keeps _ rfl (.tmp 33) (.tmp 37) 133 rfl V tEnt e0 (.agg #[.string ⟨#[]⟩, .int .i64 0]) 2 24 Try.underlying133 he0 hz0 hz1 hz2 rfl (by decide) _ i (cE (l.take i)) rfl (own_alloc HROW.out _) ⟨wo.heap.size, 0, none⟩ 1 1 [encStr nm, .int .i64 z] rfl rfl (new_cells _ [encStr nm, .int .i64 z] tEnt) (by simp [Value.oneCell']) (by omega) (by unfold maxLen; omega) (by omega) (Nat.le_trans HVB.out (by simp)) ?_); go_loud (intro g2 cap2 w4 hg hgr hat hlt9 _); have HG := Lib.hid hg; have HGR := Lib.hid hgr; clear hg hgr hat hlt9)
        have HB2 := Lib.hid (show Below V w w4 from (HB.out.alloc HVB.out _).grown HGR.out (by simp; have := HVB.out; omega) fun k hk => own_ge HROW.out hk)
        obtain ⟨pre, hpe⟩ : ∃ pre, l.take i ++ [(nm, z)] = pre := ⟨_, rfl⟩
        have hpn2 : pre.length = i + 1 := by rw [← hpe]; simp; omega
        have hpre : EntAt w4 V (.slice (some ⟨g2, 0, none⟩) (i + 1) cap2) pre := by
          unfold EntAt
          rw [hpn2, ← hpe, cE_append]
          exact HG.out
        have HMID := Lib.hid (show l.take i ++ (if 0 ≤ z then [(nm, z)] else []) = pre from by rw [if_pos hz0', hpe])
        clear hpe HG HGR HROW HB

        have hfin : pre ++ l.drop i = setE l nm z := by
          have hs := skip_of (l := l) (n := nm) (i := i)
          rw [List.getElem?_eq_none (by omega), if_neg (by simp)] at hs
          unfold setE
          rw [HE.out.1, HE.out.2, hs, HMID.out]
        go_upto_region 10 with (fail)
        have hpl2 : pre.length + (l.drop (i)).length ≤ l.length + 1 := by simp; omega
        have HPL := Lib.hid hpl2
        have HPRE := Lib.hid hpre
        have HFIN := Lib.hid hfin
        clear hpl2 hpre hfin
        go_loopw [7, 8] (fun v iv wr => ∃ k : Nat, iv = .int .i64 (k : Int) ∧ i ≤ k ∧ k ≤ l.length ∧ EntAt wr V v (pre ++ (l.drop (i)).take (k - (i))) ∧ Below V w wr) (fun _ iv _ => l.length - (intOf iv).toNat)
        case atStart => exact ⟨i, by first | rfl | go_num, Nat.le_refl _, by omega, by rw [Nat.sub_self, List.take_zero, List.append_nil]; exact HPRE.out, HB2.out⟩
        case round =>
          obtain ⟨k, rfl, hk1, hk2, hrow, hb⟩ := hrel
          by_cases hlt : k < l.length
          · obtain ⟨p3, hp3⟩ : ∃ p, l[k]? = some p := ⟨_, List.getElem?_eq_getElem hlt⟩
            obtain ⟨g, hgA, hgl, _, e1, e2⟩ := ent_cells (HAB.out wr hb) hp3
            have hlt2 : (k : Int) < (l.length : Int) := by omega
            obtain ⟨Ao, co, rfl⟩ := hrow.form
            obtain ⟨n3, hn3⟩ : ∃ n3, pre.length + (k - (i)) = n3 := ⟨_, rfl⟩
            have hio : (pre ++ (l.drop (i)).take (k - (i))).length = n3 := by rw [← hn3]; simp; omega
            rw [hio] at hrow ⊢
            unfold EntAt at hrow
            rw [hio] at hrow
            have hrange : wr.rangeAt g (k * 2) [encStr p3.1, .int .i64 p3.2] := by
              intro j v hv
              match j, hv with
              | 0, hv => cases hv; exact e1
              | 1, hv => cases hv; exact e2
              | j + 2, hv => cases hv
            have HROW := Lib.hid hrow
            have HB := Lib.hid hb
            have HP := Lib.hid hp3
            have HRG := Lib.hid hrange
            have HVB := Lib.hid (show V ≤ wr.heap.size from by have := hb.size; have := HV.out; omega)
            have hpl3 : n3 ≤ l.length + 1 := by have := HPL.out; simp at this; omega
            have HN3 := Lib.hid hn3
            clear hn3
            clear hrow hb hp3 hrange e1 e2 hgl hio
            first | subst hgA | (obtain rfl : _ = g := by injection hgA with hgA; injection hgA) | skip
            go_wp2_with (first
              | (refine wpList_load_mid rfl tEnt (.tmp 61) rfl g (k * 2) rfl [encStr p3.1, .int .i64 p3.2] _ HRG.out Try.underlying141 rfl (by kernel_rfl) ?_)
              | (at_builtin; go_loud (refine wpList_append_keeps _ rfl (.tmp 58) (.tmp 63) 133 rfl V tEnt e0 (.agg #[.string ⟨#[]⟩, .int .i64 0]) 2 24 Try.underlying133 he0 hz0 hz1 hz2 rfl (by decide) _ n3 (cE (pre ++ (l.drop (i)).take (k - (i)))) rfl (own_alloc HROW.out _) ⟨wr.heap.size, 0, none⟩ 1 1 [encStr p3.1, .int .i64 p3.2] rfl rfl (new_cells _ [encStr p3.1, .int .i64 p3.2] tEnt) (by simp [Value.oneCell']) (by omega) (by unfold maxLen; omega) (by omega) (Nat.le_trans HVB.out (by simp)) ?_); go_loud (intro g3 cap3 w5 hg hgr hat hlt9 _); have HG := Lib.hid hg; have HGR := Lib.hid hgr; clear hg hgr hat hlt9))
            have HB3 := Lib.hid (show Below V w w5 from (HB.out.alloc HVB.out _).grown HGR.out (by simp; have := HVB.out; omega) fun k hk => own_ge HROW.out hk)
            go_roundw
            case rel =>
              refine ⟨k + 1, by go_num, by omega, by omega, ?_, HB3.out⟩
              have e : (l.drop (i)).take (k + 1 - (i)) = (l.drop (i)).take (k - (i)) ++ [p3] := by
                rw [show k + 1 - (i) = k - (i) + 1 by omega]
                refine take_snoc_f ?_
                rw [List.getElem?_drop, show i + (k - (i)) = k by omega]
                exact HP.out
              unfold EntAt
              rw [e, ← List.append_assoc, cE_append, show (pre ++ (l.drop (i)).take (k - (i)) ++ [p3]).length = n3 + 1 by have := HN3.out; simp; omega]
              exact HG.out
            case measure => simp [intOf]; omega
          · obtain rfl : k = l.length := by omega
            rw [List.take_of_length_le (by simp), HFIN.out, HR.out] at hrow
            obtain ⟨Ao, co, rfl⟩ := hrow.form
            have HROW := Lib.hid hrow
            have HB := Lib.hid hb
            clear hrow hb
            go_wp2
            go_ret
            exact ⟨Ao, co, rfl, HROW.out, HB.out⟩
      · go_upto_region 8 with (fail)
        have HB2 := HB
        obtain ⟨pre, hpe⟩ : ∃ pre, l.take i = pre := ⟨_, rfl⟩
        have hpn2 : pre.length = i := by rw [← hpe]; simp; omega
        have hpre : EntAt wo V (.slice Ao i co) pre := by
          unfold EntAt
          rw [hpn2, ← hpe]
          exact HROW.out
        have HMID := Lib.hid (show l.take i ++ (if 0 ≤ z then [(nm, z)] else []) = pre from by rw [if_neg hz0', List.append_nil, hpe])
        clear hpe HROW HB

        have hfin : pre ++ l.drop i = setE l nm z := by
          have hs := skip_of (l := l) (n := nm) (i := i)
          rw [List.getElem?_eq_none (by omega), if_neg (by simp)] at hs
          unfold setE
          rw [HE.out.1, HE.out.2, hs, HMID.out]
        go_upto_region 10 with (fail)
        have hpl2 : pre.length + (l.drop (i)).length ≤ l.length + 1 := by simp; omega
        have HPL := Lib.hid hpl2
        have HPRE := Lib.hid hpre
        have HFIN := Lib.hid hfin
        clear hpl2 hpre hfin
        go_loopw [7, 8] (fun v iv wr => ∃ k : Nat, iv = .int .i64 (k : Int) ∧ i ≤ k ∧ k ≤ l.length ∧ EntAt wr V v (pre ++ (l.drop (i)).take (k - (i))) ∧ Below V w wr) (fun _ iv _ => l.length - (intOf iv).toNat)
        case atStart => exact ⟨i, by first | rfl | go_num, Nat.le_refl _, by omega, by rw [Nat.sub_self, List.take_zero, List.append_nil]; exact HPRE.out, HB2.out⟩
        case round =>
          obtain ⟨k, rfl, hk1, hk2, hrow, hb⟩ := hrel
          by_cases hlt : k < l.length
          · obtain ⟨p3, hp3⟩ : ∃ p, l[k]? = some p := ⟨_, List.getElem?_eq_getElem hlt⟩
            obtain ⟨g, hgA, hgl, _, e1, e2⟩ := ent_cells (HAB.out wr hb) hp3
            have hlt2 : (k : Int) < (l.length : Int) := by omega
            obtain ⟨Ao, co, rfl⟩ := hrow.form
            obtain ⟨n3, hn3⟩ : ∃ n3, pre.length + (k - (i)) = n3 := ⟨_, rfl⟩
            have hio : (pre ++ (l.drop (i)).take (k - (i))).length = n3 := by rw [← hn3]; simp; omega
            rw [hio] at hrow ⊢
            unfold EntAt at hrow
            rw [hio] at hrow
            have hrange : wr.rangeAt g (k * 2) [encStr p3.1, .int .i64 p3.2] := by
              intro j v hv
              match j, hv with
              | 0, hv => cases hv; exact e1
              | 1, hv => cases hv; exact e2
              | j + 2, hv => cases hv
            have HROW := Lib.hid hrow
            have HB := Lib.hid hb
            have HP := Lib.hid hp3
            have HRG := Lib.hid hrange
            have HVB := Lib.hid (show V ≤ wr.heap.size from by have := hb.size; have := HV.out; omega)
            have hpl3 : n3 ≤ l.length + 1 := by have := HPL.out; simp at this; omega
            have HN3 := Lib.hid hn3
            clear hn3
            clear hrow hb hp3 hrange e1 e2 hgl hio
            first | subst hgA | (obtain rfl : _ = g := by injection hgA with hgA; injection hgA) | skip
            go_wp2_with (first
              | (refine wpList_load_mid rfl tEnt (.tmp 61) rfl g (k * 2) rfl [encStr p3.1, .int .i64 p3.2] _ HRG.out Try.underlying141 rfl (by kernel_rfl) ?_)
              | (at_builtin; go_loud (refine wpList_append_keeps _ rfl (.tmp 58) (.tmp 63) 133 rfl V tEnt e0 (.agg #[.string ⟨#[]⟩, .int .i64 0]) 2 24 Try.underlying133 he0 hz0 hz1 hz2 rfl (by decide) _ n3 (cE (pre ++ (l.drop (i)).take (k - (i)))) rfl (own_alloc HROW.out _) ⟨wr.heap.size, 0, none⟩ 1 1 [encStr p3.1, .int .i64 p3.2] rfl rfl (new_cells _ [encStr p3.1, .int .i64 p3.2] tEnt) (by simp [Value.oneCell']) (by omega) (by unfold maxLen; omega) (by omega) (Nat.le_trans HVB.out (by simp)) ?_); go_loud (intro g3 cap3 w5 hg hgr hat hlt9 _); have HG := Lib.hid hg; have HGR := Lib.hid hgr; clear hg hgr hat hlt9))
            have HB3 := Lib.hid (show Below V w w5 from (HB.out.alloc HVB.out _).grown HGR.out (by simp; have := HVB.out; omega) fun k hk => own_ge HROW.out hk)
            go_roundw
            case rel =>
              refine ⟨k + 1, by go_num, by omega, by omega, ?_, HB3.out⟩
              have e : (l.drop (i)).take (k + 1 - (i)) = (l.drop (i)).take (k - (i)) ++ [p3] := by
                rw [show k + 1 - (i) = k - (i) + 1 by omega]
                refine take_snoc_f ?_
                rw [List.getElem?_drop, show i + (k - (i)) = k by omega]
                exact HP.out
              unfold EntAt
              rw [e, ← List.append_assoc, cE_append, show (pre ++ (l.drop (i)).take (k - (i)) ++ [p3]).length = n3 + 1 by have := HN3.out; simp; omega]
              exact HG.out
            case measure => simp [intOf]; omega
          · obtain rfl : k = l.length := by omega
            rw [List.take_of_length_le (by simp), HFIN.out, HR.out] at hrow
            obtain ⟨Ao, co, rfl⟩ := hrow.form
            have HROW := Lib.hid hrow
            have HB := Lib.hid hb
            clear hrow hb
            go_wp2
            go_ret
            exact ⟨Ao, co, rfl, HROW.out, HB.out⟩
end
end Go.Proofs.Ytelgcmcnebncmaa.Dr
