/- The walk of the statement on names turned about, joined and told again. -/
import Derived.Test.YtjkcoodboghmkaaW16
namespace Go.Proofs.Ytjkcoodboghmkaa.Nm
open Go.RowKit Go.Proofs

theorem drop_rev {xs : List Bs} {j : Nat} {x : Bs} (hx : xs[j]? = some x) : (xs.drop j).reverse = (xs.drop (j + 1)).reverse ++ [x] := by
  obtain ⟨h, rfl⟩ := List.getElem?_eq_some_iff.1 hx
  rw [List.drop_eq_getElem_cons h, List.reverse_cons]
theorem drop_end (xs : List Bs) (k : Nat) (h : k = xs.length) : (xs.drop k).reverse = [] := by subst h; simp
theorem cell_name {N : ByteArray} {x : Bs} (h : N.data.toList = objName x) : (Value.string N) = encStr (objName x) := by rw [ba_eq N _ h]
theorem names_short {u : List Bs} {xs : List Bs} {p : Bs} (h : under xs p = u) : ∀ x ∈ u.map objName, x.length ≤ maxLen := by
  intro x hx
  obtain ⟨y, hy, rfl⟩ := List.mem_map.1 hx
  rw [← h] at hy
  obtain ⟨N, hN⟩ := name_of ⟨y.toArray⟩ (under_key hy).1
  have h1 := hN.size
  have h2 := len_data N
  rw [hN.data] at h2
  unfold maxLen
  have h3 : objName (⟨y.toArray⟩ : ByteArray).data.toList = objName y := rfl
  rw [h3] at h2
  omega

set_option maxRecDepth 100000 in
set_option maxHeartbeats 4000000 in
theorem law_unites (A0 : Option Addr) (n0 c0 : Nat) (xs : List Bs) (A1 : Option Addr) (n1 c1 : Nat) (ys : List Bs) (hn0 : n0 ≤ 1048576) (hn1 : n1 ≤ 1048576) (hc0 : A0 = none → c0 = 0) (hc1 : A1 = none → c1 = 0)
    (hxs : ∀ x ∈ xs, x.length ≤ maxLen) (hys : ∀ x ∈ ys, x.length ≤ maxLen) (p : ByteArray) (w : World) (hr0 : Rd w w.heap.size 1 A0 n0 (cStr xs)) (hr1 : Rd w w.heap.size 1 A1 n1 (cStr ys)) :
    Calls Try.prog 12 #[.slice A0 n0 c0, .slice A1 n1 c1, .string p] w fun e w' => e = .returned (.bool true) ∧ Below w.heap.size w w' := by
  obtain ⟨i0, hi, hz0, hz1, hz2⟩ := info_parts infoStr
  have HXS := Lib.hid hxs
  have HYS := Lib.hid hys
  have hxl : xs.length = n0 := by simpa using hr0.1
  have hyl : ys.length = n1 := by simpa using hr1.1
  have HX := Lib.hid hxl
  have HY := Lib.hid hyl
  have HAS := Lib.hid (fun x hx => (List.mem_append.1 hx).elim (hxs x) (hys x) : ∀ x ∈ xs ++ ys, x.length ≤ maxLen)
  obtain ⟨l, hl⟩ : ∃ l, under (xs ++ ys) p.data.toList = l := ⟨_, rfl⟩
  obtain ⟨la, hla⟩ : ∃ l, under xs p.data.toList = l := ⟨_, rfl⟩
  obtain ⟨lb, hlb⟩ : ∃ l, under ys p.data.toList = l := ⟨_, rfl⟩
  have HL := Lib.hid hl
  have HLA := Lib.hid hla
  have HLB := Lib.hid hlb
  clear hxs hys hxl hyl hl hla hlb
  go_enter Try.func12, Try.ntmps12
  go_wp2_with (first
    | (go_at_call 14; refine (known_any _).mono ?_; rintro e w1 ⟨rfl, hb1⟩)
    | (at_builtin; refine wpList_append_rd _ rfl (.tmp 21) (.tmp 22) 30 rfl w.heap.size 9 i0 (.string ⟨#[]⟩) 1 16 Try.underlying30 hi hz0 hz1 hz2 rfl (by decide) (.slice none 0 0) 0 [] rfl (World.ownsRow_nil _ _ _ _) _ A0 n0 c0 (cStr xs) rfl (hr0.next hb1) hc0 (cStr_one _) (by unfold maxLen; omega) (by omega) hb1.size ?_; intro va wa hrowa hga)
    | (at_builtin; refine wpList_append_rd _ rfl (.tmp 24) (.tmp 25) 30 rfl w.heap.size 9 i0 (.string ⟨#[]⟩) 1 16 Try.underlying30 hi hz0 hz1 hz2 rfl (by decide) va _ _ rfl hrowa _ A1 n1 c1 (cStr ys) rfl (hr1.below (hb1.grown hga hb1.size (by intro g hg; cases hg))) hc1 (cStr_one _) (by unfold maxLen; omega) (by omega) (hb1.grown hga hb1.size (by intro g hg; cases hg)).size ?_; intro vb wb hrowb hgb; obtain ⟨Ab, cb, rfl, _, _⟩ := own_form hrowb))
  obtain ⟨na, hna⟩ : ∃ na, n0 + n1 = na := ⟨_, rfl⟩
  rw [Nat.zero_add, hna] at hrowb
  rw [hna]
  have hall : [] ++ cStr xs ++ cStr ys = cStr (xs ++ ys) := by simp
  rw [hall] at hrowb
  have hB1 : Below w.heap.size w wa := hb1.grown hga hb1.size (by intro g hg; cases hg)
  have hB2 : Below w.heap.size w wb := hB1.grown hgb hB1.size (fun j hj => (hrowa.lt j hj).1)
  obtain ⟨all, hal⟩ : ∃ all, xs ++ ys = all := ⟨_, rfl⟩
  rw [hal] at hrowb HAS HL
  have HRall := Lib.hid (Rd.of_own hrowb)
  have hcn := Lib.hid (own_none hrowb)
  have HRx := Lib.hid (hr0.next hB2)
  have HRy := Lib.hid (hr1.next hB2)
  have HAL := Lib.hid hal
  have HNA := Lib.hid hna
  have hnab : na ≤ 2097152 := by omega
  have hlen : all.length = na := by rw [← hal, List.length_append, HX.out, HY.out]; omega
  have HLEN := Lib.hid hlen
  clear hall hal hna hlen hrowa hrowb hga hgb hb1 hr0 hr1 hB1
  go_loopw [8, 10] (fun v iv wr => ∃ (k m : Nat) (z : Int), iv = .int .i64 z ∧ z = (k : Int) - 1 ∧ m + k = na ∧ wr.ownsRow wb.heap.size 9 1 v m (cStr ((all.drop k).reverse)) ∧ Below wb.heap.size wb wr) (fun _ iv _ => (intOf iv + 1).toNat)
  case atStart => exact ⟨na, 0, _, rfl, by have := HNA.out; omega, by omega, by rw [drop_end all na HLEN.out.symm]; exact World.ownsRow_nil _ _ _ _, Below.refl _ _⟩
  case round =>
    obtain ⟨k, m, z, rfl, hz, hmk, hown, hnx⟩ := hrel
    cases k with
    | zero =>
      have hzn : z < 0 := by omega
      obtain rfl : m = na := by omega
      clear hz hmk
      go_wp2_with (first
        | (at_builtin; refine wpList_append_rd _ rfl (.tmp 41) (.tmp 42) 30 rfl wb.heap.size 9 i0 (.string ⟨#[]⟩) 1 16 Try.underlying30 hi hz0 hz1 hz2 rfl (by decide) _ _ _ rfl hown _ A0 n0 c0 (cStr xs) rfl (HRx.out.below hnx) hc0 (cStr_one _) (by unfold maxLen; omega) (by omega) hnx.size ?_; intro vt wt hrowt hgt; obtain ⟨At, ct, rfl, _, _⟩ := own_form hrowt; have hnt := hnx.grown hgt hnx.size (fun j hj => (hown.lt j hj).1); have hts := hnt.size)
        | (go_at_call_of 23 Ab; refine (under_any Ab m cb all p wb.heap.size (by omega) HAS.out _ hts (HRall.out.below hnt)).mono ?_; rintro e w3 ⟨v3, rfl, hown3, hb3⟩; rw [HL.out] at hown3; obtain ⟨A3, c3, rfl, _, _⟩ := own_form hown3)
        | (go_at_call_of 23 A0; refine (under_any A0 n0 c0 xs p wb.heap.size (by omega) HXS.out _ (Nat.le_trans hts hb3.size) (HRx.out.below (bch hnt hb3))).mono ?_; rintro e w4 ⟨v4, rfl, hown4, hb4⟩; rw [HLA.out] at hown4; obtain ⟨A4, c4, rfl, _, _⟩ := own_form hown4)
        | (go_at_call_of 23 A1; refine (under_any A1 n1 c1 ys p wb.heap.size (by omega) HYS.out _ (Nat.le_trans hts (Nat.le_trans hb3.size hb4.size)) (HRy.out.below (bch (bch hnt hb3) hb4))).mono ?_; rintro e w5 ⟨v5, rfl, hown5, hb5⟩; rw [HLB.out] at hown5; obtain ⟨A5, c5, rfl, _, _⟩ := own_form hown5))
      have hlen3 := under_len all p.data.toList
      have hlen4 := under_len xs p.data.toList
      have hlen5 := under_len ys p.data.toList
      have hlen6 := under_len all (⟨#[]⟩ : ByteArray).data.toList
      obtain ⟨lu, hlu⟩ : ∃ lu, under all (⟨#[]⟩ : ByteArray).data.toList = lu := ⟨_, rfl⟩
      rw [HL.out, HLEN.out] at hlen3
      rw [HLA.out, HX.out] at hlen4
      rw [HLB.out, HY.out] at hlen5
      rw [hlu, HLEN.out] at hlen6
      have hE1 := under_turned xs ys p.data.toList
      rw [HAL.out, HL.out, show all.reverse = (all.drop 0).reverse by rw [List.drop_zero]] at hE1
      have hE2 := under_chosen all p.data.toList
      rw [HL.out] at hE2
      have hE2' : pre? p.data.toList lu = l := by rw [← hlu]; exact hE2
      have hE3 := under_names all p.data.toList
      rw [HL.out] at hE3
      have hIn : ∀ x ∈ l, x ∈ la ∨ x ∈ lb := by rw [← HL.out, ← HAL.out, ← HLA.out, ← HLB.out]; exact fun x => under_parts
      have hInA : ∀ x ∈ la, x ∈ l := by rw [← HL.out, ← HAL.out, ← HLA.out]; exact fun x => under_left
      have hInB : ∀ x ∈ lb, x ∈ l := by rw [← HL.out, ← HAL.out, ← HLB.out]; exact fun x => under_right
      have hFit : ∀ x ∈ l, fitB x = true := by rw [← HL.out]; exact fun x h => (under_key h).1
      have hOS := names_short HL.out
      have hTS : ∀ x ∈ (all.drop 0).reverse ++ xs, x.length ≤ maxLen := by
        intro x hx
        rcases List.mem_append.1 hx with h | h
        · exact HAS.out x (List.mem_reverse.1 h)
        · exact HXS.out x h
      have HTS := Lib.hid hTS
      have HLU := Lib.hid hlu
      have HE1 := Lib.hid hE1
      have HE2 := Lib.hid hE2'
      have HE3 := Lib.hid hE3
      have HIN := Lib.hid hIn
      have HINA := Lib.hid hInA
      have HINB := Lib.hid hInB
      have HFIT := Lib.hid hFit
      have HOS := Lib.hid hOS
      have hbt : Below wb.heap.size wb w5 := bch (bch (bch hnt hb3) hb4) hb5
      have hB5 : Below w.heap.size w w5 := bch hB2 hbt
      have hts5 : wb.heap.size ≤ w5.heap.size := hbt.size
      have RT := Lib.hid (((Rd.of_own hrowt).next hb3).next hb4 |>.next hb5)
      have RALL := Lib.hid ((HRall.out.below hbt).more hts5)
      have RL := Lib.hid (((Rd.of_own hown3).next hb4).next hb5)
      have RA := Lib.hid ((Rd.of_own hown4).next hb5)
      have RB := Lib.hid (Rd.of_own hown5)
      obtain ⟨nl, hnl⟩ : ∃ nl, l.length = nl := ⟨_, rfl⟩
      obtain ⟨k4, hk4⟩ : ∃ nl, la.length = nl := ⟨_, rfl⟩
      obtain ⟨k5, hk5⟩ : ∃ nl, lb.length = nl := ⟨_, rfl⟩
      rw [hnl] at hlen3 RL ⊢
      rw [hk4] at hlen4 RA ⊢
      rw [hk5] at hlen5 RB ⊢
      have HNL := Lib.hid hnl
      clear hTS hlu hE1 hE2 hE2' hE3 hIn hInA hInB hFit hOS hrowt hown3 hown4 hown5 hgt hown hnl hk4 hk5
      go_loopw [9, 14] (fun v iv wr => ∃ i : Nat, iv = .int .i64 i ∧ i ≤ nl ∧ wr.ownsRow w5.heap.size 9 1 v i (cStr ((l.take i).map objName)) ∧ Below w5.heap.size w5 wr) (fun _ iv _ => nl - (intOf iv).toNat)
      case atStart => exact ⟨0, rfl, by omega, World.ownsRow_nil _ _ _ _, Below.refl _ _⟩
      case round =>
        obtain ⟨i, rfl, him, hown6, hnx6⟩ := hrel
        by_cases hlt : i < nl
        · obtain ⟨ad, x, rfl, hc, hx⟩ := str_at (RL.out.below hnx6) hlt
          have hxl := List.mem_of_getElem? hx
          obtain ⟨N, hN⟩ := name_of ⟨x.toArray⟩ (HFIT.out x hxl)
          have hxm : (⟨x.toArray⟩ : ByteArray).size ≤ maxLen := by have := hN.size; unfold maxLen; omega
          have hcell := Lib.hid (cell_name (x := x) hN.data)
          have hut := Lib.hid (take_snoc_l hx)
          have HN := Lib.hid hN
          have HXM := Lib.hid hxm
          have hlt2 : (i : Int) < (nl : Int) := by omega
          have hor := HIN.out x hxl
          clear hx hN hxm hxl
          have hst : decide (x ∈ la) = true ∨ (decide (x ∈ la) = false ∧ decide (x ∈ lb) = true) := by
            by_cases h : x ∈ la
            · exact .inl (by simpa using h)
            · exact .inr ⟨by simpa using h, by rcases hor with h2 | h2; exact absurd h2 h; simpa using h2⟩
          clear hor
          rcases hst with hd | ⟨hd, hd2⟩
          · go_wp2_with (first
              | (go_at_call_of 26 A4; refine (in_any A4 k4 c4 la _ w5.heap.size (by unfold maxLen; omega) _ (RA.out.below hnx6)).mono ?_; rintro e w6 ⟨rfl, rfl⟩)
              | (go_at_call 16; refine (HN.out.object HXM.out _).mono ?_; rintro e w7 ⟨rfl, hb7⟩)
              | (at_builtin; refine wpList_append_own _ rfl (.tmp 85) (.tmp 87) 30 rfl w5.heap.size 9 i0 (.string ⟨#[]⟩) 1 16 Try.underlying30 hi hz0 hz1 hz2 rfl (by decide) _ _ _ rfl ((own_below hown6 hb7).alloc _) ⟨w7.heap.size, 0, none⟩ 1 1 [.string N] rfl rfl (cell_one_new _ _ _) (by simp [Value.oneCell']) (by unfold maxLen; omega) (by omega) (by have := hnx6.size; have := hb7.size; simp; omega) ?_; intro v2 w8 hrow2 hg2 _))
            go_roundw
            case rel => exact ⟨i + 1, by go_num, by omega, by rw [hut.out, List.map_append]; rw [hcell.out] at hrow2; simpa using hrow2, ((bch hnx6 hb7).alloc (bch hnx6 hb7).size _).grown hg2 (by have := (bch hnx6 hb7).size; simp; omega) (fun j hj => (hown6.lt j hj).1)⟩
            case measure => simp [intOf]; omega
          · go_wp2_with (first
              | (go_at_call_of 26 A4; refine (in_any A4 k4 c4 la _ w5.heap.size (by unfold maxLen; omega) _ (RA.out.below hnx6)).mono ?_; rintro e w6 ⟨rfl, rfl⟩)
              | (go_at_call_of 26 A5; refine (in_any A5 k5 c5 lb _ w5.heap.size (by unfold maxLen; omega) _ (RB.out.below hnx6)).mono ?_; rintro e w6 ⟨rfl, rfl⟩)
              | (go_at_call 16; refine (HN.out.object HXM.out _).mono ?_; rintro e w7 ⟨rfl, hb7⟩)
              | (at_builtin; refine wpList_append_own _ rfl (.tmp 85) (.tmp 87) 30 rfl w5.heap.size 9 i0 (.string ⟨#[]⟩) 1 16 Try.underlying30 hi hz0 hz1 hz2 rfl (by decide) _ _ _ rfl ((own_below hown6 hb7).alloc _) ⟨w7.heap.size, 0, none⟩ 1 1 [.string N] rfl rfl (cell_one_new _ _ _) (by simp [Value.oneCell']) (by unfold maxLen; omega) (by omega) (by have := hnx6.size; have := hb7.size; simp; omega) ?_; intro v2 w8 hrow2 hg2 _))
            go_roundw
            case rel => exact ⟨i + 1, by go_num, by omega, by rw [hut.out, List.map_append]; rw [hcell.out] at hrow2; simpa using hrow2, ((bch hnx6 hb7).alloc (bch hnx6 hb7).size _).grown hg2 (by have := (bch hnx6 hb7).size; simp; omega) (fun j hj => (hown6.lt j hj).1)⟩
            case measure => simp [intOf]; omega
        · obtain rfl : i = nl := by omega
          have htk : l.take i = l := List.take_of_length_le (by have := HNL.out; omega)
          rw [htk] at hown6
          obtain ⟨w6, rfl⟩ : ∃ w6 : World, w6 = wr := ⟨_, rfl⟩
          obtain ⟨AO, cO, rfl, _, _⟩ := own_form hown6
          have HO := Lib.hid hown6
          have RO := Lib.hid (Rd.of_own hown6)
          have HCO := Lib.hid (own_none hown6)
          have hB6 : Below w.heap.size w w6 := bch hB5 hnx6
          clear htk hown6
          go_wp2
          go_loopw [17] (fun iv wr => ∃ j : Nat, iv = .int .i64 j ∧ j ≤ k4 ∧ Below w6.heap.size w6 wr) (fun iv _ => k4 - (intOf iv).toNat)
          case atStart => exact ⟨0, rfl, by omega, Below.refl _ _⟩
          case round =>
            obtain ⟨j, rfl, hjm, hnx7⟩ := hrel
            have hnx67 := bch hnx6 hnx7
            by_cases hjl : j < k4
            · obtain ⟨ad, x, rfl, hc, hx⟩ := str_at (RA.out.below hnx67) hjl
              have hd : decide (x ∈ l) = true := by simpa using HINA.out x (List.mem_of_getElem? hx)
              have hjl2 : (j : Int) < (k4 : Int) := by omega
              clear hx
              go_wp2_with (go_at_call_of 26 A3; refine (in_any A3 i c3 l _ w5.heap.size (by unfold maxLen; omega) _ (RL.out.below hnx67)).mono ?_; rintro e w7 ⟨rfl, rfl⟩)
              go_roundw
              case rel => exact ⟨j + 1, by go_num, by omega, hnx7⟩
              case measure => simp [intOf]; omega
            · obtain ⟨wo, rfl⟩ : ∃ wo : World, wo = wr := ⟨_, rfl⟩
              go_wp2
              go_loopw [18] (fun iv wr => ∃ j : Nat, iv = .int .i64 j ∧ j ≤ k5 ∧ Below wo.heap.size wo wr) (fun iv _ => k5 - (intOf iv).toNat)
              case atStart => exact ⟨0, rfl, by omega, Below.refl _ _⟩
              case round =>
                obtain ⟨j2, rfl, hjm2, hnx8⟩ := hrel
                have hnx68 := bch hnx67 hnx8
                by_cases hjl2 : j2 < k5
                · obtain ⟨ad, x, rfl, hc, hx⟩ := str_at (RB.out.below hnx68) hjl2
                  have hd : decide (x ∈ l) = true := by simpa using HINB.out x (List.mem_of_getElem? hx)
                  have hjl3 : (j2 : Int) < (k5 : Int) := by omega
                  clear hx
                  go_wp2_with (go_at_call_of 26 A3; refine (in_any A3 i c3 l _ w5.heap.size (by unfold maxLen; omega) _ (RL.out.below hnx68)).mono ?_; rintro e w7 ⟨rfl, rfl⟩)
                  go_roundw
                  case rel => exact ⟨j2 + 1, by go_num, by omega, hnx8⟩
                  case measure => simp [intOf]; omega
                · obtain ⟨wf, rfl⟩ : ∃ wf : World, wf = wr := ⟨_, rfl⟩
                  have hnxo : Below w6.heap.size w6 wf := bch hnx7 hnx8
                  have hBf : Below w.heap.size w wf := bch hB6 hnxo
                  have S5 := hnx68.size
                  have hll : l.length ≤ 2097152 := by have := HNL.out; omega
                  have S6 := hnxo.size
                  go_wp2_with (first
                    | (go_at_call_of 23 At; refine (under_any At (m + n0) ct _ p w5.heap.size (by omega) HTS.out _ S5 (by have := RT.out.below hnx68; rwa [← List.map_append] at this)).mono ?_; rintro e x1 ⟨v1, rfl, hown1, hx1⟩; rw [HE1.out] at hown1; obtain ⟨A6, c6, rfl, _, _⟩ := own_form hown1)
                    | (go_at_call_of 23 Ab; refine (under_any Ab m cb all _ w5.heap.size (by omega) HAS.out _ (Nat.le_trans S5 hz2.size) (RALL.out.below (bch hnx68 hz2))).mono ?_; rintro e x3 ⟨v3, rfl, hown3, hx3⟩; rw [HLU.out] at hown3; obtain ⟨A7, c7, rfl, _, _⟩ := own_form hown3)
                    | (go_at_call_of 23 AO; refine (under_any AO i cO _ p w6.heap.size (by omega) HOS.out _ (Nat.le_trans S6 hz5.size) (RO.out.below (bch hnxo hz5))).mono ?_; rintro e x6 ⟨v6, rfl, hown6, hx6⟩; rw [HE3.out] at hown6; obtain ⟨A9, c9, rfl, _, _⟩ := own_form hown6)
                    | (go_at_call 27; refine (chosen_any A7 _ c7 lu p x3.heap.size (by omega) _ (Nat.le_refl _) (Rd.of_own hown3)).mono ?_; rintro e x4 ⟨v4, rfl, hown4, hx4⟩; rw [HE2.out] at hown4; obtain ⟨A8, c8, rfl, _, _⟩ := own_form hown4)
                    | (go_at_call_of 22 A6; refine (like_any A6 _ c6 l A3 i c3 l _ w5.heap.size (by unfold maxLen; omega) (by unfold maxLen; omega) _ (Rd.of_own hown1) (RL.out.below (bch hnx68 hx1))).mono ?_; rintro e x2 ⟨rfl, hq2⟩; have hz2 := bch hx1 (below_same hq2 _))
                    | (go_at_call_of 22 A8; refine (like_any A8 _ c8 l A3 i c3 l _ w5.heap.size (by unfold maxLen; omega) (by unfold maxLen; omega) _ (Rd.of_own hown4) (RL.out.below (bch (bch (bch hnx68 hz2) hx3) hx4))).mono ?_; rintro e x5 ⟨rfl, hq5⟩; have hz5 := bch (bch (bch hz2 hx3) hx4) (below_same hq5 _))
                    | (go_at_call_of 22 A9; refine (like_any A9 _ c9 l A3 i c3 l _ w5.heap.size (by unfold maxLen; omega) (by unfold maxLen; omega) _ (Rd.of_own hown6) (RL.out.below (bch (bch hnx68 hz5) hx6))).mono ?_; rintro e x7 ⟨rfl, hq7⟩; have hz7 := bch (bch hz5 hx6) (below_same hq7 _)))
                  go_ret
                  exact ⟨rfl, bch hBf hz7⟩
    | succ j =>
      obtain rfl : z = (j : Int) := by omega
      clear hz
      obtain ⟨ad, x, rfl, hc, hx⟩ := str_at (HRall.out.below hnx) (show j < na by omega)
      have hdr := Lib.hid (drop_rev hx)
      have hjn : (j : Int) < (na : Int) := by omega
      clear hx
      go_wp2_with (first
        | (at_builtin; refine wpList_append_own _ rfl _ _ 30 rfl wb.heap.size 9 i0 (.string ⟨#[]⟩) 1 16 Try.underlying30 hi hz0 hz1 hz2 rfl (by decide) _ _ _ rfl (hown.alloc _) ⟨wr.heap.size, 0, none⟩ 1 1 [encStr x] rfl rfl (cell_one_new _ _ _) (by simp [Value.oneCell', encStr]) (by unfold maxLen; omega) (by omega) (by have := hnx.size; simp; omega) ?_; intro v2 w2 hrow2 hg2 _))
      go_roundw
      case rel => exact ⟨j, m + 1, _, rfl, by go_num, by omega, by rw [hdr.out]; simpa using hrow2, (hnx.alloc hnx.size _).grown hg2 (by have := hnx.size; simp; omega) (fun j hj => (hown.lt j hj).1)⟩
      case measure => simp [intOf]
end Go.Proofs.Ytjkcoodboghmkaa.Nm
