/- The walk of the statement on what is told of names: it rises, it has what must be there. -/
import Derived.Test.YtjkcoodboghmkaaW14
namespace Go.Proofs.Ytjkcoodboghmkaa.Nm
open Go.RowKit Go.Proofs

theorem under_key {xs : List Bs} {p x : Bs} (h : x ∈ under xs p) : fitB x = true ∧ objName x ∈ xs ∧ p.isPrefixOf x = true := by
  rw [mem_under, mem_picks] at h
  obtain ⟨n, hn, hk, hp⟩ := h
  obtain ⟨h1, h2⟩ := obj_key n x hk
  exact ⟨h1, by rw [h2]; exact hn, hp⟩
theorem rises_at {u : List Bs} (h : Rises u) {j : Nat} {x y : Bs} (hy : u[j]? = some y) (hx : u[j + 1]? = some x) : y < x := by
  obtain ⟨h1, rfl⟩ := List.getElem?_eq_some_iff.1 hy
  obtain ⟨h2, rfl⟩ := List.getElem?_eq_some_iff.1 hx
  exact List.pairwise_iff_getElem.1 h j (j + 1) h1 h2 (Nat.lt_succ_self j)

set_option maxRecDepth 100000 in
set_option maxHeartbeats 2000000 in
theorem law_sorted (A : Option Addr) (n c : Nat) (xs : List Bs) (hn : n ≤ 8796093021952) (hxs : ∀ x ∈ xs, x.length ≤ maxLen) (p : ByteArray) (_hp : p.size ≤ maxLen) (w : World) (hr : Rd w w.heap.size 1 A n (cStr xs)) :
    Calls Try.prog 11 #[.slice A n c, .string p] w fun e w' => e = .returned (.bool true) ∧ Below w.heap.size w w' := by
  have HXS := Lib.hid hxs
  have hxl : xs.length = n := by simpa using hr.1
  have hul := under_len xs p.data.toList
  obtain ⟨u, hu⟩ : ∃ u, under xs p.data.toList = u := ⟨_, rfl⟩
  rw [hu, hxl] at hul
  have HU := Lib.hid hu
  have HX := Lib.hid hxl
  have HRI := Lib.hid (hu ▸ under_rises xs p.data.toList : Rises u)
  clear hu hxs hxl
  go_enter Try.func11, Try.ntmps11
  go_wp2_with (first
    | (go_at_call 14; refine (known_any _).mono ?_; rintro e w1 ⟨rfl, hb1⟩)
    | (go_at_call 23; refine (under_any A n c xs p w1.heap.size (by omega) HXS.out _ (Nat.le_refl _) (hr.next hb1)).mono ?_; rintro e w2 ⟨v2, rfl, hown2, hb2⟩; rw [HU.out] at hown2; obtain ⟨A2, c2, rfl, _, _⟩ := own_form hown2))
  have hR := Rd.of_own hown2
  have hRx := (hr.next hb1).next hb2
  have hB2 := bch hb1 hb2
  obtain ⟨m, hm⟩ : ∃ m, u.length = m := ⟨_, rfl⟩
  rw [hm] at hul hR ⊢
  have HM := Lib.hid hm
  have HR := Lib.hid hR
  have HRX := Lib.hid hRx
  clear hown2 hb1 hb2 hR hr hRx hm
  go_loopw [6] (fun iv wr => ∃ i : Nat, iv = .int .i64 i ∧ i ≤ m ∧ Below w2.heap.size w2 wr) (fun iv _ => m - (intOf iv).toNat)
  case atStart => exact ⟨0, rfl, by omega, Below.refl _ _⟩
  case round =>
    obtain ⟨i, rfl, him, hnx⟩ := hrel
    by_cases hlt : i < m
    · obtain ⟨ad, x, rfl, hc, hx⟩ := str_at (HR.out.below hnx) hlt
      have hk := under_key (xs := xs) (p := p.data.toList) (x := x) (by rw [HU.out]; exact List.mem_of_getElem? hx)
      have hpre := hk.2.2
      obtain ⟨N, hN⟩ := name_of ⟨x.toArray⟩ hk.1
      have hmem : decide (N.data.toList ∈ xs) = true := by rw [hN.data]; simpa using hk.2.1
      have hxm : (⟨x.toArray⟩ : ByteArray).size ≤ maxLen := by have := hN.size; unfold maxLen; omega
      have HN := Lib.hid hN
      have HXX := Lib.hid hx
      have HXM := Lib.hid hxm
      have hlt2 : (i : Int) < (m : Int) := by omega
      clear hx hN hk hxm
      have hst : i = 0 ∨ ∃ j, i = j + 1 := by cases i with | zero => exact .inl rfl | succ j => exact .inr ⟨j, rfl⟩
      rcases hst with h0 | ⟨j, hj⟩
      · have hd : decide (0 < i) = false := by simp [h0]
        clear h0
        go_wp2
        go_quiet ((go_at_call 25; exact quiet_l (begins_any _ _ _)))
        go_wp2_with (first
          | (go_at_call 16; refine (HN.out.object HXM.out _).mono ?_; rintro e w3 ⟨rfl, hb3⟩)
          | (go_at_call 26; refine (in_any A n c xs N w2.heap.size (by unfold maxLen; omega) _ (HRX.out.below (hnx.trans ((below_drewN (Below.refl _ _) nq).trans hb3 |>.mono hnx.size)))).mono ?_; rintro e w4 ⟨rfl, rfl⟩))
        go_roundw
        case rel => exact ⟨i + 1, by go_num, by omega, hnx.trans ((below_drewN (Below.refl _ _) nq).trans hb3 |>.mono hnx.size)⟩
        case measure => simp [intOf]; omega
      · obtain ⟨ad', y, had', hcj, hy⟩ := str_at (HR.out.below hnx) (show j < m by omega)
        obtain rfl : ad = ad' := by injection had'
        have hyx := rises_at HRI.out hy (by rw [← hj]; exact HXX.out)
        have hbl : Op.bytesLess y x = true := by rw [bytesLess_eq]; simpa using hyx
        have hd : decide (0 < i) = true := by simp [hj]
        have e1 : IntKind.i64.wrap ((i : Int) - 1) = (j : Int) := by rw [IntWalk.i64_in _ (by omega)]; omega
        have hjm : (j : Int) < (m : Int) := by omega
        have hjm2 : j < m := by omega
        clear hj hy hyx had'
        go_wp2
        go_quiet ((go_at_call 25; exact quiet_l (begins_any _ _ _)))
        go_wp2_with (first
          | (go_at_call 16; refine (HN.out.object HXM.out _).mono ?_; rintro e w3 ⟨rfl, hb3⟩)
          | (go_at_call 26; refine (in_any A n c xs N w2.heap.size (by unfold maxLen; omega) _ (HRX.out.below (hnx.trans ((below_drewN (Below.refl _ _) nq).trans hb3 |>.mono hnx.size)))).mono ?_; rintro e w4 ⟨rfl, rfl⟩))
        go_roundw
        case rel => exact ⟨i + 1, by go_num, by omega, hnx.trans ((below_drewN (Below.refl _ _) nq).trans hb3 |>.mono hnx.size)⟩
        case measure => simp [intOf]; omega
    · obtain ⟨wo, rfl⟩ : ∃ wo : World, wo = wr := ⟨_, rfl⟩
      have hRo := HR.out.below hnx
      have hRxo := HRX.out.below hnx
      have HR2 := Lib.hid hRo
      have HRX2 := Lib.hid hRxo
      clear hRo hRxo
      have hB3 : Below w.heap.size w wo := hB2.trans (hnx.mono hB2.size)
      go_wp2
      go_loopw [9] (fun iv wr => ∃ i : Nat, iv = .int .i64 i ∧ i ≤ n ∧ Below wo.heap.size wo wr) (fun iv _ => n - (intOf iv).toNat)
      case atStart => exact ⟨0, rfl, by omega, Below.refl _ _⟩
      case round =>
        obtain ⟨i2, rfl, hin, hnx2⟩ := hrel
        by_cases hlt2 : i2 < n
        · obtain ⟨ad, x, rfl, hc, hx⟩ := str_at (HRX2.out.below (hnx2.mono hnx.size)) hlt2
          have hxl : x.length ≤ maxLen := HXS.out x (List.mem_of_getElem? hx)
          have hxm : (⟨x.toArray⟩ : ByteArray).size ≤ maxLen := by rw [← len_data]; exact hxl
          have hlt3 : (i2 : Int) < (n : Int) := by omega
          have HXX := Lib.hid hx
          have HXM := Lib.hid hxm
          clear hx hxl hxm
          cases hok : keyOk x with
          | false =>
            go_wp2_with (go_at_call 18; refine (key_any _ HXM.out _).mono ?_; rintro e w3 ⟨rfl, hb3⟩)
            go_roundw
            case rel => exact ⟨i2 + 1, by go_num, by omega, bch hnx2 hb3⟩
            case measure => simp [intOf]; omega
          | true =>
            obtain ⟨k, hk⟩ : ∃ k, keyOf x = k := ⟨_, rfl⟩
            cases hpre : p.data.toList.isPrefixOf k with
            | false =>
              go_wp2_with (first
                | (go_at_call 18; refine (key_any _ HXM.out _).mono ?_; rintro e w3 ⟨rfl, hb3⟩)
                | (go_at_call 25; refine (begins_any _ _ _).mono ?_; rintro e w4 ⟨rfl, rfl⟩))
              go_roundw
              case rel => exact ⟨i2 + 1, by go_num, by omega, bch hnx2 hb3⟩
              case measure => simp [intOf]; omega
            | true =>
              have hm : k ∈ u := by
                rw [← HU.out, mem_under]
                exact pick_mem (List.mem_of_getElem? HXX.out) hok hk hpre
              have hd : decide (k ∈ u) = true := by simpa using hm
              clear hm
              go_wp2_with (first
                | (go_at_call 18; refine (key_any _ HXM.out _).mono ?_; rintro e w3 ⟨rfl, hb3⟩)
                | (go_at_call 25; refine (begins_any _ _ _).mono ?_; rintro e w4 ⟨rfl, rfl⟩)
                | (go_at_call 26; refine (in_any A2 m c2 u _ w2.heap.size (by unfold maxLen; omega) _ (HR2.out.below ((bch hnx2 hb3).mono hnx.size))).mono ?_; rintro e w4 ⟨rfl, rfl⟩))
              go_roundw
              case rel => exact ⟨i2 + 1, by go_num, by omega, bch hnx2 hb3⟩
              case measure => simp [intOf]; omega
        · go_wp2
          go_ret
          exact ⟨rfl, bch hB3 hnx2⟩
end Go.Proofs.Ytjkcoodboghmkaa.Nm
