/- The walk of the program's keys among names. -/
import Derived.Test.YtjkcoodboghmkaaW10
import Derived.Sort.KeysCollected
import Derived.Sort.OwnSorted
namespace Go.Proofs.Ytjkcoodboghmkaa.Nm
open Go.RowKit Go.Proofs Go.Maps Go.Sort

theorem lawStr : Keyed Try.prog 9 := string_keyed Try.underlying9
theorem picks_snoc (xs : List Bs) (pre x : Bs) : picks (xs ++ [x]) pre = picks xs pre ++ (pick pre x).toList := by
  unfold picks; rw [List.filterMap_append]; cases h : pick pre x <;> simp [h]
theorem pick_no {pre x : Bs} (h : keyOk x = false) : pick pre x = none := by
  have : key? x = none := by simpa [keyOk] using h
  simp [pick, this]
theorem pick_key {pre x k : Bs} (h : keyOk x = true) (hk : keyOf x = k) : pick pre x = if pre.isPrefixOf k then some k else none := by
  cases hq : key? x with
  | none => simp [keyOk, hq] at h
  | some k' =>
    have : k' = k := by simpa [keyOf, hq] using hk
    subst this
    simp [pick, hq]
theorem pick_mem {pre x k : Bs} {xs : List Bs} (hx : x ∈ xs) (h : keyOk x = true) (hk : keyOf x = k) (hp : pre.isPrefixOf k = true) : k ∈ picks xs pre := by
  unfold picks; rw [List.mem_filterMap]; exact ⟨x, hx, by rw [pick_key h hk, if_pos hp]⟩

/-- What the set holds. -/
def Holds' (D : DataW Unit) (l : List Bs) : Prop := ∀ y : Bs, Maps.has D (.string y) = decide (y ∈ l)
theorem holds_put {D : DataW Unit} {l : List Bs} (h : Holds' D l) (hm : IsMap D) (k : Bs) : Holds' (D.put (.string k) (.agg [])) (l ++ [k]) := by
  intro y
  by_cases hy : y = k
  · subst hy
    rw [has_put_same hm (by trivial)]; simp
  · rw [has_put_other (by simpa using hy), h y]; simp [hy]

set_option maxRecDepth 100000 in
set_option maxHeartbeats 2000000 in
theorem under_any (A : Option Addr) (n c : Nat) (xs : List Bs) (p : ByteArray) (B : Nat) (hn : n ≤ 8796093022207) (hxs : ∀ x ∈ xs, x.length ≤ maxLen) (w : World) (hB : B ≤ w.heap.size) (hr : Rd w B 1 A n (cStr xs)) :
    Calls Try.prog 23 #[.slice A n c, .string p] w fun e w' => ∃ v, e = .returned v ∧ w'.ownsRow w.heap.size 9 1 v (under xs p.data.toList).length (cStr (under xs p.data.toList)) ∧ Below w.heap.size w w' := by
  obtain ⟨i0, hi, hz0, hz1, hz2⟩ := info_parts infoStr
  have hmm := @run_makeMap Try.prog
  have hxl : xs.length = n := by simpa using hr.1
  have HR := Lib.hid hr
  have HX := Lib.hid hxl
  have HXS := Lib.hid hxs
  clear hr hxl hxs
  go_enter Try.func23, Try.ntmps23
  go_wp2
  go_loopw [15] (fun iv wr => ∃ (i : Nat) (D : DataW Unit), iv = .int .i64 i ∧ i ≤ n ∧ wr.ownsMap Try.prog 9 (unitElem (H := Unit)) w.heap.size i D ∧ Holds' D (picks (xs.take i) p.data.toList) ∧ Maps.size D ≤ i ∧ w.heap.size + 1 ≤ wr.heap.size ∧ Below w.heap.size w wr) (fun iv _ => n - (intOf iv).toNat)
  case atStart => exact ⟨0, .map [], rfl, by omega, World.ownsMap_made _ _ _ _, fun y => by simp [picks, Maps.has], Nat.le_refl _, by simp, (Below.refl _ _).alloc (Nat.le_refl _) _⟩
  case round =>
    obtain ⟨i, D, rfl, hin, hown, hH, hsz, hws, hnx⟩ := hrel
    by_cases hlt : i < n
    · obtain ⟨ad, x, rfl, hc, hx⟩ := str_at (HR.out.below (hnx.mono hB)) hlt
      have hxm : x.length ≤ maxLen := HXS.out x (List.mem_of_getElem? hx)
      have hxs : (⟨x.toArray⟩ : ByteArray).size ≤ maxLen := by rw [← len_data]; exact hxm
      have htk := Lib.hid (take_snoc_l hx)
      have hlt2 : (i : Int) < (n : Int) := by omega
      have HXM := Lib.hid hxs
      have HXA := Lib.hid hx
      have HHH := Lib.hid hH
      clear hx hxs hxm hH
      cases hok : keyOk x with
      | false =>
        go_wp2_with (go_at_call 18; refine (key_any _ HXM.out _).mono ?_; rintro e w1 ⟨rfl, hb⟩)
        go_roundw
        case rel => exact ⟨i + 1, D, by go_num, by omega, (hown.mono (by omega)).kept (grown_of_below hb none) (by simp), by rw [htk.out, picks_snoc, pick_no hok]; simpa using HHH.out, by omega, Nat.le_trans hws hb.size, hnx.trans (hb.mono hnx.size)⟩
        case measure => simp [intOf]; omega
      | true =>
        obtain ⟨k, hk⟩ : ∃ k, keyOf x = k := ⟨_, rfl⟩
        cases hpre : Lib.hasPrefix k p.data.toList with
        | false =>
          go_wp2_with (first
            | (go_at_call 18; refine (key_any _ HXM.out _).mono ?_; rintro e w1 ⟨rfl, hb⟩)
            | (go_at_call 36; refine (Try.strings_HasPrefix _ _ _).mono ?_; rintro e w2 ⟨rfl, rfl⟩))
          go_roundw
          case rel => exact ⟨i + 1, D, by go_num, by omega, (hown.mono (by omega)).kept (grown_of_below hb none) (by simp), by rw [htk.out, picks_snoc, pick_key hok hk, show p.data.toList.isPrefixOf k = false from hpre]; simpa using HHH.out, by omega, Nat.le_trans hws hb.size, hnx.trans (hb.mono hnx.size)⟩
          case measure => simp [intOf]; omega
        | true =>
          have hkm : (⟨k.toArray⟩ : ByteArray).size ≤ maxLen := by
            rw [← len_data]
            cases hq : key? x with
            | none => simp [keyOk, hq] at hok
            | some k' =>
              have : k' = k := by simpa [keyOf, hq] using hk
              subst this
              have := (fit_iff k').1 (obj_key x k' hq).1
              simp only [maxLen]; show k'.length ≤ _; omega
          have hkey : Go.keyOf Try.prog 9 (.string ⟨k.toArray⟩) = some (.string k) := by
            have := Go.WideMaps.keyOf_string_mk Try.underlying9 hkm
            simpa using this
          go_wp2_with (first
            | (go_at_call 18; refine (key_any _ HXM.out _).mono ?_; rintro e w1 ⟨rfl, hb⟩)
            | (go_at_call 36; refine (Try.strings_HasPrefix _ _ _).mono ?_; rintro e w2 ⟨rfl, rfl⟩)
            | (at_mapUpdate; refine wpList_mapUpdate_own _ rfl _ _ _ 45 rfl 9 46 lawStr Try.underlying45 (unitElem (H := Unit)) w.heap.size i _ rfl (hown.kept (grown_of_below hb none) (by simp)) (by unfold maxLen; omega) _ _ _ rfl rfl hkey _ [] unitElem_mk ?_; intro w3 hown3 hg3))
          have hs3 := hg3.size
          go_roundw
          case rel =>
            refine ⟨i + 1, _, by go_num, by omega, hown3, ?_, ?_, by have := hb.size; omega, (hnx.trans (hb.mono hnx.size)).grown hg3 (Nat.le_trans hnx.size hb.size) (fun j hj => by cases hj; exact Nat.le_refl _)⟩
            · rw [htk.out, picks_snoc, pick_key hok hk, show p.data.toList.isPrefixOf k = true from hpre, if_pos rfl]
              exact holds_put HHH.out (hown.isMap) k
            · have := size_put (hown.tidy lawStr) (k := .string k) (DataW.agg [])
              rw [this]; split <;> omega
          case measure => simp [intOf]; omega
    · obtain ⟨wo, rfl⟩ : ∃ wo : World, wo = wr := ⟨_, rfl⟩
      obtain rfl : i = n := by omega
      have htk : xs.take i = xs := List.take_of_length_le (by have := HX.out; omega)
      rw [htk] at hH
      have HHH := Lib.hid hH
      clear htk hH
      have hMl : w.heap.size < wo.heap.size := by omega
      go_wp2_with (first
        | (at_len; refine wpList_len_own _ rfl _ 45 rfl 9 46 Try.underlying45 _ w.heap.size i _ rfl hown ?_)
        | (at_make; refine wpList_make_own _ rfl _ _ 30 rfl wo.heap.size 9 i0 (.string ⟨#[]⟩) 1 Try.underlying30 hi hz0 hz1 _ _ _ (Maps.size D) rfl rfl rfl (by rw [hz2]; omega) (by unfold maxLen; omega) (Nat.le_refl _) ?_; intro w1 hrow1 hg1)
        | (at_range; refine wpList_range_own _ rfl _ 45 rfl 9 46 lawStr Try.underlying45 _ w.heap.size i _ rfl (hown.kept hg1 (by simp)) ?_; intro w0 hrg0 hg0 hs0))
      go_frame
      go_loopw [10] (fun v w2 => ∃ (left : Lit → Bool) (cnt : Nat) (ss : List Bs), w2.ranges Try.prog 9 (unitElem (H := Unit)) w.heap.size w1.heap.size i D left cnt ∧ ss.length + cnt ≤ Maps.size D ∧
          w2.ownsRow wo.heap.size 9 1 v ss.length (cStr ss) ∧ v ≠ .slice none 0 0 ∧ Collected D left ss ∧ Below wo.heap.size wo w2)
        (fun _ w2 => w2.rangeLeft w.heap.size w1.heap.size)
      case atStart =>
        exact ⟨_, _, [], hrg0, by simp, hrow1.kept hg0 (Or.inr (by simp [Value.ownBlock])), by simp, Collected.start D,
          ((Below.refl _ _).grown hg1 (Nat.le_refl _) (fun j hj => by cases hj)).grown hg0 hg1.size (fun j hj => by cases hj)⟩
      case round =>
        obtain ⟨left, cnt, ss, hrg, hcs, hrow, hnn, hC, hnx2⟩ := hrel
        have HHC := Lib.hid hC
        clear hC
        go_wp2_with (first
          | (at_next; refine wpList_next_ranges _ rfl _ rfl 9 lawStr (unitElem (H := Unit)) encStr (fun _ : Unit => Value.agg #[]) (fun key kl hk => by obtain ⟨x, hx, _⟩ := Maps.keyOf_str Try.underlying9 hk; exact ⟨x, hx⟩) (fun v y hv => by obtain ⟨rfl, _⟩ := unitElem_inv hv; exact ⟨(), rfl⟩) w.heap.size w1.heap.size i _ _ _ rfl hrg ?_ ?_))
        · intro hc0 hl0
          rcases hrow.2 with ⟨hnil, _⟩ | ⟨g, cap, cur, rfl, hbase, hb, h1, h2, h3, h4⟩
          · exact absurd hnil hnn
          have hH : Holds encStr wr g 0 ss.toArray := holds_of_block hb (by simpa using h4)
          have hgl : g < wr.heap.size := (Array.getElem?_eq_some_iff.1 hb).1
          have hc := Try.sort_Strings g 0 cap ss _ hH hgl (by omega)
          go_wp2_with (go_at_call 37; refine hc.mono ?_; rintro e w' ⟨rfl, nn, os, rfl⟩)
          go_ret
          have hm : ∀ x, x ∈ ss ↔ x ∈ picks xs p.data.toList := fun x => by
            rw [HHC.out.2 x, hl0, HHH.out x]; simp
          have hso := under_of_perm xs p.data.toList ss HHC.out.1 hm
          have hle : (under xs p.data.toList).length = ss.length := by rw [← hso]; simp
          refine ⟨_, rfl, ?_, hnx.trans ((hnx2.grown (grownBy_sorted _) hnx2.size (fun j hj => by cases hj; exact hbase)).mono hnx.size)⟩
          rw [hle]
          have := own_base (ownsRow_sorted (n := nn) (os := os) (ts := under xs p.data.toList) hle hbase hb h1 h2 h3) hnx.size
          rw [← hso] at this ⊢
          exact this
        · intro x kl yd yp w2 cnt2 hkey hlk hv hat hrg2 hlt2 hg2 hs2 hen
          obtain ⟨x', ex, rfl, _⟩ := Maps.keyOf_str Try.underlying9 hkey
          obtain rfl : x = x' := encStr_inj ex
          have hrow2 := hrow.kept hg2 (Or.inr (row_ne_iter hrow hrg).symm)
          clear hs2
          go_wp2_with (at_builtin; refine wpList_append_own _ rfl _ _ 30 rfl wo.heap.size 9 i0 (.string ⟨#[]⟩) 1 16 Try.underlying30 hi hz0 hz1 hz2 rfl (by decide) _ _ _ rfl (hrow2.alloc _) ⟨w2.heap.size, 0, none⟩ 1 1 [encStr x] rfl rfl (cell_one_new _ _ _) (by simp [Value.oneCell', encStr]) (by unfold maxLen at *; omega) (by omega) (by have := hnx2.size; have := hg2.size; simp; omega) ?_; intro v' w3 hown' hg3 hnil3; go_frame)
          have hrg3 := (hrg2.alloc _).kept hg3 (row_ne_low hrow2 hMl) (row_ne_iter hrow2 hrg2)
          go_roundw
          case rel =>
            refine ⟨_, cnt2, ss ++ [x], hrg3, by simp; omega, by simpa using hown', fun hv' => by have := (hnil3.1 hv').2; omega, HHC.out.step hlk hat, ?_⟩
            exact ((hnx2.grown hg2 hnx2.size (fun j hj => by cases hj; exact hg1.size)).alloc (by have := hnx2.size; have := hg2.size; omega) _).grown hg3 (by have := hnx2.size; have := hg2.size; simp; omega) (fun j hj => (hrow2.lt j hj).1)
          case measure => rw [hrg3.left_eq, hrg.left_eq]; exact hlt2
end Go.Proofs.Ytjkcoodboghmkaa.Nm
