/- The walks of the document's cache: Weight, Keys, Clear, Drop. -/
import Derived.Test.YtpppgdfgbhglbaaRef
namespace Go.Proofs.Ytpppgdfgbhglbaa.Ca
open Go.RowKit Go.Proofs Go.Proofs.Ytpppgdfgbhglbaa.Lru

/-- The document's cache, as a value. -/
abbrev rv (room : Nat) (A : Option Addr) (n c : Nat) : Value := .agg #[.int .i64 (room : Int), .slice A n c]

theorem boxed (w : World) (room : Nat) (A : Option Addr) (n c : Nat) : ∃ wb V, w.alloc (.cells #[.int .i64 (room : Int), .slice A n c] 45) = wb ∧ w.heap.size = V ∧ Below w.heap.size w wb ∧ V < wb.heap.size ∧ wb.heap[V]? = some (.cells #[.int .i64 (room : Int), .slice A n c] 45 (0, 0)) :=
  ⟨_, _, rfl, rfl, (Below.refl _ _).alloc (Nat.le_refl _) _, by simp, heap_alloc_new w _⟩
theorem boxed2 (w : World) (room : Nat) (A : Option Addr) (n c : Nat) (zs : Array Value) (tz : TypeId) : ∃ wb V, (w.alloc (.cells #[.int .i64 (room : Int), .slice A n c] 45)).alloc (.cells zs tz) = wb ∧ w.heap.size = V ∧ Below w.heap.size w wb ∧ wb.heap.size = V + 2 ∧ wb.heap[V]? = some (.cells #[.int .i64 (room : Int), .slice A n c] 45 (0, 0)) ∧ wb.heap[V + 1]? = some (.cells zs tz (0, 0)) := by
  refine ⟨_, _, rfl, rfl, ((Below.refl _ _).alloc (Nat.le_refl _) _).alloc (by simp) _, by simp, ?_, ?_⟩
  · rw [heap_alloc_old _ _ (by simp)]; exact heap_alloc_new w _
  · have := heap_alloc_new (w.alloc (.cells #[.int .i64 (room : Int), .slice A n c] 45)) (.cells zs tz)
    simpa using this
/-- A block of two cells, at them. -/
theorem two_cells {w : World} {V : Nat} {x y : Value} {t : TypeId} (h : w.heap[V]? = some (.cells #[x, y] t (0, 0))) : w.cell? ⟨V, 0, none⟩ = some x ∧ w.cell? ⟨V, 1, none⟩ = some y ∧ w.frozen? ⟨V, 0, none⟩ = false ∧ w.frozen? ⟨V, 1, none⟩ = false := by
  refine ⟨by rw [cell_of_row w V 0 _ _ _ h]; rfl, by rw [cell_of_row w V 1 _ _ _ h]; rfl, ?_, ?_⟩
  · unfold World.frozen?; rw [show w.heap[(⟨V, 0, none⟩ : Addr).block]? = _ from h]; simp
  · unfold World.frozen?; rw [show w.heap[(⟨V, 1, none⟩ : Addr).block]? = _ from h]; simp
theorem _root_.Go.RowKit.Below.at_block {w w' : World} {V : Nat} {o : Obj} (hb : Below w.heap.size w w') (h : w.heap[V]? = some o) : w'.heap[V]? = some o := (hb.block V (Array.getElem?_eq_some_iff.1 h).1).trans h
theorem _root_.Go.RowKit.Below.at_box {w w' : World} {V : Nat} {x y : Value} {t : TypeId} {f : Nat × Nat} (hb : Below w.heap.size w w') (h : w.heap[V]? = some (.cells #[x, y] t f)) : w'.cell? ⟨V, 1, none⟩ = some y := by
  have h2 := (hb.block V (Array.getElem?_eq_some_iff.1 h).1).trans h
  rw [cell_of_row w' V 1 _ _ _ h2]; rfl

/-- A row of the call's own lies in new memory. -/
theorem own_from {w : World} {base : Nat} {e : TypeId} {size n c : Nat} {A : Option Addr} {xs : List Value} (h : w.ownsRow base e size (.slice A n c) n xs) {m : Nat} (hm : m ≤ base) : ∀ ad, A = some ad → m ≤ ad.block := by
  intro ad had
  rcases h.2 with ⟨hv, _⟩ | ⟨g, cap, cur, hv, hg, _⟩
  · injection hv with hv; rw [hv] at had; cases had
  · injection hv with hv
    rw [hv] at had
    injection had with had
    rw [← had]
    exact Nat.le_trans hm hg

/-- The result's cells are written last. -/
theorem out2n {w wb w1 : World} {V m c' : Nat} {A' : Option Addr} {t : TypeId} {l : List Ent} (hV : w.heap.size = V) (hb0 : Below w.heap.size w wb) (hsz : wb.heap.size = V + 2) (hb1 : Below wb.heap.size wb w1) (hown : w1.ownsRow wb.heap.size t 3 (.slice A' m c') m (cE l)) (_hm : l.length = m) (x y : Value) :
    Es ((w1.setCell ⟨V + 1, 0, none⟩ x).setCell ⟨V + 1, 1, none⟩ y) ((w1.setCell ⟨V + 1, 0, none⟩ x).setCell ⟨V + 1, 1, none⟩ y).heap.size A' m l ∧ Below w.heap.size w ((w1.setCell ⟨V + 1, 0, none⟩ x).setCell ⟨V + 1, 1, none⟩ y) := by
  have h2 : ((w1.setCell ⟨V + 1, 0, none⟩ x).setCell ⟨V + 1, 1, none⟩ y).ownsRow wb.heap.size t 3 (.slice A' m c') m (cE l) :=
    ownsRow_setCell_below (ownsRow_setCell_below hown (show V + 1 < wb.heap.size by omega) x) (show V + 1 < wb.heap.size by omega) y
  have h3 := Es.of_own h2
  have hb2 : Below w.heap.size w w1 := bch hb0 hb1
  have hb3 : Below w.heap.size w ((w1.setCell ⟨V + 1, 0, none⟩ x).setCell ⟨V + 1, 1, none⟩ y) := (hb2.setCell (show w.heap.size ≤ V + 1 by omega) x).setCell (show w.heap.size ≤ V + 1 by omega) y
  exact ⟨h3, hb3⟩

/-- The result's cells are written last. -/
theorem out2 {w wb w1 : World} {V m c' : Nat} {A' : Option Addr} {t : TypeId} {l : List Ent} (hV : w.heap.size = V) (hb0 : Below w.heap.size w wb) (hsz : wb.heap.size = V + 2) (hb1 : Below wb.heap.size wb w1) (hown : w1.ownsRow wb.heap.size t 3 (.slice A' m c') m (cE l)) (_hm : l.length = m) (x y : Value) :
    Es ((w1.setCell ⟨V + 1, 0, none⟩ x).setCell ⟨V + 1, 1, none⟩ y).drew ((w1.setCell ⟨V + 1, 0, none⟩ x).setCell ⟨V + 1, 1, none⟩ y).drew.heap.size A' m l ∧ Below w.heap.size w ((w1.setCell ⟨V + 1, 0, none⟩ x).setCell ⟨V + 1, 1, none⟩ y).drew := by
  have h2 : ((w1.setCell ⟨V + 1, 0, none⟩ x).setCell ⟨V + 1, 1, none⟩ y).ownsRow wb.heap.size t 3 (.slice A' m c') m (cE l) :=
    ownsRow_setCell_below (ownsRow_setCell_below hown (show V + 1 < wb.heap.size by omega) x) (show V + 1 < wb.heap.size by omega) y
  have h3 := Es.of_own h2
  have hb2 : Below w.heap.size w w1 := bch hb0 hb1
  have hb3 : Below w.heap.size w ((w1.setCell ⟨V + 1, 0, none⟩ x).setCell ⟨V + 1, 1, none⟩ y) := (hb2.setCell (show w.heap.size ≤ V + 1 by omega) x).setCell (show w.heap.size ≤ V + 1 by omega) y
  exact ⟨⟨h3.1, h3.2.1, h3.2.2⟩, ⟨hb3.os, hb3.tape, hb3.output, hb3.size, hb3.block⟩⟩

theorem Es.stored2 {w1 : World} {n V : Nat} {A : Option Addr} {l : List Ent} (h : Es w1 (V + 1) A n l) (hs : V + 1 ≤ w1.heap.size) (x y : Value) : Es ((w1.setCell ⟨V + 1, 0, none⟩ x).setCell ⟨V + 1, 1, none⟩ y) ((w1.setCell ⟨V + 1, 0, none⟩ x).setCell ⟨V + 1, 1, none⟩ y).heap.size A n l := by
  have h1 := (h.2.1.setCell (p := ⟨V + 1, 0, none⟩) (Nat.le_refl _) x).setCell (p := ⟨V + 1, 1, none⟩) (Nat.le_refl _) y
  have hb : Below (V + 1) w1 ((w1.setCell ⟨V + 1, 0, none⟩ x).setCell ⟨V + 1, 1, none⟩ y) := ((Below.refl _ _).setCell (p := ⟨V + 1, 0, none⟩) (Nat.le_refl _) x).setCell (p := ⟨V + 1, 1, none⟩) (Nat.le_refl _) y
  exact ⟨h.1, h1.more (Nat.le_trans hs hb.size), h.2.2⟩

set_option maxRecDepth 100000 in
theorem rweight_any (room : Nat) (A : Option Addr) (n c B : Nat) (l : List Ent) (hn : n ≤ 3298534883328) (hs : sumW l ≤ 4611686018427387904) (w : World) (hB : B ≤ w.heap.size) (hr : Es w B A n l) :
    Calls Try.prog 26 #[rv room A n c] w fun x w' => x = .returned (.int .i64 (sumW l : Int)) ∧ Below w.heap.size w w' := by
  have HR := Lib.hid hr
  clear hr
  have hb : Below w.heap.size w (w.alloc (.cells #[.int .i64 (room : Int), .slice A n c] 45)) := (Below.refl _ _).alloc (Nat.le_refl _) _
  go_enter Try.func26, Try.ntmps26
  go_wp2_with (first
    | (go_at_call 41; refine (sum_any A n c B l hn hs _ (HR.out.below (hb.mono hB))).mono ?_; rintro x w1 ⟨rfl, rfl⟩))
  go_ret
  exact ⟨rfl, hb⟩

set_option maxRecDepth 100000 in
theorem rclear_any (room : Nat) (A : Option Addr) (n c : Nat) (w : World) :
    Calls Try.prog 46 #[rv room A n c] w fun x w' => x = .returned (rv room none 0 0) ∧ Below w.heap.size w w' := by
  go_enter Try.func46, Try.ntmps46
  go_wp2
  refine bodyPost_ret (v := rv room none 0 0) (by simp [results, Try.results46, go_sem]) rfl ?_
  exact ⟨rfl, ((Below.refl _ _).alloc (Nat.le_refl _) _).alloc (by simp) _⟩

theorem keys_snoc {l : List Ent} {i : Nat} {e : Ent} (h : l[i]? = some e) : (l.take (i + 1)).map (·.key) = (l.take i).map (·.key) ++ [e.key] := by
  obtain ⟨hi, rfl⟩ := List.getElem?_eq_some_iff.1 h
  rw [List.take_succ_eq_append_getElem hi, List.map_append]
  rfl

set_option maxRecDepth 100000 in
set_option maxHeartbeats 1000000 in
theorem rkeys_any (room : Nat) (A : Option Addr) (n c B : Nat) (l : List Ent) (hn : n ≤ 3298534883328) (w : World) (hB : B ≤ w.heap.size) (hr : Es w B A n l) :
    Calls Try.prog 24 #[rv room A n c] w fun x w' => ∃ v, x = .returned v ∧ w'.ownsRow w.heap.size 9 1 v n (cStr (l.map (·.key))) ∧ Below w.heap.size w w' := by
  obtain ⟨i0, hi, hz0, hz1, hz2⟩ := info_parts' infoText
  have HR := Lib.hid hr
  have HL := Lib.hid hr.1
  clear hr
  go_enter Try.func24, Try.ntmps24
  go_wp2
  obtain ⟨wb, V, hwb, hV, hb0, hB1, hc0⟩ := boxed w room A n c
  rw [hwb, hV]
  go_loopw [3, 4] (fun v iv wr => ∃ (i : Nat), iv = .int .i64 i ∧ i ≤ n ∧ wr.ownsRow wb.heap.size 9 1 v i (cStr ((l.take i).map (·.key))) ∧ Below wb.heap.size wb wr) (fun _ iv _ => n - (intOf iv).toNat)
  case atStart => exact ⟨0, rfl, by omega, World.ownsRow_nil _ _ _ _, Below.refl _ _⟩
  case round =>
    obtain ⟨i, rfl, hin, hown, hb⟩ := hrel
    have hcr := hb.at_box hc0
    by_cases hlt : i < n
    · obtain ⟨b, e, rfl, hbB, he, e0, e1, e2⟩ := ((HR.out.below (hb0.mono hB)).below (hb.mono (Nat.le_trans hB hb0.size))).at_ hlt
      have HE := Lib.hid he
      have hlt2 : (i : Int) < (n : Int) := by omega
      clear he
      go_wp2_with (first
        | (at_builtin; refine wpList_append_own _ rfl (.tmp 12) (.tmp 19) 32 rfl wb.heap.size 9 i0 (.string ⟨#[]⟩) 1 16 Try.underlying32 hi hz0 hz1 hz2 rfl (by decide) _ _ _ rfl (hown.alloc _) ⟨wr.heap.size, 0, none⟩ 1 1 [.string ⟨e.key.toArray⟩] rfl rfl (new_cells _ _ _) (by simp [Value.oneCell']) (by unfold maxLen; omega) (by omega) (by have := hb.size; simp; omega) ?_; intro v2 w2 hrow2 hg2 _; have hb2 := (hb.alloc hb.size (.cells #[.string ⟨e.key.toArray⟩] 9)).grown hg2 (by have := hb.size; simp; omega) (fun j hj => (hown.lt j hj).1)))
      go_roundw
      case rel => exact ⟨i + 1, by go_num, by omega, by rw [keys_snoc HE.out, cStr, List.map_append]; exact hrow2, hb2⟩
      case measure => simp [intOf]; omega
    · have hin2 : i = n := by omega
      subst hin2
      have hE : l.take i = l := List.take_of_length_le (by have := HL.out; omega)
      rw [hE] at hown
      go_wp2
      go_ret
      exact ⟨_, rfl, own_base hown hb0.size, hb0.trans (hb.mono hb0.size)⟩

set_option maxRecDepth 100000 in
set_option maxHeartbeats 1000000 in
theorem rdrop_any (room : Nat) (A : Option Addr) (n c B : Nat) (l : List Ent) (k : Bs) (hn : n ≤ 3298534883328) (w : World) (hB : B ≤ w.heap.size) (hr : Es w B A n l) (hk : (l.map (·.key)).Nodup) :
    Calls Try.prog 21 #[rv room A n c, .string ⟨k.toArray⟩] w fun x w' => ∃ A' c', x = .returned (.tuple #[rv room A' (out k l).length c', .bool (seek k l).isSome]) ∧ Es w' w'.heap.size A' (out k l).length (out k l) ∧ (A' = none → c' = 0) ∧ (∀ ad, A' = some ad → w.heap.size ≤ ad.block) ∧ Below w.heap.size w w' := by
  have HR := Lib.hid hr
  have hl := hr.1
  have hol := out_len (k := k) hk
  have hpos : (seek k l).isSome = true → 0 < l.length := fun h => by
    obtain ⟨e, he⟩ := Option.isSome_iff_exists.1 h
    exact List.length_pos_of_mem (seek_some he).2
  obtain ⟨m, hm⟩ : ∃ m, (out k l).length = m := ⟨_, rfl⟩
  rw [hm] at hol ⊢
  have HM := Lib.hid hm
  have hcmp : decide (m < n) = (seek k l).isSome := by
    cases hs : (seek k l).isSome with
    | true => have := hpos hs; rw [hs] at hol; simp at hol ⊢; omega
    | false => rw [hs] at hol; simp at hol ⊢; omega
  obtain ⟨bb, hbb⟩ : ∃ bb, (seek k l).isSome = bb := ⟨_, rfl⟩
  rw [hbb] at hcmp ⊢
  clear hr hl hol hpos hk hm hbb
  go_enter Try.func21, Try.ntmps21
  go_upto_region 1 with (fail)
  obtain ⟨wb, V, hwb, hV, hb0, hsz, hc0, hr0⟩ := boxed2 w room A n c #[.int .i64 0, .slice none 0 0] 45
  rw [hwb, hV]
  have c1 := (two_cells hc0).2.1
  go_upto_region 2 with (go_at_call 40; refine (without_any A n c B l k hn wb (by have := hb0.size; omega) (HR.out.below (hb0.mono hB))).mono ?_; rintro x w1 ⟨v, rfl, hown, hb1⟩; rw [HM.out] at hown; obtain ⟨A', c', rfl, _, _⟩ := own_form hown)
  obtain ⟨d0, d1, _, _⟩ := two_cells (hb1.at_block hc0)
  obtain ⟨r0, r1, f0, f1⟩ := two_cells (hb1.at_block hr0)
  have hVV : V ≠ V + 1 := by omega
  go_region_with (fail)
  all_goals
    go_wp2
    refine bodyPost_ret (v := .tuple #[rv room A' m c', .bool bb]) (by simp [results, Try.results21, go_sem, r0, r1]) rfl ?_
    have hq := out2 hV hb0 hsz hb1 hown HM.out (.int .i64 (room : Int)) (.slice A' m c')
    exact ⟨A', c', rfl, hq.1, Es.own_cap hown, own_from hown (by omega), hq.2⟩
end Go.Proofs.Ytpppgdfgbhglbaa.Ca
