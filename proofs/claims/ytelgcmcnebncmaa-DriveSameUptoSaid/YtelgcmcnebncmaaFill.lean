/- The law's own 'filled': lists that are handed in again and again. -/
import Derived.Test.YtelgcmcnebncmaaTwin
namespace Go.Proofs.Ytelgcmcnebncmaa.Dr
set_option linter.unusedVariables false
open Go.RowKit Go.Proofs Go.Deep Go.Proofs.Ytelgcmcnebncmaa.Ring

abbrev tHand := 94
def fD (q : Nat) (x : UInt8) : UInt8 := x + UInt8.ofNat q
def fB (q : Nat) (b : Bool) : Bool := b != decide (0 < q)
def fC (q i : Nat) (z : Int) : Int := if 0 < q ∧ i % 2 = 0 then 1 else z
/-- The act with other contents. -/
def fillA (q : Nat) (a : Ac) : Ac := { a with data := a.data.map (fD q), dirs := a.dirs.map (fB q), cuts := a.cuts.mapIdx (fC q) }
/-- The hand's memory. -/
structure HandAt (w : World) (g gb gd gc : Nat) : Prop where
  head : w.heap[g]? = some (.cells #[.slice (some ⟨gb, 0, none⟩) 4096 4096, .slice (some ⟨gd, 0, none⟩) 64 64, .slice (some ⟨gc, 0, none⟩) 64 64] tHand (0, 0))
  data : ∃ l : Bs, w.ownsRow 0 tU8 1 (.slice (some ⟨gb, 0, none⟩) 4096 4096) 4096 (cU8 l)
  dirs : ∃ l : List Bool, w.ownsRow 0 tBool 1 (.slice (some ⟨gd, 0, none⟩) 64 64) 64 (cBool l)
  cuts : ∃ l : List Int, w.ownsRow 0 tInt 1 (.slice (some ⟨gc, 0, none⟩) 64 64) 64 (cInt l)
theorem HandAt.ne {w : World} {g gb gd gc : Nat} (h : HandAt w g gb gd gc) : g ≠ gb ∧ g ≠ gd ∧ g ≠ gc ∧ gb ≠ gd ∧ gb ≠ gc ∧ gd ≠ gc ∧ g < w.heap.size ∧ gb < w.heap.size ∧ gd < w.heap.size ∧ gc < w.heap.size := by
  obtain ⟨lb, hb⟩ := h.data
  obtain ⟨ld, hd⟩ := h.dirs
  obtain ⟨lc, hc⟩ := h.cuts
  have hg := h.head
  obtain ⟨c1, h1⟩ := own_lt hb (g := gb) rfl
  obtain ⟨c2, h2⟩ := own_lt hd (g := gd) rfl
  obtain ⟨c3, h3⟩ := own_lt hc (g := gc) rfl
  refine ⟨?_, ?_, ?_, fun e => own_types hb hd (by decide) (g := gb) rfl (by rw [e]; rfl), fun e => own_types hb hc (by decide) (g := gb) rfl (by rw [e]; rfl), fun e => own_types hd hc (by decide) (g := gd) rfl (by rw [e]; rfl), (Array.getElem?_eq_some_iff.1 hg).1, (Array.getElem?_eq_some_iff.1 h1).1, (Array.getElem?_eq_some_iff.1 h2).1, (Array.getElem?_eq_some_iff.1 h3).1⟩
  · rintro rfl
    rw [hg] at h1
    injection h1 with h1
    injection h1 with _ h2 _
    revert h2; decide
  · rintro rfl
    rw [hg] at h2
    injection h2 with h2
    injection h2 with _ h2 _
    revert h2; decide
  · rintro rfl
    rw [hg] at h3
    injection h3 with h3
    injection h3 with _ h2 _
    revert h2; decide
theorem take_set {α : Type} {l l' : List α} {i : Nat} {v : α} (h : l.take i = l'.take i) (hi : i < l.length) (hv : l'[i]? = some v) : (l.set i v).take (i + 1) = l'.take (i + 1) := by
  have hi' : i < l'.length := (List.getElem?_eq_some_iff.1 hv).1
  rw [List.take_add_one, List.take_add_one, hv]
  congr 1
  · rw [List.take_set_of_le (Nat.le_refl _)]; exact h
  · rw [List.getElem?_set_self hi]
theorem fD_val (q : Nat) (hq : q ≤ 1) (x : UInt8) : (((x.toNat : Int) + (q : Int)) % 256) = ((fD q x).toNat : Int) := by
  unfold fD
  rw [UInt8.toNat_add, UInt8.toNat_ofNat']
  omega
theorem rd_front {w : World} {B n q : Nat} {A : Option Addr} {xs : List Value} (h : Rd w B 1 A n xs) (hq : q ≤ n) : Rd w B 1 A q (xs.take q) := by
  refine ⟨by have := h.1; simp; omega, fun h0 => ?_⟩
  obtain ⟨ad, e, hb, hc⟩ := h.2 (by omega)
  refine ⟨ad, e, hb, fun j u hu => hc j u ?_⟩
  rw [List.getElem?_take] at hu
  split at hu
  · exact hu
  · cases hu
/-- What 'filled' leaves. -/
theorem fill_end {w w1 wy wf w9 : World} {g gb gd gc V n nd nu q : Nat} {a : Ac} {l : Bs} {l2 : List Bool} {l3 : List Int} {Y : Value} (hl1 : a.data.length = n) (hl2 : a.dirs.length = nd) (hl3 : a.cuts.length = nu) (f1 : n ≤ 4096) (f2 : nd ≤ 64) (f3 : nu ≤ 64)
    (hn : (g ≠ gb ∧ g ≠ gd ∧ g ≠ gc ∧ gb ≠ gd ∧ gb ≠ gc ∧ gd ≠ gc) ∧ g < V ∧ gb < V ∧ gd < V ∧ gc < V) (hV : w.heap.size = V) (hb : Below V w w1) (hs : w1.heap.size = V + 2)
    (hky : Kept w1 wy (fun k => k = gb ∨ k = gd ∨ k = gc)) (hk4 : Kept wy wf (fun k => k = V)) (hk9 : Kept wf w9 (fun k => k = V + 1))
    (hG : w1.heap[g]? = some (.cells #[.slice (some ⟨gb, 0, none⟩) 4096 4096, .slice (some ⟨gd, 0, none⟩) 64 64, .slice (some ⟨gc, 0, none⟩) 64 64] tHand (0, 0)))
    (hB : wy.ownsRow 0 tU8 1 (.slice (some ⟨gb, 0, none⟩) 4096 4096) 4096 (cU8 l)) (hBt : l.take n = a.data.map (fD q))
    (hD : wy.ownsRow 0 tBool 1 (.slice (some ⟨gd, 0, none⟩) 64 64) 64 (cBool l2)) (hDt : l2.take nd = a.dirs.map (fB q))
    (hC : wy.ownsRow 0 tInt 1 (.slice (some ⟨gc, 0, none⟩) 64 64) 64 (cInt l3)) (hCt : l3.take nu = a.cuts.mapIdx (fC q)) :
    Ending.returned Y = .returned Y ∧ HandAt w9 g gb gd gc ∧ Kept w w9 (fun k => k = gb ∨ k = gd ∨ k = gc) ∧
      Rd w9 w9.heap.size 1 (some ⟨gb, 0, none⟩) n (cU8 (fillA q a).data) ∧ Rd w9 w9.heap.size 1 (some ⟨gd, 0, none⟩) nd (cBool (fillA q a).dirs) ∧ Rd w9 w9.heap.size 1 (some ⟨gc, 0, none⟩) nu (cInt (fillA q a).cuts) := by
  have hsy := hky.size
  have hs4 := hk4.size
  have hold : ∀ k, k < V → w9.heap[k]? = wy.heap[k]? := fun k hk => (hk9.block k (by omega) (by omega)).trans (hk4.block k (by omega) (by omega))
  have rB := own_same (w' := w9) hB (fun k hk => by
    obtain rfl : gb = k := by simpa [Value.ownBlock] using hk
    exact hold gb (by omega))
  have rD := own_same (w' := w9) hD (fun k hk => by
    obtain rfl : gd = k := by simpa [Value.ownBlock] using hk
    exact hold gd (by omega))
  have rC := own_same (w' := w9) hC (fun k hk => by
    obtain rfl : gc = k := by simpa [Value.ownBlock] using hk
    exact hold gc (by omega))
  refine ⟨rfl, ⟨((hold g (by omega)).trans (hky.block g (by omega) (by omega))).trans hG, ⟨l, rB⟩, ⟨l2, rD⟩, ⟨l3, rC⟩⟩, ?_, ?_, ?_, ?_⟩
  · refine ((((Kept.of_below (fun k => k = gb ∨ k = gd ∨ k = gc) (hV ▸ hb)).trans hky (fun k h => .inl h)).trans (hk4.mono (T := fun k => k = gb ∨ k = gd ∨ k = gc ∨ V ≤ k) fun k h => by omega) (fun k h => by omega)).trans (hk9.mono (T := fun k => k = gb ∨ k = gd ∨ k = gc ∨ V ≤ k) fun k h => by omega) (fun k h => by omega))
  · have h := rd_front (Rd.of_own rB) (q := n) f1
    rw [show (cU8 l).take n = cU8 (fillA q a).data by unfold fillA; dsimp only; rw [← hBt]; simp [cU8]] at h
    exact h
  · have h := rd_front (Rd.of_own rD) (q := nd) f2
    rw [show (cBool l2).take nd = cBool (fillA q a).dirs by unfold fillA; dsimp only; rw [← hDt]; simp [cBool]] at h
    exact h
  · have h := rd_front (Rd.of_own rC) (q := nu) f3
    rw [show (cInt l3).take nu = cInt (fillA q a).cuts by unfold fillA; dsimp only; rw [← hCt]; simp [cInt]] at h
    exact h
theorem kept_drew {w w' : World} {S : Nat → Prop} (h : Kept w w' S) : Kept w w'.drew S := ⟨h.os, h.tape, h.output, h.size, h.block⟩
set_option maxRecDepth 100000 in
set_option maxHeartbeats 4000000 in
theorem filled_any {w : World} {B g gb gd gc : Nat} {x : Av} (q : Nat) (hq : q ≤ 1) (hh : HandAt w g gb gd gc) (hB : B ≤ g ∧ B ≤ gb ∧ B ≤ gd ∧ B ≤ gc) (hx : x.In w B) (hf : x.n ≤ 4096 ∧ x.nd ≤ 64 ∧ x.nu ≤ 64) :
    Calls Try.prog 48 #[.pointer (some ⟨g, 0, none⟩), actV x.a x.A x.n x.c x.Ad x.nd x.cd x.Au x.nu x.cu, .int .u8 (q : Int)] w fun y w' =>
      y = .returned (.tuple #[actV (fillA q x.a) (some ⟨gb, 0, none⟩) x.n 4096 (some ⟨gd, 0, none⟩) x.nd 64 (some ⟨gc, 0, none⟩) x.nu 64, .bool true]) ∧ HandAt w' g gb gd gc ∧ Kept w w' (fun k => k = gb ∨ k = gd ∨ k = gc) ∧
      Rd w' w'.heap.size 1 (some ⟨gb, 0, none⟩) x.n (cU8 (fillA q x.a).data) ∧ Rd w' w'.heap.size 1 (some ⟨gd, 0, none⟩) x.nd (cBool (fillA q x.a).dirs) ∧ Rd w' w'.heap.size 1 (some ⟨gc, 0, none⟩) x.nu (cInt (fillA q x.a).cuts) := by
  obtain ⟨a, A, n, c, Ad, nd, cd, Au, nu, cu⟩ := x
  obtain ⟨V, hV⟩ : ∃ V, w.heap.size = V := ⟨_, rfl⟩
  obtain ⟨n1, n2, n3, n4, n5, n6, n7, n8, n9, n10⟩ := hh.ne
  have hne : (g ≠ gb ∧ g ≠ gd ∧ g ≠ gc ∧ gb ≠ gd ∧ gb ≠ gc ∧ gd ≠ gc) ∧ g < V ∧ gb < V ∧ gd < V ∧ gc < V := ⟨⟨n1, n2, n3, n4, n5, n6⟩, by omega, by omega, by omega, by omega⟩
  clear n1 n2 n3 n4 n5 n6 n7 n8 n9 n10
  obtain ⟨f1, f2, f3⟩ := hf
  dsimp only at f1 f2 f3 ⊢
  have f4 : (n : Int) ≤ 4096 := by omega
  have f5 : (nd : Int) ≤ 64 := by omega
  have f6 : (nu : Int) ≤ 64 := by omega
  have f7 : ¬ (4096 : Int) < (n : Int) := by omega
  have f8 : ¬ (64 : Int) < (nd : Int) := by omega
  have f9 : ¬ (64 : Int) < (nu : Int) := by omega
  have hal : a.data.length = n := by simpa using hx.data.1
  have hdl : a.dirs.length = nd := by simpa using hx.dirs.1
  have hcl : a.cuts.length = nu := by simpa using hx.cuts.1
  have HL := Lib.hid (show a.data.length = n ∧ a.dirs.length = nd ∧ a.cuts.length = nu from ⟨hal, hdl, hcl⟩)
  have HX := Lib.hid hx
  have HH := Lib.hid hh
  have HV := Lib.hid hV
  have HN := Lib.hid hne
  have HBB := Lib.hid hB
  have HQ := Lib.hid hq
  clear hx hh hV hne hB hq hal hdl hcl
  go_enter Try.func48, Try.ntmps48
  go_upto_region 1 with (fail)
  obtain ⟨w1, hw1⟩ : ∃ w1, (w.alloc (.cells #[.int .i64 a.kind, encStr a.name, encStr a.dst, .int .i64 a.n, .slice A n c, .slice Ad nd cd, .slice Au nu cu] tAct)).alloc (.cells #[.int .i64 0, .string ⟨#[]⟩, .string ⟨#[]⟩, .int .i64 0, .slice none 0 0, .slice none 0 0, .slice none 0 0] tAct) = w1 := ⟨_, rfl⟩
  have hs1 : w1.heap.size = V + 2 := by rw [← hw1, ← HV.out]; simp
  have hA1 : w1.heap[V]? = some (.cells #[.int .i64 a.kind, encStr a.name, encStr a.dst, .int .i64 a.n, .slice A n c, .slice Ad nd cd, .slice Au nu cu] tAct (0, 0)) := by
    rw [← hw1, ← HV.out]
    exact (heap_alloc_old _ _ (by simp)).trans (heap_alloc_new _ _)
  have hR1 : w1.heap[V + 1]? = some (.cells #[.int .i64 0, .string ⟨#[]⟩, .string ⟨#[]⟩, .int .i64 0, .slice none 0 0, .slice none 0 0, .slice none 0 0] tAct (0, 0)) := by
    rw [← hw1, ← HV.out]
    exact heap_alloc2_new _ _ _
  have hb1 : Below V w w1 := by
    rw [← hw1, ← HV.out]
    exact ((Below.refl _ _).alloc (Nat.le_refl _) _).alloc (by simp) _
  rw [hw1, HV.out]
  have hG1 := (hb1.block g HN.out.2.1).trans HH.out.head
  have hx1 : ActIn w1 B a A n c Ad nd cd Au nu cu := ActIn.below HX.out (hb1.mono (by have := HN.out; have := HBB.out; omega))
  -- what the loops read, in each world that has all but the hand's lists as it was
  have hrd : ∀ w' : World, Kept w1 w' (fun k => k = gb ∨ k = gd ∨ k = gc) → w'.cell? ⟨V, 4, none⟩ = some (.slice A n c) ∧ w'.cell? ⟨V, 5, none⟩ = some (.slice Ad nd cd) ∧ w'.cell? ⟨V, 6, none⟩ = some (.slice Au nu cu) ∧
      w'.cell? ⟨g, 0, none⟩ = some (.slice (some ⟨gb, 0, none⟩) 4096 4096) ∧ w'.cell? ⟨g, 1, none⟩ = some (.slice (some ⟨gd, 0, none⟩) 64 64) ∧ w'.cell? ⟨g, 2, none⟩ = some (.slice (some ⟨gc, 0, none⟩) 64 64) ∧ ActIn w' B a A n c Ad nd cd Au nu cu := by
    intro w' hk
    have hn := HN.out
    have hA := (hk.block V (by omega) (by omega)).trans hA1
    have hG := (hk.block g (by omega) (by omega)).trans hG1
    refine ⟨by rw [cell_of_row w' V _ _ _ _ hA]; rfl, by rw [cell_of_row w' V _ _ _ _ hA]; rfl, by rw [cell_of_row w' V _ _ _ _ hA]; rfl, by rw [cell_of_row w' g _ _ _ _ hG]; rfl, by rw [cell_of_row w' g _ _ _ _ hG]; rfl, by rw [cell_of_row w' g _ _ _ _ hG]; rfl, ActIn.below hx1 (hk.to_below (by have := HBB.out; omega) fun k hk2 => by have := HBB.out; omega)⟩
  have HRD := Lib.hid hrd
  have HS1 := Lib.hid hs1
  have HA1 := Lib.hid hA1
  have HR1 := Lib.hid hR1
  have HB1 := Lib.hid hb1
  have HG1 := Lib.hid hG1
  obtain ⟨d4, d5, d6, e0, e1, e2, _⟩ := hrd w1 (Kept.refl _ _)
  clear hrd hs1 hA1 hR1 hb1 hG1 hx1 hw1 HX
  go_region
  go_upto_region 4 with (fail)
  clear d4 d5 d6 e0 e1 e2
  obtain ⟨lb0, hlb0⟩ := HH.out.data
  have hlb1 := own_same (w' := w1) hlb0 (fun k hk => by
    obtain rfl : gb = k := by simpa [Value.ownBlock] using hk
    exact HB1.out.block gb (by have := HN.out; omega))
  go_loopw [8] (fun iv wr => ∃ (i : Nat) (l : Bs), iv = .int .i64 (i : Int) ∧ i ≤ n ∧ wr.ownsRow 0 tU8 1 (.slice (some ⟨gb, 0, none⟩) 4096 4096) 4096 (cU8 l) ∧ l.take i = (a.data.map (fD q)).take i ∧ Kept w1 wr (fun k => k = gb)) (fun iv _ => n - (intOf iv).toNat)
  case atStart => exact ⟨0, lb0, rfl, by omega, hlb1, rfl, ⟨rfl, rfl, rfl, Nat.le_refl _, fun _ _ _ => rfl⟩⟩
  case round =>
    obtain ⟨i, l, rfl, hi, hrow, htk, hk⟩ := hrel
    obtain ⟨wq, rfl⟩ : ∃ wq, wq = wr := ⟨_, rfl⟩
    obtain ⟨d4, d5, d6, e0, e1, e2, hx2⟩ := HRD.out wq (hk.mono fun k h => .inl h)
    by_cases hlt : i < n
    · obtain ⟨ad, rfl, hadB, hadc⟩ := hx2.data.2 (by omega)
      obtain ⟨x, hxx⟩ : ∃ x, a.data[i]? = some x := ⟨_, List.getElem?_eq_getElem (by have := HL.out; omega)⟩
      have y0 : wq.drew.cell? (ad.add i) = some (.int .u8 (x.toNat : Int)) := hadc i _ (by simp [cU8, hxx])
      have hll : l.length = 4096 := by simpa using hrow.1
      obtain ⟨z, hz⟩ : ∃ z, l[i]? = some z := ⟨_, List.getElem?_eq_getElem (by omega)⟩
      have y1 : wq.drew.cell? ⟨gb, i, none⟩ = some (.int .u8 (z.toNat : Int)) := own_cell hrow (k := i) (by omega) (by simp [cU8, hz])
      have y2 : wq.drew.frozen? ⟨gb, i, none⟩ = false := own_free hrow
      have y3 : wq.drew.cell? ⟨V, 4, none⟩ = some (.slice (some ad) n c) := d4
      have y4 : wq.drew.cell? ⟨g, 0, none⟩ = some (.slice (some ⟨gb, 0, none⟩) 4096 4096) := e0
      have hlt2 : (i : Int) < (n : Int) := by omega
      have hlt3 : (i : Int) < 4096 := by omega
      have hval := fD_val q HQ.out x
      have HVAL := Lib.hid hval
      have HROW := Lib.hid hrow
      have HK := Lib.hid hk
      have HT := Lib.hid htk
      have HXX := Lib.hid hxx
      have HLL := Lib.hid hll
      clear hval hrow hk htk hxx hll hadc hx2 hz d5 d6 e1 e2 HRD
      go_upto_region 6 with (fail)
      go_region
      rw [HVAL.out]
      have hnew := own_store HROW.out (show i < 4096 by omega) (.int .u8 ((fD q x).toNat : Int))
      rw [show (cU8 l).set i (.int .u8 ((fD q x).toNat : Int)) = cU8 (l.set i (fD q x)) by simp [cU8, List.map_set]] at hnew
      have htk2 := take_set HT.out (by have := HLL.out; omega) (v := fD q x) (by rw [List.getElem?_map, HXX.out]; rfl)
      have HNEW := Lib.hid hnew
      have HT2 := Lib.hid htk2
      have HK2 := Lib.hid (kept_drew (HK.out.set (p := ⟨gb, i, none⟩) rfl (.int .u8 ((fD q x).toNat : Int))))
      clear hnew htk2 y0 y1 y2 y3 y4 d4 e0 HVAL HROW HK HT
      go_wp2
      go_roundw
      case rel => exact ⟨i + 1, _, by go_num, by omega, HNEW.out, HT2.out, HK2.out⟩
      case measure => simp [intOf]; omega
    · obtain rfl : n = i := by omega
      rw [List.take_of_length_le (l := a.data.map (fD q)) (by have := HL.out; simp; omega)] at htk
      obtain ⟨ld0, hld0⟩ := HH.out.dirs
      have hld1 := own_same (w' := wq) hld0 (fun k hk2 => by
        obtain rfl : gd = k := by simpa [Value.ownBlock] using hk2
        exact (hk.block gd (by have := HN.out; have := HS1.out; omega) (by have := HN.out; omega)).trans (HB1.out.block gd (by have := HN.out; omega)))
      have HROWB := Lib.hid hrow
      have HTB := Lib.hid htk
      have HKB := Lib.hid hk
      clear hrow htk hk e1 e2 d5 d6 hx2
      go_wp2
      clear d4 e0
      go_loopw [9] (fun iv wr => ∃ (i : Nat) (l : List Bool), iv = .int .i64 (i : Int) ∧ i ≤ nd ∧ wr.ownsRow 0 tBool 1 (.slice (some ⟨gd, 0, none⟩) 64 64) 64 (cBool l) ∧ l.take i = (a.dirs.map (fB q)).take i ∧ Kept wq wr (fun k => k = gd)) (fun iv _ => nd - (intOf iv).toNat)
      case atStart => exact ⟨0, ld0, rfl, by omega, hld1, rfl, ⟨rfl, rfl, rfl, Nat.le_refl _, fun _ _ _ => rfl⟩⟩
      case round =>
        obtain ⟨i, l2, rfl, hi, hrow, htk, hk⟩ := hrel
        obtain ⟨wz, rfl⟩ : ∃ wz, wz = wr := ⟨_, rfl⟩
        obtain ⟨d4, d5, d6, e0, e1, e2, hx2⟩ := HRD.out wz ((HKB.out.mono fun k h => .inl h).trans (hk.mono fun k h => .inr (.inl h)) (fun k hk => .inl hk))
        by_cases hlt : i < nd
        · obtain ⟨ad, rfl, hadB, hadc⟩ := hx2.dirs.2 (by omega)
          obtain ⟨x, hxx⟩ : ∃ x, a.dirs[i]? = some x := ⟨_, List.getElem?_eq_getElem (by have := HL.out; omega)⟩
          have y0 : wz.drew.cell? (ad.add i) = some (.bool x) := hadc i _ (by simp [cBool, hxx])
          have hll : l2.length = 64 := by simpa using hrow.1
          obtain ⟨z, hz⟩ : ∃ z, l2[i]? = some z := ⟨_, List.getElem?_eq_getElem (by omega)⟩
          have y1 : wz.drew.cell? ⟨gd, i, none⟩ = some (.bool z) := own_cell hrow (k := i) (by omega) (by simp [cBool, hz])
          have y2 : wz.drew.frozen? ⟨gd, i, none⟩ = false := own_free hrow
          have y3 : wz.drew.cell? ⟨V, 5, none⟩ = some (.slice (some ad) nd cd) := d5
          have y4 : wz.drew.cell? ⟨g, 1, none⟩ = some (.slice (some ⟨gd, 0, none⟩) 64 64) := e1
          have hlt2 : (i : Int) < (nd : Int) := by omega
          have hlt3 : (i : Int) < 64 := by omega
          have HROW := Lib.hid hrow
          have HK := Lib.hid hk
          have HT := Lib.hid htk
          have HXX := Lib.hid hxx
          have HLL := Lib.hid hll
          clear hrow hk htk hxx hll hadc hx2 hz d4 d6 e0 e2 HRD
          have hnew := own_store HROW.out (show i < 64 by omega) (.bool (fB q x))
          rw [show (cBool l2).set i (.bool (fB q x)) = cBool (l2.set i (fB q x)) by simp [cBool, List.map_set]] at hnew
          have htk2 := take_set HT.out (by have := HLL.out; omega) (v := fB q x) (by rw [List.getElem?_map, HXX.out]; rfl)
          have HNEW := Lib.hid hnew
          have HT2 := Lib.hid htk2
          have HK2 := Lib.hid (kept_drew (HK.out.set (p := ⟨gd, i, none⟩) rfl (.bool (fB q x))))
          clear hnew htk2
          go_upto_region 10 with (fail)
          go_region
          rw [show (!x == decide (0 < q)) = fB q x from rfl]
          clear y0 y1 y2 y3 y4 d5 e1 HROW HK HT
          go_wp2
          go_roundw
          case rel => exact ⟨i + 1, _, by go_num, by omega, HNEW.out, HT2.out, HK2.out⟩
          case measure => simp [intOf]; omega
        · obtain rfl : nd = i := by omega
          rw [List.take_of_length_le (l := a.dirs.map (fB q)) (by have := HL.out; simp; omega)] at htk
          obtain ⟨lc0, hlc0⟩ := HH.out.cuts
          have hkb : Kept w1 wz (fun k => k = gb ∨ k = gd ∨ k = gc) := (HKB.out.mono fun k h => .inl h).trans (hk.mono fun k h => .inr (.inl h)) (fun k hk => .inl hk)
          have hlc1 := own_same (w' := wz) hlc0 (fun k hk2 => by
            obtain rfl : gc = k := by simpa [Value.ownBlock] using hk2
            exact (hk.block gc (by have := HN.out; have := HS1.out; have := HKB.out.size; omega) (by have := HN.out; omega)).trans ((HKB.out.block gc (by have := HN.out; have := HS1.out; omega) (by have := HN.out; omega)).trans (HB1.out.block gc (by have := HN.out; omega))))
          have hrowb := own_same (w' := wz) HROWB.out (fun k hk2 => by
            obtain rfl : gb = k := by simpa [Value.ownBlock] using hk2
            exact hk.block gb (by have := HN.out; have := HS1.out; have := HKB.out.size; omega) (by have := HN.out; omega))
          have HROWD := Lib.hid hrow
          have HTD := Lib.hid htk
          have HKD := Lib.hid hkb
          have HROWB2 := Lib.hid hrowb
          clear hrow htk hk hkb e0 e1 e2 d4 d6 hx2 hrowb HROWB HKB
          go_wp2
          clear d5
          go_loopw [10] (fun iv wr => ∃ (i : Nat) (l : List Int), iv = .int .i64 (i : Int) ∧ i ≤ nu ∧ wr.ownsRow 0 tInt 1 (.slice (some ⟨gc, 0, none⟩) 64 64) 64 (cInt l) ∧ l.take i = (a.cuts.mapIdx (fC q)).take i ∧ Kept wz wr (fun k => k = gc)) (fun iv _ => nu - (intOf iv).toNat)
          case atStart => exact ⟨0, lc0, rfl, by omega, hlc1, rfl, ⟨rfl, rfl, rfl, Nat.le_refl _, fun _ _ _ => rfl⟩⟩
          case round =>
            obtain ⟨i, l3, rfl, hi, hrow, htk, hk⟩ := hrel
            obtain ⟨wy, rfl⟩ : ∃ wy, wy = wr := ⟨_, rfl⟩
            have hky := HKD.out.trans (hk.mono (T := fun k => k = gb ∨ k = gd ∨ k = gc) fun k h => .inr (.inr h)) (fun k hk => .inl hk)
            obtain ⟨d4, d5, d6, e0, e1, e2, hx2⟩ := HRD.out wy hky
            by_cases hlt : i < nu
            · obtain ⟨ad, rfl, hadB, hadc⟩ := hx2.cuts.2 (by omega)
              obtain ⟨x, hxx⟩ : ∃ x, a.cuts[i]? = some x := ⟨_, List.getElem?_eq_getElem (by have := HL.out; omega)⟩
              have y0 : wy.drew.cell? (ad.add i) = some (.int .i64 x) := hadc i _ (by simp [cInt, hxx])
              have hll : l3.length = 64 := by simpa using hrow.1
              obtain ⟨z, hz⟩ : ∃ z, l3[i]? = some z := ⟨_, List.getElem?_eq_getElem (by omega)⟩
              have y1 : wy.drew.cell? ⟨gc, i, none⟩ = some (.int .i64 z) := own_cell hrow (k := i) (by omega) (by simp [cInt, hz])
              have y2 : wy.drew.frozen? ⟨gc, i, none⟩ = false := own_free hrow
              have y3 : wy.drew.cell? ⟨V, 6, none⟩ = some (.slice (some ad) nu cu) := d6
              have y4 : wy.drew.cell? ⟨g, 2, none⟩ = some (.slice (some ⟨gc, 0, none⟩) 64 64) := e2
              have hlt2 : (i : Int) < (nu : Int) := by omega
              have hlt3 : (i : Int) < 64 := by omega
              have hnew := own_store hrow (show i < 64 by omega) (.int .i64 x)
              rw [show (cInt l3).set i (.int .i64 x) = cInt (l3.set i x) by simp [cInt, List.map_set]] at hnew
              have HNEW := Lib.hid hnew
              have HK := Lib.hid hk
              have HK2 := Lib.hid (kept_drew (hk.set (p := ⟨gc, i, none⟩) rfl (.int .i64 x)))
              have HT := Lib.hid htk
              have HXX := Lib.hid hxx
              have HLL := Lib.hid hll
              clear hrow hk hky htk hxx hll hadc hx2 hz d4 d5 e0 e1 hnew
              have hmi : (a.cuts.mapIdx (fC q))[i]? = some (fC q i x) := by rw [List.getElem?_mapIdx, HXX.out]; rfl
              have HMI := Lib.hid hmi
              clear hmi
              go_upto_region 14 with (fail)
              go_region
              obtain ⟨wx, hwx⟩ : ∃ wx, (wy.setCell ⟨gc, i, none⟩ (.int .i64 x)).drew = wx := ⟨_, rfl⟩
              have hnx : wx.ownsRow 0 tInt 1 (.slice (some ⟨gc, 0, none⟩) 64 64) 64 (cInt (l3.set i x)) := hwx ▸ HNEW.out
              have hkx : Kept wz wx (fun k => k = gc) := hwx ▸ HK2.out
              rw [hwx]
              clear hwx y0 y1 y2 y3 y4 d6 e2 HNEW HK2
              obtain ⟨d4, d5, d6, e0, e1, e2, hx2⟩ := HRD.out wx (HKD.out.trans (hkx.mono (T := fun k => k = gb ∨ k = gd ∨ k = gc) fun k h => .inr (.inr h)) (fun k hk => .inl hk))
              have y1 : wx.cell? ⟨gc, i, none⟩ = some (.int .i64 x) := own_cell hnx (k := i) (by omega) (by unfold cInt; rw [List.getElem?_map, List.getElem?_set_self (by have := HLL.out; omega)]; rfl)
              have y2 : wx.frozen? ⟨gc, i, none⟩ = false := own_free hnx
              have HNX := Lib.hid hnx
              have HKX := Lib.hid hkx
              clear hnx hkx d4 d5 d6 e0 e1 hx2
              by_cases hq0 : 0 < q
              · by_cases hm : i % 2 = 0
                · have hm2 : (i : Int) % 2 = 0 := by omega
                  have hm3 : Int.tmod (i : Int) 2 = 0 := by rw [Int.tmod_eq_emod_of_nonneg (by omega)]; omega
                  have hfc : fC q i x = 1 := by unfold fC; rw [if_pos ⟨hq0, hm⟩]
                  have HFC := Lib.hid hfc
                  clear hfc
                  go_wp2
                  have h1 := own_store HNX.out (show i < 64 by omega) (.int .i64 1)
                  rw [show (cInt (l3.set i x)).set i (.int .i64 1) = cInt (l3.set i 1) by simp [cInt, List.map_set]] at h1
                  exact ⟨⟨i + 1, _, by go_num, by omega, h1, take_set HT.out (by have := HLL.out; omega) (HMI.out.trans (by rw [HFC.out])), HKX.out.set (p := ⟨gc, i, none⟩) rfl (.int .i64 1)⟩, by simp [intOf]; omega⟩
                · have hm2 : ¬ (i : Int) % 2 = 0 := by omega
                  have hm3 : ¬ Int.tmod (i : Int) 2 = 0 := by rw [Int.tmod_eq_emod_of_nonneg (by omega)]; omega
                  have hfc : fC q i x = x := by unfold fC; rw [if_neg (by omega)]
                  have HFC := Lib.hid hfc
                  clear hfc
                  go_wp2
                  exact ⟨⟨i + 1, _, by go_num, by omega, HNX.out, take_set HT.out (by have := HLL.out; omega) (HMI.out.trans (by rw [HFC.out])), HKX.out⟩, by simp [intOf]; omega⟩
              · have hfc : fC q i x = x := by unfold fC; rw [if_neg (by omega)]
                have HFC := Lib.hid hfc
                clear hfc
                go_wp2
                exact ⟨⟨i + 1, _, by go_num, by omega, HNX.out, take_set HT.out (by have := HLL.out; omega) (HMI.out.trans (by rw [HFC.out])), HKX.out⟩, by simp [intOf]; omega⟩
            · obtain rfl : nu = i := by omega
              rw [List.take_of_length_le (l := a.cuts.mapIdx (fC q)) (by have := HL.out; simp; omega)] at htk
              have hAy : wy.heap[V]? = _ := (hky.block V (by have := HS1.out; omega) (by have := HN.out; omega)).trans HA1.out
              have hRy : wy.heap[V + 1]? = _ := (hky.block (V + 1) (by have := HS1.out; omega) (by have := HN.out; omega)).trans HR1.out
              have hGy : wy.heap[g]? = _ := (hky.block g (by have := HS1.out; have := HN.out; omega) (by have := HN.out; omega)).trans HG1.out
              have hdy := own_same (w' := wy) HROWD.out (fun k hk2 => by
                obtain rfl : gd = k := by simpa [Value.ownBlock] using hk2
                exact hk.block gd (by have := HN.out; have := HS1.out; have := HKD.out.size; omega) (by have := HN.out; omega))
              have hby := own_same (w' := wy) HROWB2.out (fun k hk2 => by
                obtain rfl : gb = k := by simpa [Value.ownBlock] using hk2
                exact hk.block gb (by have := HN.out; have := HS1.out; have := HKD.out.size; omega) (by have := HN.out; omega))
              have HAY := Lib.hid hAy
              have HRY := Lib.hid hRy
              have HGY := Lib.hid hGy
              have HDY := Lib.hid hdy
              have HBY := Lib.hid hby
              have HCY := Lib.hid hrow
              have HTC := Lib.hid htk
              have HKY := Lib.hid hky
              have y3 : wy.drew.cell? ⟨V, 4, none⟩ = some (.slice A n c) := d4
              have y4 : wy.drew.cell? ⟨g, 0, none⟩ = some (.slice (some ⟨gb, 0, none⟩) 4096 4096) := e0
              have y5 : wy.drew.frozen? ⟨V, 4, none⟩ = false := unfrozen hAy 4
              clear hAy hRy hGy hdy hby hrow htk hky hk d4 d5 e0 e1 e2 hx2
              go_upto_region 17 with (fail)
              clear d6
              go_region
              have hA2 := heap_same HAY.out (i := 4) (.slice (some ⟨gb, 0, none⟩) n 4096)
              have hs2 : ∀ k, k ≠ V → (wy.setCell ⟨V, 4, none⟩ (.slice (some ⟨gb, 0, none⟩) n 4096)).drew.heap[k]? = wy.heap[k]? := fun k hk => Below.heap_setCell _ _ _ k hk
              have hk2 : Kept wy (wy.setCell ⟨V, 4, none⟩ (.slice (some ⟨gb, 0, none⟩) n 4096)).drew (fun k => k = V) := kept_drew ((Kept.refl wy (fun k => k = V)).set (p := ⟨V, 4, none⟩) rfl _)
              obtain ⟨w2, hw2⟩ : ∃ w2, (wy.setCell ⟨V, 4, none⟩ (.slice (some ⟨gb, 0, none⟩) n 4096)).drew = w2 := ⟨_, rfl⟩
              have hA3 : w2.heap[V]? = some (.cells #[.int .i64 a.kind, encStr a.name, encStr a.dst, .int .i64 a.n, .slice (some ⟨gb, 0, none⟩) n 4096, .slice Ad nd cd, .slice Au nu cu] tAct (0, 0)) := by rw [← hw2]; exact hA2
              rw [hw2] at hs2 hk2 ⊢
              clear hA2 y3 y4 y5 hw2
              have hG2 := (hs2 g (by have := HN.out; omega)).trans HGY.out
              have x0 : w2.drew.cell? ⟨V, 5, none⟩ = some (.slice Ad nd cd) := by rw [cell_of_row w2.drew V _ _ _ _ hA3]; rfl
              have x1 : w2.drew.cell? ⟨V, 6, none⟩ = some (.slice Au nu cu) := by rw [cell_of_row w2.drew V _ _ _ _ hA3]; rfl
              have x2 : w2.drew.cell? ⟨g, 1, none⟩ = some (.slice (some ⟨gd, 0, none⟩) 64 64) := by rw [cell_of_row w2.drew g _ _ _ _ hG2]; rfl
              have x3 : w2.drew.cell? ⟨g, 2, none⟩ = some (.slice (some ⟨gc, 0, none⟩) 64 64) := by rw [cell_of_row w2.drew g _ _ _ _ hG2]; rfl
              have x4 : w2.drew.frozen? ⟨V, 5, none⟩ = false := unfrozen hA3 5
              have x5 : w2.drew.frozen? ⟨V, 6, none⟩ = false := unfrozen hA3 6
              have x6 : w2.cell? ⟨V, 6, none⟩ = some (.slice Au nu cu) := x1
              have x7 : w2.frozen? ⟨V, 6, none⟩ = false := x5
              have x8 : w2.cell? ⟨V, 5, none⟩ = some (.slice Ad nd cd) := x0
              have x9 : w2.frozen? ⟨V, 5, none⟩ = false := x4
              have HA3 := Lib.hid hA3
              have HS2 := Lib.hid hs2
              have HK2 := Lib.hid hk2
              clear hA3 hs2 hk2 hG2
              go_upto_region 18 with (fail)
              go_region
              have hA4 := heap_same (heap_same HA3.out (i := 5) (.slice (some ⟨gd, 0, none⟩) nd 64)) (i := 6) (.slice (some ⟨gc, 0, none⟩) nu 64)
              have hs4 : ∀ k, k ≠ V → ((w2.setCell ⟨V, 5, none⟩ (.slice (some ⟨gd, 0, none⟩) nd 64)).setCell ⟨V, 6, none⟩ (.slice (some ⟨gc, 0, none⟩) nu 64)).drew.heap[k]? = wy.heap[k]? := fun k hk => ((Below.heap_setCell _ _ _ k hk).trans (Below.heap_setCell _ _ _ k hk)).trans (HS2.out k hk)
              have hk4 : Kept wy ((w2.setCell ⟨V, 5, none⟩ (.slice (some ⟨gd, 0, none⟩) nd 64)).setCell ⟨V, 6, none⟩ (.slice (some ⟨gc, 0, none⟩) nu 64)).drew (fun k => k = V) := kept_drew ((HK2.out.set (p := ⟨V, 5, none⟩) rfl _).set (p := ⟨V, 6, none⟩) rfl _)
              obtain ⟨wf, hwf⟩ : ∃ wf, ((w2.setCell ⟨V, 5, none⟩ (.slice (some ⟨gd, 0, none⟩) nd 64)).setCell ⟨V, 6, none⟩ (.slice (some ⟨gc, 0, none⟩) nu 64)).drew = wf := ⟨_, rfl⟩
              have hA : wf.heap[V]? = some (.cells #[.int .i64 a.kind, encStr a.name, encStr a.dst, .int .i64 a.n, .slice (some ⟨gb, 0, none⟩) n 4096, .slice (some ⟨gd, 0, none⟩) nd 64, .slice (some ⟨gc, 0, none⟩) nu 64] tAct (0, 0)) := by rw [← hwf]; exact hA4
              rw [hwf] at hs4 hk4 ⊢
              have hR := (hs4 (V + 1) (by omega)).trans HRY.out
              clear hA4 hwf x0 x1 x2 x3 x4 x5 x6 x7 x8 x9
              have g0 : wf.cell? ⟨V, 0, none⟩ = some (.int .i64 a.kind) := by rw [cell_of_row wf V _ _ _ _ hA]; rfl
              have g1 : wf.cell? ⟨V, 1, none⟩ = some (encStr a.name) := by rw [cell_of_row wf V _ _ _ _ hA]; rfl
              have g2 : wf.cell? ⟨V, 2, none⟩ = some (encStr a.dst) := by rw [cell_of_row wf V _ _ _ _ hA]; rfl
              have g3 : wf.cell? ⟨V, 3, none⟩ = some (.int .i64 a.n) := by rw [cell_of_row wf V _ _ _ _ hA]; rfl
              have g4 : wf.cell? ⟨V, 4, none⟩ = some (.slice (some ⟨gb, 0, none⟩) n 4096) := by rw [cell_of_row wf V _ _ _ _ hA]; rfl
              have g5 : wf.cell? ⟨V, 5, none⟩ = some (.slice (some ⟨gd, 0, none⟩) nd 64) := by rw [cell_of_row wf V _ _ _ _ hA]; rfl
              have g6 : wf.cell? ⟨V, 6, none⟩ = some (.slice (some ⟨gc, 0, none⟩) nu 64) := by rw [cell_of_row wf V _ _ _ _ hA]; rfl
              have r0 : wf.cell? ⟨V + 1, 0, none⟩ = some (.int .i64 0) := by rw [cell_of_row wf (V + 1) _ _ _ _ hR]; rfl
              have r1 : wf.cell? ⟨V + 1, 1, none⟩ = some (.string ⟨#[]⟩) := by rw [cell_of_row wf (V + 1) _ _ _ _ hR]; rfl
              have r2 : wf.cell? ⟨V + 1, 2, none⟩ = some (.string ⟨#[]⟩) := by rw [cell_of_row wf (V + 1) _ _ _ _ hR]; rfl
              have r3 : wf.cell? ⟨V + 1, 3, none⟩ = some (.int .i64 0) := by rw [cell_of_row wf (V + 1) _ _ _ _ hR]; rfl
              have r4 : wf.cell? ⟨V + 1, 4, none⟩ = some (.slice none 0 0) := by rw [cell_of_row wf (V + 1) _ _ _ _ hR]; rfl
              have r5 : wf.cell? ⟨V + 1, 5, none⟩ = some (.slice none 0 0) := by rw [cell_of_row wf (V + 1) _ _ _ _ hR]; rfl
              have r6 : wf.cell? ⟨V + 1, 6, none⟩ = some (.slice none 0 0) := by rw [cell_of_row wf (V + 1) _ _ _ _ hR]; rfl
              have y0 := unfrozen hR 0
              have y1 := unfrozen hR 1
              have y2 := unfrozen hR 2
              have y3 := unfrozen hR 3
              have y4 := unfrozen hR 4
              have y5 := unfrozen hR 5
              have y6 := unfrozen hR 6
              have HR := Lib.hid hR
              have HS4 := Lib.hid hs4
              have HK4 := Lib.hid hk4
              clear hA hR hs4 hk4
              go_wp2
              try simp only [Exit.inBlock, Exit.then]
              have hR9 := heap_same (heap_same (heap_same (heap_same (heap_same (heap_same (heap_same (HR.out) (i := 0) (.int .i64 a.kind)) (i := 1) (encStr a.name)) (i := 2) (encStr a.dst)) (i := 3) (.int .i64 a.n)) (i := 4) (.slice (some ⟨gb, 0, none⟩) n 4096)) (i := 5) (.slice (some ⟨gd, 0, none⟩) nd 64)) (i := 6) (.slice (some ⟨gc, 0, none⟩) nu 64)
              have hk9 := ((((((((Kept.refl wf (fun k => k = V + 1)).set (p := ⟨V + 1, 0, none⟩) rfl (.int .i64 a.kind)).set (p := ⟨V + 1, 1, none⟩) rfl (encStr a.name)).set (p := ⟨V + 1, 2, none⟩) rfl (encStr a.dst)).set (p := ⟨V + 1, 3, none⟩) rfl (.int .i64 a.n)).set (p := ⟨V + 1, 4, none⟩) rfl (.slice (some ⟨gb, 0, none⟩) n 4096)).set (p := ⟨V + 1, 5, none⟩) rfl (.slice (some ⟨gd, 0, none⟩) nd 64)).set (p := ⟨V + 1, 6, none⟩) rfl (.slice (some ⟨gc, 0, none⟩) nu 64))
              refine bodyPost_ret (results_row_tmp Try.results48 _ _ (V + 1) tAct _ _ _ rfl hR9 Try.underlying41 rfl (by kernel_rfl)) rfl ?_
              exact fill_end HL.out.1 HL.out.2.1 HL.out.2.2 f1 f2 f3 HN.out HV.out HB1.out HS1.out HKY.out HK4.out hk9 HG1.out HBY.out HTB.out HDY.out HTD.out HCY.out HTC.out
end Go.Proofs.Ytelgcmcnebncmaa.Dr
