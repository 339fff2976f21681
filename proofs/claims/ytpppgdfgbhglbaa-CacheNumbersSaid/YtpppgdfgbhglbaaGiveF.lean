/- The walk of a cache's 'giveUp'. -/
import Derived.Test.YtpppgdfgbhglbaaCutF
namespace Go.Proofs.Ytpppgdfgbhglbaa.CaF
open Go.RowKit Go.Proofs Go.Proofs.Ytpppgdfgbhglbaa.Fl Go.Proofs.Ytpppgdfgbhglbaa.Ring Go.Proofs.Ytpppgdfgbhglbaa.Lru

abbrev tF : TypeId := 42
theorem ftyp : Try.prog.underlying tF = some (.float .f64) := Try.underlying42
/-- A key as it was put: a number of that class. -/
abbrev okF (c : Nat) (v : Fv) : Prop := v.1 < 18446744073709551616 ∧ ¬ fnan v.1 ∧ fcls v.1 = c
structure CAt (w : World) (S : Nat → Prop) (c room : Nat) (L : List (En Nat Fv)) (cnt : Nat) (mv : Value) : Prop where
  ring : Rg w c (.int .i64 (room : Int)) (.int .i64 (sumW (its L) : Int)) mv L
  map : FMap w mv cnt (place L)
  keys : (L.map (·.key)).Nodup
  oks : ∀ e ∈ L, okF e.key e.val
  fits : sumW (its L) ≤ room
  len : L.length ≤ cnt
  mine : S c
  ents : ∀ e ∈ L, S e.b
  maps : ∀ b, mapBlock mv = some b → S b
  low : ∀ k, S k → k < w.heap.size
theorem CAt.kept {w w' : World} {S : Nat → Prop} {c room cnt : Nat} {L : List (En Nat Fv)} {mv : Value} (h : CAt w S c room L cnt mv) {U : Nat → Prop} (hk : Kept w w' U) (hd : ∀ k, S k → ¬ U k) : CAt w' S c room L cnt mv := by
  have hb : ∀ k, S k → w'.heap[k]? = w.heap[k]? := fun k hs => hk.block k (h.low k hs) (hd k hs)
  exact ⟨h.ring.same (hb c h.mine) fun e he => hb _ (h.ents e he), h.map.same fun b hm => hb b (h.maps b hm), h.keys, h.oks, h.fits, h.len, h.mine, h.ents, h.maps, fun k hs => Nat.lt_of_lt_of_le (h.low k hs) hk.size⟩
/-- Where a number's entry lies; what is none has none. -/
def fplace (L : List (En Nat Fv)) (k : Nat) : Option Nat := if fnan k then none else place L (fcls k)
theorem fplace_some {L : List (En Nat Fv)} {k b : Nat} (h : fplace L k = some b) : ¬ fnan k ∧ place L (fcls k) = some b := by
  unfold fplace at h
  split at h
  · cases h
  · rename_i hn; exact ⟨hn, h⟩
def outF (k : Nat) (l : List (It Nat Fv)) : List (It Nat Fv) := if fnan k then l else out (fcls k) l
def seekF (k : Nat) (l : List (It Nat Fv)) : Option (It Nat Fv) := if fnan k then none else seek (fcls k) l
def getF (k : Nat) (l : List (It Nat Fv)) : List (It Nat Fv) := if fnan k then l else Lru.get (fcls k) l
theorem outF_none {L : List (En Nat Fv)} {k : Nat} (h : fplace L k = none) : outF k (its L) = its L := by
  unfold outF
  unfold fplace at h
  split
  · rfl
  · rename_i hn
    rw [if_neg hn] at h
    rw [out_none]
    intro e he
    obtain ⟨a, ha, rfl⟩ := List.mem_map.1 he
    exact place_none h a ha
theorem seekF_none {L : List (En Nat Fv)} {k : Nat} (h : fplace L k = none) : seekF k (its L) = none ∧ getF k (its L) = its L := by
  unfold seekF getF
  unfold fplace at h
  split
  · exact ⟨rfl, rfl⟩
  · rename_i hn
    rw [if_neg hn] at h
    have h1 := seek_its_none h
    refine ⟨h1, ?_⟩
    unfold Lru.get
    rw [h1]

theorem mem_cut {l1 l2 : List (En Nat Fv)} {e a : En Nat Fv} (h : a ∈ l1 ++ l2) : a ∈ l1 ++ e :: l2 := by
  rcases List.mem_append.1 h with h | h
  · exact List.mem_append_left _ h
  · exact List.mem_append_right _ (List.mem_cons_of_mem _ h)
theorem mem_lead {l1 l2 : List (En Nat Fv)} {e a : En Nat Fv} (h : a ∈ e :: (l1 ++ l2)) : a ∈ l1 ++ e :: l2 := by
  rcases List.mem_cons.1 h with h | h
  · subst h; simp
  · exact mem_cut h

set_option maxRecDepth 100000 in
set_option maxHeartbeats 1000000 in
theorem give_any {w : World} {S : Nat → Prop} {c room cnt : Nat} {l1 l2 : List (En Nat Fv)} {e : En Nat Fv} {mv : Value} (h : CAt w S c room (l1 ++ e :: l2) cnt mv) (hr : room ≤ 1073741824) :
    Calls Try.prog 43 #[.pointer (some ⟨c, 0, none⟩), .pointer (some ⟨e.b, 0, none⟩)] w fun x w' => x = .returned (.tuple #[]) ∧ CAt w' S c room (l1 ++ l2) cnt mv ∧ Kept w w' S ∧ w'.heap.size = w.heap.size := by
  obtain ⟨n, hn⟩ : ∃ n, sumW (its (l1 ++ e :: l2)) = n := ⟨_, rfl⟩
  have hsum := sumW_its_lead l1 l2 e
  rw [hn] at hsum
  have hfit := h.fits
  rw [hn] at hfit
  have hring : RingAt (fun (_ : Nat) (v : Fv) => Value.float .f64 v.1) (fun (v : Fv) => encStr v.2) tE tC w c (.int .i64 (room : Int)) (.int .i64 (n : Int)) mv (l1 ++ e :: l2) := hn ▸ h.ring
  have hkl : okF e.key e.val := h.oks e (by simp)
  have HH := Lib.hid h
  have HS := Lib.hid hsum
  clear h hsum hn
  go_enter Try.func43, Try.ntmps43
  go_wp2_with (first
    | (go_at_call 45; refine (cut_any hring).mono ?_; rintro x w1 ⟨rfl, hr1, he1, hk1, hz1⟩; have c1 := hr1.head.cell 1; have c2 := hr1.head.cell 2; have f1 := hr1.head.frozen 1; have e2 := he1.cell 2; have e0 := he1.cell 0; simp only [List.getElem?_toArray] at c1 c2 e2 e0))
  have hsub : (n : Int) - (e.wt : Int) = ((sumW (its (l1 ++ l2)) : Nat) : Int) := by rw [HS.out]; omega
  have hwt : e.wt ≤ n := by rw [HS.out]; omega
  have HSUB := Lib.hid hsub
  clear hsub
  go_region
  have hm1 : FMap w1 mv cnt (place (l1 ++ e :: l2)) := by
    refine HH.out.map.same fun b hb => hk1.block b (HH.out.map.lt hb) ?_
    rintro (rfl | ⟨a, ha, rfl⟩)
    · exact HH.out.map.apart hb HH.out.ring.head rfl
    · obtain ⟨x, y, h1⟩ := seg_mem HH.out.ring.seg ha
      exact HH.out.map.apart hb h1 rfl
  have hm2 : FMap ((w1.setCell ⟨c, 1, none⟩ (.int .i64 ((n : Int) - (e.wt : Int)))).drew.drew) mv cnt (place (l1 ++ e :: l2)) := hm1.set hr1.head 1 _
  obtain ⟨w3, hrun, hm3, hg3, hz3⟩ := hm2.drop ftyp Try.underlying81 hkl.1 hkl.2.1 0
  rw [hkl.2.2] at hm3
  have HM3 := Lib.hid hm3
  have HM2 := Lib.hid hm2
  clear hm1 hm2 hm3
  go_wp2
  go_region
  go_end0
  have hk2 : Kept w w3 S := by
    have hk0 : Kept w w1 S := hk1.mono (by
      rintro k (rfl | ⟨a, ha, rfl⟩)
      · exact HH.out.mine
      · exact HH.out.ents a ha)
    have hk3 : Kept w ((w1.setCell ⟨c, 1, none⟩ (.int .i64 ((n : Int) - (e.wt : Int)))).drew.drew) S := by
      have := hk0.set (p := ⟨c, 1, none⟩) HH.out.mine (.int .i64 ((n : Int) - (e.wt : Int)))
      exact ⟨this.os, this.tape, this.output, this.size, this.block⟩
    exact hk3.grown hg3 fun b hb => .inl (HH.out.maps b hb)
  have hh1 := hr1.head.set1 (.int .i64 ((n : Int) - (e.wt : Int)))
  have hmc : ∀ (g : Nat) (cs : Array Value) (t : TypeId) (fr : Nat × Nat), ((w1.setCell ⟨c, 1, none⟩ (.int .i64 ((n : Int) - (e.wt : Int)))).drew.drew).heap[g]? = some (.cells cs t fr) → w3.heap[g]? = some (.cells cs t fr) := by
    intro g cs t fr hg
    refine (hg3.block g (Array.getElem?_eq_some_iff.1 hg).1 ?_).trans hg
    intro hb
    exact HM2.out.apart hb.symm hg rfl
  refine ⟨rfl, ⟨⟨?_, ?_, nodup_cut HH.out.ring.nodup⟩, HM3.out.congr fun x => place_cut HH.out.keys x, nodup_cut HH.out.keys, fun a ha => HH.out.oks a (mem_cut ha), ?_, ?_, HH.out.mine, fun a ha => HH.out.ents a (mem_cut ha), HH.out.maps, fun k hk => ?_⟩, hk2, ?_⟩
  · have h1 := hmc _ _ _ _ hh1
    rw [HSUB.out] at h1
    exact h1
  · have h1 := seg_off hr1.seg (fun z hz => hr1.apart tne hz) 1 (.int .i64 ((n : Int) - (e.wt : Int)))
    refine seg_same h1 fun z hz => ?_
    obtain ⟨x, y, h2⟩ := seg_mem h1 hz
    exact (hmc _ _ _ _ h2).trans h2.symm
  · have := HS.out; omega
  · have h1 := HH.out.len
    rw [List.length_append, List.length_cons] at h1
    rw [List.length_append]; omega
  · have h1 := HH.out.low k hk
    have h2 : ((w1.setCell ⟨c, 1, none⟩ (.int .i64 ((n : Int) - (e.wt : Int)))).drew.drew).heap.size = w1.heap.size := size_set _ _ _
    omega
  · have h2 : ((w1.setCell ⟨c, 1, none⟩ (.int .i64 ((n : Int) - (e.wt : Int)))).drew.drew).heap.size = w1.heap.size := size_set _ _ _
    omega
end Go.Proofs.Ytpppgdfgbhglbaa.CaF
