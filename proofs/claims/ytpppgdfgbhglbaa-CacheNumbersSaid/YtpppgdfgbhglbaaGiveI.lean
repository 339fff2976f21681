/- The walk of a cache's 'giveUp'. -/
import Derived.Test.YtpppgdfgbhglbaaCutI
namespace Go.Proofs.Ytpppgdfgbhglbaa.CaI
open Go.RowKit Go.Proofs Go.Proofs.Ytpppgdfgbhglbaa.Ring Go.Proofs.Ytpppgdfgbhglbaa.Lru

noncomputable def kd : Kind Bs Int := ⟨Try.prog, fun k _ => encStr k, encInt, tE, tC, 9, fun k => .string k, fun k _ => k.length ≤ maxLen⟩
abbrev CAt (w : World) (S : Nat → Prop) (c room : Nat) (L : List (En Bs Int)) (cnt : Nat) (mv : Value) : Prop := CacheAt kd w S c room L cnt mv
theorem keyed : Maps.Keyed Try.prog 9 := Maps.string_keyed Try.underlying9
theorem kinj (a b : Bs) (h : Lit.string a = Lit.string b) : a = b := by injection h
theorem kkey (k : Bs) : WideAt.IsKeyLit (Lit.string k) := by trivial
theorem key_of {k : Bs} (hk : k.length ≤ maxLen) : keyOf Try.prog 9 (encStr k) = some (.string k) := by
  have := Go.WideMaps.keyOf_string_mk (P := Try.prog) (k := 9) Try.underlying9 (s := ⟨k.toArray⟩) (by simpa [ByteArray.size] using hk)
  simpa [encStr] using this

theorem mem_cut {l1 l2 : List (En Bs Int)} {e a : En Bs Int} (h : a ∈ l1 ++ l2) : a ∈ l1 ++ e :: l2 := by
  rcases List.mem_append.1 h with h | h
  · exact List.mem_append_left _ h
  · exact List.mem_append_right _ (List.mem_cons_of_mem _ h)
theorem mem_lead {l1 l2 : List (En Bs Int)} {e a : En Bs Int} (h : a ∈ e :: (l1 ++ l2)) : a ∈ l1 ++ e :: l2 := by
  rcases List.mem_cons.1 h with h | h
  · subst h; simp
  · exact mem_cut h

set_option maxRecDepth 100000 in
set_option maxHeartbeats 1000000 in
theorem give_any {w : World} {S : Nat → Prop} {c room cnt : Nat} {l1 l2 : List (En Bs Int)} {e : En Bs Int} {mv : Value} (h : CAt w S c room (l1 ++ e :: l2) cnt mv) (hr : room ≤ 1073741824) :
    Calls Try.prog 49 #[.pointer (some ⟨c, 0, none⟩), .pointer (some ⟨e.b, 0, none⟩)] w fun x w' => x = .returned (.tuple #[]) ∧ CAt w' S c room (l1 ++ l2) cnt mv ∧ Kept w w' S ∧ w'.heap.size = w.heap.size := by
  obtain ⟨n, hn⟩ : ∃ n, sumW (its (l1 ++ e :: l2)) = n := ⟨_, rfl⟩
  have hsum := sumW_its_lead l1 l2 e
  rw [hn] at hsum
  have hfit := h.fits
  rw [hn] at hfit
  have hring : RingAt (fun k _ => encStr k) encInt tE tC w c (.int .i64 (room : Int)) (.int .i64 (n : Int)) mv (l1 ++ e :: l2) := hn ▸ h.ring
  have hkl : e.key.length ≤ maxLen := h.oks e (by simp)
  have HH := Lib.hid h
  have HS := Lib.hid hsum
  clear h hsum hn
  go_enter Try.func49, Try.ntmps49
  go_wp2_with (first
    | (go_at_call 51; refine (cut_any hring).mono ?_; rintro x w1 ⟨rfl, hr1, he1, hk1, hz1⟩; have c1 := hr1.head.cell 1; have c2 := hr1.head.cell 2; have f1 := hr1.head.frozen 1; have e2 := he1.cell 2; have e0 := he1.cell 0; simp only [List.getElem?_toArray] at c1 c2 e2 e0))
  have hsub : (n : Int) - (e.wt : Int) = ((sumW (its (l1 ++ l2)) : Nat) : Int) := by rw [HS.out]; omega
  have hwt : e.wt ≤ n := by rw [HS.out]; omega
  have HSUB := Lib.hid hsub
  clear hsub
  go_region
  have hm1 : MapOk Try.prog 9 (fun k : Bs => Lit.string k) ptrs none w1 mv cnt (place (l1 ++ e :: l2)) := by
    refine HH.out.map.same fun b hb => hk1.block b (HH.out.map.lt hb) ?_
    rintro (rfl | ⟨a, ha, rfl⟩)
    · exact HH.out.map.apart hb HH.out.ring.head rfl
    · obtain ⟨x, y, h1⟩ := seg_mem HH.out.ring.seg ha
      exact HH.out.map.apart hb h1 rfl
  have hm2 : MapOk Try.prog 9 (fun k : Bs => Lit.string k) ptrs none ((w1.setCell ⟨c, 1, none⟩ (.int .i64 ((n : Int) - (e.wt : Int)))).drew.drew) mv cnt (place (l1 ++ e :: l2)) := hm1.set hr1.head 1 _
  obtain ⟨w3, hrun, hm3, hg3, hz3⟩ := hm2.drop keyed Try.underlying96 kinj (key_of hkl) 0
  have HM3 := Lib.hid hm3
  have HM2 := Lib.hid hm2
  clear hm1 hm2 hm3
  go_wp2
  go_region
  go_end0
  have hk2 : Kept w w3 S := by
    have hk0 : Kept w w1 S := hk1.mono (by
      rintro k (rfl | ⟨a, ha, rfl⟩)
      · exact HH.out.mine
      · exact HH.out.ents a ha)
    have hk3 : Kept w ((w1.setCell ⟨c, 1, none⟩ (.int .i64 ((n : Int) - (e.wt : Int)))).drew.drew) S := by
      have := hk0.set (p := ⟨c, 1, none⟩) HH.out.mine (.int .i64 ((n : Int) - (e.wt : Int)))
      exact ⟨this.os, this.tape, this.output, this.size, this.block⟩
    exact hk3.grown hg3 fun b hb => .inl (HH.out.maps b hb)
  have hh1 := hr1.head.set1 (.int .i64 ((n : Int) - (e.wt : Int)))
  have hmc : ∀ (g : Nat) (cs : Array Value) (t : TypeId) (fr : Nat × Nat), ((w1.setCell ⟨c, 1, none⟩ (.int .i64 ((n : Int) - (e.wt : Int)))).drew.drew).heap[g]? = some (.cells cs t fr) → w3.heap[g]? = some (.cells cs t fr) := by
    intro g cs t fr hg
    refine (hg3.block g (Array.getElem?_eq_some_iff.1 hg).1 ?_).trans hg
    intro hb
    exact HM2.out.apart hb.symm hg rfl
  refine ⟨rfl, ⟨⟨?_, ?_, nodup_cut HH.out.ring.nodup⟩, HM3.out.congr fun x => place_cut HH.out.keys x, nodup_cut HH.out.keys, fun a ha => HH.out.oks a (mem_cut ha), ?_, ?_, HH.out.mine, fun a ha => HH.out.ents a (mem_cut ha), HH.out.maps, fun k hk => ?_⟩, hk2, ?_⟩
  · have h1 := hmc _ _ _ _ hh1
    rw [HSUB.out] at h1
    exact h1
  · have h1 := seg_off hr1.seg (fun z hz => hr1.apart tne hz) 1 (.int .i64 ((n : Int) - (e.wt : Int)))
    refine seg_same h1 fun z hz => ?_
    obtain ⟨x, y, h2⟩ := seg_mem h1 hz
    exact (hmc _ _ _ _ h2).trans h2.symm
  · have := HS.out; omega
  · have h1 := HH.out.len
    rw [List.length_append, List.length_cons] at h1
    rw [List.length_append]; omega
  · have h1 := HH.out.low k hk
    have h2 : ((w1.setCell ⟨c, 1, none⟩ (.int .i64 ((n : Int) - (e.wt : Int)))).drew.drew).heap.size = w1.heap.size := size_set _ _ _
    omega
  · have h2 : ((w1.setCell ⟨c, 1, none⟩ (.int .i64 ((n : Int) - (e.wt : Int)))).drew.drew).heap.size = w1.heap.size := size_set _ _ _
    omega
end Go.Proofs.Ytpppgdfgbhglbaa.CaI
