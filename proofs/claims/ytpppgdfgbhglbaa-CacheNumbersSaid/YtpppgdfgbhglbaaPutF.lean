/- The walk of a cache's Put. -/
import Derived.Test.YtpppgdfgbhglbaaGetF
import Derived.Deep.LoopGhost
import Derived.Deep.Heap
namespace Go.Proofs.Ytpppgdfgbhglbaa.CaF
open Go.RowKit Go.Proofs Go.Proofs.Ytpppgdfgbhglbaa.Fl Go.Proofs.Ytpppgdfgbhglbaa.Ring Go.Proofs.Ytpppgdfgbhglbaa.Lru

theorem cat_drew {w : World} {S : Nat → Prop} {c room cnt : Nat} {L : List (En Nat Fv)} {mv : Value} (h : CAt w S c room L cnt mv) : CAt w.drew S c room L cnt mv :=
  h.kept (U := fun _ => False) ⟨rfl, rfl, rfl, Nat.le_refl _, fun _ _ _ => rfl⟩ (fun _ _ h => h)
theorem kept_drew {w w' : World} {S : Nat → Prop} (h : Kept w w' S) : Kept w w'.drew S := ⟨h.os, h.tape, h.output, h.size, h.block⟩

abbrev nob (v : Fv) (wn : Nat) : Obj := .cells #[.float .f64 v.1, encStr v.2, .int .i64 (wn : Int), .pointer none, .pointer none] 94

/-- A map is made where there is none. -/
theorem made_map {w : World} {S : Nat → Prop} {c room cnt : Nat} {L : List (En Nat Fv)} (h : CAt w S c room L cnt (.map none)) :
    CAt ((w.setCell ⟨c, 2, none⟩ (.map (some w.heap.size))).alloc (.map #[] 0)) (fun x => S x ∨ x = w.heap.size) c room L cnt (.map (some w.heap.size)) := by
  have hz : (w.setCell ⟨c, 2, none⟩ (.map (some w.heap.size))).heap.size = w.heap.size := size_set _ _ _
  have h1 := h.ring.head.set2 (.map (some w.heap.size))
  have hs := seg_off h.ring.seg (fun e he => h.ring.apart tne he) 2 (.map (some w.heap.size))
  have hm := FMap.made (w.setCell ⟨c, 2, none⟩ (.map (some w.heap.size)))
  have h2 := Deep.nblk_alloc (w.setCell ⟨c, 2, none⟩ (.map (some w.heap.size))) (.map #[] 0)
  have hb : ∀ x, x < w.heap.size → ((w.setCell ⟨c, 2, none⟩ (.map (some w.heap.size))).alloc (.map #[] 0)).heap[x]? = (w.setCell ⟨c, 2, none⟩ (.map (some w.heap.size))).heap[x]? := fun x hx => Deep.blk_alloc_lt _ _ x (by omega)
  generalize w.setCell ⟨c, 2, none⟩ (.map (some w.heap.size)) = w1 at *
  rw [hz] at hm
  refine ⟨⟨h1.same (hb c h.ring.head.lt), seg_same hs fun e he => hb _ (h.low _ (h.ents e he)), h.ring.nodup⟩, ?_, h.keys, h.oks, h.fits, h.len, .inl h.mine, fun e he => .inl (h.ents e he), fun b hb => .inr ?_, fun x hx => ?_⟩
  · have hf : ∀ x, place L x = none := h.map.void
    exact (hm.mono (Nat.zero_le _)).congr hf
  · simpa [mapBlock] using hb.symm
  · rcases hx with hx | hx
    · have := h.low x hx; omega
    · omega

/-- Behind the new entry and its place in the map. -/
theorem put_facts {w w4 : World} {S : Nat → Prop} {c room cnt g : Nat} {L : List (En Nat Fv)} {k : Nat} {v : Fv} {wn n : Nat} (hn : w.heap.size = n) (h : CAt w S c room L cnt (.map (some g))) (hg : (w.alloc (nob v wn)).drew.grownBy w4 (some g)) :
    HdAt tC w4 c (.int .i64 (room : Int)) (.int .i64 (sumW (its L) : Int)) (.map (some g)) (hd L none) (lst none L) ∧ Seg (fun (_ : Nat) (v : Fv) => Value.float .f64 v.1) (fun (v : Fv) => encStr v.2) tE w4 none L none ∧ Ea w4 ⟨n, k, v, wn⟩ none none ∧ Kept w w4 S := by
  subst hn
  have hb : ∀ x, x < w.heap.size → some x ≠ some g → w4.heap[x]? = w.heap[x]? := fun x hx hne =>
    (hg.block x (by have := Deep.nblk_alloc w (nob v wn); show x < (w.alloc (nob v wn)).heap.size; omega) hne).trans (Deep.blk_alloc_lt w _ x hx)
  have hgl : g < w.heap.size := h.map.lt (b := g) rfl
  refine ⟨h.ring.head.same (hb c h.ring.head.lt ?_), seg_same h.ring.seg fun e he => hb _ (h.low _ (h.ents e he)) ?_, ?_, ⟨hg.os, hg.tape, hg.output, ?_, fun x hx hs => hb x hx ?_⟩⟩
  · exact fun e => h.map.apart (b := g) rfl h.ring.head (by injection e with e; exact e.symm)
  · obtain ⟨x, y, h1⟩ := seg_mem h.ring.seg he
    exact fun e2 => h.map.apart (b := g) rfl h1 (by injection e2 with e2; exact e2.symm)
  · show w4.heap[w.heap.size]? = some (nob v wn)
    refine (hg.block w.heap.size ?_ ?_).trans (Deep.blk_alloc_new w _)
    · have := Deep.nblk_alloc w (nob v wn); show w.heap.size < (w.alloc (nob v wn)).heap.size; omega
    · intro e; injection e with e; omega
  · have h1 := hg.size
    have := Deep.nblk_alloc w (nob v wn)
    have h2 : (w.alloc (nob v wn)).drew.heap.size = (w.alloc (nob v wn)).heap.size := rfl
    omega
  · intro e
    injection e with e
    subst e
    exact hs (h.maps x rfl)

/-- What was done behind the new map. -/
theorem kept_made {w w6 : World} {S : Nat → Prop} {c room cnt : Nat} {L : List (En Nat Fv)} (h : CAt w S c room L cnt (.map none)) (hk : Kept ((w.setCell ⟨c, 2, none⟩ (.map (some w.heap.size))).alloc (.map #[] 0)) w6 (fun x => S x ∨ x = w.heap.size)) : Kept w w6 S := by
  have h1 : Kept w ((w.setCell ⟨c, 2, none⟩ (.map (some w.heap.size))).alloc (.map #[] 0)) S := by
    have h0 : Kept w (w.setCell ⟨c, 2, none⟩ (.map (some w.heap.size))) S := (Kept.refl w S).set (p := ⟨c, 2, none⟩) h.mine _
    exact h0.below ⟨rfl, rfl, rfl, by have := Deep.nblk_alloc (w.setCell ⟨c, 2, none⟩ (.map (some w.heap.size))) (.map #[] 0); omega, fun x hx => Deep.blk_alloc_lt _ _ x hx⟩
  refine h1.trans hk ?_
  rintro x (hx | hx)
  · exact .inl hx
  · right; omega

theorem put_done {w w4 w6 : World} {S : Nat → Prop} {c room cnt g : Nat} {L : List (En Nat Fv)} {k : Nat} {v : Fv} {wn n : Nat} (hn : w.heap.size = n) (h : CAt w S c room L cnt (.map (some g))) (hg : (w.alloc (nob v wn)).drew.grownBy w4 (some g))
    (hm : FMap w4 (.map (some g)) (cnt + 1) (fun x => if x = k then some n else place L x)) (hk : okF k v) (hnk : ∀ e ∈ L, e.key ≠ k) (hf : sumW (its L) + wn ≤ room)
    (hr : Rg w6 c (.int .i64 (room : Int)) (.int .i64 ((sumW (its L) : Int) + (wn : Int))) (.map (some g)) (⟨n, k, v, wn⟩ :: L)) {u : Value} (hk6 : Kept (w4.setCell ⟨c, 1, none⟩ u) w6 (fun x => x = c ∨ x = n ∨ ∃ a ∈ L, x = a.b)) :
    CAt w6 (fun x => S x ∨ x = n) c room (⟨n, k, v, wn⟩ :: L) (cnt + 1) (.map (some g)) ∧ Kept w w6 S := by
  subst hn
  obtain ⟨f1, f2, f3, f4⟩ := put_facts (k := k) rfl h hg
  have hs4 : w.heap.size < w4.heap.size := f3.lt
  have hs6 : w4.heap.size ≤ w6.heap.size := by have := hk6.size; rwa [size_set] at this
  have hgl : g < w.heap.size := h.map.lt (b := g) rfl
  refine ⟨⟨?_, ?_, ?_, ?_, ?_, Nat.succ_le_succ h.len, .inl h.mine, ?_, fun b hb => .inl (h.maps b hb), fun x hx => ?_⟩, ?_⟩
  · have e1 : ((sumW (its (⟨w.heap.size, k, v, wn⟩ :: L)) : Nat) : Int) = (sumW (its L) : Int) + (wn : Int) := by
      show (((wn + sumW (its L)) : Nat) : Int) = _
      omega
    show RingAt (fun (_ : Nat) (v : Fv) => Value.float .f64 v.1) (fun (v : Fv) => encStr v.2) tE tC w6 c (.int .i64 (room : Int)) (.int .i64 _) (.map (some g)) _
    rw [e1]
    exact hr
  · refine ((hm.set f1 1 u).same fun b hb => hk6.block b ?_ ?_).congr fun x => place_new x
    · obtain rfl : g = b := by simpa [mapBlock] using hb
      rw [size_set]; omega
    · obtain rfl : g = b := by simpa [mapBlock] using hb
      rintro (e | e | ⟨a, ha, e⟩)
      · exact hm.apart (b := g) rfl f1 e
      · omega
      · obtain ⟨x, y, h1⟩ := seg_mem f2 ha
        exact hm.apart (b := g) rfl h1 e
  · rw [List.map_cons, List.nodup_cons]
    refine ⟨fun hx => ?_, h.keys⟩
    obtain ⟨e, he, h1⟩ := List.mem_map.1 hx
    exact hnk e he h1
  · intro e he
    rcases List.mem_cons.1 he with rfl | he
    · exact hk
    · exact h.oks e he
  · show wn + sumW (its L) ≤ room
    omega
  · intro e he
    rcases List.mem_cons.1 he with rfl | he
    · exact .inr rfl
    · exact .inl (h.ents e he)
  · rcases hx with hx | hx
    · have := h.low x hx; omega
    · omega
  · have h5 : Kept w (w4.setCell ⟨c, 1, none⟩ u) S := f4.set h.mine u
    refine h5.trans hk6 ?_
    rintro x (rfl | rfl | ⟨a, ha, rfl⟩)
    · exact .inl h.mine
    · exact .inr (Nat.le_refl _)
    · exact .inl (h.ents a ha)

set_option maxRecDepth 100000 in
set_option maxHeartbeats 1000000 in
theorem put_at {w : World} {S : Nat → Prop} {c room cnt : Nat} {L : List (En Nat Fv)} {mv : Value} (h : CAt w S c room L cnt mv) (hr : room ≤ 1073741824) (k : Nat) (hk : k < 18446744073709551616) (hnn : ¬ fnan k) (v : Bs) (wn : Nat) (hw : wn ≤ room) (_hcnt : cnt < maxLen) :
    Calls Try.prog 18 #[.pointer (some ⟨c, 0, none⟩), .float .f64 k, encStr v, .int .i64 (wn : Int)] w fun x w' => x = .returned (.bool true) ∧ ∃ S', (∃ L' mv', CAt w' S' c room L' (cnt + 1) mv' ∧ its L' = put room (fcls k) (k, v) wn (its L)) ∧ Kept w w' S ∧ ∀ x, S' x → S x ∨ w.heap.size ≤ x := by
  have HH := Lib.hid h
  have HK := Lib.hid (show okF (fcls k) (k, v) from ⟨hk, hnn, rfl⟩)
  have hq0 := self_ne hk
  rw [decide_eq_false hnn] at hq0
  have hc0 := h.ring.head.cell 0
  simp only [List.getElem?_toArray] at hc0
  have hwr : ¬ (wn : Int) > (room : Int) := by omega
  have hw1 : decide ((wn : Int) < 0) = false := by simp
  have hw2 : decide (room < wn) = false := by simp; omega
  clear h hk
  go_enter Try.func18, Try.ntmps18
  go_wp2_with (first
    | (go_at_call 22; refine (drop_at HH.out hr k HK.out.1).mono ?_; rintro x w1 ⟨rfl, ⟨L1, h1, hits⟩, hk1, hz1⟩; have H1 := Lib.hid h1; have HI := Lib.hid hits; have d0 := h1.ring.head.cell 0; simp only [List.getElem?_toArray] at d0; clear h1 hits))
  go_loopg [] L1.length (fun m wr => ∃ L2, CAt wr S c room L2 cnt mv ∧ L2.length = m ∧ trim room wn L2.length (its L2) = trim room wn L1.length (its L1) ∧ Kept w wr S ∧ wr.heap.size = w.heap.size)
  case atStart => exact ⟨L1, H1.out, rfl, rfl, hk1, hz1⟩
  case round =>
    obtain ⟨L2, h2, hm, htr, hk2, hz2⟩ := hrel
    have H2 := Lib.hid h2
    have d1 := h2.ring.head.cell 1
    have d0 := h2.ring.head.cell 0
    have d4 := h2.ring.head.cell 4
    simp only [List.getElem?_toArray] at d0 d1 d4
    have hfit := h2.fits
    have HTR := Lib.hid htr
    clear h2 htr
    have hsz : sumW (its L2) ≤ 1073741824 := by omega
    by_cases hgt : sumW (its L2) + wn > room
    · rcases snoc_cases L2 with rfl | ⟨r, e, rfl⟩
      · simp [its, sumW] at hgt; omega
      · have hgt2 : (sumW (its (r ++ [e])) : Int) > (room : Int) - (wn : Int) := by omega
        have HGT := Lib.hid hgt
        obtain ⟨sm, hsm⟩ : ∃ sm, sumW (its (r ++ [e])) = sm := ⟨_, rfl⟩
        rw [hsm] at hgt2 hsz d1 d0 d4
        simp only [lst_snoc, ptr] at d4
        clear hgt hfit hsm
        go_wp2
        go_region
        go_wp2_with (first
          | (go_at_call 43; refine (give_any (cat_drew H2.out) hr).mono ?_; rintro x w3 ⟨rfl, hc3, hk3, hz3⟩))
        go_roundg r.length
        case measure => rw [← hm]; simp
        case rel =>
          refine ⟨r, by simpa using hc3, rfl, ?_, ((kept_drew hk2).trans hk3 fun _ h => .inl h), hz3.trans hz2⟩
          rw [← HTR.out]
          have h1 := trim_step hw HGT.out
          have h2 : (its (r ++ [e])).dropLast = its r := by simp [its]
          rw [h2] at h1
          have h3 : (its (r ++ [e])).length = (r ++ [e]).length := by simp [its]
          have h4 : (its r).length = r.length := by simp [its]
          rw [h3, h4] at h1
          exact h1.symm
    · have hgt2 : ¬ (sumW (its L2) : Int) > (room : Int) - (wn : Int) := by omega
      have HGT := Lib.hid hgt
      have HSM := Lib.hid (rfl : sumW (its L2) = sumW (its L2))
      have d2 := H2.out.ring.head.cell 2
      have f1 := H2.out.ring.head.frozen 1
      have f2 := H2.out.ring.head.frozen 2
      have hcl := H2.out.ring.head.lt
      simp only [List.getElem?_toArray] at d2
      have hform := H2.out.map.form
      have HF := Lib.hid (show sumW (its L2) + wn ≤ room by omega)
      have HNK := Lib.hid (show ∀ e ∈ L2, e.key ≠ fcls k by
        intro e he hek
        have h1 : e.it ∈ its L2 := List.mem_map_of_mem he
        have h2 : its L2 = trim room wn L1.length (its L1) := by
          rw [← HTR.out]
          have h3 := trim_done (room := room) (w := wn) (l := its L2) HGT.out
          have h4 : (its L2).length = L2.length := by simp [its]
          rw [h4] at h3
          exact h3.symm
        rw [h2] at h1
        have h5 := (trim_sub _ _ _ _).subset h1
        rw [HI.out, show outF k (its L) = out (fcls k) (its L) from if_neg HK.out.2.1] at h5
        exact out_ne _ h5 hek)
      have HIT := Lib.hid (show its L2 = trim room wn (out (fcls k) (its L)).length (out (fcls k) (its L)) by
        have h3 := trim_done (room := room) (w := wn) (l := its L2) HGT.out
        have h4 : (its L2).length = L2.length := by simp [its]
        rw [h4, HTR.out] at h3
        have h5 : L1.length = (its L1).length := by simp [its]
        rw [h5, HI.out, show outF k (its L) = out (fcls k) (its L) from if_neg HK.out.2.1] at h3
        exact h3.symm)
      have HL2 := Lib.hid hk2
      have HZ2 := Lib.hid hz2
      clear hgt hfit hz2 hk2 hz1 hk1
      cases hmb : mapBlock mv with
      | none =>
        rw [hmb] at hform
        subst hform
        clear hmb
        have hq := fun w => run_eql_map_nil (P := Try.prog) w 81 42 82 none Try.underlying81
        simp only [Option.isNone_none] at hq
        have HW0 := Lib.hid (show ((wr.setCell ⟨c, 2, none⟩ (.map (some wr.heap.size))).alloc (.map #[] 0)).heap.size = wr.heap.size + 1 by rw [Deep.nblk_alloc, size_set])
        have hmk := fun w => run_makeMap (P := Try.prog) 81 w
        have HC := Lib.hid (made_map H2.out)
        have HC0 := Lib.hid H2.out
        have hcl2 : c < ((wr.setCell ⟨c, 2, none⟩ (.map (some wr.heap.size))).alloc (.map #[] 0)).heap.size := HC.out.ring.head.lt
        have d5 : (wr.alloc (.map #[] 0)).cell? ⟨c, 2, none⟩ = some (.map none) := (World.cell?_alloc_lt wr _ _ hcl).trans d2
        have f5 : (wr.alloc (.map #[] 0)).frozen? ⟨c, 2, none⟩ = false := (World.frozen?_alloc_old wr _ _ (by show c ≠ _; omega)).trans f2
        have e2 : (((wr.setCell ⟨c, 2, none⟩ (.map (some wr.heap.size))).alloc (.map #[] 0)).alloc (.cells #[.float .f64 k, encStr v, .int .i64 (wn : Int), .pointer none, .pointer none] 94)).cell? ⟨c, 2, none⟩ = some (.map (some wr.heap.size)) :=
          (World.cell?_alloc_lt _ _ _ hcl2).trans (HC.out.ring.head.cell 2)
        have hmp : FMap ((((wr.setCell ⟨c, 2, none⟩ (.map (some wr.heap.size))).alloc (.map #[] 0)).alloc (nob (k, v) wn)).drew) (.map (some wr.heap.size)) cnt (place L2) := HC.out.map.same fun b hb => Deep.blk_alloc_lt ((wr.setCell ⟨c, 2, none⟩ (.map (some wr.heap.size))).alloc (.map #[] 0)) _ _ (HC.out.map.lt hb)
        have HMP := Lib.hid hmp
        clear hmp
        go_wp2
        go_region
        go_wp2_with (first
          | (at_mapUpdate; go_loud (refine wp_fput HMP.out ftyp rfl _ _ _ _ rfl Try.underlying81 rfl rfl HK.out.1 HK.out.2.1 (place_miss HNK.out) (wr.heap.size + 1) rfl ?_; intro w4 hm4 hg4 hz4; obtain ⟨hh4, hs4, he4, hk4⟩ := put_facts (k := fcls k) (v := (k, v)) (wn := wn) HW0.out HC.out hg4; have HM4 := Lib.hid hm4; have HG4 := Lib.hid hg4; have HH4 := Lib.hid hh4; have HS4 := Lib.hid hs4; have HE4 := Lib.hid he4; have c1 := hh4.cell 1; have fz := hh4.frozen 1; simp only [List.getElem?_toArray] at c1; clear hm4 hg4 hz4 hh4 hs4 he4 hk4))
          | (go_at_call 44; refine (lead_any (L := L2) (e := ⟨wr.heap.size + 1, fcls k, (k, v), wn⟩) ⟨HH4.out.set1 _, seg_off HS4.out (fun z hz => HC.out.ring.apart tne hz) 1 _, HC.out.ring.nodup⟩ (HE4.out.off (apart_of tne HE4.out HH4.out) 1 _) (fun z hz => by have h1 := HC.out.low _ (HC.out.ents z hz); rw [HW0.out] at h1; exact Nat.ne_of_lt h1)).mono ?_; rintro x w6 ⟨rfl, hr6, hk6, hz6⟩))
        go_ret
        obtain ⟨p1, p2⟩ := put_done HW0.out HC.out HG4.out HM4.out HK.out HNK.out HF.out hr6 hk6
        refine ⟨rfl, _, ⟨_, _, p1, ?_⟩, HL2.out.trans (kept_made HC0.out p2) (fun _ h => .inl h), ?_⟩
        · show (⟨fcls k, (k, v), wn⟩ : It Nat Fv) :: its L2 = _
          rw [HIT.out]
          rfl
        · rintro x (hx | hx)
          · rcases hx with hx | hx
            · exact .inl hx
            · right; have := HZ2.out; omega
          · right; have := HZ2.out; omega
      | some g =>
        rw [hmb] at hform
        subst hform
        clear hmb
        have hq := fun w => run_eql_map_nil (P := Try.prog) w 81 42 82 (some g) Try.underlying81
        simp only [Option.isNone_some] at hq
        have HC := Lib.hid H2.out
        have e2 : (wr.alloc (.cells #[.float .f64 k, encStr v, .int .i64 (wn : Int), .pointer none, .pointer none] 94)).cell? ⟨c, 2, none⟩ = some (.map (some g)) := (World.cell?_alloc_lt wr _ _ hcl).trans d2
        have hmp : FMap ((wr.alloc (nob (k, v) wn)).drew) (.map (some g)) cnt (place L2) := HC.out.map.same fun b hb => Deep.blk_alloc_lt wr _ _ (HC.out.map.lt hb)
        have HMP := Lib.hid hmp
        clear hmp
        go_wp2
        go_region
        go_wp2_with (first
          | (at_mapUpdate; go_loud (refine wp_fput HMP.out ftyp rfl _ _ _ _ rfl Try.underlying81 rfl rfl HK.out.1 HK.out.2.1 (place_miss HNK.out) wr.heap.size rfl ?_; intro w4 hm4 hg4 hz4; obtain ⟨hh4, hs4, he4, hk4⟩ := put_facts (k := fcls k) (v := (k, v)) (wn := wn) rfl HC.out hg4; have HM4 := Lib.hid hm4; have HG4 := Lib.hid hg4; have HH4 := Lib.hid hh4; have HS4 := Lib.hid hs4; have HE4 := Lib.hid he4; have c1 := hh4.cell 1; have fz := hh4.frozen 1; simp only [List.getElem?_toArray] at c1; clear hm4 hg4 hz4 hh4 hs4 he4 hk4))
          | (go_at_call 44; refine (lead_any (L := L2) (e := ⟨wr.heap.size, fcls k, (k, v), wn⟩) ⟨HH4.out.set1 _, seg_off HS4.out (fun z hz => HC.out.ring.apart tne hz) 1 _, HC.out.ring.nodup⟩ (HE4.out.off (apart_of tne HE4.out HH4.out) 1 _) (fun z hz => Nat.ne_of_lt (HC.out.low _ (HC.out.ents z hz)))).mono ?_; rintro x w6 ⟨rfl, hr6, hk6, hz6⟩))
        go_ret
        obtain ⟨p1, p2⟩ := put_done rfl HC.out HG4.out HM4.out HK.out HNK.out HF.out hr6 hk6
        refine ⟨rfl, _, ⟨_, _, p1, ?_⟩, HL2.out.trans p2 (fun _ h => .inl h), ?_⟩
        · show (⟨fcls k, (k, v), wn⟩ : It Nat Fv) :: its L2 = _
          rw [HIT.out]
          rfl
        · rintro x (hx | hx)
          · exact .inl hx
          · right; have := HZ2.out; omega
end Go.Proofs.Ytpppgdfgbhglbaa.CaF
