/- The walks of a cache's Get and Weight. -/
import Derived.Test.YtpppgdfgbhglbaaDropI
namespace Go.Proofs.Ytpppgdfgbhglbaa.CaI
open Go.RowKit Go.Proofs Go.Proofs.Ytpppgdfgbhglbaa.Ring Go.Proofs.Ytpppgdfgbhglbaa.Lru

/-- What Get answers. -/
def gotV (o : Option (It Bs Int)) : Value :=
  match o with
  | none => .tuple #[(.int .i64 0), .bool false]
  | some e => .tuple #[encInt e.val, .bool true]

set_option maxRecDepth 100000 in
set_option maxHeartbeats 1000000 in
theorem get_at {w : World} {S : Nat → Prop} {c room cnt : Nat} {L : List (En Bs Int)} {mv : Value} (h : CAt w S c room L cnt mv) (k : Bs) (hk : k.length ≤ maxLen) :
    Calls Try.prog 35 #[.pointer (some ⟨c, 0, none⟩), encStr k] w fun x w' => x = .returned (gotV (seek k (its L))) ∧ (∃ L', CAt w' S c room L' cnt mv ∧ its L' = Lru.get k (its L)) ∧ Kept w w' S ∧ w'.heap.size = w.heap.size := by
  have hc2 := h.ring.head.cell 2
  simp only [List.getElem?_toArray] at hc2
  have HH := Lib.hid h
  have HK := Lib.hid (key_of hk)
  clear h hk
  have hz : (zeroValue 97).run Try.prog w = .ok (.pointer none) w := by kernel_rfl
  cases hp : place L k with
  | none =>
    have HP := Lib.hid hp
    clear hp
    have hl : (Instr.lookup 96 mv (encStr k) false).run Try.prog w = .ok (.pointer none) w := by
      have := HH.out.map.look keyed Try.underlying96 hz HK.out
      rw [HP.out] at this
      exact this
    go_enter Try.func35, Try.ntmps35
    go_wp2
    go_ret2
    have hn := seek_its_none HP.out
    unfold Lru.get
    rw [hn]
    exact ⟨rfl, ⟨L, HH.out, rfl⟩, Kept.refl _ _, rfl⟩
  | some b =>
    obtain ⟨l1, e, l2, rfl, rfl, hek, hl1⟩ := place_some hp
    have HL := Lib.hid (seek_its_mid (l2 := l2) hek hl1)
    have HEK := Lib.hid hek
    have hl : (Instr.lookup 96 mv (encStr k) false).run Try.prog w = .ok (.pointer (some ⟨e.b, 0, none⟩)) w := by
      have := HH.out.map.look keyed Try.underlying96 hz HK.out
      rw [hp] at this
      exact this
    clear hp hek hl1
    go_enter Try.func35, Try.ntmps35
    go_wp2_with (first
      | (go_at_call 51; refine (cut_any HH.out.ring).mono ?_; rintro x w1 ⟨rfl, hr1, he1, hk1, hz1⟩)
      | (go_at_call 50; refine (lead_any hr1 he1 (fun z hz => nodup_ne HH.out.ring.nodup z hz)).mono ?_; rintro x w2 ⟨rfl, hr2, hk2, hz2⟩; have e1 := hr2.seg.1.cell 1; simp only [List.getElem?_toArray] at e1))
    go_ret2
    have hkept : Kept w w2 (fun k => k = c ∨ ∃ a ∈ l1 ++ e :: l2, k = a.b) := hk1.trans hk2 (by
      rintro k (rfl | rfl | ⟨a, ha, rfl⟩)
      · exact .inl (.inl rfl)
      · exact .inl (.inr ⟨e, by simp, rfl⟩)
      · refine .inl (.inr ⟨a, ?_, rfl⟩)
        simp only [List.mem_append, List.mem_cons] at ha ⊢
        rcases ha with h | h
        · exact .inl h
        · exact .inr (.inr h))
    refine ⟨by rw [HL.out]; rfl, ⟨e :: (l1 ++ l2), ⟨?_, ?_, nodup_lead HH.out.keys, fun a ha => HH.out.oks a (mem_lead ha), ?_, ?_, HH.out.mine, fun a ha => HH.out.ents a (mem_lead ha), HH.out.maps, fun k hk => ?_⟩, ?_⟩, hkept.mono ?_, by omega⟩
    · have h1 : sumW (its (e :: (l1 ++ l2))) = sumW (its (l1 ++ e :: l2)) := (sumW_its_lead [] (l1 ++ l2) e).trans (sumW_its_lead l1 l2 e).symm
      rw [h1]
      exact hr2
    · refine (HH.out.map.same fun b hb => hkept.block b (HH.out.map.lt hb) ?_).congr fun x => place_lead HH.out.keys x
      rintro (rfl | ⟨a, ha, rfl⟩)
      · exact HH.out.map.apart hb HH.out.ring.head rfl
      · obtain ⟨x, y, h1⟩ := seg_mem HH.out.ring.seg ha
        exact HH.out.map.apart hb h1 rfl
    · have h1 : sumW (its (e :: (l1 ++ l2))) = sumW (its (l1 ++ e :: l2)) := (sumW_its_lead [] (l1 ++ l2) e).trans (sumW_its_lead l1 l2 e).symm
      rw [h1]; exact HH.out.fits
    · have h1 := HH.out.len
      rw [List.length_append, List.length_cons] at h1
      rw [List.length_cons, List.length_append]; omega
    · have := HH.out.low k hk; omega
    · unfold Lru.get
      rw [HL.out, its_cons, its_append, its_append, its_cons]
      show e.it :: _ = e.it :: _
      rw [← HEK.out]
      congr 1
      refine (out_mid (e := e.it) ?_).symm
      have := HH.out.keys
      rw [← its_keys, its_append, its_cons] at this
      exact this
    · rintro k (rfl | ⟨a, ha, rfl⟩)
      · exact HH.out.mine
      · exact HH.out.ents a ha

set_option maxRecDepth 100000 in
theorem weight_at {w : World} {S : Nat → Prop} {c room cnt : Nat} {L : List (En Bs Int)} {mv : Value} (h : CAt w S c room L cnt mv) :
    Calls Try.prog 36 #[.pointer (some ⟨c, 0, none⟩)] w fun x w' => x = .returned (.int .i64 (sumW (its L) : Int)) ∧ w = w' := by
  have hc1 := h.ring.head.cell 1
  simp only [List.getElem?_toArray] at hc1
  clear h
  go_enter Try.func36, Try.ntmps36
  go_wp2
  go_ret
  exact ⟨rfl, rfl⟩
end Go.Proofs.Ytpppgdfgbhglbaa.CaI
