/- The walks of the document's cache: Get, Put. -/
import Derived.Test.YtpppgdfgbhglbaaRef2
import Derived.Laws.OwnMore
namespace Go.Proofs.Ytpppgdfgbhglbaa.Ca
open Go.RowKit Go.Proofs Go.Proofs.Ytpppgdfgbhglbaa.Lru

theorem seek_first {l : List Ent} {k : Bs} {i : Nat} {e : Ent} (h : ∀ (j : Nat) (x : Ent), j < i → l[j]? = some x → x.key ≠ k) (he : l[i]? = some e) (hk : e.key = k) : seek k l = some e := by
  induction l generalizing i with
  | nil => simp at he
  | cons a r ih =>
    unfold seek
    rw [List.find?_cons]
    cases i with
    | zero =>
      have ha : a = e := by simpa using he
      subst ha
      rw [decide_eq_true hk]
    | succ i =>
      have ha := h 0 a (by omega) rfl
      rw [decide_eq_false ha]
      exact ih (i := i) (fun j x hj hx => h (j + 1) x (by omega) (by simpa using hx)) (by simpa using he)
theorem seek_nowhere {l : List Ent} {k : Bs} (h : ∀ (j : Nat) (x : Ent), j < l.length → l[j]? = some x → x.key ≠ k) : seek k l = none := by
  refine List.find?_eq_none.2 fun x hx => ?_
  obtain ⟨j, hj⟩ := List.getElem?_of_mem hx
  simpa using h j x (List.getElem?_eq_some_iff.1 hj).1 hj
/-- What a Get tells. -/
def gotS (o : Option Ent) : Value :=
  match o with
  | none => .string ⟨#[]⟩
  | some e => .string ⟨e.val.toArray⟩

set_option maxRecDepth 100000 in
set_option maxHeartbeats 1000000 in
theorem rget_any (room : Nat) (A : Option Addr) (n c B : Nat) (l : List Ent) (k : Bs) (hn : n ≤ 3298534883327) (w : World) (hB : B ≤ w.heap.size) (hr : Es w B A n l) (hcap : A = none → c = 0) :
    Calls Try.prog 19 #[rv room A n c, .string ⟨k.toArray⟩] w fun x w' => ∃ A' c', x = .returned (.tuple #[rv room A' (Lru.get k l).length c', gotS (seek k l), .bool (seek k l).isSome]) ∧ Es w' w'.heap.size A' (Lru.get k l).length (Lru.get k l) ∧ (A' = none → c' = 0) ∧ (A' = A ∨ ∀ ad, A' = some ad → w.heap.size ≤ ad.block) ∧ Below w.heap.size w w' := by
  obtain ⟨i0, hi, hz0, hz1, hz2⟩ := info_parts' infoEnt
  have HR := Lib.hid hr
  have HL := Lib.hid hr.1
  have HC := Lib.hid hcap
  clear hr hcap
  go_enter Try.func19, Try.ntmps19
  go_upto_region 1 with (fail)
  obtain ⟨wb, V, hwb, hV, hb0, hsz, hc0, hr0⟩ := boxed2 w room A n c #[.int .i64 0, .slice none 0 0] 45
  rw [hwb, hV]
  have c0 := (two_cells hc0).1
  have c1 := (two_cells hc0).2.1
  obtain ⟨r0, r1, f0, f1⟩ := two_cells hr0
  have HB := Lib.hid (HR.out.below (hb0.mono hB))
  have HBB := Lib.hid (Nat.le_trans hB hb0.size)
  have HWB := Lib.hid hwb
  have HSZ := Lib.hid hsz
  have HVV := Lib.hid hV
  clear hwb hsz hV
  go_wp2
  go_loopw [7] (fun iv wr => ∃ (i : Nat), iv = .int .i64 i ∧ i ≤ n ∧ (∀ (j : Nat) (x : Ent), j < i → l[j]? = some x → x.key ≠ k) ∧ wr = wb) (fun iv _ => n - (intOf iv).toNat)
  case atStart => exact ⟨0, rfl, by omega, fun j x h => absurd h (by omega), rfl⟩
  case round =>
    obtain ⟨i, rfl, hin, hnone, rfl⟩ := hrel
    have HN := Lib.hid hnone
    clear hnone
    by_cases hlt : i < n
    · obtain ⟨b, e, rfl, hbB, he, e0, e1, e2⟩ := HB.out.at_ hlt
      have HE := Lib.hid he
      have hlt2 : (i : Int) < (n : Int) := by omega
      clear he
      by_cases hk : e.key = k
      · have hbk : (e.key == k) = true := by simpa using hk
        have HK := Lib.hid (seek_first HN.out HE.out hk)
        have hmn : (out k l).length ≤ n := by rw [← HL.out]; exact List.length_filter_le _ _
        obtain ⟨m, hm⟩ : ∃ m, (out k l).length = m := ⟨_, rfl⟩
        rw [hm] at hmn
        have HM := Lib.hid hm
        clear hk hm
        go_upto_region 7 with (first
          | (refine wpList_loadEnt rfl (.tmp 27) rfl b (i * 3) rfl e0 e1 e2 ?_)
          | (refine wpList_buildEnt rfl (.tmp 28) rfl e rfl ?_; have hrow := World.ownsRow_lit (base := wr.heap.size) (e := 88) (size := 3) wr (eC e).toArray 1 (Nat.le_refl _) (by decide) rfl; have hba : Below wr.heap.size wr (wr.alloc (.cells (eC e).toArray 88)) := (Below.refl _ _).alloc (Nat.le_refl _) _; obtain ⟨wa, hwa⟩ : ∃ wa, wr.alloc (.cells (eC e).toArray 88) = wa := ⟨_, rfl⟩; rw [hwa] at hrow hba ⊢; have ca1 := (two_cells (hba.at_block hc0)).2.1)
          | (go_at_call 40; refine (without_any _ n c B l k (by omega) wa (Nat.le_trans HBB.out hba.size) (HB.out.below (hba.mono HBB.out))).mono ?_; rintro x w1 ⟨v, rfl, hown, hb1⟩; rw [HM.out] at hown; obtain ⟨A', c', rfl, _, _⟩ := own_form hown)
          | (at_builtin; refine wpList_append_rd _ rfl (.tmp 30) (.tmp 34) 43 rfl wr.heap.size 88 i0 zE 3 40 Try.underlying43 hi hz0 hz1 hz2 rfl (by decide) _ 1 _ rfl (own_below hrow hb1) w1.heap.size A' m c' (cE (out k l)) rfl (Rd.of_own hown) (Es.own_cap hown) (cE_one _) (by unfold maxLen; omega) (by omega) (Nat.le_trans hba.size hb1.size) ?_; intro v2 w2 hrow2 hg2))
        have hbx : Below wr.heap.size wr w1 := bch hba hb1
        have hb2 : Below wr.heap.size wr w2 := hbx.grown hg2 hbx.size (fun g hg => by injection hg with hg; rw [← hg]; exact Nat.le_refl _)
        obtain ⟨d0, d1, _, _⟩ := two_cells (hb2.at_block hc0)
        obtain ⟨q0, q1, g0, g1⟩ := two_cells (hb2.at_block hr0)
        have v1 := (hb2.cell (p := ⟨b, i * 3 + 1, none⟩) (Nat.lt_of_lt_of_le hbB HBB.out)).trans e1
        obtain ⟨A2, c2, rfl, _, _⟩ := own_form hrow2
        have HG2 := Lib.hid hg2
        clear c0 c1 r0 r1 f0 f1 e0 e1 e2 ca1 hg2
        have hne1 : b ≠ V + 1 := by have := HVV.out; omega
        have hne2 : V + 1 ≠ b := fun h => hne1 h.symm
        go_region_with (fail)
        all_goals
          go_wp2
          refine bodyPost_ret (v := .tuple #[rv room A2 (1 + m) c2, .string ⟨e.val.toArray⟩, .bool true]) (by simp [results, Try.results19, go_sem, q0, q1]) rfl ?_
          have hg : Lru.get k l = e :: out k l := by unfold Lru.get; rw [HK.out]
          have hlen : (e :: out k l).length = 1 + m := by rw [List.length_cons, HM.out]; omega
          rw [HK.out, hg, hlen]
          have hq := out2 (l := e :: out k l) HVV.out hb0 HSZ.out hb2 hrow2 hlen (.int .i64 (room : Int)) (.slice A2 (1 + m) c2)
          exact ⟨A2, c2, rfl, hq.1, Es.own_cap hrow2, .inr (own_from hrow2 hb0.size), hq.2⟩
      · have hbk : (e.key == k) = false := by simpa using hk
        have HK := Lib.hid hk
        clear hk
        go_wp2
        go_roundw
        case rel =>
          refine ⟨i + 1, by go_num, by omega, fun j x hj hx => ?_, trivial⟩
          by_cases hji : j = i
          · subst hji; rw [HE.out] at hx; injection hx with hx; subst hx; exact HK.out
          · exact HN.out j x (by omega) hx
        case measure => simp [intOf]; omega
    · have hin2 : i = n := by omega
      subst hin2
      have hs : seek k l = none := seek_nowhere (by rw [HL.out]; exact HN.out)
      have hg : Lru.get k l = l := by unfold Lru.get; rw [hs]
      have HS := Lib.hid hs
      have HG := Lib.hid hg
      clear hs hg
      go_wp2
      refine bodyPost_ret (v := .tuple #[rv room A i c, .string ⟨#[]⟩, .bool false]) (by simp [results, Try.results19, go_sem, r0, r1]) rfl ?_
      rw [HS.out, HG.out, HL.out]
      have hVV1 : w.heap.size ≤ V + 1 := by have := HVV.out; omega
      refine ⟨A, c, rfl, ?_, HC.out, .inl rfl, ?_⟩
      · exact Es.stored2 (HB.out.more (by have := HVV.out; omega)) (by have := HSZ.out; omega) _ _
      · exact (hb0.setCell (p := ⟨V + 1, 0, none⟩) hVV1 _).setCell (p := ⟨V + 1, 1, none⟩) hVV1 _
end Go.Proofs.Ytpppgdfgbhglbaa.Ca
