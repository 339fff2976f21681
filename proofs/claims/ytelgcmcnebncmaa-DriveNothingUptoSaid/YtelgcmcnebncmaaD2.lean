/- The walk of apply: a change is made in a directory. -/
import Derived.Test.YtelgcmcnebncmaaD1
namespace Go.Proofs.Ytelgcmcnebncmaa.Dr
open Go.RowKit Go.Proofs Go.Proofs.Ytelgcmcnebncmaa.Ring

theorem apply_snoc (l : Dir) (c : List (Bs × Option Nat)) {i : Nat} {s : Bs × Option Nat} (h : c[i]? = some s) : apply l (c.take (i + 1)) = put (apply l (c.take i)) s.1 s.2 := by
  rw [List.take_add_one, h]
  unfold apply
  rw [List.foldl_append]
  rfl
theorem len_apply_le (c : List (Bs × Option Nat)) : ∀ l : Dir, (apply l c).length ≤ l.length + c.length := by
  induction c with
  | nil => intro l; exact Nat.le_add_right _ _
  | cons s r ih =>
    intro l
    have h1 := ih (put l s.1 s.2)
    have h2 := len_put_le l s.1 s.2
    show (apply (put l s.1 s.2) r).length ≤ l.length + (r.length + 1)
    omega
set_option maxRecDepth 100000 in
set_option maxHeartbeats 1000000 in
theorem apply_gen {w : World} {b n base : Nat} {l : Dir} {v : Value} {c : List (Bs × Option Nat)} (h : DirAt Try.prog kStr w (.map (some b)) l) (hv : w.ownsRow base tStep 2 v n (cS c)) (hn : c.length = n) (hk : ∀ s ∈ c, s.1.length ≤ maxLen) (hl : l.length + c.countP (fun s => s.2.isSome) < maxLen) :
    Calls Try.prog 85 #[.map (some b), v] w fun x w' => x = .returned (.tuple #[]) ∧ DirAt Try.prog kStr w' (.map (some b)) (apply l c) ∧ Kept w w' (fun k => k = b) := by
  obtain ⟨A, cap, rfl, hb1, hb2⟩ := own_form hv
  have hnb : n ≤ 9223372036854775807 := by unfold maxLen at hb2; omega
  clear hb1 hb2
  have HV := Lib.hid hv
  have HN := Lib.hid hn
  have HL := Lib.hid hl
  have HK := Lib.hid hk
  have H := Lib.hid h
  have hb : b < w.heap.size := h.lt rfl
  have hbt : ∀ g cur e fr, w.heap[g]? = some (.cells cur e fr) → b ≠ g := fun g cur e fr hg => h.apart rfl hg
  clear hv hn hl hk h
  go_enter Try.func85, Try.ntmps85
  go_wp2
  go_loopw [8] (fun iv wr => ∃ i : Nat, iv = .int .i64 (i : Int) ∧ i ≤ n ∧ DirAt Try.prog kStr wr (.map (some b)) (apply l (c.take i)) ∧ Kept w wr (fun k => k = b)) (fun iv _ => n - (intOf iv).toNat)
  case atStart => exact ⟨0, rfl, by omega, H.out, Kept.refl _ _⟩
  case round =>
    obtain ⟨i, rfl, hi, hd, hkp⟩ := hrel
    by_cases hlt : i < n
    · obtain ⟨s, hs⟩ : ∃ s, c[i]? = some s := ⟨_, List.getElem?_eq_getElem (by have := HN.out; omega)⟩
      obtain ⟨g, cap', e, c0, c1⟩ := own_cells HV.out HN.out hs
      injection e with e1 e2 e3
      subst e1 e3
      obtain ⟨nm, dst⟩ := s
      have hg : ∃ cur, w.heap[g]? = some (.cells cur tStep (0, 0)) := own_lt HV.out rfl
      have hgb : wr.heap[g]? = w.heap[g]? := by
        obtain ⟨cur, hg⟩ := hg
        exact hkp.block g (Array.getElem?_eq_some_iff.1 hg).1 (fun e => hbt _ _ _ _ hg e.symm)
      have hnk : nm.length ≤ maxLen := HK.out _ (List.mem_of_getElem? hs)
      have d0 : wr.cell? ⟨g, i * 2, none⟩ = some (.string ⟨nm.toArray⟩) := (World.cell?_of_block hgb).trans c0
      have d1 : wr.cell? ⟨g, i * 2 + 1, none⟩ = some (ptr dst) := (World.cell?_of_block hgb).trans c1
      have hlt2 : (i : Int) < (n : Int) := by omega
      have HS := Lib.hid hs
      have HD := Lib.hid hd
      have HKP := Lib.hid hkp
      have hln : (apply l (c.take i)).length < maxLen := by
        have h1 := len_apply (c.take i) l
        have h2 := HL.out
        have h3 := (List.take_sublist i c).countP_le (p := fun s : Bs × Option Nat => s.2.isSome)
        omega
      clear c0 c1 hs hd hkp hg hgb
      cases dst with
      | none =>
        go_wp2_with (first
          | (refine wpList_loadStep rfl (.tmp 10) rfl g (i * 2) rfl d0 d1 ?_)
          | (refine wp_drop (HD.out.same (w' := wr.alloc (.cells #[.string ⟨nm.toArray⟩, .pointer none] tStep)) fun x hx => heap_alloc_old _ _ (HD.out.lt hx)) keyed rfl (.tmp 15) (.tmp 17) 104 rfl undirU rfl rfl (key_of hnk) ?_; intro w2 hd2 hg2 hs2))
        have HD2 := Lib.hid hd2
        have HG2 := Lib.hid hg2
        clear hd2 hg2 hs2 d0 d1
        go_wp2
        go_roundw
        case rel => exact ⟨i + 1, by go_num, by omega, by rw [apply_snoc l c HS.out]; exact HD2.out, (HKP.out.below ((Below.refl _ _).alloc (Nat.le_refl _) (.cells #[.string ⟨nm.toArray⟩, .pointer none] tStep))).grown HG2.out fun x hx => .inl (by simpa [mapBlock] using hx.symm)⟩
        case measure => simp [intOf]; omega
      | some t =>
        go_wp2_with (first
          | (refine wpList_loadStep rfl (.tmp 10) rfl g (i * 2) rfl d0 d1 ?_)
          | (refine wp_put (HD.out.same (w' := wr.alloc (.cells #[.string ⟨nm.toArray⟩, .pointer (some ⟨t, 0, none⟩)] tStep)) fun x hx => heap_alloc_old _ _ (HD.out.lt hx)) keyed rfl (.tmp 18) (.tmp 20) (.tmp 22) 104 rfl undirU hln rfl rfl (key_of hnk) t rfl ?_; intro w2 hd2 hg2 hs2))
        have HD2 := Lib.hid hd2
        have HG2 := Lib.hid hg2
        clear hd2 hg2 hs2 d0 d1
        go_wp2
        go_roundw
        case rel => exact ⟨i + 1, by go_num, by omega, by rw [apply_snoc l c HS.out]; exact HD2.out, (HKP.out.below ((Below.refl _ _).alloc (Nat.le_refl _) (.cells #[.string ⟨nm.toArray⟩, .pointer (some ⟨t, 0, none⟩)] tStep))).grown HG2.out fun x hx => .inl (by simpa [mapBlock] using hx.symm)⟩
        case measure => simp [intOf]; omega
    · obtain rfl : n = i := by omega
      go_wp2
      refine bodyPost_end (v := .tuple #[]) (by simp [results, Try.results85, go_sem]) rfl ?_
      rw [List.take_of_length_le (by have := HN.out; omega)] at hd
      exact ⟨rfl, hd, hkp⟩
theorem apply_any {w : World} {b n base : Nat} {l : Dir} {v : Value} {c : List (Bs × Option Nat)} (h : DirAt Try.prog kStr w (.map (some b)) l) (hv : w.ownsRow base tStep 2 v n (cS c)) (hn : c.length = n) (hk : ∀ s ∈ c, s.1.length ≤ maxLen) (hl : l.length + n < maxLen) :
    Calls Try.prog 85 #[.map (some b), v] w fun x w' => x = .returned (.tuple #[]) ∧ DirAt Try.prog kStr w' (.map (some b)) (apply l c) ∧ Kept w w' (fun k => k = b) :=
  apply_gen h hv hn hk (by have := List.countP_le_length (p := fun s : Bs × Option Nat => s.2.isSome) (l := c); omega)
end Go.Proofs.Ytelgcmcnebncmaa.Dr
