/- XRf8, XTr: merged by tools/merge.py. -/
import Derived.Test.YtelgcmcnebncmaaQ27
import Derived.Test.YtelgcmcnebncmaaQ05
import Derived.Test.YtelgcmcnebncmaaQ20
import Derived.Test.YtelgcmcnebncmaaQ09
namespace Go.Proofs.Ytelgcmcnebncmaa.Dr
set_option linter.unusedVariables false
open Go.RowKit Go.Proofs Go.Proofs.Ytelgcmcnebncmaa.Ring

section
variable {w : World} {S : Nat → Prop} {r m N : Nat} {D : Dr.D}
set_option maxRecDepth 100000 in
set_option maxHeartbeats 8000000 in
theorem rflip_any (h : Rv w S r D m N) (n : Bs) (k : Int) {Ax : Option Addr} {t cx : Nat} {x : Bs} (hx : Rd w w.heap.size 1 Ax t (cU8 x)) (hm : m ≤ 140737488355328) :
    Calls Try.prog 71 #[.pointer (some ⟨r, 0, none⟩), encStr n, .int .i64 k, .slice Ax t cx] w fun y w' => y = .returned (.int .i64 (D.flip n k x).2) ∧ Rturn w w' S r (D.flip n k x).1 m N := by
  have hok := h.1.flip n k x
  have H := Lib.hid h
  have hxl : x.length = t := by simpa using hx.1
  have HX := Lib.hid hx
  have HXL := Lib.hid hxl
  clear hx hxl
  obtain ⟨ho, hbn, vb, vn, vk, vc, ds, cs, h⟩ := h
  unfold Dr.D.flip at hok ⊢
  cases hnm : Dr.named n with
  | false =>
    have hl : D.look n = .error 91 := by unfold Dr.D.look; rw [if_neg (by simp [hnm])]
    rw [if_neg (by simp), hl]
    have HNM := Lib.hid hnm
    clear hnm hok h hl
    go_enter Try.func71, Try.ntmps71
    go_wp2_with (go_at_call 97; refine (rnamed_any n _).mono ?_; rw [HNM.out]; rintro x w1 ⟨rfl, rfl⟩)
    go_ret
    exact ⟨rfl, Rturn.refl H.out⟩
  | true =>
    have HNM := Lib.hid hnm
    rw [hnm] at hok
    by_cases hk : k < 0
    · rw [if_pos (by simp [hk])]
      clear hnm hok h
      go_enter Try.func71, Try.ntmps71
      go_wp2_with (go_at_call 97; refine (rnamed_any n _).mono ?_; rw [HNM.out]; rintro x w1 ⟨rfl, rfl⟩)
      go_ret
      exact ⟨rfl, Rturn.refl H.out⟩
    · rw [if_neg (by simp; omega)] at hok ⊢
      obtain ⟨q, rfl⟩ : ∃ q : Nat, k = (q : Int) := ⟨k.toNat, by omega⟩
      rw [show ((q : Int)).toNat = q by omega] at hok ⊢
      cases hl : D.look n with
      | error e =>
        have hne := look_ne hl
        have hz : atZ D n = -1 := by unfold atZ; rw [hl]
        have he : atE D n = e := by unfold atE; rw [hl]
        have HZ := Lib.hid hz
        have HE := Lib.hid he
        clear hnm hok h hl hz he
        go_enter Try.func71, Try.ntmps71
        go_wp2_with (first
          | (go_at_call 97; refine (rnamed_any n _).mono ?_; rw [HNM.out]; rintro x w1 ⟨rfl, rfl⟩)
          | (go_at_call 101; refine (rat_any H.out n HZ.out HE.out).mono ?_; rintro x w1 ⟨rfl, rfl⟩))
        go_ret
        exact ⟨rfl, Rturn.refl H.out⟩
      | ok i =>
        rw [hl] at hok
        dsimp only at hok ⊢
        have hz : atZ D n = (i : Int) := by unfold atZ; rw [hl]
        have he : atE D n = 0 := by unfold atE; rw [hl]
        have hil := (look_in ho hl).2
        have hdm := (ho.at_ok i).2
        obtain ⟨hb, gb, cb, Av, cv, rfl, hv, hrow, e0, _, f0, _⟩ := h.body hil
        obtain ⟨_, x1, _, _, _⟩ := rcells h.head
        have hlt : (i : Int) < (D.bd.length : Int) := by omega
        have HZ := Lib.hid hz
        have HE := Lib.hid he
        have HA := Lib.hid h
        have HB := Lib.hid hb
        have HOK := Lib.hid hok
        have HRD := Lib.hid (Rd.of_own hrow)
        have HNL := Lib.hid (own_none hrow)
        have HIL := Lib.hid hil
        clear h hl hz he hb hv hrow hil hok hnm
        go_enter Try.func71, Try.ntmps71
        go_upto_region 12 with (first
          | (go_at_call 97; refine (rnamed_any n _).mono ?_; rw [HNM.out]; rintro x w1 ⟨rfl, rfl⟩)
          | (go_at_call 101; refine (rat_any H.out n HZ.out HE.out).mono ?_; rintro x w1 ⟨rfl, rfl⟩)
          | (go_at_call 84; go_loud (refine (rcopied_any HRD.out HNL.out (by omega)).mono ?_); rintro x w1 ⟨A1, c1, rfl, hrow1, hb1⟩; have HROW1 := Lib.hid hrow1; have HB1 := Lib.hid hb1; clear hrow1 hb1))
        go_upto_region 13 with (fail)
        clear x1 e0 f0
        obtain ⟨L, hL⟩ : ∃ L, (D.at i).data.length = L := ⟨_, rfl⟩
        have HL := Lib.hid hL
        rw [hL] at HROW1 hdm ⊢
        clear hL
        go_loopw [13] (fun iv wr => ∃ j : Nat, iv = .int .i64 (j : Int) ∧ j ≤ t ∧ j ≤ L - q ∧ wr.ownsRow w.heap.size tU8 1 (.slice A1 L c1) L (cU8 (flipAt (D.at i).data q (x.take j))) ∧ Below w.heap.size w wr) (fun iv _ => t - (intOf iv).toNat)
        case atStart => exact ⟨0, rfl, by omega, by omega, by rw [List.take_zero, flipAt_nil]; exact HROW1.out, HB1.out⟩
        case round =>
          obtain ⟨j, rfl, hj, hjq, hrow, hbw⟩ := hrel
          by_cases hjt : j < t
          · have hjt2 : (j : Int) < (t : Int) := by omega
            have hjt3 : decide ((j : Int) < (t : Int)) = true := decide_eq_true hjt2
            by_cases hqj : q + j < L
            · have hqj2 : (q : Int) < (L : Int) - (j : Int) := by omega
              obtain ⟨g1, rfl⟩ := own_some hrow (by omega)
              obtain ⟨ad, rfl, hadb, hadc⟩ := HX.out.2 (by omega)
              obtain ⟨b, hb9⟩ : ∃ b, (D.at i).data[q + j]? = some b := ⟨_, List.getElem?_eq_getElem (by have := HL.out; omega)⟩
              obtain ⟨p, hp⟩ : ∃ p, x[j]? = some p := ⟨_, List.getElem?_eq_getElem (by have := HXL.out; omega)⟩
              have d0 : wr.cell? (ad.add j) = some (.int .u8 (p.toNat : Int)) := (hbw.cell (p := ad.add j) (by rw [add_block]; exact hadb)).trans (hadc j _ (by simp [cU8, hp]))
              have d1 : wr.cell? ⟨g1, q + j, none⟩ = some (.int .u8 (b.toNat : Int)) := own_cell hrow (k := q + j) hqj (by simp [cU8, flipAt_at hb9])
              have d2 : wr.frozen? ⟨g1, q + j, none⟩ = false := hrow.frozenAt _
              have HROW := Lib.hid hrow
              have HBW := Lib.hid hbw
              have HB9 := Lib.hid hb9
              have HPP := Lib.hid hp
              clear hrow hbw hb9 hp hadb hadc
              go_upto_region 15 with (fail)
              go_region
              rw [xor_u8]
              have hnew := own_store HROW.out (i := q + j) hqj (.int .u8 ((b ^^^ p).toNat : Int))
              rw [show (cU8 (flipAt (D.at i).data q (x.take j))).set (q + j) (.int .u8 ((b ^^^ p).toNat : Int)) = cU8 (flipAt (D.at i).data q (x.take (j + 1))) by rw [flipAt_snoc HB9.out HPP.out]; simp [cU8, List.map_set]] at hnew
              have HNEW := Lib.hid (own_below hnew (Below.refl _ _).drew)
              have hbn2 : Below w.heap.size w ((wr.setCell ⟨g1, q + j, none⟩ (.int .u8 ((b ^^^ p).toNat : Int))).drew) := (HBW.out.grown ((HROW.out.stored (q + j) (.int .u8 ((b ^^^ p).toNat : Int))).2) HBW.out.size (fun k hk => own_ge HROW.out (by simpa [Value.ownBlock] using hk))).drew
              have HBN2 := Lib.hid hbn2
              clear hnew hbn2 d0 d1 d2
              go_wp2
              go_roundw
              case rel => exact ⟨j + 1, by go_num, by omega, by omega, HNEW.out, HBN2.out⟩
              case measure => simp [intOf]; omega
            · have hqj2 : ¬ (q : Int) < (L : Int) - (j : Int) := by omega
              rw [flipAt_all (by have := HXL.out; have := HL.out; omega)] at hrow
              have hA := HA.out.below hbw
              obtain ⟨_, x1, _, _, _⟩ := rcells hA.head
              have hvl : i < ds.length := by have := HA.out.dl; have := HIL.out; omega
              obtain ⟨_, gb', cb', Av', cv', hvb', _, _, e0, _, f0, _⟩ := hA.body HIL.out
              injection hvb' with hvb' _ hcb'
              injection hvb' with hvb'
              injection hvb' with hvb'
              subst hvb' hcb'
              have hA2 := hA.wider (S' := fun k => S k ∨ (w.heap.size ≤ k ∧ k < wr.heap.size)) (fun k hk => .inl hk) (fun k hk => by
                rcases hk with hk | hk
                · exact hA.low k hk
                · exact hk.2)
              have hrow3 : wr.ownsRow 0 tU8 1 (.slice A1 L c1) (flipAt (D.at i).data q x).length (cU8 (flipAt (D.at i).data q x)) := by
                rw [flipAt_len, HL.out]
                exact own_base hrow (Nat.zero_le _)
              have hset := hA2.setData rfl HB.out hrow3 (fun g hg => .inr ⟨own_ge hrow hg, by obtain ⟨cur, h3⟩ := own_lt hrow hg; exact (Array.getElem?_eq_some_iff.1 h3).1⟩)
              have hfin : Rturn w (wr.setCell ⟨gb, i * 2, none⟩ (.slice A1 L c1)) S r (D.setBody i ⟨flipAt (D.at i).data q x, (D.at i).safe⟩) m N :=
                ⟨_, ⟨HOK.out, by show (D.bd.set i _).length ≤ N; rw [List.length_set]; exact hbn, _, _, _, _, _, _, hset⟩, (Kept.of_below S hbw).set (HA.out.inB gb rfl) _, fun k hk => by
                  rcases hk with hk | hk
                  · exact .inl hk
                  · exact .inr hk.1⟩
              have HFIN := Lib.hid hfin
              clear hfin hset hrow3 hA2 hA hrow hbw
              go_wp2
              go_ret
              exact ⟨rfl, HFIN.out⟩
          · have hjt2 : ¬ (j : Int) < (t : Int) := by omega
            have hjt3 : decide ((j : Int) < (t : Int)) = false := decide_eq_false hjt2
            rw [flipAt_all (by have := HXL.out; have := HL.out; omega)] at hrow
            have hA := HA.out.below hbw
            obtain ⟨_, x1, _, _, _⟩ := rcells hA.head
            have hvl : i < ds.length := by have := HA.out.dl; have := HIL.out; omega
            obtain ⟨_, gb', cb', Av', cv', hvb', _, _, e0, _, f0, _⟩ := hA.body HIL.out
            injection hvb' with hvb' _ hcb'
            injection hvb' with hvb'
            injection hvb' with hvb'
            subst hvb' hcb'
            have hA2 := hA.wider (S' := fun k => S k ∨ (w.heap.size ≤ k ∧ k < wr.heap.size)) (fun k hk => .inl hk) (fun k hk => by
              rcases hk with hk | hk
              · exact hA.low k hk
              · exact hk.2)
            have hrow3 : wr.ownsRow 0 tU8 1 (.slice A1 L c1) (flipAt (D.at i).data q x).length (cU8 (flipAt (D.at i).data q x)) := by
              rw [flipAt_len, HL.out]
              exact own_base hrow (Nat.zero_le _)
            have hset := hA2.setData rfl HB.out hrow3 (fun g hg => .inr ⟨own_ge hrow hg, by obtain ⟨cur, h3⟩ := own_lt hrow hg; exact (Array.getElem?_eq_some_iff.1 h3).1⟩)
            have hfin : Rturn w (wr.setCell ⟨gb, i * 2, none⟩ (.slice A1 L c1)) S r (D.setBody i ⟨flipAt (D.at i).data q x, (D.at i).safe⟩) m N :=
              ⟨_, ⟨HOK.out, by show (D.bd.set i _).length ≤ N; rw [List.length_set]; exact hbn, _, _, _, _, _, _, hset⟩, (Kept.of_below S hbw).set (HA.out.inB gb rfl) _, fun k hk => by
                rcases hk with hk | hk
                · exact .inl hk
                · exact .inr hk.1⟩
            have HFIN := Lib.hid hfin
            clear hfin hset hrow3 hA2 hA hrow hbw
            go_wp2
            go_ret
            exact ⟨rfl, HFIN.out⟩
end
end Go.Proofs.Ytelgcmcnebncmaa.Dr
namespace Go.Proofs.Ytelgcmcnebncmaa.Dr
open Go.RowKit Go.Proofs Go.Proofs.Ytelgcmcnebncmaa.Ring

theorem full_begun {d : Dr.D} {m N : Nat} {how room : Int} {fs : List (Bs × Bs)} (h : begun how room fs = some d) (ho : d.Ok m N) : ∃ s, Full (Tr.anew d.image) s d := by
  have fresh : ∀ r, (Dr.D.fresh r).kept = (Dr.D.fresh r).now ∧ (Dr.D.fresh r).pend = [] ∧ (Dr.D.fresh r).now.length = (Dr.D.fresh r).bd.length ∧ ∀ b ∈ (Dr.D.fresh r).bd, b.safe = b.data.length := fun r => ⟨rfl, rfl, rfl, fun b hb => by cases hb⟩
  have : d.kept = d.now ∧ d.pend = [] ∧ d.now.length = d.bd.length ∧ ∀ b ∈ d.bd, b.safe = b.data.length := by
    unfold begun at h
    split at h
    · unfold Dr.D.new at h
      split at h
      · injection h with h; subst h; exact fresh _
      · cases h
    · split at h
      · unfold Dr.D.load at h
        split at h
        · obtain ⟨h1, h2⟩ := loadAt_joined fs rfl rfl h
          obtain ⟨h3, h4⟩ := loadAt_whole fs rfl (fun b hb => by cases hb) h
          exact ⟨h1.symm, h2, h3, h4⟩
        · cases h
      · injection h with h; subst h; exact fresh _
  exact ⟨_, full_anew ho this.1 this.2.1 this.2.2.1 this.2.2.2⟩
abbrev tTrace := 156
abbrev tInts := 27
abbrev tIntE := 3
def leadZ : Option Nat → Int
  | none => -1
  | some i => i
abbrev cLead (l : List (Option Nat)) : List Value := l.map fun x => .int .i64 (leadZ x)
abbrev cNat (l : List Nat) : List Value := l.map fun (x : Nat) => .int .i64 (x : Int)
/-- A row: its elements' type, its value, its cells. -/
structure Pc where
  e : TypeId
  v : Value
  xs : List Value
/-- Rows in blocks of T, no two of them in one block. -/
structure Pcs (w : World) (T : Nat → Prop) (L : List Pc) : Prop where
  row : ∀ (i : Nat) x, L[i]? = some x → w.ownsRow 0 x.e 1 x.v x.xs.length x.xs
  in_ : ∀ (i : Nat) x g, L[i]? = some x → x.v.ownBlock = some g → T g
  own : ∀ (i j : Nat) x y g, L[i]? = some x → L[j]? = some y → x.v.ownBlock = some g → y.v.ownBlock = some g → i = j
section
variable {w w1 : World} {T : Nat → Prop} {L : List Pc} {i : Nat} {x : Pc}
theorem Pcs.same (h : Pcs w T L) (hw : ∀ (i : Nat) x g, L[i]? = some x → x.v.ownBlock = some g → w1.heap[g]? = w.heap[g]?) : Pcs w1 T L :=
  ⟨fun i x hx => own_same (h.row i x hx) fun g hg => hw i x g hx hg, h.in_, h.own⟩
theorem set_cases {y : Pc} {j : Nat} {z : Pc} (h : (L.set i y)[j]? = some z) : (j = i ∧ z = y) ∨ (j ≠ i ∧ L[j]? = some z) := by
  rw [List.getElem?_set] at h
  by_cases hij : i = j
  · rw [if_pos hij] at h
    split at h
    · exact .inl ⟨hij.symm, by injection h with h; exact h.symm⟩
    · cases h
  · rw [if_neg hij] at h
    exact .inr ⟨fun e => hij e.symm, h⟩
theorem Pcs.turn (h : Pcs w T L) (hi : L[i]? = some x) {v : Value} {xs : List Value} (hg : w.grownBy w1 x.v.ownBlock) (ho : w1.ownsRow 0 x.e 1 v xs.length xs) (hb : ∀ g, v.ownBlock = some g → x.v.ownBlock = some g ∨ w.heap.size ≤ g) :
    Pcs w1 (fun k => T k ∨ (w.heap.size ≤ k ∧ k < w1.heap.size)) (L.set i ⟨x.e, v, xs⟩) := by
  have hlt : ∀ (j : Nat) y g, L[j]? = some y → y.v.ownBlock = some g → g < w.heap.size := fun j y g hy hg2 => by
    obtain ⟨cur, h1⟩ := own_lt (h.row j y hy) hg2
    exact (Array.getElem?_eq_some_iff.1 h1).1
  refine ⟨fun j y hy => ?_, fun j y g hy hg2 => ?_, fun j k y z g hy hz h1 h2 => ?_⟩
  · rcases set_cases hy with ⟨rfl, rfl⟩ | ⟨hne, hy⟩
    · exact ho
    · exact own_same (h.row j y hy) fun g hg2 => hg.block g (hlt j y g hy hg2) fun e => hne (h.own j i y x g hy hi hg2 e.symm)
  · rcases set_cases hy with ⟨rfl, rfl⟩ | ⟨hne, hy⟩
    · rcases hb g hg2 with h1 | h1
      · exact .inl (h.in_ j x g hi h1)
      · obtain ⟨cur, h2⟩ := own_lt ho hg2
        exact .inr ⟨h1, (Array.getElem?_eq_some_iff.1 h2).1⟩
    · exact .inl (h.in_ j y g hy hg2)
  · rcases set_cases hy with ⟨rfl, rfl⟩ | ⟨hne, hy2⟩ <;> rcases set_cases hz with ⟨rfl, rfl⟩ | ⟨hne2, hz2⟩
    · rfl
    · rcases hb g h1 with h3 | h3
      · exact h.own j k x z g hi hz2 h3 h2
      · have := hlt k z g hz2 h2; omega
    · rcases hb g h2 with h3 | h3
      · exact h.own j k y x g hy2 hi h1 h3
      · have := hlt j y g hy2 h1; omega
    · exact h.own j k y z g hy2 hz2 h1 h2
theorem Pcs.snoc (h : Pcs w T L) {y : Pc} (hg : w.grownBy w1 none) (ho : w1.ownsRow 0 y.e 1 y.v y.xs.length y.xs) (hb : ∀ g, y.v.ownBlock = some g → w.heap.size ≤ g) :
    Pcs w1 (fun k => T k ∨ (w.heap.size ≤ k ∧ k < w1.heap.size)) (L ++ [y]) := by
  have hlt : ∀ (j : Nat) y g, L[j]? = some y → y.v.ownBlock = some g → g < w.heap.size := fun j y g hy hg2 => by
    obtain ⟨cur, h1⟩ := own_lt (h.row j y hy) hg2
    exact (Array.getElem?_eq_some_iff.1 h1).1
  have hc : ∀ {j : Nat} {z : Pc}, (L ++ [y])[j]? = some z → (j = L.length ∧ z = y) ∨ L[j]? = some z := by
    intro j z hz
    rcases Nat.lt_or_ge j L.length with h1 | h1
    · rw [List.getElem?_append_left h1] at hz; exact .inr hz
    · rw [List.getElem?_append_right h1] at hz
      have h2 := (List.getElem?_eq_some_iff.1 hz).1
      obtain rfl : j = L.length := by simp at h2; omega
      simp at hz
      exact .inl ⟨rfl, hz.symm⟩
  refine ⟨fun j z hz => ?_, fun j z g hz hg2 => ?_, fun j k z u g hz hu h1 h2 => ?_⟩
  · rcases hc hz with ⟨rfl, rfl⟩ | hz
    · exact ho
    · exact own_same (h.row j z hz) fun g hg2 => hg.block g (hlt j z g hz hg2) (by simp)
  · rcases hc hz with ⟨rfl, rfl⟩ | hz
    · obtain ⟨cur, h2⟩ := own_lt ho hg2
      exact .inr ⟨hb g hg2, (Array.getElem?_eq_some_iff.1 h2).1⟩
    · exact .inl (h.in_ j z g hz hg2)
  · rcases hc hz with ⟨rfl, rfl⟩ | hz2 <;> rcases hc hu with ⟨rfl, rfl⟩ | hu2
    · rfl
    · have := hlt k u g hu2 h2; have := hb g h1; omega
    · have := hlt j z g hz2 h1; have := hb g h2; omega
    · exact h.own j k z u g hz2 hu2 h1 h2
theorem set_same {α : Type} {l : List α} {i : Nat} {a : α} (h : l[i]? = some a ∨ l.length ≤ i) : l.set i a = l := by
  apply List.ext_getElem?
  intro j
  rw [List.getElem?_set]
  split
  · rename_i e
    subst e
    rcases h with h | h
    · rw [h, if_pos (List.getElem?_eq_some_iff.1 h).1]
    · rw [if_neg (by omega), List.getElem?_eq_none h]
  · rfl
/-- Five rows at the fields of the struct at p, and more of them. -/
structure St (w : World) (T : Nat → Prop) (p : Nat) (L : List Pc) : Prop where
  head : w.heap[p]? = some (.cells ((L.take 5).map (·.v)).toArray tTrace (0, 0))
  pcs : Pcs w T L
  inP : T p
  low : ∀ k, T k → k < w.heap.size
  types : ∀ x ∈ L, x.e ≠ tTrace
/-- What a call of a trace leaves. -/
def Sturn (w w1 : World) (T : Nat → Prop) (p : Nat) (L : List Pc) : Prop := ∃ T1, St w1 T1 p L ∧ Kept w w1 T ∧ ∀ k, T1 k → T k ∨ w.heap.size ≤ k
variable {p : Nat}
theorem Sturn.join {w2 : World} {T1 : Nat → Prop} (hk : Kept w w1 T) (hs : ∀ k, T1 k → T k ∨ w.heap.size ≤ k) (h : Sturn w1 w2 T1 p L) : Sturn w w2 T p L := by
  obtain ⟨T2, b1, b2, b3⟩ := h
  refine ⟨T2, b1, hk.trans b2 hs, fun k hk2 => ?_⟩
  rcases b3 k hk2 with h | h
  · exact hs k h
  · exact .inr (Nat.le_trans hk.size h)
theorem St.turned (h : St w T p L) : Sturn w w T p L := ⟨T, h, Kept.refl w T, fun _ hk => .inl hk⟩
theorem Sturn.then {w2 : World} {L2 : List Pc} (h : Sturn w w1 T p L) (h2 : ∀ T1, St w1 T1 p L → Sturn w1 w2 T1 p L2) : Sturn w w2 T p L2 := by
  obtain ⟨T1, a1, a2, a3⟩ := h
  obtain ⟨T2, b1, b2, b3⟩ := h2 T1 a1
  refine ⟨T2, b1, a2.trans b2 a3, fun k hk => ?_⟩
  rcases b3 k hk with h | h
  · exact a3 k h
  · exact .inr (Nat.le_trans a2.size h)
theorem Sturn.below {w2 : World} (h : Sturn w w1 T p L) (hb : Below w1.heap.size w1 w2) : Sturn w w2 T p L := by
  obtain ⟨T1, a1, a2, a3⟩ := h
  refine ⟨T1, ⟨(hb.block p (a1.low p a1.inP)).trans a1.head, a1.pcs.same fun i x g hx hg => hb.block g (a1.low g (a1.pcs.in_ i x g hx hg)), a1.inP, fun k hk => Nat.lt_of_lt_of_le (a1.low k hk) hb.size, a1.types⟩, a2.below hb, a3⟩
theorem St.not_p (h : St w T p L) (hi : L[i]? = some x) : x.v.ownBlock ≠ some p := by
  intro hp
  obtain ⟨cur, h1⟩ := own_lt (h.pcs.row i x hi) hp
  rw [h.head] at h1
  injection h1 with h1
  injection h1 with _ h2 _
  exact h.types x (List.mem_of_getElem? hi) h2.symm
/-- A row is written, or grows. -/
theorem St.turn (h : St w T p L) (hi : L[i]? = some x) (h5 : 5 ≤ i) {v : Value} {xs : List Value} (hg : w.grownBy w1 x.v.ownBlock) (ho : w1.ownsRow 0 x.e 1 v xs.length xs) (hb : ∀ g, v.ownBlock = some g → x.v.ownBlock = some g ∨ w.heap.size ≤ g) :
    Sturn w w1 T p (L.set i ⟨x.e, v, xs⟩) := by
  refine ⟨_, ⟨?_, h.pcs.turn hi hg ho hb, .inl h.inP, fun k hk => ?_, fun y hy => ?_⟩, (Kept.refl w T).grown hg fun g hg2 => .inl (h.pcs.in_ i x g hi hg2), fun k hk => ?_⟩
  · rw [hg.block p (h.low p h.inP) fun e => h.not_p hi e.symm, h.head]
    rw [List.take_set_of_le (by omega)]
  · rcases hk with hk | hk
    · exact Nat.lt_of_lt_of_le (h.low k hk) hg.size
    · exact hk.2
  · rcases List.mem_or_eq_of_mem_set hy with h1 | rfl
    · exact h.types y h1
    · exact h.types x (List.mem_of_getElem? hi)
  · rcases hk with hk | hk
    · exact .inl hk
    · exact .inr hk.1
/-- A field's row grows, and is stored. -/
theorem St.grow (h : St w T p L) (hi : L[i]? = some x) (h5 : i < 5) {v : Value} {xs : List Value} (hg : w.grownBy w1 x.v.ownBlock) (ho : w1.ownsRow 0 x.e 1 v xs.length xs) (hb : ∀ g, v.ownBlock = some g → x.v.ownBlock = some g ∨ w.heap.size ≤ g) :
    Sturn w (w1.setCell ⟨p, i, none⟩ v) T p (L.set i ⟨x.e, v, xs⟩) := by
  have hs : (w1.setCell ⟨p, i, none⟩ v).heap.size = w1.heap.size := by simp [World.setCell]
  have hp := (hg.block p (h.low p h.inP) fun e => h.not_p hi e.symm).trans h.head
  have hpc := h.pcs.turn hi hg ho hb
  refine ⟨_, ⟨?_, hpc.same fun j y g hy hgy => Below.heap_setCell _ _ _ g ?_, .inl h.inP, fun k hk => ?_, fun y hy => ?_⟩, ((Kept.refl w T).grown hg fun g hg2 => .inl (h.pcs.in_ i x g hi hg2)).set h.inP _, fun k hk => ?_⟩
  · rw [heap_same hp]
    congr 2
    rw [List.take_set, List.map_set, List.setIfInBounds_toArray]
  · rintro rfl
    rcases set_cases hy with ⟨rfl, rfl⟩ | ⟨_, hy⟩
    · rcases hb g hgy with h1 | h1
      · exact h.not_p hi h1
      · have := h.low g h.inP; omega
    · exact h.not_p hy hgy
  · rw [hs]
    rcases hk with hk | hk
    · exact Nat.lt_of_lt_of_le (h.low k hk) hg.size
    · exact hk.2
  · rcases List.mem_or_eq_of_mem_set hy with h1 | rfl
    · exact h.types y h1
    · exact h.types x (List.mem_of_getElem? hi)
  · rcases hk with hk | hk
    · exact .inl hk
    · exact .inr hk.1
/-- A place of a row is written. -/
theorem St.store (h : St w T p L) {e : TypeId} {g n cap : Nat} {xs : List Value} (hi : L[i]? = some ⟨e, .slice (some ⟨g, 0, none⟩) n cap, xs⟩) (j : Nat) (u : Value) :
    Sturn w (w.setCell ⟨g, j, none⟩ u) T p (L.set i ⟨e, .slice (some ⟨g, 0, none⟩) n cap, xs.set j u⟩) := by
  have hrow := h.pcs.row i _ hi
  have hn : xs.length = n := by
    rcases hrow.2 with ⟨h1, _⟩ | ⟨g', c', cur, h1, _⟩
    · cases h1
    · injection h1 with _ h2 _
      exact h2.symm
  dsimp only at hrow
  rw [hn] at hrow
  obtain ⟨ho, hg⟩ := hrow.stored j u
  have hs : (w.setCell ⟨g, j, none⟩ u).heap.size = w.heap.size := by simp [World.setCell]
  have hpc := h.pcs.turn hi (v := .slice (some ⟨g, 0, none⟩) n cap) (xs := xs.set j u) hg (by rw [List.length_set, hn]; exact ho) (fun k hk => .inl hk)
  refine ⟨_, ⟨?_, hpc, .inl h.inP, fun k hk => ?_, fun y hy => ?_⟩, (Kept.refl w T).set (h.pcs.in_ i _ g hi rfl) _, fun k hk => ?_⟩
  · rw [hg.block p (h.low p h.inP) fun e => h.not_p hi e.symm, h.head]
    have e : ((L.set i ⟨e, .slice (some ⟨g, 0, none⟩) n cap, xs.set j u⟩).take 5).map (·.v) = (L.take 5).map (·.v) := by
      rw [List.take_set, List.map_set]
      refine set_same ?_
      rcases Nat.lt_or_ge i 5 with h5 | h5
      · left
        rw [List.getElem?_map, List.getElem?_take_of_lt h5, hi]
        rfl
      · right
        simp; omega
    rw [e]
  · rw [hs]
    rcases hk with hk | hk
    · exact h.low k hk
    · rw [hs] at hk; omega
  · rcases List.mem_or_eq_of_mem_set hy with h1 | rfl
    · exact h.types y h1
    · have := h.types _ (List.mem_of_getElem? hi)
      exact this
  · rcases hk with hk | hk
    · exact .inl hk
    · exact .inr hk.1
/-- One more row. -/
theorem St.snoc (h : St w T p L) {y : Pc} (h5 : 5 ≤ L.length) (hg : w.grownBy w1 none) (ho : w1.ownsRow 0 y.e 1 y.v y.xs.length y.xs) (hb : ∀ g, y.v.ownBlock = some g → w.heap.size ≤ g) (he : y.e ≠ tTrace) : Sturn w w1 T p (L ++ [y]) := by
  refine ⟨_, ⟨?_, h.pcs.snoc hg ho hb, .inl h.inP, fun k hk => ?_, fun z hz => ?_⟩, (Kept.refl w T).grown hg fun g hg2 => (by cases hg2), fun k hk => ?_⟩
  · rw [hg.block p (h.low p h.inP) (by simp), h.head, List.take_append_of_le_length h5]
  · rcases hk with hk | hk
    · exact Nat.lt_of_lt_of_le (h.low k hk) hg.size
    · exact hk.2
  · rcases List.mem_append.1 hz with h1 | h1
    · exact h.types z h1
    · rw [List.mem_singleton.1 h1]; exact he
  · rcases hk with hk | hk
    · exact .inl hk
    · exact .inr hk.1
end
def shape (t : Tr) (vn vl ve vd vs : Value) (rs : List Value) : List Pc :=
  ⟨kStr, vn, cStr t.names⟩ :: ⟨tIntE, vl, cLead t.leads⟩ :: ⟨tInts, ve, rs⟩ :: ⟨kStr, vd, cStr t.data⟩ :: ⟨tIntE, vs, cNat t.safe⟩ :: (rs.zip t.led).map fun q => ⟨tIntE, q.1, cNat q.2⟩
/-- The trace lies at p, in blocks of T. -/
def TrA (w : World) (T : Nat → Prop) (p : Nat) (t : Tr) : Prop := ∃ vn vl ve vd vs rs, rs.length = t.led.length ∧ St w T p (shape t vn vl ve vd vs rs)
def TrT (w w1 : World) (T : Nat → Prop) (p : Nat) (t : Tr) : Prop := ∃ T1, TrA w1 T1 p t ∧ Kept w w1 T ∧ ∀ k, T1 k → T k ∨ w.heap.size ≤ k
theorem Sturn.tr {w w1 : World} {T : Nat → Prop} {p : Nat} {t : Tr} {vn vl ve vd vs : Value} {rs : List Value} (h : Sturn w w1 T p (shape t vn vl ve vd vs rs)) (hl : rs.length = t.led.length) : TrT w w1 T p t := by
  obtain ⟨T1, a1, a2, a3⟩ := h
  exact ⟨T1, ⟨vn, vl, ve, vd, vs, rs, hl, a1⟩, a2, a3⟩
theorem TrT.join {w w1 w2 : World} {T T1 : Nat → Prop} {p : Nat} {t : Tr} (hk : Kept w w1 T) (hs : ∀ k, T1 k → T k ∨ w.heap.size ≤ k) (h : TrT w1 w2 T1 p t) : TrT w w2 T p t := by
  obtain ⟨T2, b1, b2, b3⟩ := h
  refine ⟨T2, b1, hk.trans b2 hs, fun k hk2 => ?_⟩
  rcases b3 k hk2 with h | h
  · exact hs k h
  · exact .inr (Nat.le_trans hk.size h)
theorem TrT.then {w w1 w2 : World} {T : Nat → Prop} {p : Nat} {t t2 : Tr} (h : TrT w w1 T p t) (h2 : ∀ T1, TrA w1 T1 p t → TrT w1 w2 T1 p t2) : TrT w w2 T p t2 := by
  obtain ⟨T1, a1, a2, a3⟩ := h
  obtain ⟨T2, b1, b2, b3⟩ := h2 T1 a1
  refine ⟨T2, b1, a2.trans b2 a3, fun k hk => ?_⟩
  rcases b3 k hk with h | h
  · exact a3 k h
  · exact .inr (Nat.le_trans a2.size h)
theorem TrA.refl {w : World} {T : Nat → Prop} {p : Nat} {t : Tr} (h : TrA w T p t) : TrT w w T p t := ⟨T, h, Kept.refl w T, fun _ hk => .inl hk⟩
section
variable {w w1 w3 : World} {T : Nat → Prop} {p : Nat} {t : Tr} {vn vl ve vd vs v2 : Value} {rs : List Value} {o : Obj} {g n2 c2 : Nat}
theorem St.rows (h : St w T p (shape t vn vl ve vd vs rs)) (hl : rs.length = t.led.length) : w.ownsRow 0 kStr 1 vn t.names.length (cStr t.names) ∧ w.ownsRow 0 tIntE 1 vl t.leads.length (cLead t.leads) ∧ w.ownsRow 0 tInts 1 ve t.led.length rs ∧
    w.ownsRow 0 kStr 1 vd t.data.length (cStr t.data) ∧ w.ownsRow 0 tIntE 1 vs t.safe.length (cNat t.safe) := by
  have h0 := h.pcs.row 0 _ rfl
  have h1 := h.pcs.row 1 _ rfl
  have h2 := h.pcs.row 2 _ rfl
  have h3 := h.pcs.row 3 _ rfl
  have h4 := h.pcs.row 4 _ rfl
  dsimp only at h0 h1 h2 h3 h4
  rw [show (cStr t.names).length = t.names.length by simp] at h0
  rw [show (cLead t.leads).length = t.leads.length by simp] at h1
  rw [hl] at h2
  rw [show (cStr t.data).length = t.data.length by simp] at h3
  rw [show (cNat t.safe).length = t.safe.length by simp] at h4
  exact ⟨h0, h1, h2, h3, h4⟩
theorem St.open {w : World} {T : Nat → Prop} {p : Nat} {t : Tr} (h : TrA w T p t) : ∃ An cn Al cl Ae ce Ad cd As cs rs, rs.length = t.led.length ∧
    St w T p (shape t (.slice An t.names.length cn) (.slice Al t.leads.length cl) (.slice Ae t.led.length ce) (.slice Ad t.data.length cd) (.slice As t.safe.length cs) rs) := by
  obtain ⟨vn, vl, ve, vd, vs, rs, hl, h⟩ := h
  obtain ⟨h0, h1, h2, h3, h4⟩ := h.rows hl
  obtain ⟨An, cn, rfl, _, _⟩ := own_form h0
  obtain ⟨Al, cl, rfl, _, _⟩ := own_form h1
  obtain ⟨Ae, ce, rfl, _, _⟩ := own_form h2
  obtain ⟨Ad, cd, rfl, _, _⟩ := own_form h3
  obtain ⟨As, cs, rfl, _, _⟩ := own_form h4
  exact ⟨An, cn, Al, cl, Ae, ce, Ad, cd, As, cs, rs, hl, h⟩
/-- The row of a name's bodies. -/
theorem St.ledRow (h : St w T p (shape t vn vl ve vd vs rs)) {k : Nat} {v : Value} {l : List Nat} (hv : rs[k]? = some v) (hl : t.led[k]? = some l) : (shape t vn vl ve vd vs rs)[5 + k]? = some ⟨tIntE, v, cNat l⟩ ∧ w.ownsRow 0 tIntE 1 v l.length (cNat l) := by
  have e : (shape t vn vl ve vd vs rs)[5 + k]? = some ⟨tIntE, v, cNat l⟩ := by
    unfold shape
    rw [show 5 + k = k + 1 + 1 + 1 + 1 + 1 by omega]
    simp only [List.getElem?_cons_succ]
    rw [List.getElem?_map]
    have : (rs.zip t.led)[k]? = some (v, l) := by rw [List.getElem?_zip_eq_some]; exact ⟨hv, hl⟩
    rw [this]
    rfl
  have := h.pcs.row _ _ e
  dsimp only at this
  rw [show (cNat l).length = l.length by simp] at this
  exact ⟨e, this⟩
theorem St.head_grown {L : List Pc} {i : Nat} {x : Pc} (h : St w T p L) (hi : L[i]? = some x) (hg : (w.alloc o).grownBy w3 x.v.ownBlock) : w3.heap[p]? = w.heap[p]? := by
  have hp := h.low p h.inP
  exact (hg.block p (by simp; omega) fun e => h.not_p hi e.symm).trans (heap_alloc_old w o hp)
theorem grown_after {w w1 w3 : World} {r : Option Nat} (hb : Below w.heap.size w w1) (hg : w1.grownBy w3 r) : w.grownBy w3 r :=
  ⟨hg.os.trans hb.os, hg.tape.trans hb.tape, hg.output.trans hb.output, Nat.le_trans hb.size hg.size, fun k hk hne => (hg.block k (Nat.lt_of_lt_of_le hk hb.size) hne).trans (hb.block k hk)⟩
/-- A value is put behind a field's row: o is the literal that held it. -/
theorem St.appended {L : List Pc} {i : Nat} {e : TypeId} {v : Value} {xs ys : List Value} (h : St w T p L) (hi : L[i]? = some ⟨e, v, xs⟩) (h5 : i < 5) (hg : (w.alloc o).grownBy w3 v.ownBlock) (ho : w3.ownsRow 0 e 1 (.slice (some ⟨g, 0, none⟩) n2 c2) n2 ys)
    (hb : v.ownBlock = some g ∨ g = (w.alloc o).heap.size) : Sturn w (w3.setCell ⟨p, i, none⟩ (.slice (some ⟨g, 0, none⟩) n2 c2)) T p (L.set i ⟨e, .slice (some ⟨g, 0, none⟩) n2 c2, ys⟩) := by
  have hn : ys.length = n2 := by have := ho.1; omega
  refine (h.turned.below ((Below.refl _ _).alloc (Nat.le_refl _) o)).then fun T1 h1 => ?_
  refine h1.grow hi h5 hg (by rw [hn]; exact ho) fun g' hg' => ?_
  obtain rfl : g = g' := by simpa [Value.ownBlock] using hg'
  rcases hb with hb | hb
  · exact .inl hb
  · exact .inr (by omega)
theorem St.names (h : St w T p (shape t vn vl ve vd vs rs)) {n : Bs} (hg : (w.alloc o).grownBy w3 vn.ownBlock) (ho : w3.ownsRow 0 kStr 1 (.slice (some ⟨g, 0, none⟩) n2 c2) n2 (cStr t.names ++ [encStr n]))
    (hb : vn.ownBlock = some g ∨ g = (w.alloc o).heap.size) : Sturn w (w3.setCell ⟨p, 0, none⟩ (.slice (some ⟨g, 0, none⟩) n2 c2)) T p (shape { t with names := t.names ++ [n] } (.slice (some ⟨g, 0, none⟩) n2 c2) vl ve vd vs rs) := by
  have := h.appended (i := 0) rfl (by omega) hg ho hb
  rw [show cStr t.names ++ [encStr n] = cStr (t.names ++ [n]) by simp] at this
  exact this
theorem St.leads (h : St w T p (shape t vn vl ve vd vs rs)) {x : Option Nat} (hg : (w.alloc o).grownBy w3 vl.ownBlock) (ho : w3.ownsRow 0 tIntE 1 (.slice (some ⟨g, 0, none⟩) n2 c2) n2 (cLead t.leads ++ [.int .i64 (leadZ x)]))
    (hb : vl.ownBlock = some g ∨ g = (w.alloc o).heap.size) : Sturn w (w3.setCell ⟨p, 1, none⟩ (.slice (some ⟨g, 0, none⟩) n2 c2)) T p (shape { t with leads := t.leads ++ [x] } vn (.slice (some ⟨g, 0, none⟩) n2 c2) ve vd vs rs) := by
  have := h.appended (i := 1) rfl (by omega) hg ho hb
  rw [show cLead t.leads ++ [.int .i64 (leadZ x)] = cLead (t.leads ++ [x]) by simp] at this
  exact this
theorem St.data (h : St w T p (shape t vn vl ve vd vs rs)) {n : Bs} (hg : (w.alloc o).grownBy w3 vd.ownBlock) (ho : w3.ownsRow 0 kStr 1 (.slice (some ⟨g, 0, none⟩) n2 c2) n2 (cStr t.data ++ [encStr n]))
    (hb : vd.ownBlock = some g ∨ g = (w.alloc o).heap.size) : Sturn w (w3.setCell ⟨p, 3, none⟩ (.slice (some ⟨g, 0, none⟩) n2 c2)) T p (shape { t with data := t.data ++ [n] } vn vl ve (.slice (some ⟨g, 0, none⟩) n2 c2) vs rs) := by
  have := h.appended (i := 3) rfl (by omega) hg ho hb
  rw [show cStr t.data ++ [encStr n] = cStr (t.data ++ [n]) by simp] at this
  exact this
theorem St.safes (h : St w T p (shape t vn vl ve vd vs rs)) {x : Nat} (hg : (w.alloc o).grownBy w3 vs.ownBlock) (ho : w3.ownsRow 0 tIntE 1 (.slice (some ⟨g, 0, none⟩) n2 c2) n2 (cNat t.safe ++ [.int .i64 (x : Int)]))
    (hb : vs.ownBlock = some g ∨ g = (w.alloc o).heap.size) : Sturn w (w3.setCell ⟨p, 4, none⟩ (.slice (some ⟨g, 0, none⟩) n2 c2)) T p (shape { t with safe := t.safe ++ [x] } vn vl ve vd (.slice (some ⟨g, 0, none⟩) n2 c2) rs) := by
  have := h.appended (i := 4) rfl (by omega) hg ho hb
  rw [show cNat t.safe ++ [.int .i64 (x : Int)] = cNat (t.safe ++ [x]) by simp] at this
  exact this
/-- One more row of bodies: it lies in memory already (or is none). -/
theorem St.ledNew (h : St w T p (shape t vn vl ve vd vs rs)) (hl : rs.length = t.led.length) {v : Value} {l : List Nat} (hg0 : w.grownBy w1 none) (hv : w1.ownsRow 0 tIntE 1 v l.length (cNat l)) (hvb : ∀ g, v.ownBlock = some g → w.heap.size ≤ g)
    (hg : (w1.alloc o).grownBy w3 ve.ownBlock) (ho : w3.ownsRow 0 tInts 1 (.slice (some ⟨g, 0, none⟩) n2 c2) n2 (rs ++ [v]))
    (hb : ve.ownBlock = some g ∨ g = (w1.alloc o).heap.size) : Sturn w (w3.setCell ⟨p, 2, none⟩ (.slice (some ⟨g, 0, none⟩) n2 c2)) T p (shape { t with led := t.led ++ [l] } vn vl (.slice (some ⟨g, 0, none⟩) n2 c2) vd vs (rs ++ [v])) := by
  refine (h.snoc (y := ⟨tIntE, v, cNat l⟩) (by simp [shape]) hg0 (by rw [show (cNat l).length = l.length by simp]; exact hv) hvb (show tIntE ≠ tTrace by decide)).then fun T1 h1 => ?_
  have := h1.appended (i := 2) (e := tInts) (v := ve) (xs := rs) rfl (by omega) hg ho hb
  have e : (shape t vn vl ve vd vs rs ++ [(⟨tIntE, v, cNat l⟩ : Pc)]).set 2 ⟨tInts, .slice (some ⟨g, 0, none⟩) n2 c2, rs ++ [v]⟩ = shape { t with led := t.led ++ [l] } vn vl (.slice (some ⟨g, 0, none⟩) n2 c2) vd vs (rs ++ [v]) := by
    unfold shape
    dsimp only
    rw [List.zip_append hl, List.map_append]
    rfl
  rw [e] at this
  exact this
/-- The row of a name's bodies is another. -/
theorem St.ledSet {ge : Nat} (h : St w T p (shape t vn vl (.slice (some ⟨ge, 0, none⟩) n2 c2) vd vs rs)) {k : Nat} {v v' : Value} {l l' : List Nat} (hv : rs[k]? = some v) (hl : t.led[k]? = some l) (hg : w.grownBy w3 v.ownBlock)
    (ho : w3.ownsRow 0 tIntE 1 v' l'.length (cNat l')) (hb : ∀ g, v'.ownBlock = some g → v.ownBlock = some g ∨ w.heap.size ≤ g) :
    Sturn w (w3.setCell ⟨ge, k, none⟩ v') T p (shape { t with led := t.led.set k l' } vn vl (.slice (some ⟨ge, 0, none⟩) n2 c2) vd vs (rs.set k v')) := by
  obtain ⟨hi, _⟩ := h.ledRow hv hl
  refine (h.turn hi (by omega) (v := v') (xs := cNat l') hg (by rw [show (cNat l').length = l'.length by simp]; exact ho) hb).then fun T1 h1 => ?_
  have h2 := h1.store (i := 2) (e := tInts) (g := ge) (n := n2) (cap := c2) (xs := rs) (by
    rw [List.getElem?_set_ne (by omega)]
    rfl) k v'
  have e : ((shape t vn vl (.slice (some ⟨ge, 0, none⟩) n2 c2) vd vs rs).set (5 + k) ⟨tIntE, v', cNat l'⟩).set 2 ⟨tInts, .slice (some ⟨ge, 0, none⟩) n2 c2, rs.set k v'⟩ = shape { t with led := t.led.set k l' } vn vl (.slice (some ⟨ge, 0, none⟩) n2 c2) vd vs (rs.set k v') := by
    unfold shape
    rw [show 5 + k = k + 1 + 1 + 1 + 1 + 1 by omega]
    simp only [List.set_cons_succ, List.set_cons_zero]
    congr 5
    apply List.ext_getElem?
    intro j
    rw [List.getElem?_set]
    by_cases hkj : k = j
    · subst hkj
      have h3 : (((rs.set k v').zip (t.led.set k l')).map fun q : Value × List Nat => (⟨tIntE, q.1, cNat q.2⟩ : Pc))[k]? = some ⟨tIntE, v', cNat l'⟩ := by
        rw [List.getElem?_map]
        have : ((rs.set k v').zip (t.led.set k l'))[k]? = some (v', l') := by
          rw [List.getElem?_zip_eq_some, List.getElem?_set_self (List.getElem?_eq_some_iff.1 hv).1, List.getElem?_set_self (List.getElem?_eq_some_iff.1 hl).1]
          exact ⟨rfl, rfl⟩
        rw [this]; rfl
      rw [h3, if_pos rfl, if_pos]
      have := (List.getElem?_eq_some_iff.1 h3).1
      simpa using this
    · rw [if_neg hkj, List.getElem?_map, List.getElem?_map]
      congr 1
      unfold List.zip
      rw [List.getElem?_zipWith, List.getElem?_zipWith, List.getElem?_set_ne hkj, List.getElem?_set_ne hkj]
  rw [e] at h2
  exact h2
theorem St.leadSet {gl : Nat} (h : St w T p (shape t vn (.slice (some ⟨gl, 0, none⟩) n2 c2) ve vd vs rs)) (k : Nat) (x : Option Nat) :
    Sturn w (w.setCell ⟨gl, k, none⟩ (.int .i64 (leadZ x))) T p (shape { t with leads := t.leads.set k x } vn (.slice (some ⟨gl, 0, none⟩) n2 c2) ve vd vs rs) := by
  have := h.store (i := 1) (e := tIntE) (xs := cLead t.leads) rfl k (.int .i64 (leadZ x))
  rw [show (cLead t.leads).set k (.int .i64 (leadZ x)) = cLead (t.leads.set k x) by unfold cLead; rw [List.map_set]] at this
  exact this
theorem St.safeSet {gl : Nat} (h : St w T p (shape t vn vl ve vd (.slice (some ⟨gl, 0, none⟩) n2 c2) rs)) (k x : Nat) :
    Sturn w (w.setCell ⟨gl, k, none⟩ (.int .i64 (x : Int))) T p (shape (t.setSafe k x) vn vl ve vd (.slice (some ⟨gl, 0, none⟩) n2 c2) rs) := by
  have := h.store (i := 4) (e := tIntE) (xs := cNat t.safe) rfl k (.int .i64 (x : Int))
  rw [show (cNat t.safe).set k (.int .i64 (x : Int)) = cNat (t.safe.set k x) by unfold cNat; rw [List.map_set]] at this
  exact this
theorem St.dataSet {gl : Nat} (h : St w T p (shape t vn vl ve (.slice (some ⟨gl, 0, none⟩) n2 c2) vs rs)) (k : Nat) (x : Bs) :
    Sturn w (w.setCell ⟨gl, k, none⟩ (encStr x)) T p (shape { t with data := t.data.set k x } vn vl ve (.slice (some ⟨gl, 0, none⟩) n2 c2) vs rs) := by
  have := h.store (i := 3) (e := kStr) (xs := cStr t.data) rfl k (encStr x)
  rw [show (cStr t.data).set k (encStr x) = cStr (t.data.set k x) by unfold cStr; rw [List.map_set]] at this
  exact this
end
/-- The trace's lists fit one another, and are small. -/
structure Fit (t : Tr) (q : Nat) : Prop where
  len : t.leads.length = t.names.length ∧ t.led.length = t.names.length ∧ t.safe.length = t.data.length
  inL : ∀ (k i : Nat), t.leads[k]? = some (some i) → i < t.data.length
  ledIn : ∀ (k : Nat) l i, t.led[k]? = some l → i ∈ l → i < t.data.length
  small : Small t q
theorem Tells.fit {t : Tr} {s : Nat → Nat} {now : Bs → Option Nat} {led : Bs → Nat → Prop} {bn : Nat} {sf : Nat → Nat} {q : Nat} (h : Tells t s now led bn sf) (hs : Small t q) : Fit t q := ⟨h.len, h.inL, h.ledIn, hs⟩
section
variable {t : Tr} {q : Nat}
theorem Fit.mono (h : Fit t q) {q' : Nat} (hq : q ≤ q') : Fit t q' := ⟨h.len, h.inL, h.ledIn, h.small.mono hq⟩
theorem Fit.place (h : Fit t q) (n : Bs) : Fit (t.place n).1 (q + 1) := by
  refine ⟨?_, ?_, ?_, h.small.place n⟩ <;> unfold Tr.place <;> cases t.at? n with
  | some i => first | exact h.len | exact h.inL | exact h.ledIn
  | none => ?_
  · obtain ⟨l1, l2, l3⟩ := h.len
    exact ⟨by simp [l1], by simp [l2], l3⟩
  · intro k i hk
    rcases Nat.lt_or_ge k t.leads.length with hlt | hge
    · refine h.inL k i ?_
      rw [← hk]; exact (List.getElem?_append_left hlt).symm
    · change (t.leads ++ [Option.none])[k]? = _ at hk
      rw [List.getElem?_append_right hge] at hk
      obtain ⟨h1, h2⟩ := List.getElem?_eq_some_iff.1 hk
      simp at h2
  · intro k l i hk hi
    rcases Nat.lt_or_ge k t.led.length with hlt | hge
    · refine h.ledIn k l i ?_ hi
      rw [← hk]; exact (List.getElem?_append_left hlt).symm
    · change (t.led ++ [[]])[k]? = _ at hk
      rw [List.getElem?_append_right hge] at hk
      obtain ⟨h1, h2⟩ := List.getElem?_eq_some_iff.1 hk
      simp at h2
      subst h2; cases hi
theorem Fit.leadAt (h : Fit t q) (k : Nat) {x : Option Nat} (hx : ∀ i, x = some i → i < t.data.length) : Fit (t.leadAt k x) (q + 1) := by
  obtain ⟨l1, l2, l3⟩ := h.len
  refine ⟨⟨by simp [Tr.leadAt, l1], by show _ = t.names.length; rw [← l2]; unfold Tr.leadAt; cases x <;> simp, l3⟩, fun j i hj => ?_, fun j l i hj hi => ?_, h.small.leadAt k x⟩
  · change (t.leads.set k x)[j]? = _ at hj
    rw [List.getElem?_set] at hj
    split at hj
    · split at hj
      · exact hx i (by injection hj)
      · cases hj
    · exact h.inL j i hj
  · show i < t.data.length
    unfold Tr.leadAt at hj
    cases x with
    | none => exact h.ledIn j l i hj hi
    | some y =>
      change (t.led.modify k (· ++ [y]))[j]? = _ at hj
      rw [List.getElem?_modify] at hj
      cases hl : t.led[j]? with
      | none => rw [hl] at hj; cases hj
      | some l0 =>
        rw [hl] at hj
        injection hj with hj
        rw [← hj] at hi
        split at hi
        · rcases List.mem_append.1 hi with h1 | h1
          · exact h.ledIn j l0 i hl h1
          · rw [List.mem_singleton.1 h1]; exact hx y rfl
        · exact h.ledIn j l0 i hl hi
theorem Fit.lead (h : Fit t q) (n : Bs) {x : Option Nat} (hx : ∀ i, x = some i → i < t.data.length) : Fit (t.lead n x) (q + 2) :=
  (h.place n).leadAt _ (by rw [(place_at h.len.1 n).2.1]; exact hx)
theorem Fit.body (h : Fit t q) (x : Bs) (f : Nat) : Fit (t.body x f) (q + 1) := by
  obtain ⟨l1, l2, l3⟩ := h.len
  exact ⟨⟨l1, l2, by simp [Tr.body, l3]⟩, fun k i hk => by have := h.inL k i hk; simp [Tr.body]; omega, fun k l i hk hi => by have := h.ledIn k l i hk hi; simp [Tr.body]; omega, h.small.body x f⟩
theorem Fit.at_ (h : Fit t q) (n : Bs) : (t.place n).2 < (t.place n).1.names.length := (List.getElem?_eq_some_iff.1 (place_at h.len.1 n).1).1
end
section
variable {P : Program} (w : World)
theorem wp_append_keeps {o : Oper} {a : Act} {K : Act → World → Prop} {Q : Exit → Act → World → Prop} (s x : Operand) (t : TypeId)
    (ho : o.op = .call { callee := .builtin .append, args := #[s, x], argTypes := #[t, t] })
    (base : Nat) (e : TypeId) (i : TypeInfo) (z : Value) (size bytes : Nat) (ht : P.underlying t = some (.slice e)) (hi : P.info? e = some i) (hz : i.zero = some z)
    (hsize : i.size = size) (hby : i.bytes = bytes) (hzs : z.cells.size = size) (hsz : 0 < size)
    (v : Value) (n : Nat) (xs : List Value) (hs : a.eval s = v) (hown : w.ownsRow base e size v n xs)
    (ad : Addr) (m c : Nat) (news : List Value) (hx : a.eval x = .slice (some ad) m c) (hl : news.length = m * size) (hnews : ∀ j u, news[j]? = some u → w.cell? (ad.add j) = some u) (h1 : ∀ u ∈ news, u.oneCell' = true)
    (hm : 0 < m) (h63 : n + m ≤ maxLen) (hbytes : (n + m) * bytes ≤ 140737488355328) (hbase : base ≤ w.heap.size)
    (h : ∀ g cap w', w'.ownsRow base e size (.slice (some ⟨g, 0, none⟩) (n + m) cap) (n + m) (xs ++ news) → w.grownBy w' v.ownBlock → (v.ownBlock = some g ∨ g = w.heap.size) → g < w'.heap.size →
      (∀ b2 v2 n2 xs2, w.ownsRow b2 e size v2 n2 xs2 → (v2.ownBlock = v.ownBlock → n2 ≤ n) → w'.ownsRow b2 e size v2 n2 xs2) → K (a.put o.dst (.slice (some ⟨g, 0, none⟩) (n + m) cap)) w') : o.wp P a w K Q := by
  obtain ⟨g, cap, w', hr, h2, h3, h4, h5, h6⟩ := run_append_keeps (P := P) w t o.type base e i z size bytes ht hi hz hsize hby hzs hsz v n xs hown ad m c news hl hnews h1 hm h63 hbytes hbase
  unfold Oper.wp execOp
  simp only [ho, resolve, invoke, builtin, Sem.run_bind, Sem.run_pure, Result.andThen_ok, List.map_toArray, List.map_cons, List.map_nil, hs, hx, hr]
  exact h g cap w' h2 h3 h4 h5 h6
end
/-- The fields' cells. -/
theorem St.cells {w : World} {T : Nat → Prop} {p : Nat} {t : Tr} {vn vl ve vd vs : Value} {rs : List Value} (h : St w T p (shape t vn vl ve vd vs rs)) :
    w.heap[p]? = some (.cells #[vn, vl, ve, vd, vs] tTrace (0, 0)) := h.head
theorem head5 {w : World} {p : Nat} {a b c d e : Value} (h : w.heap[p]? = some (.cells #[a, b, c, d, e] tTrace (0, 0))) :
    w.cell? ⟨p, 0, none⟩ = some a ∧ w.cell? ⟨p, 1, none⟩ = some b ∧ w.cell? ⟨p, 2, none⟩ = some c ∧ w.cell? ⟨p, 3, none⟩ = some d ∧ w.cell? ⟨p, 4, none⟩ = some e := by
  refine ⟨?_, ?_, ?_, ?_, ?_⟩ <;> (rw [cell_of_row w p _ _ _ _ h]; rfl)
theorem head5f {w : World} {p : Nat} {cs : Array Value} {e : TypeId} (h : w.heap[p]? = some (.cells cs e (0, 0))) (j : Nat) : w.frozen? ⟨p, j, none⟩ = false := frozen_of_row w p j _ _ h
theorem infoStr : (Try.prog.info? kStr).map (fun i => (i.zero, i.size, i.bytes)) = some (some (.string ⟨#[]⟩), 1, 16) := by kernel_rfl
theorem infoInt2 : (Try.prog.info? tIntE).map (fun i => (i.zero, i.size, i.bytes)) = some (some (.int .i64 0), 1, 8) := by kernel_rfl
theorem infoInts : (Try.prog.info? tInts).map (fun i => (i.zero, i.size, i.bytes)) = some (some (.slice none 0 0), 1, 24) := by kernel_rfl
end Go.Proofs.Ytelgcmcnebncmaa.Dr
