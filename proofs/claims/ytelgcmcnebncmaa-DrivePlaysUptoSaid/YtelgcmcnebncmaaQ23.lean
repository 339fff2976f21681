/- XRf2, XRf3: merged by tools/merge.py. -/
import Derived.Test.YtelgcmcnebncmaaQ22
namespace Go.Proofs.Ytelgcmcnebncmaa.Dr
open Go.RowKit Go.Proofs Go.Proofs.Ytelgcmcnebncmaa.Ring

theorem madeE_snoc (l c : Ents) (p : Bs × Int) : madeE l (c ++ [p]) = setE (madeE l c) p.1 p.2 := by simp [madeE]
theorem len_madeE (l : Ents) : ∀ c : Ents, (madeE l c).length ≤ l.length + c.length := by
  intro c
  unfold madeE
  induction c generalizing l with
  | nil => simp
  | cons p c ih =>
    have h1 := ih (setE l p.1 p.2)
    have h2 := len_setE l p.1 p.2
    simp only [List.foldl_cons, List.length_cons]
    omega
theorem len_made_take (l c : Ents) {q : Nat} (h : l.length + c.length ≤ q) : ∀ i, (madeE l (c.take i)).length ≤ q := fun i => by
  have h1 := len_madeE l (c.take i)
  rw [List.length_take] at h1
  omega
theorem len_made_dir {l : Dir} (hr : Rise l) (c : List (Bs × Option Nat)) (h1 : c.countP (fun s => s.2.isSome) ≤ 1) {q : Nat} (h : l.length + 1 ≤ q) : ∀ i, (madeE (dirE l) ((chgE c).take i)).length ≤ q := fun i => by
  have e : (chgE c).take i = chgE (c.take i) := by unfold chgE; rw [List.map_take]
  rw [e, madeE_dir _ hr]
  have h2 := len_apply (c.take i) l
  have h3 : (c.take i).countP (fun s => s.2.isSome) ≤ c.countP (fun s => s.2.isSome) := (List.take_sublist i c).countP_le
  have h4 : (dirE (apply l (c.take i))).length = (apply l (c.take i)).length := by simp [dirE]
  omega
section
variable {w : World} {base base2 : Nat}
set_option maxRecDepth 100000 in
set_option maxHeartbeats 4000000 in
theorem rmade_any {A Ac : Option Addr} {n c nc cc : Nat} {l ch : Ents} (hn : n = l.length) (h : EntAt w base (.slice A n c) l) (hnc : nc = ch.length) (hc : EntAt w base2 (.slice Ac nc cc) ch) (hl : ∀ i, (madeE l (ch.take i)).length ≤ 4398046511104) {r : Ents} (hr : madeE l ch = r) :
    Calls Try.prog 83 #[.slice A n c, .slice Ac nc cc] w fun x w' => ∃ A' c', x = .returned (.slice A' r.length c') ∧ EntAt w' 0 (.slice A' r.length c') r ∧ Below w.heap.size w w' ∧ ∀ g, (Value.slice A' r.length c').ownBlock = some g → (Value.slice A n c).ownBlock = some g ∨ w.heap.size ≤ g := by
  subst hn hnc
  have hcm := hc.len
  have hkc : ∀ wr, Below w.heap.size w wr → EntAt wr base2 (.slice Ac ch.length cc) ch := fun wr hb => own_below hc hb
  have H := Lib.hid (own_base h (Nat.zero_le _) : EntAt w 0 (.slice A l.length c) l)
  have HKC := Lib.hid hkc
  have HR := Lib.hid hr
  clear h hc hkc hr
  go_enter Try.func83, Try.ntmps83
  go_upto_region 2 with (fail)
  go_loopw [0, 5] (fun dv iv wr => ∃ (i : Nat) (Ad : Option Addr) (cd : Nat), iv = .int .i64 (i : Int) ∧ dv = .slice Ad (madeE l (ch.take i)).length cd ∧ i ≤ ch.length ∧ EntAt wr 0 (.slice Ad (madeE l (ch.take i)).length cd) (madeE l (ch.take i)) ∧ Below w.heap.size w wr ∧ ∀ g, (Value.slice Ad (madeE l (ch.take i)).length cd).ownBlock = some g → (Value.slice A l.length c).ownBlock = some g ∨ w.heap.size ≤ g) (fun _ iv _ => ch.length - (intOf iv).toNat)
  case atStart => exact ⟨0, A, c, rfl, by rw [List.take_zero]; rfl, by omega, by rw [List.take_zero]; exact H.out, Below.refl _ _, fun g hg => .inl (by rw [List.take_zero] at hg; exact hg)⟩
  case round =>
    obtain ⟨i, Ad, cd, rfl, rfl, hi, hrow, hb, hbl⟩ := hrel
    by_cases hlt : i < ch.length
    · obtain ⟨p, hp⟩ : ∃ p, ch[i]? = some p := ⟨_, List.getElem?_eq_getElem hlt⟩
      obtain ⟨gc, rfl, _, _, e0, e1⟩ := ent_cells (HKC.out wr hb) hp
      have hlt2 : (i : Int) < (ch.length : Int) := by omega
      have HLD := Lib.hid (own_below hrow (Below.refl _ _).drew : EntAt wr.drew 0 (.slice Ad (madeE l (ch.take i)).length cd) (madeE l (ch.take i)))
      have HLEN := Lib.hid (show (madeE l (ch.take i)).length ≤ 4398046511104 from hl i)
      have C0 := Lib.hid e0
      have C1 := Lib.hid e1
      have HP := Lib.hid hp
      have HB := Lib.hid hb
      have HBL := Lib.hid hbl
      clear hrow hb hbl hp e0 e1
      go_upto_region 4 with (fail)
      refine wp_region_any (by kernel_rfl) ?_
      change wpAny _ _ _ _ _ _ _ (World.drew _)
      refine wpAny_of_P (S := fun w' => w'.cell? ⟨gc, i * 2, none⟩ = some (encStr p.1) ∧ w'.cell? ⟨gc, i * 2 + 1, none⟩ = some (.int .i64 p.2)) (late := [11]) _ _ _ _ ?_
      refine takeT (i := 0) (v := ?_) rfl (by kernel_rfl) (by kernel_rfl) (by kernel_rfl) (by kernel_rfl) (fun _ _ _ h => h) (⟨C0.out, C1.out⟩) (.inl ⟨by rfl, fun w => .inl ?hy0⟩) ?_; case hy0 => (go_simp; try with_reducible rfl)
      try go_frame
      refine takeT (i := 1) (v := ?_) rfl (by kernel_rfl) (by kernel_rfl) (by kernel_rfl) (by kernel_rfl) (fun _ _ _ h => h) (⟨C0.out, C1.out⟩) (.inl ⟨by rfl, fun w => .inl ?hy1⟩) ?_; case hy1 => (go_simp; try with_reducible rfl)
      try go_frame
      refine takeT (i := 2) (v := ?_) rfl (by kernel_rfl) (by kernel_rfl) (by kernel_rfl) (by kernel_rfl) (fun _ _ _ h => h) (⟨C0.out, C1.out⟩) (.inl ⟨by rfl, fun w => .inl ?hy2⟩) ?_; case hy2 => (go_simp; try with_reducible rfl)
      try go_frame
      refine takeT (i := 3) (v := ?_) rfl (by kernel_rfl) (by kernel_rfl) (by kernel_rfl) (by kernel_rfl) (fun _ _ _ h => h) (⟨C0.out, C1.out⟩) (.inl ⟨by rfl, fun w => .inl ?hy3⟩) ?_; case hy3 => (go_simp; try with_reducible rfl)
      try go_frame
      refine takeT (i := 4) (v := ?_) rfl (by kernel_rfl) (by kernel_rfl) (by kernel_rfl) (by kernel_rfl) (fun _ _ _ h => h) (⟨C0.out, C1.out⟩) (.inl ⟨by rfl, fun w => .inl ?hy4⟩) ?_; case hy4 => (go_simp; try with_reducible rfl)
      try go_frame
      refine takePT 8 (i := 5) (v := ?_) rfl (by kernel_rfl) (by kernel_rfl) (by kernel_rfl) (by kernel_rfl) (by kernel_rfl) (by kernel_rfl) (fun _ _ _ h => h) (⟨C0.out, C1.out⟩) (.inl ⟨by rfl, fun w hw => .inl ?hy5⟩) ?_; case hy5 => (obtain ⟨hw0, hw1⟩ := hw; go_simp; try with_reducible rfl)
      try go_frame
      refine takeT (i := 6) (v := ?_) rfl (by kernel_rfl) (by kernel_rfl) (by kernel_rfl) (by kernel_rfl) (fun _ _ _ h => h) (⟨C0.out, C1.out⟩) (.inl ⟨by rfl, fun w => .inl ?hy6⟩) ?_; case hy6 => (go_simp; try with_reducible rfl)
      try go_frame
      refine takeT (i := 7) (v := ?_) rfl (by kernel_rfl) (by kernel_rfl) (by kernel_rfl) (by kernel_rfl) (fun _ _ _ h => h) (⟨C0.out, C1.out⟩) (.inl ⟨by rfl, fun w => .inl ?hy7⟩) ?_; case hy7 => (go_simp; try with_reducible rfl)
      try go_frame
      refine takeT (i := 8) (v := ?_) rfl (by kernel_rfl) (by kernel_rfl) (by kernel_rfl) (by kernel_rfl) (fun _ _ _ h => h) (⟨C0.out, C1.out⟩) (.inl ⟨by rfl, fun w => .inl ?hy8⟩) ?_; case hy8 => (go_simp; try with_reducible rfl)
      try go_frame
      refine takeT (i := 9) (v := ?_) rfl (by kernel_rfl) (by kernel_rfl) (by kernel_rfl) (by kernel_rfl) (fun _ _ _ h => h) (⟨C0.out, C1.out⟩) (.inl ⟨by rfl, fun w => .inl ?hy9⟩) ?_; case hy9 => (go_simp; try with_reducible rfl)
      try go_frame
      refine takePT 8 (i := 10) (v := ?_) rfl (by kernel_rfl) (by kernel_rfl) (by kernel_rfl) (by kernel_rfl) (by kernel_rfl) (by kernel_rfl) (fun _ _ _ h => h) (⟨C0.out, C1.out⟩) (.inl ⟨by rfl, fun w hw => .inl ?hy10⟩) ?_; case hy10 => (obtain ⟨hw0, hw1⟩ := hw; go_simp; try with_reducible rfl)
      try go_frame
      refine lateP (i := 11) rfl rfl (by kernel_rfl) (by kernel_rfl) (fun K hK => ?_)
      go_simp
      refine (rset_any rfl HLD.out HLEN.out p.1 p.2 rfl).mono ?_
      rintro y w3 ⟨A3, c3, rfl, hrow3, hb3⟩
      refine hK _ _ ?_; clear hK K
      try go_frame
      refine takeL (i := 12) (v := ?_) rfl (by kernel_rfl) (by kernel_rfl) (by kernel_rfl) (fun _ _ _ h => h) (.inl ⟨by rfl, fun w => .inl ?hy12⟩) ?_; case hy12 => (go_simp; try with_reducible rfl)
      try go_frame
      refine wpAny_done (by kernel_rfl) ?_ _
      have hnext : setE (madeE l (ch.take i)) p.1 p.2 = madeE l (ch.take (i + 1)) := by rw [take_snoc_f HP.out, madeE_snoc]
      rw [hnext] at hrow3 ⊢
      have HROW := Lib.hid hrow3
      have HB3 := Lib.hid (HB.out.trans (((Below.refl w.heap.size wr).drew.trans (hb3.mono (by show w.heap.size ≤ wr.drew.heap.size; exact HB.out.size)))))
      have hws := HB.out.size
      clear hrow3 hb3 hnext
      go_wp2
      go_roundw
      case rel => exact ⟨i + 1, A3, c3, by go_num, rfl, by omega, own_base HROW.out (Nat.zero_le _), HB3.out, fun g hg => .inr (Nat.le_trans hws (own_ge HROW.out hg))⟩
      case measure => simp [intOf]; omega
    · obtain rfl : i = ch.length := by omega
      rw [List.take_length] at hrow hbl ⊢
      rw [HR.out] at hrow hbl ⊢
      have HROW := Lib.hid hrow
      have HB := Lib.hid hb
      have HBL := Lib.hid hbl
      clear hrow hb hbl
      go_wp2
      go_ret
      exact ⟨Ad, cd, rfl, HROW.out, HB.out, HBL.out⟩
set_option maxRecDepth 100000 in
theorem rcopied_any {A : Option Addr} {n c : Nat} {l : Bs} (h : Rd w w.heap.size 1 A n (cU8 l)) (hc : A = none → c = 0) (hn : n ≤ 140737488355328) :
    Calls Try.prog 84 #[.slice A n c] w fun x w' => ∃ A' c', x = .returned (.slice A' n c') ∧ w'.ownsRow w.heap.size tU8 1 (.slice A' n c') n (cU8 l) ∧ Below w.heap.size w w' := by
  obtain ⟨i0, hi, hz0, hz1, hz2⟩ := info_parts infoU8
  have hrd : Rd (w.alloc (.cells #[] tU8)) w.heap.size 1 A n (cU8 l) := h.alloc (Nat.le_refl _) _
  have HRD := Lib.hid hrd
  have HC := Lib.hid hc
  clear h hc hrd
  go_enter Try.func84, Try.ntmps84
  go_wp2_with (at_builtin; refine wpList_append_rd _ rfl (.tmp 3) (.tmp 4) 35 rfl w.heap.size tU8 i0 (.int .u8 0) 1 1 Try.underlying35 hi hz0 hz1 hz2 rfl (by decide) (.slice (some ⟨w.heap.size, 0, none⟩) 0 0) 0 [] rfl (own_new w (Nat.le_refl _) tU8 1 0 [] rfl (Nat.zero_le _)) w.heap.size A n c (cU8 l) rfl HRD.out HC.out (cU8_one l) (by unfold maxLen; omega) (by omega) (by simp) ?_; intro v1 w1 hrow1 hg1; rw [Nat.zero_add, List.nil_append] at hrow1; obtain ⟨A1, c1, rfl, _, _⟩ := own_form hrow1; have HROW1 := Lib.hid hrow1; have HB1 := Lib.hid ((((Below.refl w.heap.size w).alloc (Nat.le_refl _) (.cells #[] tU8)).grown hg1 (by simp) (fun j hj => (by simp [Value.ownBlock] at hj; omega)))); clear hrow1 hg1)
  go_ret
  exact ⟨A1, c1, rfl, HROW1.out, HB1.out⟩
end
end Go.Proofs.Ytelgcmcnebncmaa.Dr
namespace Go.Proofs.Ytelgcmcnebncmaa.Dr
open Go.RowKit Go.Proofs Go.Proofs.Ytelgcmcnebncmaa.Ring

section
variable {w : World} {S : Nat → Prop} {r m N : Nat} {D : Dr.D}
theorem rcells {a b c d e : Value} (h : w.heap[r]? = some (.cells #[a, b, c, d, e] tRef (0, 0))) :
    w.cell? ⟨r, 0, none⟩ = some a ∧ w.cell? ⟨r, 1, none⟩ = some b ∧ w.cell? ⟨r, 2, none⟩ = some c ∧ w.cell? ⟨r, 3, none⟩ = some d ∧ w.cell? ⟨r, 4, none⟩ = some e := by
  refine ⟨?_, ?_, ?_, ?_, ?_⟩ <;> (rw [cell_of_row w r _ _ _ _ h]; rfl)
theorem rfroz {cs : Array Value} {e : TypeId} (h : w.heap[r]? = some (.cells cs e (0, 0))) (j : Nat) : w.frozen? ⟨r, j, none⟩ = false := frozen_of_row w r j _ _ h
theorem dirE_len (l : Dir) : (dirE l).length = l.length := by simp [dirE]
theorem chgE_len (c : List (Bs × Option Nat)) : (chgE c).length = c.length := by simp [chgE]
/-- The drive, its rows' values as slices. -/
theorem RefAt.open {vb vn vk vc : Value} {ds cs : List Value} (h : RefAt w S r D vb vn vk vc ds cs) : ∃ Ab cb An cn Ak ck Ac cc, vb = .slice Ab D.bd.length cb ∧ vn = .slice An D.now.length cn ∧ vk = .slice Ak D.kept.length ck ∧ vc = .slice Ac D.pend.length cc := by
  obtain ⟨Ab, cb, h1, _, _⟩ := own_form h.bod
  obtain ⟨An, cn, h2, _, _⟩ := own_form h.now
  obtain ⟨Ak, ck, h3, _, _⟩ := own_form h.kept
  obtain ⟨Ac, cc, h4, _, _⟩ := own_form h.chg
  rw [dirE_len] at h2 h3
  exact ⟨Ab, cb, An, cn, Ak, ck, Ac, cc, h1, h2, h3, h4⟩
set_option maxRecDepth 100000 in
set_option maxHeartbeats 4000000 in
theorem rchange_any {vb vn vk vc : Value} {ds cs : List Value} (h : RefAt w S r D vb vn vk vc ds cs) (hr : Rise D.now) {c : List (Bs × Option Nat)} {Ac : Option Addr} {nc cc : Nat} (hn : nc = c.length) (hc : EntAt w 0 (.slice Ac nc cc) (chgE c)) (hcS : ∀ g, (Value.slice Ac nc cc).ownBlock = some g → S g)
    (h1 : D.now.length + c.length ≤ 4398046511104) (h2 : D.pend.length ≤ 4398046511104) :
    Calls Try.prog 100 #[.pointer (some ⟨r, 0, none⟩), .slice Ac nc cc] w fun x w' => x = .returned (.tuple #[]) ∧ ∃ S' vn' vc' cs', RefAt w' S' r (D.change c) vb vn' vk vc' ds cs' ∧ Kept w w' S ∧ ∀ k, S' k → S k ∨ w.heap.size ≤ k := by
  subst hn
  obtain ⟨j0, hj0, hq0, hq1, hq2⟩ := info_parts infoEnts
  obtain ⟨Ab, cb, An, cn, Ak, ck, Ad, cd, rfl, rfl, rfl, rfl⟩ := h.open
  obtain ⟨_, _, x2, _, _⟩ := rcells h.head
  have y2 := rfroz h.head 2
  have H := Lib.hid h
  have HC := Lib.hid hc
  have HCS := Lib.hid hcS
  have HM := Lib.hid (madeE_dir c hr)
  clear h hc hcS hr
  go_enter Try.func100, Try.ntmps100
  go_upto_region 1 with (go_at_call 83; go_loud (refine (rmade_any (dirE_len _).symm H.out.now (chgE_len _).symm HC.out (len_made_take _ _ (by rw [dirE_len, chgE_len]; exact h1)) HM.out).mono ?_); rintro y w1 ⟨A1, c1, rfl, hrow, hb, hbl⟩; have z2 := rcells ((H.out.below hb).head); obtain ⟨_, _, z2, _, _⟩ := z2; have zf := rfroz ((H.out.below hb).head) 2; have HROW := Lib.hid hrow; have HB := Lib.hid hb; have HBL := Lib.hid hbl; clear hrow hb hbl)
  have hsz1 := HB.out.size
  have hset := ((H.out.below HB.out).wider (S' := fun k => S k ∨ (w.heap.size ≤ k ∧ k < w1.heap.size)) (fun k hk => .inl hk) (fun k hk => by
    rcases hk with hk | hk
    · exact Nat.lt_of_lt_of_le (H.out.low k hk) hsz1
    · exact hk.2)).setNow (l := apply D.now c) HROW.out (fun g hg => by
      rcases HBL.out g hg with h | h
      · exact .inl (H.out.inN g h)
      · obtain ⟨cur, h3⟩ := own_lt HROW.out hg
        exact .inr ⟨h, (Array.getElem?_eq_some_iff.1 h3).1⟩)
  obtain ⟨w2, hw2⟩ : ∃ w2, w1.setCell ⟨r, 2, none⟩ (.slice A1 (dirE (apply D.now c)).length c1) = w2 := ⟨_, rfl⟩
  have hk2 : Kept w w2 S := by rw [← hw2]; exact (Kept.of_below S HB.out).set H.out.inR _
  have hsz2 : w2.heap.size = w1.heap.size := by rw [← hw2]; simp [World.setCell]
  have hc2 : EntAt w2 0 (.slice Ac c.length cc) (chgE c) := by
    rw [← hw2]
    exact row_other (g := r) (own_below HC.out HB.out) (set_block (a := ⟨r, 2, none⟩)) ((H.out.below HB.out).typ (show tEnt ≠ tRef by decide))
  have HC2 := Lib.hid hc2
  clear hc2
  rw [hw2] at hset ⊢
  obtain ⟨_, _, _, _, x4⟩ := rcells hset.head
  have HSET := Lib.hid hset
  have HK2 := Lib.hid hk2
  have HSZ2 := Lib.hid hsz2
  clear hset hk2 hw2 x2 y2 z2 zf hsz1 hsz2
  go_wp2_with (at_builtin; go_loud (refine wpList_append_keeps _ rfl (.tmp 17) (.tmp 19) 134 rfl 0 tEnts j0 (.slice none 0 0) 1 24 Try.underlying134 hj0 hq0 hq1 hq2 rfl (by decide) _ D.pend.length cs rfl (own_alloc HSET.out.chg _) ⟨w2.heap.size, 0, none⟩ 1 1 [.slice Ac c.length cc] rfl rfl (cell_one_new _ _ _) (by simp [Value.oneCell']) (by omega) (by unfold maxLen; omega) (by omega) (Nat.zero_le _) ?_); go_loud (intro g2 cap2 w3 hg hgr hat hlt _); go_loud (have hd3 := (hgr.block r (by have := HSET.out.low r HSET.out.inR; simp; omega) (fun e => typ_of HSET.out.chg e.symm (show tRef ≠ tEnts by decide) _ HSET.out.head)).trans ((heap_alloc_old _ _ (HSET.out.low r HSET.out.inR)).trans HSET.out.head)); obtain ⟨_, _, _, _, z4⟩ := rcells hd3; have zf := rfroz hd3 4; have HG := Lib.hid hg; have HGR := Lib.hid hgr; have HAT := Lib.hid hat; have HLT := Lib.hid hlt; clear hg hgr hat hlt hd3)
  have hba : Below w2.heap.size w2 (w2.alloc (.cells #[.slice Ac c.length cc] tEnts)) := (Below.refl _ _).alloc (Nat.le_refl _) _
  have hadd := (HSET.out.below hba).addChg (c := c) (x := .slice Ac c.length cc) (own_below HC2.out hba) (fun g hg => .inl (HCS.out g hg)) HGR.out HG.out (by
    rcases HAT.out with h | h
    · exact .inl h
    · exact .inr (Nat.le_of_eq h.symm)) HLT.out
  have hk9 : Kept w (w3.setCell ⟨r, 4, none⟩ (.slice (some ⟨g2, 0, none⟩) (D.pend.length + 1) cap2)) S := ((HK2.out.below hba).grown HGR.out fun k hk => .inl (H.out.inC k hk)).set H.out.inR _
  have hs9 : ∀ k, ((S k ∨ (w.heap.size ≤ k ∧ k < w1.heap.size)) ∨ ((w2.alloc (.cells #[.slice Ac c.length cc] tEnts)).heap.size ≤ k ∧ k < w3.heap.size)) → S k ∨ w.heap.size ≤ k := fun k hk => by
    have h3 := HK2.out.size
    rcases hk with (hk | hk) | hk
    · exact .inl hk
    · exact .inr hk.1
    · exact .inr (by have := hk.1; simp at this; omega)
  have HADD := Lib.hid hadd
  have HK9 := Lib.hid hk9
  have HS9 := Lib.hid hs9
  clear hadd hk9 hs9 hba
  go_end0
  exact ⟨rfl, _, ⟨_, _, _, HADD.out⟩, HK9.out, HS9.out⟩
/-- The answer of 'at'. -/
def atZ (d : Dr.D) (n : Bs) : Int := match d.look n with
  | .ok i => (i : Int)
  | .error _ => -1
def atE (d : Dr.D) (n : Bs) : Int := match d.look n with
  | .ok _ => 0
  | .error e => e
set_option maxRecDepth 100000 in
set_option maxHeartbeats 4000000 in
theorem rat_any (h : Rv w S r D m N) (n : Bs) {z e : Int} (hz : atZ D n = z) (he : atE D n = e) : Calls Try.prog 101 #[.pointer (some ⟨r, 0, none⟩), encStr n] w fun x w' => x = .returned (.tuple #[.int .i64 z, .int .i64 e]) ∧ w = w' := by
  obtain ⟨_, _, vb, vn, vk, vc, ds, cs, h⟩ := h
  obtain ⟨Ab, cb, An, cn, Ak, ck, Ad, cd, rfl, rfl, rfl, rfl⟩ := h.open
  obtain ⟨_, _, x2, _, _⟩ := rcells h.head
  have H := Lib.hid h
  unfold atZ at hz
  unfold atE at he
  unfold Dr.D.look at hz he
  cases hn : Dr.named n with
  | false =>
    rw [if_neg (by simp [hn])] at hz he
    dsimp only at hz he
    subst hz he
    have HN := Lib.hid hn
    clear hn h
    go_enter Try.func101, Try.ntmps101
    go_wp2_with (go_at_call 97; refine (rnamed_any n _).mono ?_; rw [HN.out]; rintro x w1 ⟨rfl, rfl⟩)
    refine bodyPost_ret (v := .tuple #[.int .i64 (-1), .int .i64 91]) (by simp [results, Try.results101, go_sem]) rfl ?_
    exact ⟨rfl, rfl⟩
  | true =>
    rw [if_pos hn] at hz he
    have HN := Lib.hid hn
    clear hn
    cases hf : find D.now n with
    | none =>
      rw [hf] at hz he
      dsimp only at hz he
      subst hz he
      have hfz : findE (dirE D.now) n = -1 := by rw [findE_dir, hf]; rfl
      obtain ⟨y, hy⟩ : ∃ y : Int, findE (dirE D.now) n = y := ⟨_, rfl⟩
      have hy1 : y < 0 := by rw [← hy, hfz]; decide
      have HY := Lib.hid hy
      clear hf h hfz hy
      go_enter Try.func101, Try.ntmps101
      go_wp2_with (first
        | (go_at_call 97; refine (rnamed_any n _).mono ?_; rw [HN.out]; rintro x w1 ⟨rfl, rfl⟩)
        | (go_at_call 98; refine (rfind_any (dirE_len _).symm H.out.now n HY.out).mono ?_; rintro x w1 ⟨rfl, rfl⟩))
      refine bodyPost_ret (v := .tuple #[.int .i64 (-1), .int .i64 110]) (by simp [results, Try.results101, go_sem]) rfl ?_
      exact ⟨rfl, rfl⟩
    | some i =>
      rw [hf] at hz he
      dsimp only at hz he
      subst hz he
      have hfz : findE (dirE D.now) n = (i : Int) := by rw [findE_dir, hf]; rfl
      have HY := Lib.hid hfz
      clear hf h hfz
      go_enter Try.func101, Try.ntmps101
      go_wp2_with (first
        | (go_at_call 97; refine (rnamed_any n _).mono ?_; rw [HN.out]; rintro x w1 ⟨rfl, rfl⟩)
        | (go_at_call 98; refine (rfind_any (dirE_len _).symm H.out.now n HY.out).mono ?_; rintro x w1 ⟨rfl, rfl⟩))
      refine bodyPost_ret (v := .tuple #[.int .i64 (i : Int), .int .i64 0]) (by simp [results, Try.results101, go_sem]) rfl ?_
      exact ⟨rfl, rfl⟩
theorem refAt_new (w : World) (room : Nat) : RefAt (w.alloc (.cells #[.int .i64 (room : Int), .slice none 0 0, .slice none 0 0, .slice none 0 0, .slice none 0 0] tRef)) (fun k => k = w.heap.size) w.heap.size (Dr.D.fresh room) (.slice none 0 0) (.slice none 0 0) (.slice none 0 0) (.slice none 0 0) [] [] :=
  ⟨heap_alloc_new _ _, World.ownsRow_nil _ _ _ _, rfl, fun i b v h => (by cases h), World.ownsRow_nil _ _ _ _, World.ownsRow_nil _ _ _ _, World.ownsRow_nil _ _ _ _, fun j c v h => (by cases h), rfl, fun g h => (by cases h), fun g h => (by cases h), fun g h => (by cases h), fun g h => (by cases h), fun v h => (by cases h), fun v h => (by cases h), fun k hk => (by subst hk; simp)⟩
set_option maxRecDepth 100000 in
theorem rnew_any (room : Nat) (hroom : room ≤ 1073741824) (w : World) : Calls Try.prog 55 #[.int .i64 (room : Int)] w fun x w' => ∃ r, x = .returned (.pointer (some ⟨r, 0, none⟩)) ∧ r = w.heap.size ∧ RefAt w' (fun k => k = w.heap.size) r (Dr.D.fresh room) (.slice none 0 0) (.slice none 0 0) (.slice none 0 0) (.slice none 0 0) [] [] ∧ Below w.heap.size w w' := by
  have h1 : (room : Int) ≤ 1073741824 := by omega
  have h2 : ¬ (room : Int) < 0 := by omega
  go_enter Try.func55, Try.ntmps55
  go_wp2
  refine bodyPost_ret (v := .pointer (some ⟨w.heap.size, 0, none⟩)) (by simp [results, Try.results55, go_sem]) rfl ?_
  exact ⟨_, rfl, rfl, refAt_new w room, (Below.refl _ _).alloc (Nat.le_refl _) _⟩
set_option maxRecDepth 100000 in
theorem rnew_not (room : Int) (hroom : okRoom room = false) (w : World) : Calls Try.prog 55 #[.int .i64 room] w fun x w' => x = .returned (.pointer none) ∧ w = w' := by
  unfold okRoom at hroom
  by_cases h0 : room < 0
  · clear hroom
    go_enter Try.func55, Try.ntmps55
    go_wp2
    go_ret
    exact ⟨rfl, rfl⟩
  · have h1 : ¬ room ≤ 1073741824 := by simp at hroom; omega
    clear hroom
    go_enter Try.func55, Try.ntmps55
    go_wp2
    go_ret
    exact ⟨rfl, rfl⟩
end
end Go.Proofs.Ytelgcmcnebncmaa.Dr
