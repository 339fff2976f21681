/- XRf4, XRf5: merged by tools/merge.py. -/
import Derived.Test.YtelgcmcnebncmaaQ23
namespace Go.Proofs.Ytelgcmcnebncmaa.Dr
open Go.RowKit Go.Proofs Go.Proofs.Ytelgcmcnebncmaa.Ring

section
variable {w : World} {S : Nat → Prop} {r m N : Nat} {D : Dr.D}
theorem RefAt.lit {vb vn vk vc : Value} {ds cs : List Value} (h : RefAt w S r D vb vn vk vc ds cs) (l : Ents) (hl : l.length ≤ maxLen) : RefAt (w.alloc (.cells (cE l).toArray tEnt)) (fun k => S k ∨ k = w.heap.size) r D vb vn vk vc ds cs ∧ EntAt (w.alloc (.cells (cE l).toArray tEnt)) 0 (.slice (some ⟨w.heap.size, 0, none⟩) l.length l.length) l := by
  have hb : Below w.heap.size w (w.alloc (.cells (cE l).toArray tEnt)) := (Below.refl _ _).alloc (Nat.le_refl _) _
  refine ⟨(h.below hb).wider (fun k hk => .inl hk) fun k hk => ?_, own_new w (Nat.zero_le _) tEnt 2 l.length (cE l) (cE_len l) hl⟩
  rcases hk with hk | rfl
  · have := h.low k hk; simp; omega
  · simp
theorem kept_alloc (w : World) (S : Nat → Prop) (o : Obj) : Kept w (w.alloc o) S := Kept.of_below S ((Below.refl _ _).alloc (Nat.le_refl _) _)
theorem change_ok_len (D : Dr.D) (c : List (Bs × Option Nat)) : (D.change c).bd = D.bd := rfl
set_option maxRecDepth 100000 in
set_option maxHeartbeats 8000000 in
theorem rremove_any (h : Rv w S r D m N) (hN : N ≤ 1099511627776) (n : Bs) : Calls Try.prog 65 #[.pointer (some ⟨r, 0, none⟩), encStr n] w fun x w' => x = .returned (.int .i64 (D.remove n).2) ∧ Rturn w w' S r (D.remove n).1 m (N + 1) := by
  have hok := h.1.remove n
  have H := Lib.hid h
  obtain ⟨ho, hbn, vb, vn, vk, vc, ds, cs, h⟩ := h
  unfold Dr.D.remove at hok ⊢
  cases hl : D.look n with
  | error e =>
    have hne := look_ne hl
    have hz : atZ D n = -1 := by unfold atZ; rw [hl]
    have he : atE D n = e := by unfold atE; rw [hl]
    have HZ := Lib.hid hz
    have HE := Lib.hid he
    clear h hl hz he hok
    go_enter Try.func65, Try.ntmps65
    go_wp2_with (go_at_call 101; refine (rat_any H.out n HZ.out HE.out).mono ?_; rintro x w1 ⟨rfl, rfl⟩)
    go_ret
    exact ⟨rfl, (Rturn.refl H.out).mono (Nat.le_refl _) (Nat.le_succ _)⟩
  | ok i =>
    rw [hl] at hok
    dsimp only at hok ⊢
    have hz : atZ D n = (i : Int) := by unfold atZ; rw [hl]
    have he : atE D n = 0 := by unfold atE; rw [hl]
    have HZ := Lib.hid hz
    have HE := Lib.hid he
    have HA := Lib.hid h
    have HOK := Lib.hid hok
    have hnl := ho.lenN
    have hpl := ho.lenK
    have HRI := Lib.hid ho.now
    clear h hl hz he hok
    go_enter Try.func65, Try.ntmps65
    go_upto_region 4 with (go_at_call 101; refine (rat_any H.out n HZ.out HE.out).mono ?_; rintro x w1 ⟨rfl, rfl⟩)
    obtain ⟨h1, h2⟩ := HA.out.lit [(n, -1)] (by unfold maxLen; simp)
    have H1 := Lib.hid h1
    have H2 := Lib.hid (show EntAt (w.alloc (.cells #[encStr n, .int .i64 (-1)] tEnt)) 0 (.slice (some ⟨w.heap.size, 0, none⟩) 1 1) (chgE [(n, none)]) from h2)
    clear h1 h2
    go_wp2_with (go_at_call 100; go_loud (refine (rchange_any (c := [(n, none)]) H1.out HRI.out rfl H2.out (fun g hg => .inr (by simpa [Value.ownBlock] using hg.symm)) (by simp; omega) (by omega)).mono ?_); rintro x w2 ⟨rfl, S2, vn2, vc2, cs2, h3, hk3, hs3⟩; have H3 := Lib.hid h3; have HK3 := Lib.hid hk3; have HS3 := Lib.hid hs3; clear h3 hk3 hs3)
    have hfin : Rturn w w2 S r (D.change [(n, none)]) m (N + 1) := by
      refine ⟨S2, ⟨HOK.out, Nat.le_trans hbn (Nat.le_succ _), _, _, _, _, _, _, H3.out⟩, (kept_alloc w S _).trans HK3.out fun k hk => ?_, fun k hk => ?_⟩
      · rcases hk with hk | rfl
        · exact .inl hk
        · exact .inr (Nat.le_refl _)
      · rcases HS3.out k hk with (hk | rfl) | hk
        · exact .inl hk
        · exact .inr (Nat.le_refl _)
        · exact .inr (by simp at hk; omega)
    have HF := Lib.hid hfin
    clear hfin
    go_ret
    exact ⟨rfl, HF.out⟩
set_option maxRecDepth 100000 in
set_option maxHeartbeats 8000000 in
theorem rrename_any (h : Rv w S r D m N) (hN : N ≤ 1099511627776) (a b : Bs) : Calls Try.prog 64 #[.pointer (some ⟨r, 0, none⟩), encStr a, encStr b] w fun x w' => x = .returned (.int .i64 (D.rename a b).2) ∧ Rturn w w' S r (D.rename a b).1 m (N + 1) := by
  have hok := h.1.rename a b
  have H := Lib.hid h
  obtain ⟨ho, hbn, vb, vn, vk, vc, ds, cs, h⟩ := h
  unfold Dr.D.rename at hok ⊢
  cases hna : Dr.named a with
  | false =>
    have hl : D.look a = .error 91 := by unfold Dr.D.look; rw [if_neg (by simp [hna])]
    rw [if_neg (by simp), hl]
    have HNA := Lib.hid hna
    clear hna hl hok h
    go_enter Try.func64, Try.ntmps64
    go_upto_region 4 with (go_at_call 97; refine (rnamed_any a _).mono ?_; rw [HNA.out]; rintro x w1 ⟨rfl, rfl⟩)
    go_wp2_with (go_at_call 97; refine (rnamed_any b _).mono ?_; rintro x w1 ⟨rfl, rfl⟩)
    go_ret
    exact ⟨rfl, (Rturn.refl H.out).mono (Nat.le_refl _) (Nat.le_succ _)⟩
  | true =>
    have HNA := Lib.hid hna
    cases hnb : Dr.named b with
    | false =>
      rw [if_pos (by simp)]
      have HNB := Lib.hid hnb
      clear hna hnb hok h
      go_enter Try.func64, Try.ntmps64
      go_upto_region 4 with (go_at_call 97; refine (rnamed_any a _).mono ?_; rw [HNA.out]; rintro x w1 ⟨rfl, rfl⟩)
      go_wp2_with (go_at_call 97; refine (rnamed_any b _).mono ?_; rw [HNB.out]; rintro x w1 ⟨rfl, rfl⟩)
      go_ret
      exact ⟨rfl, (Rturn.refl H.out).mono (Nat.le_refl _) (Nat.le_succ _)⟩
    | true =>
      rw [hna, hnb] at hok
      rw [if_neg (by simp)] at hok ⊢
      have HNB := Lib.hid hnb
      obtain ⟨Ab, cb, An, cn, Ak, ck, Ad, cd, rfl, rfl, rfl, rfl⟩ := h.open
      obtain ⟨_, _, x2, _, _⟩ := rcells h.head
      have HA := Lib.hid h
      have hlk : D.look a = match find D.now a with | some i => .ok i | none => .error 110 := by unfold Dr.D.look; rw [if_pos hna]; rfl
      rw [hlk] at hok ⊢
      cases hf : find D.now a with
      | none =>
        have hfz : findE (dirE D.now) a = -1 := by rw [findE_dir, hf]; rfl
        obtain ⟨y, hy⟩ : ∃ y : Int, findE (dirE D.now) a = y := ⟨_, rfl⟩
        have hy1 : y < 0 := by rw [← hy, hfz]; decide
        have HY := Lib.hid hy
        clear hna hnb hok h hlk hf hfz hy
        go_enter Try.func64, Try.ntmps64
        go_upto_region 4 with (go_at_call 97; refine (rnamed_any a _).mono ?_; rw [HNA.out]; rintro x w1 ⟨rfl, rfl⟩)
        go_upto_region 5 with (go_at_call 97; refine (rnamed_any b _).mono ?_; rw [HNB.out]; rintro x w1 ⟨rfl, rfl⟩)
        go_wp2_with (go_at_call 98; refine (rfind_any (dirE_len _).symm HA.out.now a HY.out).mono ?_; rintro x w1 ⟨rfl, rfl⟩)
        go_ret
        exact ⟨rfl, (Rturn.refl H.out).mono (Nat.le_refl _) (Nat.le_succ _)⟩
      | some i =>
        have hfz : findE (dirE D.now) a = (i : Int) := by rw [findE_dir, hf]; rfl
        have HY := Lib.hid hfz
        rw [hf] at hok
        dsimp only at hok ⊢
        by_cases hab : a = b
        · rw [if_pos hab]
          subst hab
          clear hna hnb hok h hlk hf hfz
          go_enter Try.func64, Try.ntmps64
          go_upto_region 4 with (go_at_call 97; refine (rnamed_any a _).mono ?_; rw [HNA.out]; rintro x w1 ⟨rfl, rfl⟩)
          go_upto_region 5 with (go_at_call 97; refine (rnamed_any a _).mono ?_; rw [HNB.out]; rintro x w1 ⟨rfl, rfl⟩)
          go_wp2_with (go_at_call 98; refine (rfind_any (dirE_len _).symm HA.out.now a HY.out).mono ?_; rintro x w1 ⟨rfl, rfl⟩)
          go_ret
          exact ⟨rfl, (Rturn.refl H.out).mono (Nat.le_refl _) (Nat.le_succ _)⟩
        · rw [if_neg hab] at hok ⊢
          have hq : (a == b) = false := by simpa using hab
          have HOK := Lib.hid hok
          have hnl := ho.lenN
          have hpl := ho.lenK
          have HRI := Lib.hid ho.now
          clear hna hnb hok h hlk hf hfz hab
          go_enter Try.func64, Try.ntmps64
          go_upto_region 4 with (go_at_call 97; refine (rnamed_any a _).mono ?_; rw [HNA.out]; rintro x w1 ⟨rfl, rfl⟩)
          go_upto_region 5 with (go_at_call 97; refine (rnamed_any b _).mono ?_; rw [HNB.out]; rintro x w1 ⟨rfl, rfl⟩)
          go_upto_region 11 with (go_at_call 98; refine (rfind_any (dirE_len _).symm HA.out.now a HY.out).mono ?_; rintro x w1 ⟨rfl, rfl⟩)
          obtain ⟨h1, h2⟩ := HA.out.lit [(a, -1), (b, (i : Int))] (by unfold maxLen; simp)
          have H1 := Lib.hid h1
          have H2 := Lib.hid (show EntAt (w.alloc (.cells #[encStr a, .int .i64 (-1), encStr b, .int .i64 (i : Int)] tEnt)) 0 (.slice (some ⟨w.heap.size, 0, none⟩) 2 2) (chgE [(a, none), (b, some i)]) from h2)
          clear h1 h2
          go_wp2_with (go_at_call 100; go_loud (refine (rchange_any (c := [(a, none), (b, some i)]) H1.out HRI.out rfl H2.out (fun g hg => .inr (by simpa [Value.ownBlock] using hg.symm)) (by simp; omega) (by omega)).mono ?_); rintro x w2 ⟨rfl, S2, vn2, vc2, cs2, h3, hk3, hs3⟩; have H3 := Lib.hid h3; have HK3 := Lib.hid hk3; have HS3 := Lib.hid hs3; clear h3 hk3 hs3)
          have hfin : Rturn w w2 S r (D.change [(a, none), (b, some i)]) m (N + 1) := by
            refine ⟨S2, ⟨HOK.out, Nat.le_trans hbn (Nat.le_succ _), _, _, _, _, _, _, H3.out⟩, (kept_alloc w S _).trans HK3.out fun k hk => ?_, fun k hk => ?_⟩
            · rcases hk with hk | rfl
              · exact .inl hk
              · exact .inr (Nat.le_refl _)
            · rcases HS3.out k hk with (hk | rfl) | hk
              · exact .inl hk
              · exact .inr (Nat.le_refl _)
              · exact .inr (by simp at hk; omega)
          have HF := Lib.hid hfin
          clear hfin
          go_ret
          exact ⟨rfl, HF.out⟩
/-- A body's cells. -/
theorem RefAt.body {vb vn vk vc : Value} {ds cs : List Value} (h : RefAt w S r D vb vn vk vc ds cs) {i : Nat} (hi : i < D.bd.length) : D.bd[i]? = some (D.at i) ∧ ∃ gb c Av cv, vb = .slice (some ⟨gb, 0, none⟩) D.bd.length c ∧ ds[i]? = some (.slice Av (D.at i).data.length cv) ∧
    w.ownsRow 0 tU8 1 (.slice Av (D.at i).data.length cv) (D.at i).data.length (cU8 (D.at i).data) ∧ w.cell? ⟨gb, i * 2, none⟩ = some (.slice Av (D.at i).data.length cv) ∧ w.cell? ⟨gb, i * 2 + 1, none⟩ = some (.int .i64 ((D.at i).safe : Int)) ∧ w.frozen? ⟨gb, i * 2, none⟩ = false ∧ w.frozen? ⟨gb, i * 2 + 1, none⟩ = false := by
  have hb : D.bd[i]? = some (D.at i) := by
    unfold Dr.D.at
    rw [List.getD_eq_getElem?_getD, List.getElem?_eq_getElem hi]; rfl
  obtain ⟨v, hv⟩ : ∃ v, ds[i]? = some v := ⟨_, List.getElem?_eq_getElem (by have := h.dl; omega)⟩
  have hrow := h.dat i _ v hb hv
  obtain ⟨Av, cv, rfl, _, _⟩ := own_form hrow
  obtain ⟨Ab, cb, rfl, _, _⟩ := own_form h.bod
  obtain ⟨gb, rfl⟩ := own_some h.bod (by omega)
  obtain ⟨c0, c1⟩ := cB_at D.bd ds i _ _ hb hv
  exact ⟨hb, gb, cb, Av, cv, rfl, hv, hrow, own_cellS h.bod c0, own_cellS h.bod c1, h.bod.frozenAt _, h.bod.frozenAt _⟩
set_option maxRecDepth 100000 in
set_option maxHeartbeats 8000000 in
theorem rsync_any (h : Rv w S r D m N) (n : Bs) : Calls Try.prog 63 #[.pointer (some ⟨r, 0, none⟩), encStr n] w fun x w' => x = .returned (.int .i64 (D.sync n).2) ∧ Rturn w w' S r (D.sync n).1 m N := by
  have hok := h.1.sync n
  have H := Lib.hid h
  obtain ⟨ho, hbn, vb, vn, vk, vc, ds, cs, h⟩ := h
  unfold Dr.D.sync at hok ⊢
  cases hl : D.look n with
  | error e =>
    have hne := look_ne hl
    have hz : atZ D n = -1 := by unfold atZ; rw [hl]
    have he : atE D n = e := by unfold atE; rw [hl]
    have HZ := Lib.hid hz
    have HE := Lib.hid he
    clear h hl hz he hok
    go_enter Try.func63, Try.ntmps63
    go_wp2_with (go_at_call 101; refine (rat_any H.out n HZ.out HE.out).mono ?_; rintro x w1 ⟨rfl, rfl⟩)
    go_ret
    exact ⟨rfl, Rturn.refl H.out⟩
  | ok i =>
    rw [hl] at hok
    dsimp only at hok ⊢
    have hz : atZ D n = (i : Int) := by unfold atZ; rw [hl]
    have he : atE D n = 0 := by unfold atE; rw [hl]
    have hil := (look_in ho hl).2
    obtain ⟨hb, gb, cb, Av, cv, rfl, hv, hrow, e0, e1, f0, f1⟩ := h.body hil
    obtain ⟨_, x1, _, _, _⟩ := rcells h.head
    have hlt : (i : Int) < (D.bd.length : Int) := by omega
    have HZ := Lib.hid hz
    have HE := Lib.hid he
    have HA := Lib.hid h
    have HOK := Lib.hid hok
    have HB := Lib.hid hb
    clear h hl hz he hok hb hv hrow hil
    go_enter Try.func63, Try.ntmps63
    go_upto_region 4 with (go_at_call 101; refine (rat_any H.out n HZ.out HE.out).mono ?_; rintro x w1 ⟨rfl, rfl⟩)
    go_region
    have hs := HA.out.setSafe rfl HB.out (D.at i).data.length
    have hfin : Rturn w ((w.setCell ⟨gb, i * 2 + 1, none⟩ (.int .i64 ((D.at i).data.length : Int))).drew) S r (D.setBody i ⟨(D.at i).data, (D.at i).data.length⟩) m N :=
      Rturn.below ⟨S, ⟨HOK.out, by show (D.bd.set i _).length ≤ N; rw [List.length_set]; exact hbn, _, _, _, _, _, _, hs⟩, (Kept.refl w S).set (HA.out.inB gb rfl) _, fun k hk => .inl hk⟩ (Below.refl _ _).drew
    have HF := Lib.hid hfin
    clear hfin hs
    go_wp2
    go_ret
    exact ⟨rfl, HF.out⟩
set_option maxRecDepth 100000 in
theorem rpending_any (h : Rv w S r D m N) : Calls Try.prog 69 #[.pointer (some ⟨r, 0, none⟩)] w fun x w' => x = .returned (.int .i64 (D.pend.length : Int)) ∧ w = w' := by
  obtain ⟨_, _, vb, vn, vk, vc, ds, cs, h⟩ := h
  obtain ⟨Ab, cb, An, cn, Ak, ck, Ad, cd, rfl, rfl, rfl, rfl⟩ := h.open
  obtain ⟨_, _, _, _, x4⟩ := rcells h.head
  clear h
  go_enter Try.func69, Try.ntmps69
  go_wp2
  go_ret
  exact ⟨rfl, rfl⟩
set_option maxRecDepth 100000 in
theorem rsyncDir_any (h : Rv w S r D m N) : Calls Try.prog 66 #[.pointer (some ⟨r, 0, none⟩)] w fun x w' => x = .returned (.int .i64 0) ∧ Rturn w w' S r D.syncDir m N := by
  have hok := h.1.syncDir
  obtain ⟨ho, hbn, vb, vn, vk, vc, ds, cs, h⟩ := h
  obtain ⟨Ab, cb, An, cn, Ak, ck, Ad, cd, rfl, rfl, rfl, rfl⟩ := h.open
  obtain ⟨_, _, x2, x3, x4⟩ := rcells h.head
  have f3 := rfroz h.head 3
  have f4 := rfroz h.head 4
  have h2 := h.setKept (l := D.now) h.now h.inN
  obtain ⟨_, _, _, _, y4⟩ := rcells h2.head
  have g4 := rfroz h2.head 4
  have h3 := h2.setChg (p := []) (cs' := []) (v := .slice none 0 0) (World.ownsRow_nil _ _ _ _) (fun j c v hj => by cases hj) (fun g hg => by cases hg) (fun v hv => by cases hv)
  have H3 := Lib.hid h3
  have HK := Lib.hid (((Kept.refl w S).set (p := ⟨r, 3, none⟩) h.inR (.slice An D.now.length cn)).set (p := ⟨r, 4, none⟩) h.inR (.slice none 0 0))
  clear h h2 h3
  go_enter Try.func66, Try.ntmps66
  go_wp2
  go_ret
  exact ⟨rfl, S, ⟨hok, hbn, _, _, _, _, _, _, H3.out⟩, HK.out, fun k hk => .inl hk⟩
set_option maxRecDepth 100000 in
theorem rwipe_any (h : Rv w S r D m N) : Calls Try.prog 73 #[.pointer (some ⟨r, 0, none⟩)] w fun x w' => x = .returned (.int .i64 0) ∧ Rturn w w' S r D.wipe m N := by
  have hok := h.1.wipe
  obtain ⟨ho, hbn, vb, vn, vk, vc, ds, cs, h⟩ := h
  obtain ⟨Ab, cb, An, cn, Ak, ck, Ad, cd, rfl, rfl, rfl, rfl⟩ := h.open
  obtain ⟨_, x1, _, _, _⟩ := rcells h.head
  have f1 := rfroz h.head 1
  have h1 := h.putBod (w' := w) (S' := S) (fun k hk => hk) h.low rfl (fun h _ => h) (v := .slice none 0 0) (bd := []) (ds' := []) (World.ownsRow_nil _ _ _ _) rfl (fun i b v hb => by cases hb) (fun g hg => by cases hg) (fun v hv => by cases hv)
  obtain ⟨_, _, x2, _, _⟩ := rcells h1.head
  have f2 := rfroz h1.head 2
  have h2 := h1.setNow (l := []) (v := .slice none 0 0) (World.ownsRow_nil _ _ _ _) (fun g hg => by cases hg)
  obtain ⟨_, _, _, x3, _⟩ := rcells h2.head
  have f3 := rfroz h2.head 3
  have h3 := h2.setKept (l := []) (v := .slice none 0 0) (World.ownsRow_nil _ _ _ _) (fun g hg => by cases hg)
  obtain ⟨_, _, _, _, x4⟩ := rcells h3.head
  have f4 := rfroz h3.head 4
  have h4 := h3.setChg (p := []) (cs' := []) (v := .slice none 0 0) (World.ownsRow_nil _ _ _ _) (fun j c v hj => by cases hj) (fun g hg => by cases hg) (fun v hv => by cases hv)
  have H4 := Lib.hid h4
  have HK := Lib.hid (((((Kept.refl w S).set (p := ⟨r, 1, none⟩) h.inR (.slice none 0 0)).set (p := ⟨r, 2, none⟩) h.inR (.slice none 0 0)).set (p := ⟨r, 3, none⟩) h.inR (.slice none 0 0)).set (p := ⟨r, 4, none⟩) h.inR (.slice none 0 0))
  clear h h1 h2 h3 h4
  go_enter Try.func73, Try.ntmps73
  go_wp2
  go_ret
  exact ⟨rfl, S, ⟨hok, Nat.zero_le _, _, _, _, _, _, _, H4.out⟩, HK.out, fun k hk => .inl hk⟩
set_option maxRecDepth 100000 in
set_option maxHeartbeats 8000000 in
theorem rcreate_any (h : Rv w S r D m N) (hN : N ≤ 1099511627776) (n : Bs) : Calls Try.prog 61 #[.pointer (some ⟨r, 0, none⟩), encStr n] w fun x w' => x = .returned (.int .i64 (D.create n).2) ∧ Rturn w w' S r (D.create n).1 m (N + 1) := by
  have hok := h.1.create n
  have H := Lib.hid h
  obtain ⟨ho, hbn, vb, vn, vk, vc, ds, cs, h⟩ := h
  unfold Dr.D.create at hok ⊢
  cases hnm : Dr.named n with
  | false =>
    rw [if_neg (by simp)]
    have HNM := Lib.hid hnm
    clear hnm hok h
    go_enter Try.func61, Try.ntmps61
    go_wp2_with (go_at_call 97; refine (rnamed_any n _).mono ?_; rw [HNM.out]; rintro x w1 ⟨rfl, rfl⟩)
    go_ret
    exact ⟨rfl, (Rturn.refl H.out).mono (Nat.le_refl _) (Nat.le_succ _)⟩
  | true =>
    rw [hnm, if_pos rfl] at hok
    rw [if_pos rfl]
    have HNM := Lib.hid hnm
    obtain ⟨Ab, cb, An, cn, Ak, ck, Ad, cd, rfl, rfl, rfl, rfl⟩ := h.open
    obtain ⟨_, x1, x2, _, _⟩ := rcells h.head
    have f1 := rfroz h.head 1
    have HA := Lib.hid h
    obtain ⟨y, hy⟩ : ∃ y : Int, findE (dirE D.now) n = y := ⟨_, rfl⟩
    have HY := Lib.hid hy
    have hyz : (find D.now n).isNone = decide (y < 0) := by
      rw [← hy, findE_dir]
      cases find D.now n with
      | none => rfl
      | some i => show false = decide ((i : Int) < 0); simp
    rw [hyz] at hok ⊢
    clear hnm hy hyz h
    by_cases hfull : y < 0 ∧ 65536 ≤ D.now.length
    · obtain ⟨hy1, hl1⟩ := hfull
      have hl2 : (65536 : Int) ≤ (D.now.length : Int) := by omega
      rw [if_pos (by simp [hy1, hl1])]
      clear hok
      go_enter Try.func61, Try.ntmps61
      go_wp2_with (first
        | (go_at_call 97; refine (rnamed_any n _).mono ?_; rw [HNM.out]; rintro x w1 ⟨rfl, rfl⟩)
        | (go_at_call 98; refine (rfind_any (dirE_len _).symm HA.out.now n HY.out).mono ?_; rintro x w1 ⟨rfl, rfl⟩))
      go_ret
      exact ⟨rfl, (Rturn.refl H.out).mono (Nat.le_refl _) (Nat.le_succ _)⟩
    · have hcond : (decide (y < 0) && decide (65536 ≤ D.now.length)) = false := by
        by_cases h1 : y < 0
        · have : ¬ 65536 ≤ D.now.length := fun h2 => hfull ⟨h1, h2⟩
          simp [this]
        · simp [h1]
      rw [hcond, if_neg (by simp)] at hok
      rw [hcond, if_neg (by simp)]
      obtain ⟨b0, hb0, hz0, hz1, hz2⟩ := info_parts infoBd
      have HOK := Lib.hid hok
      have hnl := ho.lenN
      have hpl := ho.lenK
      have HRI := Lib.hid ho.now
      obtain ⟨D1, hD1⟩ : ∃ D1, ({ D with bd := D.bd ++ [⟨[], 0⟩] } : Dr.D) = D1 := ⟨_, rfl⟩
      have HD1 := Lib.hid hD1
      clear hok hcond
      rw [hD1]
      clear hD1
      go_enter Try.func61, Try.ntmps61
      by_cases hy1 : y < 0
      · obtain ⟨q, hq⟩ : ∃ q : Int, (D.now.length : Int) = q := ⟨_, rfl⟩
        have hl2 : ¬ (65536 : Int) ≤ q := by
          have : ¬ 65536 ≤ D.now.length := fun h2 => hfull ⟨hy1, h2⟩
          omega
        clear hfull
        go_upto_region 8 with (first
          | (go_at_call 97; refine (rnamed_any n _).mono ?_; rw [HNM.out]; rintro x w1 ⟨rfl, rfl⟩)
          | (go_at_call 98; refine (rfind_any (dirE_len _).symm HA.out.now n HY.out).mono ?_; rintro x w1 ⟨rfl, rfl⟩))
        try clear hl2 hq
        go_upto_region 9 with (at_builtin; go_loud (refine wpList_append_keeps _ rfl (.tmp 31) (.tmp 33) 132 rfl 0 tBd b0 (.agg #[.slice none 0 0, .int .i64 0]) 2 32 Try.underlying132 hb0 hz0 hz1 hz2 rfl (by decide) _ D.bd.length (cB D.bd ds) rfl (own_alloc HA.out.bod _) ⟨w.heap.size, 0, none⟩ 1 1 [.slice none 0 0, .int .i64 0] rfl rfl (new_cells _ [.slice none 0 0, .int .i64 0] tBd) (by simp [Value.oneCell']) (by omega) (by unfold maxLen; omega) (by omega) (Nat.zero_le _) ?_); go_loud (intro g2 cap2 w3 hg hgr hat hlt _); go_loud (have hd3 := (hgr.block r (by have := HA.out.low r HA.out.inR; simp; omega) (fun e => typ_of HA.out.bod e.symm (show tRef ≠ tBd by decide) _ HA.out.head)).trans ((heap_alloc_old _ _ (HA.out.low r HA.out.inR)).trans HA.out.head)); obtain ⟨_, z1, _, _, _⟩ := rcells hd3; have zf := rfroz hd3 1; have HG := Lib.hid hg; have HGR := Lib.hid hgr; have HAT := Lib.hid hat; have HLT := Lib.hid hlt; clear hg hgr hat hlt hd3)
        have hadd := (HA.out.below ((Below.refl _ _).alloc (Nat.le_refl _) (.cells #[.slice none 0 0, .int .i64 0] tBd))).addBod (b := ⟨[], 0⟩) (x := .slice none 0 0) (World.ownsRow_nil _ _ _ _) (fun g hg => by cases hg) HGR.out HG.out (by
          rcases HAT.out with h | h
          · exact .inl h
          · exact .inr (Nat.le_of_eq h.symm)) HLT.out
        rw [HD1.out] at hadd
        obtain ⟨w4, hw4⟩ : ∃ w4, w3.setCell ⟨r, 1, none⟩ (.slice (some ⟨g2, 0, none⟩) (D.bd.length + 1) cap2) = w4 := ⟨_, rfl⟩
        have hk4 : Kept w w4 S := by rw [← hw4]; exact ((kept_alloc w S _).grown HGR.out fun k hk => .inl (HA.out.inB k hk)).set HA.out.inR _
        have hS4 : ∀ k, (S k ∨ ((w.alloc (.cells #[.slice none 0 0, .int .i64 0] tBd)).heap.size ≤ k ∧ k < w3.heap.size)) → S k ∨ w.heap.size ≤ k := fun k hk => by
          rcases hk with hk | hk
          · exact .inl hk
          · exact .inr (by have := hk.1; simp at this; omega)
        rw [hw4] at hadd ⊢
        obtain ⟨_, z1, _, _, _⟩ := rcells hadd.head
        have HK4 := Lib.hid hk4
        have HS4 := Lib.hid hS4
        have HADD := Lib.hid hadd
        clear hw4 hadd hk4 hS4 HG HGR HAT HLT zf x1 x2 f1
        go_upto_region 9 with (fail)
        obtain ⟨h1, h2⟩ := HADD.out.lit [(n, (D.bd.length : Int))] (by unfold maxLen; simp)
        have H1 := Lib.hid h1
        have H2 := Lib.hid (show EntAt (w4.alloc (.cells #[encStr n, .int .i64 (D.bd.length : Int)] tEnt)) 0 (.slice (some ⟨w4.heap.size, 0, none⟩) 1 1) (chgE [(n, some D.bd.length)]) from h2)
        have hnow : D1.now = D.now := by rw [← HD1.out]
        have hpnd : D1.pend = D.pend := by rw [← HD1.out]
        have HRI2 := Lib.hid (show Rise D1.now from hnow ▸ HRI.out)
        have hnl2 : D1.now.length ≤ N := by rw [hnow]; exact hnl
        have hpl2 : D1.pend.length ≤ N := by rw [hpnd]; omega
        clear h1 h2 hnow hpnd
        go_wp2_with (go_at_call 100; go_loud (refine (rchange_any (c := [(n, some D.bd.length)]) H1.out HRI2.out rfl H2.out (fun g hg => .inr (by simpa [Value.ownBlock] using hg.symm)) (by simp; omega) (by omega)).mono ?_); rintro x w5 ⟨rfl, S2, vn2, vc2, cs2, h3, hk3, hs3⟩; have H3 := Lib.hid h3; have HK3 := Lib.hid hk3; have HS3 := Lib.hid hs3; clear h3 hk3 hs3)
        have hfin : Rturn w w5 S r (D1.change [(n, some D.bd.length)]) m (N + 1) := by
          refine Rturn.join HK4.out HS4.out ⟨S2, ⟨by rw [← HD1.out]; exact HOK.out, by rw [← HD1.out]; show (D.bd ++ [_]).length ≤ _; simp; omega, _, _, _, _, _, _, H3.out⟩, (kept_alloc w4 _ _).trans HK3.out fun k hk => ?_, fun k hk => ?_⟩
          · rcases hk with hk | rfl
            · exact .inl hk
            · exact .inr (Nat.le_refl _)
          · rcases HS3.out k hk with (hk | rfl) | hk
            · exact .inl hk
            · exact .inr (Nat.le_refl _)
            · exact .inr (by simp at hk; omega)
        have HF := Lib.hid hfin
        clear hfin
        go_ret
        exact ⟨rfl, HF.out⟩
      · clear hfull
        go_upto_region 8 with (first
          | (go_at_call 97; refine (rnamed_any n _).mono ?_; rw [HNM.out]; rintro x w1 ⟨rfl, rfl⟩)
          | (go_at_call 98; refine (rfind_any (dirE_len _).symm HA.out.now n HY.out).mono ?_; rintro x w1 ⟨rfl, rfl⟩))
        go_upto_region 9 with (at_builtin; go_loud (refine wpList_append_keeps _ rfl (.tmp 31) (.tmp 33) 132 rfl 0 tBd b0 (.agg #[.slice none 0 0, .int .i64 0]) 2 32 Try.underlying132 hb0 hz0 hz1 hz2 rfl (by decide) _ D.bd.length (cB D.bd ds) rfl (own_alloc HA.out.bod _) ⟨w.heap.size, 0, none⟩ 1 1 [.slice none 0 0, .int .i64 0] rfl rfl (new_cells _ [.slice none 0 0, .int .i64 0] tBd) (by simp [Value.oneCell']) (by omega) (by unfold maxLen; omega) (by omega) (Nat.zero_le _) ?_); go_loud (intro g2 cap2 w3 hg hgr hat hlt _); go_loud (have hd3 := (hgr.block r (by have := HA.out.low r HA.out.inR; simp; omega) (fun e => typ_of HA.out.bod e.symm (show tRef ≠ tBd by decide) _ HA.out.head)).trans ((heap_alloc_old _ _ (HA.out.low r HA.out.inR)).trans HA.out.head)); obtain ⟨_, z1, _, _, _⟩ := rcells hd3; have zf := rfroz hd3 1; have HG := Lib.hid hg; have HGR := Lib.hid hgr; have HAT := Lib.hid hat; have HLT := Lib.hid hlt; clear hg hgr hat hlt hd3)
        have hadd := (HA.out.below ((Below.refl _ _).alloc (Nat.le_refl _) (.cells #[.slice none 0 0, .int .i64 0] tBd))).addBod (b := ⟨[], 0⟩) (x := .slice none 0 0) (World.ownsRow_nil _ _ _ _) (fun g hg => by cases hg) HGR.out HG.out (by
          rcases HAT.out with h | h
          · exact .inl h
          · exact .inr (Nat.le_of_eq h.symm)) HLT.out
        rw [HD1.out] at hadd
        obtain ⟨w4, hw4⟩ : ∃ w4, w3.setCell ⟨r, 1, none⟩ (.slice (some ⟨g2, 0, none⟩) (D.bd.length + 1) cap2) = w4 := ⟨_, rfl⟩
        have hk4 : Kept w w4 S := by rw [← hw4]; exact ((kept_alloc w S _).grown HGR.out fun k hk => .inl (HA.out.inB k hk)).set HA.out.inR _
        have hS4 : ∀ k, (S k ∨ ((w.alloc (.cells #[.slice none 0 0, .int .i64 0] tBd)).heap.size ≤ k ∧ k < w3.heap.size)) → S k ∨ w.heap.size ≤ k := fun k hk => by
          rcases hk with hk | hk
          · exact .inl hk
          · exact .inr (by have := hk.1; simp at this; omega)
        rw [hw4] at hadd ⊢
        obtain ⟨_, z1, _, _, _⟩ := rcells hadd.head
        have HK4 := Lib.hid hk4
        have HS4 := Lib.hid hS4
        have HADD := Lib.hid hadd
        clear hw4 hadd hk4 hS4 HG HGR HAT HLT zf x1 x2 f1
        go_upto_region 9 with (fail)
        obtain ⟨h1, h2⟩ := HADD.out.lit [(n, (D.bd.length : Int))] (by unfold maxLen; simp)
        have H1 := Lib.hid h1
        have H2 := Lib.hid (show EntAt (w4.alloc (.cells #[encStr n, .int .i64 (D.bd.length : Int)] tEnt)) 0 (.slice (some ⟨w4.heap.size, 0, none⟩) 1 1) (chgE [(n, some D.bd.length)]) from h2)
        have hnow : D1.now = D.now := by rw [← HD1.out]
        have hpnd : D1.pend = D.pend := by rw [← HD1.out]
        have HRI2 := Lib.hid (show Rise D1.now from hnow ▸ HRI.out)
        have hnl2 : D1.now.length ≤ N := by rw [hnow]; exact hnl
        have hpl2 : D1.pend.length ≤ N := by rw [hpnd]; omega
        clear h1 h2 hnow hpnd
        go_wp2_with (go_at_call 100; go_loud (refine (rchange_any (c := [(n, some D.bd.length)]) H1.out HRI2.out rfl H2.out (fun g hg => .inr (by simpa [Value.ownBlock] using hg.symm)) (by simp; omega) (by omega)).mono ?_); rintro x w5 ⟨rfl, S2, vn2, vc2, cs2, h3, hk3, hs3⟩; have H3 := Lib.hid h3; have HK3 := Lib.hid hk3; have HS3 := Lib.hid hs3; clear h3 hk3 hs3)
        have hfin : Rturn w w5 S r (D1.change [(n, some D.bd.length)]) m (N + 1) := by
          refine Rturn.join HK4.out HS4.out ⟨S2, ⟨by rw [← HD1.out]; exact HOK.out, by rw [← HD1.out]; show (D.bd ++ [_]).length ≤ _; simp; omega, _, _, _, _, _, _, H3.out⟩, (kept_alloc w4 _ _).trans HK3.out fun k hk => ?_, fun k hk => ?_⟩
          · rcases hk with hk | rfl
            · exact .inl hk
            · exact .inr (Nat.le_refl _)
          · rcases HS3.out k hk with (hk | rfl) | hk
            · exact .inl hk
            · exact .inr (Nat.le_refl _)
            · exact .inr (by simp at hk; omega)
        have HF := Lib.hid hfin
        clear hfin
        go_ret
        exact ⟨rfl, HF.out⟩
end
end Go.Proofs.Ytelgcmcnebncmaa.Dr
namespace Go.Proofs.Ytelgcmcnebncmaa.Dr
open Go.RowKit Go.Proofs Go.Proofs.Ytelgcmcnebncmaa.Ring

theorem dirE_at {l : Dir} {i : Nat} {p : Bs × Nat} (h : l[i]? = some p) : (dirE l)[i]? = some (p.1, (p.2 : Int)) := by
  unfold dirE
  rw [List.getElem?_map, h]; rfl
theorem wrap_more (x b : Int) : wrap64 (wrap64 x + b) = wrap64 (x + b) := by
  unfold wrap64
  omega
theorem sumL_take {bd : List Bd} {l : Dir} {i : Nat} {p : Bs × Nat} (h : l[i]? = some p) : sumL bd (l.take (i + 1)) = sumL bd (l.take i) + (bd.getD p.2 ⟨[], 0⟩).data.length := by
  rw [take_snoc_f h]
  simp [sumL]
section
variable {w : World} {S : Nat → Prop} {r m N : Nat} {D : Dr.D}
set_option maxRecDepth 100000 in
set_option maxHeartbeats 8000000 in
theorem rused_any (h : Rv w S r D m N) : Calls Try.prog 24 #[.pointer (some ⟨r, 0, none⟩)] w fun x w' => x = .returned (.int .i64 (wrap64 (D.used : Int))) ∧ ∃ q, w' = w.drewN q := by
  obtain ⟨ho, hbn, vb, vn, vk, vc, ds, cs, h⟩ := h
  obtain ⟨Ab, cb, An, cn, Ak, ck, Ad, cd, rfl, rfl, rfl, rfl⟩ := h.open
  have hml : D.now.length ≤ 9223372036854775807 := by have := h.now.len; rw [dirE_len] at this; exact this
  have H := Lib.hid h
  have HO := Lib.hid ho
  obtain ⟨u, hu⟩ : ∃ u, wrap64 (D.used : Int) = u := ⟨_, rfl⟩
  rw [hu]
  have HU := Lib.hid hu
  clear h ho hu
  go_enter Try.func24, Try.ntmps24
  go_upto_region 5 with (fail)
  go_loopw [3, 4] (fun nv iv wr => ∃ (i : Nat) (z : Int) (q : Nat), nv = .int .i64 z ∧ iv = .int .i64 (i : Int) ∧ wr = w.drewN q ∧ i ≤ D.now.length ∧ z = wrap64 (sumL D.bd (D.now.take i) : Int)) (fun _ iv _ => D.now.length - (intOf iv).toNat)
  case atStart => exact ⟨0, 0, 0, rfl, rfl, rfl, by omega, by rw [List.take_zero, show sumL D.bd [] = 0 from rfl]; exact (IntWalk.wrap64_in 0 (by omega)).symm⟩
  case round =>
    obtain ⟨i, z, q, rfl, rfl, hwq, hi, hz⟩ := hrel
    have HWQ := Lib.hid hwq
    have hA : RefAt wr S r D (.slice Ab D.bd.length cb) (.slice An D.now.length cn) (.slice Ak D.kept.length ck) (.slice Ad D.pend.length cd) ds cs := by rw [hwq]; exact H.out.same (fun k _ => rfl) (Nat.le_refl _)
    clear hwq
    obtain ⟨_, x1, x2, _, _⟩ := rcells hA.head
    by_cases hlt : i < D.now.length
    · obtain ⟨p, hp⟩ : ∃ p, D.now[i]? = some p := ⟨_, List.getElem?_eq_getElem hlt⟩
      obtain ⟨gn, rfl, _, _, e0, e1⟩ := ent_cells hA.now (dirE_at hp)
      have hpl : p.2 < D.bd.length := HO.out.inN p (List.mem_of_getElem? hp)
      obtain ⟨_, gb, cb', Av, cv, hvb, _, _, c0, c1, _, _⟩ := hA.body hpl
      injection hvb with hvb _ hcb
      subst hvb hcb
      have hlt2 : (i : Int) < (D.now.length : Int) := by omega
      have hpl2 : (p.2 : Int) < (D.bd.length : Int) := by omega
      have HZ := Lib.hid hz
      have HP := Lib.hid hp
      clear hz hp c1 hA
      dsimp only at e1
      go_upto_region 7 with (fail)
      go_quiet (fail)
      go_wp2
      go_roundw
      case rel =>
        refine ⟨i + 1, wrap64 (sumL D.bd (D.now.take (i + 1)) : Int), _, ?_, by go_num, by rw [HWQ.out, World.drewN_drewN], by omega, rfl⟩
        have h1 := HZ.out
        have h2 := sumL_take (bd := D.bd) HP.out
        rw [h2, h1, wrap_more]
        rfl
      case measure => simp [intOf]; omega
    · obtain rfl : i = D.now.length := by omega
      rw [List.take_length] at hz
      have hzu : z = u := by rw [hz, ← HU.out]; rfl
      subst hzu
      clear hz hA
      go_wp2
      go_ret
      exact ⟨rfl, q, HWQ.out⟩
set_option maxRecDepth 100000 in
theorem rread_no (h : Rv w S r D m N) {n : Bs} {e : Int} (hl : D.look n = .error e) : Calls Try.prog 67 #[.pointer (some ⟨r, 0, none⟩), encStr n] w fun x w' => x = .returned (.tuple #[.slice none 0 0, .int .i64 e]) ∧ w = w' := by
  have H := Lib.hid h
  have hne := look_ne hl
  have hz : atZ D n = -1 := by unfold atZ; rw [hl]
  have he : atE D n = e := by unfold atE; rw [hl]
  have HZ := Lib.hid hz
  have HE := Lib.hid he
  clear h hl hz he
  go_enter Try.func67, Try.ntmps67
  go_wp2_with (go_at_call 101; refine (rat_any H.out n HZ.out HE.out).mono ?_; rintro x w1 ⟨rfl, rfl⟩)
  refine bodyPost_ret (v := .tuple #[.slice none 0 0, .int .i64 e]) (by simp [results, Try.results67, go_sem]) rfl ?_
  exact ⟨rfl, rfl⟩
set_option maxRecDepth 100000 in
theorem rloose_no (h : Rv w S r D m N) {n : Bs} {e : Int} (hl : D.look n = .error e) : Calls Try.prog 70 #[.pointer (some ⟨r, 0, none⟩), encStr n] w fun x w' => x = .returned (.tuple #[.int .i64 0, .int .i64 e]) ∧ w = w' := by
  have H := Lib.hid h
  have hne := look_ne hl
  have hz : atZ D n = -1 := by unfold atZ; rw [hl]
  have he : atE D n = e := by unfold atE; rw [hl]
  have HZ := Lib.hid hz
  have HE := Lib.hid he
  clear h hl hz he
  go_enter Try.func70, Try.ntmps70
  go_wp2_with (go_at_call 101; refine (rat_any H.out n HZ.out HE.out).mono ?_; rintro x w1 ⟨rfl, rfl⟩)
  refine bodyPost_ret (v := .tuple #[.int .i64 0, .int .i64 e]) (by simp [results, Try.results70, go_sem]) rfl ?_
  exact ⟨rfl, rfl⟩
set_option maxRecDepth 100000 in
theorem rread_ok (h : Rv w S r D m N) (hm : m ≤ 140737488355328) {n : Bs} {i : Nat} (hl : D.look n = .ok i) : Calls Try.prog 67 #[.pointer (some ⟨r, 0, none⟩), encStr n] w fun x w' => Below w.heap.size w w' ∧
    ∃ A c, x = .returned (.tuple #[.slice A (D.at i).data.length c, .int .i64 0]) ∧ w'.ownsRow w.heap.size tU8 1 (.slice A (D.at i).data.length c) (D.at i).data.length (cU8 (D.at i).data) := by
  have H := Lib.hid h
  obtain ⟨ho, hbn, vb, vn, vk, vc, ds, cs, h⟩ := h
  have hz : atZ D n = (i : Int) := by unfold atZ; rw [hl]
  have he : atE D n = 0 := by unfold atE; rw [hl]
  have hil := (look_in ho hl).2
  have hdm := (ho.at_ok i).2
  obtain ⟨_, gb, cb, Av, cv, rfl, _, hrow, e0, _, _, _⟩ := h.body hil
  obtain ⟨_, x1, _, _, _⟩ := rcells h.head
  have hlt : (i : Int) < (D.bd.length : Int) := by omega
  have HZ := Lib.hid hz
  have HE := Lib.hid he
  have HRD := Lib.hid (Rd.of_own hrow)
  have HNL := Lib.hid (own_none hrow)
  clear h hl hz he hrow hil
  go_enter Try.func67, Try.ntmps67
  go_wp2_with (first
    | (go_at_call 101; refine (rat_any H.out n HZ.out HE.out).mono ?_; rintro x w1 ⟨rfl, rfl⟩)
    | (go_at_call 84; go_loud (refine (rcopied_any HRD.out HNL.out (by omega)).mono ?_); rintro x w1 ⟨A1, c1, rfl, hrow1, hb1⟩; have HROW1 := Lib.hid hrow1; have HB1 := Lib.hid hb1; clear hrow1 hb1))
  refine bodyPost_ret (v := .tuple #[.slice A1 (D.at i).data.length c1, .int .i64 0]) (by simp [results, Try.results67, go_sem]) rfl ?_
  exact ⟨HB1.out, A1, c1, rfl, HROW1.out⟩
set_option maxRecDepth 100000 in
theorem rloose_ok (h : Rv w S r D m N) {n : Bs} {i : Nat} (hl : D.look n = .ok i) (hm : m ≤ 140737488355328) : Calls Try.prog 70 #[.pointer (some ⟨r, 0, none⟩), encStr n] w fun x w' => x = .returned (.tuple #[.int .i64 (((D.at i).data.length : Int) - (D.at i).safe), .int .i64 0]) ∧ Below w.heap.size w w' := by
  have H := Lib.hid h
  obtain ⟨ho, hbn, vb, vn, vk, vc, ds, cs, h⟩ := h
  have hz : atZ D n = (i : Int) := by unfold atZ; rw [hl]
  have he : atE D n = 0 := by unfold atE; rw [hl]
  have hil := (look_in ho hl).2
  have hdm := (ho.at_ok i).2
  have hds := (ho.at_ok i).1
  obtain ⟨_, gb, cb, Av, cv, rfl, _, _, e0, e1, _, _⟩ := h.body hil
  obtain ⟨_, x1, _, _, _⟩ := rcells h.head
  have hlt : (i : Int) < (D.bd.length : Int) := by omega
  have HZ := Lib.hid hz
  have HE := Lib.hid he
  clear h hl hz he hil
  go_enter Try.func70, Try.ntmps70
  go_upto_region 4 with (go_at_call 101; refine (rat_any H.out n HZ.out HE.out).mono ?_; rintro x w1 ⟨rfl, rfl⟩)
  go_quiet (fail)
  go_wp2
  refine bodyPost_ret (v := .tuple #[.int .i64 (((D.at i).data.length : Int) - (D.at i).safe), .int .i64 0]) (by simp [results, Try.results70, go_sem]) rfl ?_
  exact ⟨rfl, below_drewN (Below.refl _ _) _⟩
set_option maxRecDepth 100000 in
set_option maxHeartbeats 4000000 in
theorem rlist_any (h : Rv w S r D m N) (hN : N ≤ 1099511627776) : Calls Try.prog 68 #[.pointer (some ⟨r, 0, none⟩)] w fun x w' => ∃ A c, x = .returned (.tuple #[.slice A D.now.length c, .int .i64 0]) ∧ w'.ownsRow w.heap.size kStr 1 (.slice A D.now.length c) D.now.length (cStr (D.now.map (·.1))) ∧ Below w.heap.size w w' := by
  have hh : ∀ wr, Below w.heap.size w wr → Rv wr S r D m N := fun wr hb => h.below hb
  have hnl : D.now.length ≤ N := h.1.lenN
  have HH := Lib.hid hh
  obtain ⟨s0, hs0, hy0, hy1, hy2⟩ := info_parts (show (Try.prog.info? kStr).map (fun i => (i.zero, i.size, i.bytes)) = some (some (.string ⟨#[]⟩), 1, 16) by kernel_rfl)
  obtain ⟨V, hV⟩ : ∃ V, w.heap.size = V := ⟨_, rfl⟩
  rw [hV] at HH ⊢
  have HV := Lib.hid hV
  clear hh h hV
  go_enter Try.func68, Try.ntmps68
  go_upto_region 5 with (fail)
  go_loopw [4, 5] (fun v iv wr => ∃ i : Nat, iv = .int .i64 (i : Int) ∧ i ≤ D.now.length ∧ wr.ownsRow V kStr 1 v i (cStr ((D.now.take i).map (·.1))) ∧ Below V w wr) (fun _ iv _ => D.now.length - (intOf iv).toNat)
  case atStart => exact ⟨0, rfl, by omega, by rw [List.take_zero]; exact World.ownsRow_nil _ _ _ _, Below.refl _ _⟩
  case round =>
    obtain ⟨i, rfl, hi, hrow, hb⟩ := hrel
    obtain ⟨_, _, vb, vn, vk, vc, ds, cs, hA⟩ := HH.out wr hb
    obtain ⟨Ab, cb, An, cn, Ak, ck, Ad, cd, rfl, rfl, rfl, rfl⟩ := hA.open
    obtain ⟨_, _, x2, _, _⟩ := rcells hA.head
    by_cases hlt : i < D.now.length
    · obtain ⟨p, hp⟩ : ∃ p, D.now[i]? = some p := ⟨_, List.getElem?_eq_getElem hlt⟩
      obtain ⟨gn, rfl, _, _, e0, _⟩ := ent_cells hA.now (dirE_at hp)
      have hlt2 : (i : Int) < (D.now.length : Int) := by omega
      dsimp only at e0
      obtain ⟨Ao, co, rfl, _, _⟩ := own_form hrow
      have HROW := Lib.hid hrow
      have HB := Lib.hid hb
      have HP := Lib.hid hp
      have HVB := Lib.hid (show V ≤ wr.heap.size from by have := hb.size; have := HV.out; omega)
      clear hrow hb hp hA
      go_wp2_with (at_builtin; go_loud (refine wpList_append_keeps _ rfl (.tmp 17) (.tmp 26) 36 rfl V kStr s0 (.string ⟨#[]⟩) 1 16 Try.underlying36 hs0 hy0 hy1 hy2 rfl (by decide) _ i (cStr ((D.now.take i).map (·.1))) rfl (own_alloc HROW.out _) ⟨wr.heap.size, 0, none⟩ 1 1 [encStr p.1] rfl rfl (cell_one_new _ _ _) (by simp [Value.oneCell']) (by omega) (by unfold maxLen; omega) (by omega) (Nat.le_trans HVB.out (by simp)) ?_); go_loud (intro g2 cap2 w3 hg hgr hat hlt9 _); have HG := Lib.hid hg; have HGR := Lib.hid hgr; clear hg hgr hat hlt9)
      have HB3 := Lib.hid (show Below V w w3 from (HB.out.alloc HVB.out _).grown HGR.out (by simp; have := HVB.out; omega) fun k hk => own_ge HROW.out hk)
      go_roundw
      case rel =>
        refine ⟨i + 1, by go_num, by omega, ?_, HB3.out⟩
        rw [take_snoc_f HP.out, List.map_append, show cStr ((D.now.take i).map (·.1) ++ [p].map (·.1)) = cStr ((D.now.take i).map (·.1)) ++ [encStr p.1] by simp]
        exact HG.out
      case measure => simp [intOf]; omega
    · obtain rfl : i = D.now.length := by omega
      rw [List.take_length] at hrow
      obtain ⟨Ao, co, rfl, _, _⟩ := own_form hrow
      have HROW := Lib.hid hrow
      have HB := Lib.hid hb
      clear hrow hb hA
      go_wp2
      refine bodyPost_ret (v := .tuple #[.slice Ao D.now.length co, .int .i64 0]) (by simp [results, Try.results68, go_sem]) rfl ?_
      exact ⟨Ao, co, rfl, HROW.out, HB.out⟩
end
end Go.Proofs.Ytelgcmcnebncmaa.Dr
