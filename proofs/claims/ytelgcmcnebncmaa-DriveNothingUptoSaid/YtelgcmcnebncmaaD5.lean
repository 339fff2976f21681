/- The walks of Create, Remove, Rename, SyncDir. -/
import Derived.Test.YtelgcmcnebncmaaD4
import Derived.Test.YtelgcmcnebncmaaIter
namespace Go.Proofs.Ytelgcmcnebncmaa.Dr
open Go.RowKit Go.Proofs Go.Proofs.Ytelgcmcnebncmaa.Ring

section
variable {w w' : World} {S : Nat → Prop} {d : Nat} {D : Dr.D} {u : Int} {β : Nat → Nat} {vs : Nat → Value} {nv kv pv : Value} {ss : List Value} {m N : Nat}
theorem at_snoc {D : Dr.D} {b : Bd} {j : Nat} : ({ D with bd := D.bd ++ [b] } : Dr.D).at j = if j = D.bd.length then b else D.at j := by
  unfold Dr.D.at
  simp only
  rw [List.getD_eq_getElem?_getD, List.getD_eq_getElem?_getD]
  rcases Nat.lt_trichotomy j D.bd.length with h | h | h
  · rw [List.getElem?_append_left h, if_neg (by omega)]
  · subst h; rw [List.getElem?_append_right (Nat.le_refl _)]; simp
  · rw [if_neg (by omega), List.getElem?_eq_none (show (D.bd ++ [b]).length ≤ j by simp; omega), List.getElem?_eq_none (show D.bd.length ≤ j by omega)]
theorem sumL_snoc {bd : List Bd} {b : Bd} : ∀ {l : Dir}, (∀ p ∈ l, p.2 < bd.length) → sumL (bd ++ [b]) l = sumL bd l
  | [], _ => rfl
  | p :: r, h => by
    rw [sumL_cons, sumL_cons, sumL_snoc fun x hx => h x (by simp [hx])]
    congr 1
    unfold lenAt
    rw [List.getD_eq_getElem?_getD, List.getElem?_append_left (h p (by simp)), ← List.getD_eq_getElem?_getD]
theorem okNew {D : Dr.D} {m N : Nat} (h : D.Ok m N) : ({ D with bd := D.bd ++ [⟨[], 0⟩] } : Dr.D).Ok m N := by
  have hlt : ∀ i, i < D.bd.length → i < D.bd.length + 1 := fun i => Nat.lt_succ_of_lt
  refine ⟨h.room, h.now, h.kept, fun p hp => by simpa using hlt _ (h.inN p hp), fun p hp => by simpa using hlt _ (h.inK p hp), fun c hc s hs => ⟨(h.inP c hc s hs).1, fun i hi => by simpa using hlt _ ((h.inP c hc s hs).2 i hi)⟩, h.one, h.oneP, fun b hb => ?_, h.lenN, h.lenK, h.namN, h.namK⟩
  rcases List.mem_append.1 hb with hb | hb
  · exact h.safe b hb
  · obtain rfl : b = _ := by simpa using hb
    exact ⟨Nat.le_refl _, Nat.zero_le _⟩
/-- One body more, which is empty. -/
theorem DvAt.bodyNew (h : DvAt w S d D u β vs nv kv pv ss) (ho : D.Ok m N) :
    DvAt (w.alloc (.cells #[.slice none 0 0, .int .i64 0] tBody)) (fun k => S k ∨ k = w.heap.size) d { D with bd := D.bd ++ [⟨[], 0⟩] } u (fun i => if i = D.bd.length then w.heap.size else β i) (fun i => if i = D.bd.length then .slice none 0 0 else vs i) nv kv pv ss := by
  have hold : ∀ k, S k → (w.alloc (.cells #[.slice none 0 0, .int .i64 0] tBody)).heap[k]? = w.heap[k]? := fun k hk => heap_alloc_old _ _ (h.low k hk)
  have hβ : ∀ i, i < D.bd.length → (fun i => if i = D.bd.length then w.heap.size else β i) i = β i := fun i hi => by simp only [if_neg (Nat.ne_of_lt hi)]
  have hlen : ({ D with bd := D.bd ++ [⟨[], 0⟩] } : Dr.D).bd.length = D.bd.length + 1 := by simp
  have hnot : ∀ i, i < D.bd.length → β i ≠ w.heap.size := fun i hi e => by have := h.low _ (h.inB i hi); omega
  have hc : ∀ i, i < D.bd.length + 1 → i < D.bd.length ∨ i = D.bd.length := fun i hi => by omega
  refine ⟨(hold d h.inD).trans h.head, ?_, ?_, h.apart, h.both, fun i j hi hj => ?_, fun i hi => ?_, fun i hi => ?_, fun i j g hi hj => ?_, own_same h.pend fun g hg => hold g (h.inP g hg), fun j c s hc' hj => ?_, .inl h.inD, fun b hb => .inl (h.inN b hb), fun b hb => .inl (h.inK b hb), fun i hi => ?_, fun i g hi => ?_, fun g hg => .inl (h.inP g hg), fun s hs g hg => .inl (h.inS s hs g hg), fun k hk => ?_, h.live⟩
  · rw [at_congr hβ ho.inN]; exact h.now.same fun b hb => hold b (h.inN b hb)
  · rw [at_congr hβ ho.inK]; exact h.kept.same fun b hb => hold b (h.inK b hb)
  · rw [hlen] at hi hj
    rcases hc i hi with hi | rfl <;> rcases hc j hj with hj | rfl
    · simp only [if_neg (Nat.ne_of_lt hi), if_neg (Nat.ne_of_lt hj)]; exact h.inj i j hi hj
    · simp only [if_neg (Nat.ne_of_lt hi), if_true]; exact fun e => absurd e (hnot i hi)
    · simp only [if_neg (Nat.ne_of_lt hj), if_true]; exact fun e => absurd e.symm (hnot j hj)
    · exact fun _ => rfl
  · rw [hlen] at hi
    rcases hc i hi with hi | rfl
    · rw [at_snoc, if_neg (Nat.ne_of_lt hi)]; simp only [if_neg (Nat.ne_of_lt hi)]; exact (hold _ (h.inB i hi)).trans (h.body i hi)
    · rw [at_snoc, if_pos rfl]; simp only [if_true]; exact heap_alloc_new w _
  · rw [hlen] at hi
    rcases hc i hi with hi | rfl
    · rw [at_snoc, if_neg (Nat.ne_of_lt hi)]; simp only [if_neg (Nat.ne_of_lt hi)]; exact own_same (h.row i hi) fun g hg => hold g (h.inV i g hi hg)
    · rw [at_snoc, if_pos rfl]; simp only [if_true]; exact World.ownsRow_nil _ _ _ _
  · rw [hlen] at hi hj
    rcases hc i hi with hi | rfl <;> rcases hc j hj with hj | rfl
    · simp only [if_neg (Nat.ne_of_lt hi), if_neg (Nat.ne_of_lt hj)]; exact h.own i j g hi hj
    · simp only [if_neg (Nat.ne_of_lt hi), if_true]; exact fun _ e => by cases e
    · simp only [if_neg (Nat.ne_of_lt hj), if_true]; exact fun e => by cases e
    · exact fun _ _ => rfl
  · rw [cStep_congr hβ fun s hs i hi => (ho.inP c (List.mem_of_getElem? hc') s hs).2 i hi]
    exact own_same (h.steps j c s hc' hj) fun g hg => hold g (h.inS s (List.mem_of_getElem? hj) g hg)
  · rw [hlen] at hi
    rcases hc i hi with hi | rfl
    · simp only [if_neg (Nat.ne_of_lt hi)]; exact .inl (h.inB i hi)
    · simp only [if_true]; exact .inr trivial
  · rw [hlen] at hi
    rcases hc i hi with hi | rfl
    · simp only [if_neg (Nat.ne_of_lt hi)]; exact fun hg => .inl (h.inV i g hi hg)
    · simp only [if_true]; exact fun e => by cases e
  · simp only [World.size_alloc]
    rcases hk with hk | rfl
    · have := h.low k hk; omega
    · omega
end

section
variable {w : World} {S : Nat → Prop} {d m N : Nat} {D : Dr.D}
set_option maxRecDepth 100000 in
set_option maxHeartbeats 2000000 in
theorem remove_any (h : Dv w S d D m N) (hN : (N + 1) * 24 ≤ 140737488355328) (n : Bs) : Calls Try.prog 76 #[.pointer (some ⟨d, 0, none⟩), encStr n] w fun x w' => x = .returned (.int .i64 (D.remove n).2) ∧ Turn w w' S d (D.remove n).1 m (N + 1) := by
  have h0 := h.mono (Nat.le_refl m) (Nat.le_succ N)
  have hok := h.1.remove n
  obtain ⟨ho, β, vs, nv, kv, pv, ss, h⟩ := h
  cases hl : D.look n with
  | error e =>
    have he : D.remove n = (D, e) := by unfold Dr.D.remove; rw [hl]
    have hne := look_ne hl
    rw [he]
    have H := Lib.hid h
    have HL := Lib.hid hl
    have H0 := Lib.hid h0
    clear h ho hl he h0 hok hN
    go_enter Try.func76, Try.ntmps76
    go_wp2_with (go_at_call 90; refine (find_any H.out n).mono ?_; rintro x w1 ⟨rfl, rfl⟩; rw [HL.out]; simp only [found])
    go_ret
    exact ⟨rfl, Turn.refl H0.out⟩
  | ok i =>
    have he : D.remove n = (D.change [(n, none)], 0) := by unfold Dr.D.remove; rw [hl]
    rw [he] at hok ⊢
    have hnm := (look_ok ho hl).1
    have HNM := Lib.hid hnm
    have hp := ho.lenK
    have hnn := ho.lenN
    have H := Lib.hid h
    have HL := Lib.hid hl
    have HO := Lib.hid ho
    have HOK := Lib.hid hok
    have hlow := h.low
    have HLOW := Lib.hid hlow
    have hp1 : D.pend.length ≤ N := by omega
    clear h ho hl he h0 hok hnm hlow hp
    go_enter Try.func76, Try.ntmps76
    go_wp2_with (first
      | (go_at_call 90; refine (find_any H.out n).mono ?_; rintro x w1 ⟨rfl, rfl⟩; rw [HL.out]; simp only [found])
      | (go_at_call 89; refine (change_any (n := 1) (H.out.same (w' := w.alloc (.cells #[encStr n, .pointer none] tStep)) (fun k hk => heap_alloc_old _ _ (HLOW.out k hk)) (by simp)) HO.out (c := [(n, none)]) (fun s hs => by obtain rfl := List.mem_singleton.1 hs; exact ⟨HNM.out, fun i hi => by cases hi⟩) rfl (own_new w (Nat.zero_le _) tStep 2 1 (cStep β [(n, none)]) rfl (by unfold maxLen; omega)) (fun k hk hS => by have := HLOW.out k hS; simp [Value.ownBlock] at hk; omega) (by unfold maxLen; omega) (by omega)).mono ?_; rintro x w2 ⟨rfl, S', nv', kv', pv', ss', hD', hK', hS'⟩; have HD' := Lib.hid hD'; have HK' := Lib.hid hK'; have HS' := Lib.hid hS'; clear hD' hK' hS'))
    go_ret
    refine ⟨rfl, Turn.of HOK.out HD'.out rfl ?_ ?_⟩
    · have h1 := HK'.out
      exact ((Kept.refl w S).below ((Below.refl _ _).alloc (Nat.le_refl _) (.cells #[encStr n, .pointer none] tStep))).trans h1 fun k hk => .inl hk
    · intro k hk
      rcases HS'.out k hk with h1 | h1 | h1
      · exact .inl h1
      · exact .inr (by simp [Value.ownBlock] at h1; omega)
      · exact .inr (by simp at h1; omega)
theorem run_len {w : World} {mv : Value} {l : Dir} (h : DirAt Try.prog kStr w mv l) (ty : TypeId) : (Builtin.len_ #[104] ty #[mv]).run Try.prog w = .ok (.int .i64 (l.length : Int)) w := h.len undirU ty
set_option maxRecDepth 100000 in
set_option maxHeartbeats 4000000 in
theorem create_any (h : Dv w S d D m N) (hN : (N + 1) * 24 ≤ 140737488355328) (n : Bs) : Calls Try.prog 28 #[.pointer (some ⟨d, 0, none⟩), encStr n] w fun x w' => x = .returned (.int .i64 (D.create n).2) ∧ Turn w w' S d (D.create n).1 m (N + 1) := by
  have h0 := h.mono (Nat.le_refl m) (Nat.le_succ N)
  have hok := h.1.create n
  obtain ⟨ho, β, vs, nv, kv, pv, ss, h⟩ := h
  obtain ⟨_, _, c2, _, _⟩ := h.cells
  cases hn : named n with
  | false =>
    have he : D.create n = (D, 91) := by unfold Dr.D.create; rw [if_neg (by simp [hn])]
    rw [he]
    have H0 := Lib.hid h0
    clear h ho he h0 hok hN c2
    go_enter Try.func28, Try.ntmps28
    go_wp2_with (go_at_call 88; refine (named_any n _).mono ?_; rintro x w1 ⟨rfl, rfl⟩; rw [hn])
    go_ret
    exact ⟨rfl, Turn.refl H0.out⟩
  | true =>
    have hk := h.now.run_look (named_len hn)
    rw [find_at] at hk
    have hlen := run_len h.now
    rw [show (at_ β D.now).length = D.now.length by simp [at_]] at hlen
    have hp := ho.lenK
    have hnn := ho.lenN
    have hp1 : D.pend.length ≤ N := by omega
    have hlow := h.low
    clear hp
    by_cases hmany : ((find D.now n).isNone && decide (65536 ≤ D.now.length)) = true
    · have he : D.create n = (D, 112) := by unfold Dr.D.create; rw [if_pos hn, if_pos hmany]
      rw [he]
      have hm1 : find D.now n = none := Option.isNone_iff_eq_none.1 ((Bool.and_eq_true _ _).mp hmany).1
      have hm2 : 65536 ≤ D.now.length := of_decide_eq_true ((Bool.and_eq_true _ _).mp hmany).2
      rw [hm1] at hk
      simp only [Option.map_none, ptr] at hk
      have hl : (D.now.length : Int) ≥ 65536 := by omega
      have H0 := Lib.hid h0
      clear h ho he h0 hok hN hmany hm1 hm2
      go_enter Try.func28, Try.ntmps28
      go_wp2_with (go_at_call 88; refine (named_any n _).mono ?_; rintro x w1 ⟨rfl, rfl⟩; rw [hn])
      go_ret
      exact ⟨rfl, Turn.refl H0.out⟩
    · have he : D.create n = (({ D with bd := D.bd ++ [⟨[], 0⟩] } : Dr.D).change [(n, some D.bd.length)], 0) := by unfold Dr.D.create; rw [if_pos hn, if_neg hmany]
      rw [he] at hok ⊢
      have HB := Lib.hid (h.bodyNew ho)
      have HOB : RowKit.Hid (D.Ok m N) := Lib.hid ho
      have HSN := Lib.hid (show ({ D with bd := D.bd ++ [⟨[], 0⟩] } : Dr.D).used = D.used from sumL_snoc ho.inN)
      have HOK := Lib.hid hok
      have HLOW := Lib.hid hlow
      have H := Lib.hid h
      obtain ⟨p, hp⟩ : ∃ p, ptr ((find D.now n).map β) = .pointer p := by cases find D.now n <;> exact ⟨_, rfl⟩
      rw [hp] at hk
      have hcase : p = none ∧ (D.now.length : Int) < 65536 ∨ ∃ b, p = some b := by
        cases hf : find D.now n with
        | none =>
          rw [hf] at hp hmany
          have hge : ¬ 65536 ≤ D.now.length := fun hge => hmany (by rw [decide_eq_true hge]; rfl)
          refine .inl ⟨by simpa [ptr] using hp.symm, by omega⟩
        | some k => rw [hf] at hp; exact .inr ⟨⟨β k, 0, none⟩, by simpa [ptr] using hp.symm⟩
      clear h ho he h0 hok hmany hlow hp
      rcases hcase with ⟨rfl, hl⟩ | ⟨b, rfl⟩
      all_goals
        have HN := Lib.hid hN
        clear hN
        try (obtain ⟨q, hq⟩ : ∃ q : Int, (D.now.length : Int) = q := ⟨_, rfl⟩; rw [hq] at hl hlen; have hl : ¬ q ≥ 65536 := by omega)
        try clear hq
        go_enter Try.func28, Try.ntmps28
        go_upto_region 5 with (go_at_call 88; refine (named_any n _).mono ?_; rintro x w1 ⟨rfl, rfl⟩; rw [hn])
        go_upto_region 7 with (fail)
        have hcs : cStep (fun i => if i = D.bd.length then w.heap.size else β i) [(n, some D.bd.length)] = [encStr n, .pointer (some ⟨w.heap.size, 0, none⟩)] := by simp [cStep, ptr]
        have hsz : (w.alloc (.cells #[.slice none 0 0, .int .i64 0] tBody)).heap.size = w.heap.size + 1 := by simp
        have hown : ((w.alloc (.cells #[.slice none 0 0, .int .i64 0] tBody)).alloc (.cells #[encStr n, .pointer (some ⟨w.heap.size, 0, none⟩)] tStep)).ownsRow 0 tStep 2 (.slice (some ⟨w.heap.size + 1, 0, none⟩) 1 1) 1 (cStep (fun i => if i = D.bd.length then w.heap.size else β i) [(n, some D.bd.length)]) := by
          rw [hcs, ← hsz]
          exact own_new _ (Nat.zero_le _) tStep 2 1 [encStr n, .pointer (some ⟨w.heap.size, 0, none⟩)] rfl (by unfold maxLen; omega)
        have hD1 := HB.out.same (w' := (w.alloc (.cells #[.slice none 0 0, .int .i64 0] tBody)).alloc (.cells #[encStr n, .pointer (some ⟨w.heap.size, 0, none⟩)] tStep)) (fun k hk => heap_alloc_old _ _ (HB.out.low k hk)) (by simp)
        rw [← HSN.out] at hD1
        have HD1 := Lib.hid hD1
        have HOWN := Lib.hid hown
        have HSZ := Lib.hid hsz
        clear hcs hsz hown hD1
        have hN2 := HN.out
        go_wp2_with (go_at_call 89; refine (change_any (n := 1) HD1.out (okNew HOB.out) (c := [(n, some D.bd.length)]) (fun s hs => by obtain rfl := List.mem_singleton.1 hs; exact ⟨hn, fun i hi => by injection hi with hi; simp [← hi]⟩) rfl HOWN.out (fun k hk hS => by
          have h1 := HB.out.low k hS
          have h2 := HSZ.out
          simp [Value.ownBlock] at hk
          omega) (by unfold maxLen; simp only; omega) (by simp only; omega)).mono ?_; rintro x w2 ⟨rfl, S', nv', kv', pv', ss', hD', hK', hS'⟩; have HD' := Lib.hid hD'; have HK' := Lib.hid hK'; have HS' := Lib.hid hS'; clear hD' hK' hS')
        go_ret
        refine ⟨rfl, Turn.of HOK.out HD'.out rfl ?_ ?_⟩
        · exact (((Kept.refl w S).below ((Below.refl _ _).alloc (Nat.le_refl _) (.cells #[.slice none 0 0, .int .i64 0] tBody))).below ((Below.refl _ _).alloc (Nat.le_refl _) (.cells #[encStr n, .pointer (some ⟨w.heap.size, 0, none⟩)] tStep))).trans HK'.out fun k hk => by
            rcases hk with hk | rfl
            · exact .inl hk
            · exact .inr (Nat.le_refl _)
        · intro k hk
          rcases HS'.out k hk with (h1 | rfl) | h1 | h1
          · exact .inl h1
          · exact .inr (Nat.le_refl _)
          · exact .inr (by simp [Value.ownBlock] at h1; omega)
          · exact .inr (by simp at h1; omega)
set_option maxRecDepth 100000 in
set_option maxHeartbeats 4000000 in
theorem rename_any (h : Dv w S d D m N) (hN : (N + 1) * 24 ≤ 140737488355328) (n b : Bs) : Calls Try.prog 75 #[.pointer (some ⟨d, 0, none⟩), encStr n, encStr b] w fun x w' => x = .returned (.int .i64 (D.rename n b).2) ∧ Turn w w' S d (D.rename n b).1 m (N + 1) := by
  have h0 := h.mono (Nat.le_refl m) (Nat.le_succ N)
  have hok := h.1.rename n b
  obtain ⟨ho, β, vs, nv, kv, pv, ss, h⟩ := h
  by_cases hnb : (named n && !named b) = true
  · have he : D.rename n b = (D, 91) := by unfold Dr.D.rename; rw [if_pos hnb]
    have hn : named n = true := ((Bool.and_eq_true _ _).mp hnb).1
    have hb : named b = false := by simpa using ((Bool.and_eq_true _ _).mp hnb).2
    rw [he]
    have H0 := Lib.hid h0
    clear h ho he h0 hok hN hnb
    go_enter Try.func75, Try.ntmps75
    go_wp2_with (first
      | (go_at_call_of 88 n; refine (named_any n _).mono ?_; rintro x w1 ⟨rfl, rfl⟩; rw [hn])
      | (go_at_call_of 88 b; refine (named_any b _).mono ?_; rintro x w1 ⟨rfl, rfl⟩; rw [hb]))
    go_ret
    exact ⟨rfl, Turn.refl H0.out⟩
  · cases hl : D.look n with
    | error e =>
      have he : D.rename n b = (D, e) := by unfold Dr.D.rename; rw [if_neg hnb, hl]
      have hne := look_ne hl
      rw [he]
      have H0 := Lib.hid h0
      have H := Lib.hid h
      have HL := Lib.hid hl
      obtain ⟨an, han⟩ : ∃ an, named n = an := ⟨_, rfl⟩
      obtain ⟨bn, hbn⟩ : ∃ bn, named b = bn := ⟨_, rfl⟩
      rw [han, hbn] at hnb
      have hcase : an = false ∨ an = true ∧ bn = true := by cases an <;> cases bn <;> simp at hnb ⊢
      clear h ho he h0 hok hN hl hnb
      rcases hcase with rfl | ⟨rfl, rfl⟩
      all_goals
        go_enter Try.func75, Try.ntmps75
        go_wp2_with (first
          | (go_at_call_of 88 n; refine (named_any n _).mono ?_; rintro x w1 ⟨rfl, rfl⟩; rw [han])
          | (go_at_call_of 88 b; refine (named_any b _).mono ?_; rintro x w1 ⟨rfl, rfl⟩; rw [hbn])
          | (go_at_call 90; refine (find_any H.out n).mono ?_; rintro x w1 ⟨rfl, rfl⟩; rw [HL.out]; simp only [found]))
        go_ret
        exact ⟨rfl, Turn.refl H0.out⟩
    | ok i =>
      have hn := (look_ok ho hl).1
      have hb := named_both hnb hn
      by_cases hab : n = b
      · have he : D.rename n b = (D, 0) := by unfold Dr.D.rename; rw [if_neg hnb, hl]; simp only [if_pos hab]
        rw [he]
        have H0 := Lib.hid h0
        have H := Lib.hid h
        have HL := Lib.hid hl
        clear h ho he h0 hok hN hl hnb
        subst hab
        go_enter Try.func75, Try.ntmps75
        go_wp2_with (first
          | (go_at_call 88; refine (named_any n _).mono ?_; rintro x w1 ⟨rfl, rfl⟩; rw [hn])
          | (go_at_call 90; refine (find_any H.out n).mono ?_; rintro x w1 ⟨rfl, rfl⟩; rw [HL.out]; simp only [found]))
        go_ret
        exact ⟨rfl, Turn.refl H0.out⟩
      · have he : D.rename n b = (D.change [(n, none), (b, some i)], 0) := by unfold Dr.D.rename; rw [if_neg hnb, hl]; simp only [if_neg hab]
        rw [he] at hok ⊢
        have hi := (look_in ho hl).2
        have hp := ho.lenK
        have hnn := ho.lenN
        have hp1 : D.pend.length ≤ N := by omega
        have hlow := h.low
        have H := Lib.hid h
        have HL := Lib.hid hl
        have HO := Lib.hid ho
        have HOK := Lib.hid hok
        have HLOW := Lib.hid hlow
        have HI := Lib.hid hi
        have HN := Lib.hid hN
        have hcs : cStep β [(n, none), (b, some i)] = [encStr n, .pointer none, encStr b, .pointer (some ⟨β i, 0, none⟩)] := rfl
        have hown := own_new w (Nat.zero_le _) tStep 2 2 (cStep β [(n, none), (b, some i)]) rfl (by unfold maxLen; omega)
        rw [hcs] at hown
        have HOWN := Lib.hid hown
        have hx : (n == b) = false := by simpa using hab
        clear h ho hl he h0 hok hlow hp hi hnb hown hcs hN
        go_enter Try.func75, Try.ntmps75
        go_upto_region 7 with (first
          | (go_at_call_of 88 n; refine (named_any n _).mono ?_; rintro x w1 ⟨rfl, rfl⟩; rw [hn])
          | (go_at_call_of 88 b; refine (named_any b _).mono ?_; rintro x w1 ⟨rfl, rfl⟩; rw [hb])
          | (go_at_call 90; refine (find_any H.out n).mono ?_; rintro x w1 ⟨rfl, rfl⟩; rw [HL.out]; simp only [found]))
        have hN2 := HN.out
        go_wp2_with (go_at_call 89; refine (change_any (n := 2) (H.out.same (w' := w.alloc (.cells #[encStr n, .pointer none, encStr b, .pointer (some ⟨β i, 0, none⟩)] tStep)) (fun k hk => heap_alloc_old _ _ (HLOW.out k hk)) (by simp)) HO.out (c := [(n, none), (b, some i)]) (fun s hs => by
            rcases List.mem_cons.1 hs with rfl | hs
            · exact ⟨hn, fun i hi => by cases hi⟩
            · obtain rfl := List.mem_singleton.1 hs; exact ⟨hb, fun j hj => by injection hj with hj; rw [← hj]; exact HI.out⟩) rfl HOWN.out (fun k hk hS => by have := HLOW.out k hS; simp [Value.ownBlock] at hk; omega) (by unfold maxLen; omega) (by omega)).mono ?_; rintro x w2 ⟨rfl, S', nv', kv', pv', ss', hD', hK', hS'⟩; have HD' := Lib.hid hD'; have HK' := Lib.hid hK'; have HS' := Lib.hid hS'; clear hD' hK' hS')
        go_ret
        refine ⟨rfl, Turn.of HOK.out HD'.out rfl ?_ ?_⟩
        · exact ((Kept.refl w S).below ((Below.refl _ _).alloc (Nat.le_refl _) (.cells #[encStr n, .pointer none, encStr b, .pointer (some ⟨β i, 0, none⟩)] tStep))).trans HK'.out fun k hk => .inl hk
        · intro k hk
          rcases HS'.out k hk with h1 | h1 | h1
          · exact .inl h1
          · exact .inr (by simp [Value.ownBlock] at h1; omega)
          · exact .inr (by simp at h1; omega)
end
end Go.Proofs.Ytelgcmcnebncmaa.Dr
