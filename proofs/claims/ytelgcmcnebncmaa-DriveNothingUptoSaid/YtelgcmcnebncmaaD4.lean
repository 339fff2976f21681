/- A body is another one: the walks of Sync, Cut, Flip, Append. -/
import Derived.Test.YtelgcmcnebncmaaD3
import Derived.Test.YtelgcmcnebncmaaKeep
namespace Go.Proofs.Ytelgcmcnebncmaa.Dr
open Go.RowKit Go.Proofs Go.Proofs.Ytelgcmcnebncmaa.Ring

theorem ne_ty {w : World} {a b : Nat} {c1 c2 : Array Value} {T1 T2 : TypeId} {f1 f2 : Nat × Nat} (h1 : w.heap[a]? = some (.cells c1 T1 f1)) (h2 : w.heap[b]? = some (.cells c2 T2 f2)) (hT : T1 ≠ T2) : a ≠ b := by
  rintro rfl
  rw [h1] at h2
  injection h2 with h2
  injection h2 with _ h2 _
  exact hT h2
theorem ne_map {w : World} {a b : Nat} {c1 : Array Value} {T1 : TypeId} {f1 : Nat × Nat} {es : Array MapEntry} {cl : Nat} (h1 : w.heap[a]? = some (.cells c1 T1 f1)) (h2 : w.heap[b]? = some (.map es cl)) : b ≠ a := by
  rintro rfl
  rw [h1] at h2
  cases h2
theorem at_set {D : D} {i j : Nat} (hi : i < D.bd.length) (b : Bd) : (D.setBody i b).at j = if j = i then b else D.at j := by
  unfold Dr.D.at Dr.D.setBody
  simp only
  rw [List.getD_eq_getElem?_getD, List.getElem?_set, List.getD_eq_getElem?_getD]
  by_cases h : i = j
  · subst h; simp [hi]
  · rw [if_neg h, if_neg (fun e => h e.symm)]
section
variable {w w' : World} {S : Nat → Prop} {d : Nat} {D : D} {u : Int} {β : Nat → Nat} {vs : Nat → Value} {nv kv pv : Value} {ss : List Value} {m N : Nat}
theorem DvAt.bodied (h : DvAt w S d D u β vs nv kv pv ss) {i : Nat} (hi : i < D.bd.length) {b : Bd} {v' : Value} (hb : w'.heap[β i]? = some (.cells #[v', .int .i64 (b.safe : Int)] tBody (0, 0))) (hr : w'.ownsRow 0 tU8 1 v' b.data.length (cU8 b.data))
    (hown : ∀ g, v'.ownBlock = some g → (vs i).ownBlock = some g ∨ ¬ S g) (hw : ∀ k, S k → k ≠ β i → (vs i).ownBlock ≠ some k → w'.heap[k]? = w.heap[k]?) (hs : w.heap.size ≤ w'.heap.size) :
    DvAt w' (fun k => S k ∨ v'.ownBlock = some k) d (D.setBody i b) u β (fun j => if j = i then v' else vs j) nv kv pv ss := by
  have hB := h.body i hi
  have hty : ∀ (k : Nat) (cur : Array Value) (T : TypeId) (fr : Nat × Nat), w.heap[k]? = some (.cells cur T fr) → T ≠ tBody → T ≠ tU8 → S k → w'.heap[k]? = w.heap[k]? := by
    intro k cur T fr hk h1 h2 hS
    refine hw k hS (ne_ty hk hB h1) fun e => ?_
    obtain ⟨cur', h3⟩ := own_lt (h.row i hi) e
    exact ne_ty hk h3 h2 rfl
  have hmap : ∀ k es cl, w.heap[k]? = some (.map es cl) → S k → w'.heap[k]? = w.heap[k]? := by
    intro k es cl hk hS
    refine hw k hS (ne_map hB hk) fun e => ?_
    obtain ⟨cur', h3⟩ := own_lt (h.row i hi) e
    exact ne_map h3 hk rfl
  have hbj : ∀ j, j < D.bd.length → j ≠ i → w'.heap[β j]? = w.heap[β j]? := by
    intro j hj hji
    refine hw _ (h.inB j hj) (fun e => hji (h.inj j i hj hi e)) fun e => ?_
    obtain ⟨cur', h3⟩ := own_lt (h.row i hi) e
    exact ne_ty (h.body j hj) h3 (by decide) rfl
  have hlen : (D.setBody i b).bd.length = D.bd.length := by simp [Dr.D.setBody]
  refine ⟨(hty d _ _ _ h.head (by decide) (by decide) h.inD).trans h.head, h.now.same fun x hx => ?_, h.kept.same fun x hx => ?_, h.apart, h.both, by rw [hlen]; exact h.inj, fun j hj => ?_, fun j hj => ?_, fun j k g hj hk h1 h2 => ?_, own_same h.pend fun g hg => ?_, fun j c s hc hj => own_same (h.steps j c s hc hj) fun g hg => ?_,
    .inl h.inD, fun x hx => .inl (h.inN x hx), fun x hx => .inl (h.inK x hx), fun j hj => .inl (h.inB j (hlen ▸ hj)), fun j g hj hg => ?_, fun g hg => .inl (h.inP g hg), fun s hs g hg => .inl (h.inS s hs g hg), fun k hk => ?_, h.live⟩
  · obtain ⟨es, cl, h1⟩ := h.now.isMap hx
    exact hmap x es cl h1 (h.inN x hx)
  · obtain ⟨es, cl, h1⟩ := h.kept.isMap hx
    exact hmap x es cl h1 (h.inK x hx)
  · rw [hlen] at hj
    rw [at_set hi]
    by_cases hji : j = i
    · subst hji; simp only [if_true]; exact hb
    · simp only [if_neg hji]; exact (hbj j hj hji).trans (h.body j hj)
  · rw [hlen] at hj
    rw [at_set hi]
    by_cases hji : j = i
    · subst hji; simp only [if_true]; exact hr
    · simp only [if_neg hji]
      refine own_same (h.row j hj) fun g hg => ?_
      obtain ⟨cur', h3⟩ := own_lt (h.row j hj) hg
      exact hw g (h.inV j g hj hg) (fun e => ne_ty hB h3 (by decide) e.symm) fun e => hji (h.own j i g hj hi hg e)
  · rw [hlen] at hj hk
    by_cases hji : j = i
    · by_cases hki : k = i
      · rw [hji, hki]
      · simp only [if_pos hji] at h1
        simp only [if_neg hki] at h2
        rcases hown g h1 with h3 | h3
        · exact hji.trans (h.own i k g hi hk h3 h2)
        · exact absurd (h.inV k g hk h2) h3
    · simp only [if_neg hji] at h1
      by_cases hki : k = i
      · simp only [if_pos hki] at h2
        rcases hown g h2 with h3 | h3
        · exact (h.own j i g hj hi h1 h3).trans hki.symm
        · exact absurd (h.inV j g hj h1) h3
      · simp only [if_neg hki] at h2
        exact h.own j k g hj hk h1 h2
  · obtain ⟨cur', h3⟩ := own_lt h.pend hg
    exact hty g _ _ _ h3 (by decide) (by decide) (h.inP g hg)
  · obtain ⟨cur', h3⟩ := own_lt (h.steps j c s hc hj) hg
    exact hty g _ _ _ h3 (by decide) (by decide) (h.inS s (List.mem_of_getElem? hj) g hg)
  · rw [hlen] at hj
    by_cases hji : j = i
    · simp only [if_pos hji] at hg; exact .inr hg
    · simp only [if_neg hji] at hg; exact .inl (h.inV j g hj hg)
  · rcases hk with hk | hk
    · exact Nat.lt_of_lt_of_le (h.low k hk) hs
    · obtain ⟨cur', h3⟩ := own_lt hr hk
      exact (Array.getElem?_eq_some_iff.1 h3).1
/-- How much stands where a body is another one. -/
theorem used_set {D : Dr.D} {m N : Nat} (ho : D.Ok m N) {n : Bs} {i : Nat} (hl : D.look n = .ok i) (b : Bd) : (D.setBody i b).used + (D.at i).data.length = D.used + b.data.length :=
  sumL_set (look_in ho hl).2 ho.one (look_in ho hl).1
theorem look_ne {D : Dr.D} {n : Bs} {e : Int} (hl : D.look n = .error e) : (e == 0) = false := by
  unfold Dr.D.look at hl
  split at hl
  · split at hl
    · cases hl
    · injection hl with hl; subst hl; rfl
  · injection hl with hl; subst hl; rfl
theorem c_body {w : World} {b : Nat} {x y : Value} (h : w.heap[b]? = some (.cells #[x, y] tBody (0, 0))) : w.cell? ⟨b, 0, none⟩ = some x ∧ w.cell? ⟨b, 1, none⟩ = some y ∧ w.frozen? ⟨b, 0, none⟩ = false ∧ w.frozen? ⟨b, 1, none⟩ = false := by
  refine ⟨?_, ?_, ?_, ?_⟩ <;> first | (rw [cell_of_row w b _ _ _ _ h]; rfl) | (unfold World.frozen?; rw [show w.heap[(⟨b, _, none⟩ : Addr).block]? = _ from h]; simp)

section
variable {w : World} {S : Nat → Prop} {d m N : Nat} {D : Dr.D}
theorem Turn.of {w' : World} {S' : Nat → Prop} {u : Int} {β : Nat → Nat} {vs : Nat → Value} {nv kv pv : Value} {ss : List Value} (hok : D.Ok m N) (h : DvAt w' S' d D u β vs nv kv pv ss) (hu : u = wrap64 (D.used : Int)) (hk : Kept w w' S) (hs : ∀ k, S' k → S k ∨ w.heap.size ≤ k) : Turn w w' S d D m N := by
  subst hu
  exact ⟨S', ⟨hok, β, vs, nv, kv, pv, ss, h⟩, hk, hs⟩
set_option maxRecDepth 100000 in
theorem sync_any (h : Dv w S d D m N) (n : Bs) : Calls Try.prog 30 #[.pointer (some ⟨d, 0, none⟩), encStr n] w fun x w' => x = .returned (.int .i64 (D.sync n).2) ∧ Turn w w' S d (D.sync n).1 m N := by
  have h0 := h
  have hok := h.1.sync n
  obtain ⟨ho, β, vs, nv, kv, pv, ss, h⟩ := h
  cases hl : D.look n with
  | error e =>
    have he : D.sync n = (D, e) := by unfold Dr.D.sync; rw [hl]
    have hne := look_ne hl
    rw [he]
    have H := Lib.hid h
    have HL := Lib.hid hl
    have H0 := Lib.hid h0
    clear h ho hl he h0 hok
    go_enter Try.func30, Try.ntmps30
    go_wp2_with (go_at_call 90; refine (find_any H.out n).mono ?_; rintro x w1 ⟨rfl, rfl⟩; rw [HL.out]; simp only [found])
    go_ret
    exact ⟨rfl, Turn.refl H0.out⟩
  | ok i =>
    have he : D.sync n = (D.setBody i ⟨(D.at i).data, (D.at i).data.length⟩, 0) := by unfold Dr.D.sync; rw [hl]
    have hi := (look_in ho hl).2
    have hus : (D.setBody i ⟨(D.at i).data, (D.at i).data.length⟩).used + (D.at i).data.length = D.used + (D.at i).data.length := used_set ho hl ⟨(D.at i).data, (D.at i).data.length⟩
    rw [he] at hok ⊢
    obtain ⟨A, c, hv, _, _⟩ := own_form (h.row i hi)
    obtain ⟨c0, c1, f0, f1⟩ := c_body (h.body i hi)
    rw [hv] at c0
    have H := Lib.hid h
    have HL := Lib.hid hl
    have HOK := Lib.hid hok
    have HUS := Lib.hid hus
    clear h ho hl he h0 hok hus hv
    go_enter Try.func30, Try.ntmps30
    go_wp2_with (go_at_call 90; refine (find_any H.out n).mono ?_; rintro x w1 ⟨rfl, rfl⟩; rw [HL.out]; simp only [found])
    go_ret
    have h2 := H.out.bodied (w' := w.setCell ⟨β i, 1, none⟩ (.int .i64 ((D.at i).data.length : Int))) hi (b := ⟨(D.at i).data, (D.at i).data.length⟩) (v' := vs i) (heap_same (H.out.body i hi) _) (own_same (H.out.row i hi) fun g hg => Below.heap_setCell _ _ _ g (fun e => by obtain ⟨cur, h3⟩ := own_lt (H.out.row i hi) hg; exact ne_ty (H.out.body i hi) h3 (by decide) e.symm)) (fun g hg => .inl hg) (fun k _ hk _ => Below.heap_setCell _ _ _ k hk) (by simp [World.setCell])
    refine ⟨rfl, Turn.of HOK.out h2 (congrArg wrap64 (by have := HUS.out; omega)) ((Kept.refl w S).set (p := ⟨β i, 1, none⟩) (H.out.inB i hi) _) ?_⟩
    rintro k (hk | hk)
    · exact .inl hk
    · exact .inl (H.out.inV i k hi hk)
theorem infoU8 : (Try.prog.info? tU8).map (fun i => (i.zero, i.size, i.bytes)) = some (some (.int .u8 0), 1, 1) := by kernel_rfl
theorem fits_iff {D : Dr.D} {k : Nat} : D.fits k = decide (wrap64 ((D.used : Int) + (k : Int)) ≤ (D.room : Int)) := by simp only [Dr.D.fits, wrap64]
set_option maxRecDepth 100000 in
set_option maxHeartbeats 2000000 in
theorem append_any (h : Dv w S d D m N) (n : Bs) {A : Option Addr} {k c : Nat} {x : Bs} (hx : Rd w w.heap.size 1 A k (cU8 x)) (hm : m + k ≤ 140737488355328) :
    Calls Try.prog 29 #[.pointer (some ⟨d, 0, none⟩), encStr n, .slice A k c] w fun y w' => y = .returned (.int .i64 (D.append n x).2) ∧ Turn w w' S d (D.append n x).1 (m + k) N := by
  have hxl : x.length = k := by simpa using hx.1
  have h0 := h.mono (Nat.le_add_right m k) (Nat.le_refl N)
  have hok := h.1.append n x
  rw [hxl] at hok
  have hkb : k ≤ 140737488355328 := by omega
  obtain ⟨ho, β, vs, nv, kv, pv, ss, h⟩ := h
  cases hl : D.look n with
  | error e =>
    have he : D.append n x = (D, e) := by unfold Dr.D.append; rw [hl]
    have hne := look_ne hl
    rw [he]
    have H := Lib.hid h
    have HL := Lib.hid hl
    have H0 := Lib.hid h0
    clear h ho hl he h0 hok hx hm hxl
    go_enter Try.func29, Try.ntmps29
    go_wp2_with (go_at_call 90; refine (find_any H.out n).mono ?_; rintro y w1 ⟨rfl, rfl⟩; rw [HL.out]; simp only [found])
    go_ret
    exact ⟨rfl, Turn.refl H0.out⟩
  | ok i =>
    by_cases hx0 : x = []
    · have he : D.append n x = (D, 0) := by unfold Dr.D.append; rw [hl]; simp only [if_pos hx0]
      have hk0 : k = 0 := by rw [← hxl, hx0]; rfl
      subst hk0
      rw [he]
      have H := Lib.hid h
      have HL := Lib.hid hl
      have H0 := Lib.hid h0
      clear h ho hl he h0 hok hx hm hxl hx0
      go_enter Try.func29, Try.ntmps29
      go_wp2_with (go_at_call 90; refine (find_any H.out n).mono ?_; rintro y w1 ⟨rfl, rfl⟩; rw [HL.out]; simp only [found])
      go_ret
      exact ⟨rfl, Turn.refl H0.out⟩
    · have hk0 : 0 < k := by rw [← hxl]; exact List.length_pos_iff.2 hx0
      have hkn : ((k : Int) == 0) = false := by simp; omega
      have e1 : wrap64 (wrap64 (D.used : Int) + (k : Int)) = wrap64 ((D.used : Int) + (k : Int)) := wrap_add _ _
      have y0 : w.drew.cell? ⟨d, 0, none⟩ = some (.int .i64 (D.room : Int)) := h.cells.1
      have y1 : w.drew.cell? ⟨d, 1, none⟩ = some (.int .i64 (wrap64 (D.used : Int))) := h.cells.2.1
      cases hf : D.fits k with
      | false =>
        have he : D.append n x = (D, 111) := by unfold Dr.D.append; rw [hl]; simp only [if_neg hx0, hxl, hf, Bool.false_eq_true, if_false]
        rw [he]
        have hg : ¬ wrap64 ((D.used : Int) + (k : Int)) ≤ (D.room : Int) := by rw [fits_iff] at hf; exact of_decide_eq_false hf
        have H := Lib.hid h
        have HL := Lib.hid hl
        have H0 := Lib.hid h0
        clear h ho hl he h0 hok hx hm hxl hx0 hf
        go_enter Try.func29, Try.ntmps29
        go_upto_region 4 with (go_at_call 90; refine (find_any H.out n).mono ?_; rintro y w1 ⟨rfl, rfl⟩; rw [HL.out]; simp only [found])
        go_region
        go_wp2
        go_ret
        exact ⟨rfl, Turn.of_below H0.out ((Below.refl _ _).drew)⟩
      | true =>
        have he : D.append n x = (D.setBody i ⟨(D.at i).data ++ x, (D.at i).safe⟩, 0) := by unfold Dr.D.append; rw [hl]; simp only [if_neg hx0, hxl, hf, if_true]
        rw [he] at hok ⊢
        have hg : wrap64 ((D.used : Int) + (k : Int)) ≤ (D.room : Int) := by rw [fits_iff] at hf; exact of_decide_eq_true hf
        have hi := (look_in ho hl).2
        have hus : (D.setBody i ⟨(D.at i).data ++ x, (D.at i).safe⟩).used + (D.at i).data.length = D.used + ((D.at i).data.length + k) := by
          have h1 := used_set ho hl ⟨(D.at i).data ++ x, (D.at i).safe⟩
          rw [show (Bd.data ⟨(D.at i).data ++ x, (D.at i).safe⟩).length = (D.at i).data.length + k by simp [hxl]] at h1
          exact h1
        have hrow := h.row i hi
        obtain ⟨c0, c1, g0, g1⟩ := c_body (h.body i hi)
        obtain ⟨ad, hA, hadb, hadc⟩ := hx.2 hk0
        subst hA
        have hbi := (ho.at_ok i).2
        have hlm : (D.at i).data.length + k ≤ 140737488355328 := by omega
        obtain ⟨j0, hj0, hq0, hq1, hq2⟩ := info_parts infoU8
        have hnews : ∀ j v, (cU8 x)[j]? = some v → w.drew.cell? (ad.add j) = some v := fun j v hj => by rw [← hadc j v hj]; rfl
        have H := Lib.hid h
        have HL := Lib.hid hl
        have HOK := Lib.hid hok
        have HUS := Lib.hid hus
        have HROW := Lib.hid hrow
        have HNEWS := Lib.hid hnews
        have HXL := Lib.hid hxl
        have y2 : w.drew.cell? ⟨β i, 0, none⟩ = some (vs i) := c0
        clear h ho hl he h0 hok hx hm hx0 hf hus hrow hnews hxl hadb hadc c0 hbi
        go_enter Try.func29, Try.ntmps29
        go_upto_region 4 with (go_at_call 90; refine (find_any H.out n).mono ?_; rintro y w1 ⟨rfl, rfl⟩; rw [HL.out]; simp only [found])
        go_region
        go_upto_region 6 with (fail)
        go_wp2_with (first
          | (at_builtin; refine wpList_append_keeps _ rfl (.tmp 39) (.tmp 40) 35 rfl 0 tU8 j0 (.int .u8 0) 1 1 Try.underlying35 hj0 hq0 hq1 hq2 rfl (by decide) (vs i) (D.at i).data.length (cU8 (D.at i).data) rfl HROW.out ad k c (cU8 x) rfl (by simpa using HXL.out) HNEWS.out (cU8_one x) hk0 (by unfold maxLen; omega) (by omega) (Nat.zero_le _) ?_; intro g cap w3 hg3 hgr3 hat3 hlt3 _; have hd3 := (hgr3.block d (Array.getElem?_eq_some_iff.1 H.out.head).1 (fun e => H.out.d_not.2.2.2.1 i d hi e.symm rfl)).trans H.out.head; have hb3 := (hgr3.block (β i) (Array.getElem?_eq_some_iff.1 (H.out.body i hi)).1 (fun e => by obtain ⟨cur, h3⟩ := own_lt (H.out.row i hi) e.symm; exact ne_ty (H.out.body i hi) h3 (by decide) rfl)).trans (H.out.body i hi); obtain ⟨z0, z1, z2, z3⟩ := c_body hb3; obtain ⟨x1, x2, x3, x4, x5⟩ := c_now hd3; have hne : d ≠ β i := ne_ty hd3 hb3 (by decide); have hne2 : β i ≠ d := fun e => hne e.symm; have HD3 := Lib.hid hd3; have HB3 := Lib.hid hb3; have HG3 := Lib.hid hg3; have HGR3 := Lib.hid hgr3; clear hd3 hb3 hg3 hgr3))
        go_ret
        have hrow2 : (w3.setCell ⟨β i, 0, none⟩ (.slice (some ⟨g, 0, none⟩) ((D.at i).data.length + k) cap)).ownsRow 0 tU8 1 (.slice (some ⟨g, 0, none⟩) ((D.at i).data.length + k) cap) ((D.at i).data ++ x).length (cU8 ((D.at i).data ++ x)) := by
          rw [List.length_append, HXL.out, show cU8 ((D.at i).data ++ x) = cU8 (D.at i).data ++ cU8 x by simp [cU8]]
          exact own_same HG3.out fun k hk => Below.heap_setCell _ _ _ k fun e => by
            obtain ⟨cur, h3⟩ := own_lt HG3.out hk
            exact ne_ty HB3.out h3 (by decide) e.symm
        have h2 := (H.out.bodied (w' := w3.setCell ⟨β i, 0, none⟩ (.slice (some ⟨g, 0, none⟩) ((D.at i).data.length + k) cap)) hi (b := ⟨(D.at i).data ++ x, (D.at i).safe⟩) (v' := .slice (some ⟨g, 0, none⟩) ((D.at i).data.length + k) cap) (heap_same HB3.out _) hrow2
          (fun q hq => by
            obtain rfl : g = q := by simpa [Value.ownBlock] using hq
            rcases hat3 with h | h
            · exact .inl h
            · exact .inr fun hS => by have := H.out.low _ hS; rw [h] at this; exact absurd this (Nat.lt_irrefl _))
          (fun q hS hq hq2 => (Below.heap_setCell _ _ _ q hq).trans (HGR3.out.block q (H.out.low q hS) fun e => hq2 e.symm)) (by have := HGR3.out.size; simpa [World.setCell] using this)).used (wrap64 ((D.used : Int) + (k : Int)))
        have hK : Kept w w3 S := ((Kept.refl w S).below (show Below w.heap.size w w.drew from (Below.refl _ _).drew)).grown HGR3.out fun q hq => .inl (H.out.inV i q hi hq)
        refine ⟨rfl, Turn.of HOK.out h2 (congrArg wrap64 (by have := HUS.out; omega)) ((hK.set (p := ⟨β i, 0, none⟩) (H.out.inB i hi) _).set (p := ⟨d, 1, none⟩) H.out.inD _) ?_⟩
        rintro q (hq | hq)
        · exact .inl hq
        · obtain rfl : g = q := by simpa [Value.ownBlock] using hq
          rcases hat3 with h | h
          · exact .inl (H.out.inV i g hi h)
          · exact .inr (Nat.le_of_eq h.symm)
end
end
end Go.Proofs.Ytelgcmcnebncmaa.Dr
