/- XD4, XD5, XNames: merged by tools/merge.py. -/
import Derived.Test.YtelgcmcnebncmaaQ10
import Derived.Test.YtelgcmcnebncmaaQ09
import Derived.Test.YtelgcmcnebncmaaIter
import Derived.Test.YtelgcmcnebncmaaQ06
import Derived.Test.YtelgcmcnebncmaaShelf
import Derived.Test.YtelgcmcnebncmaaChecked
namespace Go.Proofs.Ytelgcmcnebncmaa.Dr
open Go.RowKit Go.Proofs Go.Proofs.Ytelgcmcnebncmaa.Ring

theorem ne_ty {w : World} {a b : Nat} {c1 c2 : Array Value} {T1 T2 : TypeId} {f1 f2 : Nat × Nat} (h1 : w.heap[a]? = some (.cells c1 T1 f1)) (h2 : w.heap[b]? = some (.cells c2 T2 f2)) (hT : T1 ≠ T2) : a ≠ b := by
  rintro rfl
  rw [h1] at h2
  injection h2 with h2
  injection h2 with _ h2 _
  exact hT h2
theorem ne_map {w : World} {a b : Nat} {c1 : Array Value} {T1 : TypeId} {f1 : Nat × Nat} {es : Array MapEntry} {cl : Nat} (h1 : w.heap[a]? = some (.cells c1 T1 f1)) (h2 : w.heap[b]? = some (.map es cl)) : b ≠ a := by
  rintro rfl
  rw [h1] at h2
  cases h2
theorem at_set {D : D} {i j : Nat} (hi : i < D.bd.length) (b : Bd) : (D.setBody i b).at j = if j = i then b else D.at j := by
  unfold Dr.D.at Dr.D.setBody
  simp only
  rw [List.getD_eq_getElem?_getD, List.getElem?_set, List.getD_eq_getElem?_getD]
  by_cases h : i = j
  · subst h; simp [hi]
  · rw [if_neg h, if_neg (fun e => h e.symm)]
section
variable {w w' : World} {S : Nat → Prop} {d : Nat} {D : D} {u : Int} {β : Nat → Nat} {vs : Nat → Value} {nv kv pv : Value} {ss : List Value} {m N : Nat}
theorem DvAt.bodied (h : DvAt w S d D u β vs nv kv pv ss) {i : Nat} (hi : i < D.bd.length) {b : Bd} {v' : Value} (hb : w'.heap[β i]? = some (.cells #[v', .int .i64 (b.safe : Int)] tBody (0, 0))) (hr : w'.ownsRow 0 tU8 1 v' b.data.length (cU8 b.data))
    (hown : ∀ g, v'.ownBlock = some g → (vs i).ownBlock = some g ∨ ¬ S g) (hw : ∀ k, S k → k ≠ β i → (vs i).ownBlock ≠ some k → w'.heap[k]? = w.heap[k]?) (hs : w.heap.size ≤ w'.heap.size) :
    DvAt w' (fun k => S k ∨ v'.ownBlock = some k) d (D.setBody i b) u β (fun j => if j = i then v' else vs j) nv kv pv ss := by
  have hB := h.body i hi
  have hty : ∀ (k : Nat) (cur : Array Value) (T : TypeId) (fr : Nat × Nat), w.heap[k]? = some (.cells cur T fr) → T ≠ tBody → T ≠ tU8 → S k → w'.heap[k]? = w.heap[k]? := by
    intro k cur T fr hk h1 h2 hS
    refine hw k hS (ne_ty hk hB h1) fun e => ?_
    obtain ⟨cur', h3⟩ := own_lt (h.row i hi) e
    exact ne_ty hk h3 h2 rfl
  have hmap : ∀ k es cl, w.heap[k]? = some (.map es cl) → S k → w'.heap[k]? = w.heap[k]? := by
    intro k es cl hk hS
    refine hw k hS (ne_map hB hk) fun e => ?_
    obtain ⟨cur', h3⟩ := own_lt (h.row i hi) e
    exact ne_map h3 hk rfl
  have hbj : ∀ j, j < D.bd.length → j ≠ i → w'.heap[β j]? = w.heap[β j]? := by
    intro j hj hji
    refine hw _ (h.inB j hj) (fun e => hji (h.inj j i hj hi e)) fun e => ?_
    obtain ⟨cur', h3⟩ := own_lt (h.row i hi) e
    exact ne_ty (h.body j hj) h3 (by decide) rfl
  have hlen : (D.setBody i b).bd.length = D.bd.length := by simp [Dr.D.setBody]
  refine ⟨(hty d _ _ _ h.head (by decide) (by decide) h.inD).trans h.head, h.now.same fun x hx => ?_, h.kept.same fun x hx => ?_, h.apart, h.both, by rw [hlen]; exact h.inj, fun j hj => ?_, fun j hj => ?_, fun j k g hj hk h1 h2 => ?_, own_same h.pend fun g hg => ?_, fun j c s hc hj => own_same (h.steps j c s hc hj) fun g hg => ?_,
    .inl h.inD, fun x hx => .inl (h.inN x hx), fun x hx => .inl (h.inK x hx), fun j hj => .inl (h.inB j (hlen ▸ hj)), fun j g hj hg => ?_, fun g hg => .inl (h.inP g hg), fun s hs g hg => .inl (h.inS s hs g hg), fun k hk => ?_, h.live⟩
  · obtain ⟨es, cl, h1⟩ := h.now.isMap hx
    exact hmap x es cl h1 (h.inN x hx)
  · obtain ⟨es, cl, h1⟩ := h.kept.isMap hx
    exact hmap x es cl h1 (h.inK x hx)
  · rw [hlen] at hj
    rw [at_set hi]
    by_cases hji : j = i
    · subst hji; simp only [if_true]; exact hb
    · simp only [if_neg hji]; exact (hbj j hj hji).trans (h.body j hj)
  · rw [hlen] at hj
    rw [at_set hi]
    by_cases hji : j = i
    · subst hji; simp only [if_true]; exact hr
    · simp only [if_neg hji]
      refine own_same (h.row j hj) fun g hg => ?_
      obtain ⟨cur', h3⟩ := own_lt (h.row j hj) hg
      exact hw g (h.inV j g hj hg) (fun e => ne_ty hB h3 (by decide) e.symm) fun e => hji (h.own j i g hj hi hg e)
  · rw [hlen] at hj hk
    by_cases hji : j = i
    · by_cases hki : k = i
      · rw [hji, hki]
      · simp only [if_pos hji] at h1
        simp only [if_neg hki] at h2
        rcases hown g h1 with h3 | h3
        · exact hji.trans (h.own i k g hi hk h3 h2)
        · exact absurd (h.inV k g hk h2) h3
    · simp only [if_neg hji] at h1
      by_cases hki : k = i
      · simp only [if_pos hki] at h2
        rcases hown g h2 with h3 | h3
        · exact (h.own j i g hj hi h1 h3).trans hki.symm
        · exact absurd (h.inV j g hj h1) h3
      · simp only [if_neg hki] at h2
        exact h.own j k g hj hk h1 h2
  · obtain ⟨cur', h3⟩ := own_lt h.pend hg
    exact hty g _ _ _ h3 (by decide) (by decide) (h.inP g hg)
  · obtain ⟨cur', h3⟩ := own_lt (h.steps j c s hc hj) hg
    exact hty g _ _ _ h3 (by decide) (by decide) (h.inS s (List.mem_of_getElem? hj) g hg)
  · rw [hlen] at hj
    by_cases hji : j = i
    · simp only [if_pos hji] at hg; exact .inr hg
    · simp only [if_neg hji] at hg; exact .inl (h.inV j g hj hg)
  · rcases hk with hk | hk
    · exact Nat.lt_of_lt_of_le (h.low k hk) hs
    · obtain ⟨cur', h3⟩ := own_lt hr hk
      exact (Array.getElem?_eq_some_iff.1 h3).1
/-- How much stands where a body is another one. -/
theorem used_set {D : Dr.D} {m N : Nat} (ho : D.Ok m N) {n : Bs} {i : Nat} (hl : D.look n = .ok i) (b : Bd) : (D.setBody i b).used + (D.at i).data.length = D.used + b.data.length :=
  sumL_set (look_in ho hl).2 ho.one (look_in ho hl).1
theorem look_ne {D : Dr.D} {n : Bs} {e : Int} (hl : D.look n = .error e) : (e == 0) = false := by
  unfold Dr.D.look at hl
  split at hl
  · split at hl
    · cases hl
    · injection hl with hl; subst hl; rfl
  · injection hl with hl; subst hl; rfl
theorem c_body {w : World} {b : Nat} {x y : Value} (h : w.heap[b]? = some (.cells #[x, y] tBody (0, 0))) : w.cell? ⟨b, 0, none⟩ = some x ∧ w.cell? ⟨b, 1, none⟩ = some y ∧ w.frozen? ⟨b, 0, none⟩ = false ∧ w.frozen? ⟨b, 1, none⟩ = false := by
  refine ⟨?_, ?_, ?_, ?_⟩ <;> first | (rw [cell_of_row w b _ _ _ _ h]; rfl) | (unfold World.frozen?; rw [show w.heap[(⟨b, _, none⟩ : Addr).block]? = _ from h]; simp)

section
variable {w : World} {S : Nat → Prop} {d m N : Nat} {D : Dr.D}
theorem Turn.of {w' : World} {S' : Nat → Prop} {u : Int} {β : Nat → Nat} {vs : Nat → Value} {nv kv pv : Value} {ss : List Value} (hok : D.Ok m N) (h : DvAt w' S' d D u β vs nv kv pv ss) (hu : u = wrap64 (D.used : Int)) (hk : Kept w w' S) (hs : ∀ k, S' k → S k ∨ w.heap.size ≤ k) : Turn w w' S d D m N := by
  subst hu
  exact ⟨S', ⟨hok, β, vs, nv, kv, pv, ss, h⟩, hk, hs⟩
set_option maxRecDepth 100000 in
theorem sync_any (h : Dv w S d D m N) (n : Bs) : Calls Try.prog 30 #[.pointer (some ⟨d, 0, none⟩), encStr n] w fun x w' => x = .returned (.int .i64 (D.sync n).2) ∧ Turn w w' S d (D.sync n).1 m N := by
  have h0 := h
  have hok := h.1.sync n
  obtain ⟨ho, β, vs, nv, kv, pv, ss, h⟩ := h
  cases hl : D.look n with
  | error e =>
    have he : D.sync n = (D, e) := by unfold Dr.D.sync; rw [hl]
    have hne := look_ne hl
    rw [he]
    have H := Lib.hid h
    have HL := Lib.hid hl
    have H0 := Lib.hid h0
    clear h ho hl he h0 hok
    go_enter Try.func30, Try.ntmps30
    go_wp2_with (go_at_call 90; refine (find_any H.out n).mono ?_; rintro x w1 ⟨rfl, rfl⟩; rw [HL.out]; simp only [found])
    go_ret
    exact ⟨rfl, Turn.refl H0.out⟩
  | ok i =>
    have he : D.sync n = (D.setBody i ⟨(D.at i).data, (D.at i).data.length⟩, 0) := by unfold Dr.D.sync; rw [hl]
    have hi := (look_in ho hl).2
    have hus : (D.setBody i ⟨(D.at i).data, (D.at i).data.length⟩).used + (D.at i).data.length = D.used + (D.at i).data.length := used_set ho hl ⟨(D.at i).data, (D.at i).data.length⟩
    rw [he] at hok ⊢
    obtain ⟨A, c, hv, _, _⟩ := own_form (h.row i hi)
    obtain ⟨c0, c1, f0, f1⟩ := c_body (h.body i hi)
    rw [hv] at c0
    have H := Lib.hid h
    have HL := Lib.hid hl
    have HOK := Lib.hid hok
    have HUS := Lib.hid hus
    clear h ho hl he h0 hok hus hv
    go_enter Try.func30, Try.ntmps30
    go_wp2_with (go_at_call 90; refine (find_any H.out n).mono ?_; rintro x w1 ⟨rfl, rfl⟩; rw [HL.out]; simp only [found])
    go_ret
    have h2 := H.out.bodied (w' := w.setCell ⟨β i, 1, none⟩ (.int .i64 ((D.at i).data.length : Int))) hi (b := ⟨(D.at i).data, (D.at i).data.length⟩) (v' := vs i) (heap_same (H.out.body i hi) _) (own_same (H.out.row i hi) fun g hg => Below.heap_setCell _ _ _ g (fun e => by obtain ⟨cur, h3⟩ := own_lt (H.out.row i hi) hg; exact ne_ty (H.out.body i hi) h3 (by decide) e.symm)) (fun g hg => .inl hg) (fun k _ hk _ => Below.heap_setCell _ _ _ k hk) (by simp [World.setCell])
    refine ⟨rfl, Turn.of HOK.out h2 (congrArg wrap64 (by have := HUS.out; omega)) ((Kept.refl w S).set (p := ⟨β i, 1, none⟩) (H.out.inB i hi) _) ?_⟩
    rintro k (hk | hk)
    · exact .inl hk
    · exact .inl (H.out.inV i k hi hk)
theorem infoU8 : (Try.prog.info? tU8).map (fun i => (i.zero, i.size, i.bytes)) = some (some (.int .u8 0), 1, 1) := by kernel_rfl
theorem fits_iff {D : Dr.D} {k : Nat} : D.fits k = decide (wrap64 ((D.used : Int) + (k : Int)) ≤ (D.room : Int)) := by simp only [Dr.D.fits, wrap64]
set_option maxRecDepth 100000 in
set_option maxHeartbeats 2000000 in
theorem append_any (h : Dv w S d D m N) (n : Bs) {A : Option Addr} {k c : Nat} {x : Bs} (hx : Rd w w.heap.size 1 A k (cU8 x)) (hm : m + k ≤ 140737488355328) :
    Calls Try.prog 29 #[.pointer (some ⟨d, 0, none⟩), encStr n, .slice A k c] w fun y w' => y = .returned (.int .i64 (D.append n x).2) ∧ Turn w w' S d (D.append n x).1 (m + k) N := by
  have hxl : x.length = k := by simpa using hx.1
  have h0 := h.mono (Nat.le_add_right m k) (Nat.le_refl N)
  have hok := h.1.append n x
  rw [hxl] at hok
  have hkb : k ≤ 140737488355328 := by omega
  obtain ⟨ho, β, vs, nv, kv, pv, ss, h⟩ := h
  cases hl : D.look n with
  | error e =>
    have he : D.append n x = (D, e) := by unfold Dr.D.append; rw [hl]
    have hne := look_ne hl
    rw [he]
    have H := Lib.hid h
    have HL := Lib.hid hl
    have H0 := Lib.hid h0
    clear h ho hl he h0 hok hx hm hxl
    go_enter Try.func29, Try.ntmps29
    go_wp2_with (go_at_call 90; refine (find_any H.out n).mono ?_; rintro y w1 ⟨rfl, rfl⟩; rw [HL.out]; simp only [found])
    go_ret
    exact ⟨rfl, Turn.refl H0.out⟩
  | ok i =>
    by_cases hx0 : x = []
    · have he : D.append n x = (D, 0) := by unfold Dr.D.append; rw [hl]; simp only [if_pos hx0]
      have hk0 : k = 0 := by rw [← hxl, hx0]; rfl
      subst hk0
      rw [he]
      have H := Lib.hid h
      have HL := Lib.hid hl
      have H0 := Lib.hid h0
      clear h ho hl he h0 hok hx hm hxl hx0
      go_enter Try.func29, Try.ntmps29
      go_wp2_with (go_at_call 90; refine (find_any H.out n).mono ?_; rintro y w1 ⟨rfl, rfl⟩; rw [HL.out]; simp only [found])
      go_ret
      exact ⟨rfl, Turn.refl H0.out⟩
    · have hk0 : 0 < k := by rw [← hxl]; exact List.length_pos_iff.2 hx0
      have hkn : ((k : Int) == 0) = false := by simp; omega
      have e1 : wrap64 (wrap64 (D.used : Int) + (k : Int)) = wrap64 ((D.used : Int) + (k : Int)) := wrap_add _ _
      have y0 : w.drew.cell? ⟨d, 0, none⟩ = some (.int .i64 (D.room : Int)) := h.cells.1
      have y1 : w.drew.cell? ⟨d, 1, none⟩ = some (.int .i64 (wrap64 (D.used : Int))) := h.cells.2.1
      cases hf : D.fits k with
      | false =>
        have he : D.append n x = (D, 111) := by unfold Dr.D.append; rw [hl]; simp only [if_neg hx0, hxl, hf, Bool.false_eq_true, if_false]
        rw [he]
        have hg : ¬ wrap64 ((D.used : Int) + (k : Int)) ≤ (D.room : Int) := by rw [fits_iff] at hf; exact of_decide_eq_false hf
        have H := Lib.hid h
        have HL := Lib.hid hl
        have H0 := Lib.hid h0
        clear h ho hl he h0 hok hx hm hxl hx0 hf
        go_enter Try.func29, Try.ntmps29
        go_upto_region 4 with (go_at_call 90; refine (find_any H.out n).mono ?_; rintro y w1 ⟨rfl, rfl⟩; rw [HL.out]; simp only [found])
        go_region
        go_wp2
        go_ret
        exact ⟨rfl, Turn.of_below H0.out ((Below.refl _ _).drew)⟩
      | true =>
        have he : D.append n x = (D.setBody i ⟨(D.at i).data ++ x, (D.at i).safe⟩, 0) := by unfold Dr.D.append; rw [hl]; simp only [if_neg hx0, hxl, hf, if_true]
        rw [he] at hok ⊢
        have hg : wrap64 ((D.used : Int) + (k : Int)) ≤ (D.room : Int) := by rw [fits_iff] at hf; exact of_decide_eq_true hf
        have hi := (look_in ho hl).2
        have hus : (D.setBody i ⟨(D.at i).data ++ x, (D.at i).safe⟩).used + (D.at i).data.length = D.used + ((D.at i).data.length + k) := by
          have h1 := used_set ho hl ⟨(D.at i).data ++ x, (D.at i).safe⟩
          rw [show (Bd.data ⟨(D.at i).data ++ x, (D.at i).safe⟩).length = (D.at i).data.length + k by simp [hxl]] at h1
          exact h1
        have hrow := h.row i hi
        obtain ⟨c0, c1, g0, g1⟩ := c_body (h.body i hi)
        obtain ⟨ad, hA, hadb, hadc⟩ := hx.2 hk0
        subst hA
        have hbi := (ho.at_ok i).2
        have hlm : (D.at i).data.length + k ≤ 140737488355328 := by omega
        obtain ⟨j0, hj0, hq0, hq1, hq2⟩ := info_parts infoU8
        have hnews : ∀ j v, (cU8 x)[j]? = some v → w.drew.cell? (ad.add j) = some v := fun j v hj => by rw [← hadc j v hj]; rfl
        have H := Lib.hid h
        have HL := Lib.hid hl
        have HOK := Lib.hid hok
        have HUS := Lib.hid hus
        have HROW := Lib.hid hrow
        have HNEWS := Lib.hid hnews
        have HXL := Lib.hid hxl
        have y2 : w.drew.cell? ⟨β i, 0, none⟩ = some (vs i) := c0
        clear h ho hl he h0 hok hx hm hx0 hf hus hrow hnews hxl hadb hadc c0 hbi
        go_enter Try.func29, Try.ntmps29
        go_upto_region 4 with (go_at_call 90; refine (find_any H.out n).mono ?_; rintro y w1 ⟨rfl, rfl⟩; rw [HL.out]; simp only [found])
        go_region
        go_upto_region 6 with (fail)
        go_wp2_with (first
          | (at_builtin; refine wpList_append_keeps _ rfl (.tmp 39) (.tmp 40) 35 rfl 0 tU8 j0 (.int .u8 0) 1 1 Try.underlying35 hj0 hq0 hq1 hq2 rfl (by decide) (vs i) (D.at i).data.length (cU8 (D.at i).data) rfl HROW.out ad k c (cU8 x) rfl (by simpa using HXL.out) HNEWS.out (cU8_one x) hk0 (by unfold maxLen; omega) (by omega) (Nat.zero_le _) ?_; intro g cap w3 hg3 hgr3 hat3 hlt3 _; have hd3 := (hgr3.block d (Array.getElem?_eq_some_iff.1 H.out.head).1 (fun e => H.out.d_not.2.2.2.1 i d hi e.symm rfl)).trans H.out.head; have hb3 := (hgr3.block (β i) (Array.getElem?_eq_some_iff.1 (H.out.body i hi)).1 (fun e => by obtain ⟨cur, h3⟩ := own_lt (H.out.row i hi) e.symm; exact ne_ty (H.out.body i hi) h3 (by decide) rfl)).trans (H.out.body i hi); obtain ⟨z0, z1, z2, z3⟩ := c_body hb3; obtain ⟨x1, x2, x3, x4, x5⟩ := c_now hd3; have hne : d ≠ β i := ne_ty hd3 hb3 (by decide); have hne2 : β i ≠ d := fun e => hne e.symm; have HD3 := Lib.hid hd3; have HB3 := Lib.hid hb3; have HG3 := Lib.hid hg3; have HGR3 := Lib.hid hgr3; clear hd3 hb3 hg3 hgr3))
        go_ret
        have hrow2 : (w3.setCell ⟨β i, 0, none⟩ (.slice (some ⟨g, 0, none⟩) ((D.at i).data.length + k) cap)).ownsRow 0 tU8 1 (.slice (some ⟨g, 0, none⟩) ((D.at i).data.length + k) cap) ((D.at i).data ++ x).length (cU8 ((D.at i).data ++ x)) := by
          rw [List.length_append, HXL.out, show cU8 ((D.at i).data ++ x) = cU8 (D.at i).data ++ cU8 x by simp [cU8]]
          exact own_same HG3.out fun k hk => Below.heap_setCell _ _ _ k fun e => by
            obtain ⟨cur, h3⟩ := own_lt HG3.out hk
            exact ne_ty HB3.out h3 (by decide) e.symm
        have h2 := (H.out.bodied (w' := w3.setCell ⟨β i, 0, none⟩ (.slice (some ⟨g, 0, none⟩) ((D.at i).data.length + k) cap)) hi (b := ⟨(D.at i).data ++ x, (D.at i).safe⟩) (v' := .slice (some ⟨g, 0, none⟩) ((D.at i).data.length + k) cap) (heap_same HB3.out _) hrow2
          (fun q hq => by
            obtain rfl : g = q := by simpa [Value.ownBlock] using hq
            rcases hat3 with h | h
            · exact .inl h
            · exact .inr fun hS => by have := H.out.low _ hS; rw [h] at this; exact absurd this (Nat.lt_irrefl _))
          (fun q hS hq hq2 => (Below.heap_setCell _ _ _ q hq).trans (HGR3.out.block q (H.out.low q hS) fun e => hq2 e.symm)) (by have := HGR3.out.size; simpa [World.setCell] using this)).used (wrap64 ((D.used : Int) + (k : Int)))
        have hK : Kept w w3 S := ((Kept.refl w S).below (show Below w.heap.size w w.drew from (Below.refl _ _).drew)).grown HGR3.out fun q hq => .inl (H.out.inV i q hi hq)
        refine ⟨rfl, Turn.of HOK.out h2 (congrArg wrap64 (by have := HUS.out; omega)) ((hK.set (p := ⟨β i, 0, none⟩) (H.out.inB i hi) _).set (p := ⟨d, 1, none⟩) H.out.inD _) ?_⟩
        rintro q (hq | hq)
        · exact .inl hq
        · obtain rfl : g = q := by simpa [Value.ownBlock] using hq
          rcases hat3 with h | h
          · exact .inl (H.out.inV i g hi h)
          · exact .inr (Nat.le_of_eq h.symm)
end
end
end Go.Proofs.Ytelgcmcnebncmaa.Dr
namespace Go.Proofs.Ytelgcmcnebncmaa.Dr
open Go.RowKit Go.Proofs Go.Proofs.Ytelgcmcnebncmaa.Ring

section
variable {w w' : World} {S : Nat → Prop} {d : Nat} {D : Dr.D} {u : Int} {β : Nat → Nat} {vs : Nat → Value} {nv kv pv : Value} {ss : List Value} {m N : Nat}
theorem at_snoc {D : Dr.D} {b : Bd} {j : Nat} : ({ D with bd := D.bd ++ [b] } : Dr.D).at j = if j = D.bd.length then b else D.at j := by
  unfold Dr.D.at
  simp only
  rw [List.getD_eq_getElem?_getD, List.getD_eq_getElem?_getD]
  rcases Nat.lt_trichotomy j D.bd.length with h | h | h
  · rw [List.getElem?_append_left h, if_neg (by omega)]
  · subst h; rw [List.getElem?_append_right (Nat.le_refl _)]; simp
  · rw [if_neg (by omega), List.getElem?_eq_none (show (D.bd ++ [b]).length ≤ j by simp; omega), List.getElem?_eq_none (show D.bd.length ≤ j by omega)]
theorem sumL_snoc {bd : List Bd} {b : Bd} : ∀ {l : Dir}, (∀ p ∈ l, p.2 < bd.length) → sumL (bd ++ [b]) l = sumL bd l
  | [], _ => rfl
  | p :: r, h => by
    rw [sumL_cons, sumL_cons, sumL_snoc fun x hx => h x (by simp [hx])]
    congr 1
    unfold lenAt
    rw [List.getD_eq_getElem?_getD, List.getElem?_append_left (h p (by simp)), ← List.getD_eq_getElem?_getD]
theorem okNew {D : Dr.D} {m N : Nat} (h : D.Ok m N) : ({ D with bd := D.bd ++ [⟨[], 0⟩] } : Dr.D).Ok m N := by
  have hlt : ∀ i, i < D.bd.length → i < D.bd.length + 1 := fun i => Nat.lt_succ_of_lt
  refine ⟨h.room, h.now, h.kept, fun p hp => by simpa using hlt _ (h.inN p hp), fun p hp => by simpa using hlt _ (h.inK p hp), fun c hc s hs => ⟨(h.inP c hc s hs).1, fun i hi => by simpa using hlt _ ((h.inP c hc s hs).2 i hi)⟩, h.one, h.oneP, fun b hb => ?_, h.lenN, h.lenK, h.namN, h.namK⟩
  rcases List.mem_append.1 hb with hb | hb
  · exact h.safe b hb
  · obtain rfl : b = _ := by simpa using hb
    exact ⟨Nat.le_refl _, Nat.zero_le _⟩
/-- One body more, which is empty. -/
theorem DvAt.bodyNew (h : DvAt w S d D u β vs nv kv pv ss) (ho : D.Ok m N) :
    DvAt (w.alloc (.cells #[.slice none 0 0, .int .i64 0] tBody)) (fun k => S k ∨ k = w.heap.size) d { D with bd := D.bd ++ [⟨[], 0⟩] } u (fun i => if i = D.bd.length then w.heap.size else β i) (fun i => if i = D.bd.length then .slice none 0 0 else vs i) nv kv pv ss := by
  have hold : ∀ k, S k → (w.alloc (.cells #[.slice none 0 0, .int .i64 0] tBody)).heap[k]? = w.heap[k]? := fun k hk => heap_alloc_old _ _ (h.low k hk)
  have hβ : ∀ i, i < D.bd.length → (fun i => if i = D.bd.length then w.heap.size else β i) i = β i := fun i hi => by simp only [if_neg (Nat.ne_of_lt hi)]
  have hlen : ({ D with bd := D.bd ++ [⟨[], 0⟩] } : Dr.D).bd.length = D.bd.length + 1 := by simp
  have hnot : ∀ i, i < D.bd.length → β i ≠ w.heap.size := fun i hi e => by have := h.low _ (h.inB i hi); omega
  have hc : ∀ i, i < D.bd.length + 1 → i < D.bd.length ∨ i = D.bd.length := fun i hi => by omega
  refine ⟨(hold d h.inD).trans h.head, ?_, ?_, h.apart, h.both, fun i j hi hj => ?_, fun i hi => ?_, fun i hi => ?_, fun i j g hi hj => ?_, own_same h.pend fun g hg => hold g (h.inP g hg), fun j c s hc' hj => ?_, .inl h.inD, fun b hb => .inl (h.inN b hb), fun b hb => .inl (h.inK b hb), fun i hi => ?_, fun i g hi => ?_, fun g hg => .inl (h.inP g hg), fun s hs g hg => .inl (h.inS s hs g hg), fun k hk => ?_, h.live⟩
  · rw [at_congr hβ ho.inN]; exact h.now.same fun b hb => hold b (h.inN b hb)
  · rw [at_congr hβ ho.inK]; exact h.kept.same fun b hb => hold b (h.inK b hb)
  · rw [hlen] at hi hj
    rcases hc i hi with hi | rfl <;> rcases hc j hj with hj | rfl
    · simp only [if_neg (Nat.ne_of_lt hi), if_neg (Nat.ne_of_lt hj)]; exact h.inj i j hi hj
    · simp only [if_neg (Nat.ne_of_lt hi), if_true]; exact fun e => absurd e (hnot i hi)
    · simp only [if_neg (Nat.ne_of_lt hj), if_true]; exact fun e => absurd e.symm (hnot j hj)
    · exact fun _ => rfl
  · rw [hlen] at hi
    rcases hc i hi with hi | rfl
    · rw [at_snoc, if_neg (Nat.ne_of_lt hi)]; simp only [if_neg (Nat.ne_of_lt hi)]; exact (hold _ (h.inB i hi)).trans (h.body i hi)
    · rw [at_snoc, if_pos rfl]; simp only [if_true]; exact heap_alloc_new w _
  · rw [hlen] at hi
    rcases hc i hi with hi | rfl
    · rw [at_snoc, if_neg (Nat.ne_of_lt hi)]; simp only [if_neg (Nat.ne_of_lt hi)]; exact own_same (h.row i hi) fun g hg => hold g (h.inV i g hi hg)
    · rw [at_snoc, if_pos rfl]; simp only [if_true]; exact World.ownsRow_nil _ _ _ _
  · rw [hlen] at hi hj
    rcases hc i hi with hi | rfl <;> rcases hc j hj with hj | rfl
    · simp only [if_neg (Nat.ne_of_lt hi), if_neg (Nat.ne_of_lt hj)]; exact h.own i j g hi hj
    · simp only [if_neg (Nat.ne_of_lt hi), if_true]; exact fun _ e => by cases e
    · simp only [if_neg (Nat.ne_of_lt hj), if_true]; exact fun e => by cases e
    · exact fun _ _ => rfl
  · rw [cStep_congr hβ fun s hs i hi => (ho.inP c (List.mem_of_getElem? hc') s hs).2 i hi]
    exact own_same (h.steps j c s hc' hj) fun g hg => hold g (h.inS s (List.mem_of_getElem? hj) g hg)
  · rw [hlen] at hi
    rcases hc i hi with hi | rfl
    · simp only [if_neg (Nat.ne_of_lt hi)]; exact .inl (h.inB i hi)
    · simp only [if_true]; exact .inr trivial
  · rw [hlen] at hi
    rcases hc i hi with hi | rfl
    · simp only [if_neg (Nat.ne_of_lt hi)]; exact fun hg => .inl (h.inV i g hi hg)
    · simp only [if_true]; exact fun e => by cases e
  · simp only [World.size_alloc]
    rcases hk with hk | rfl
    · have := h.low k hk; omega
    · omega
end

section
variable {w : World} {S : Nat → Prop} {d m N : Nat} {D : Dr.D}
set_option maxRecDepth 100000 in
set_option maxHeartbeats 2000000 in
theorem remove_any (h : Dv w S d D m N) (hN : (N + 1) * 24 ≤ 140737488355328) (n : Bs) : Calls Try.prog 76 #[.pointer (some ⟨d, 0, none⟩), encStr n] w fun x w' => x = .returned (.int .i64 (D.remove n).2) ∧ Turn w w' S d (D.remove n).1 m (N + 1) := by
  have h0 := h.mono (Nat.le_refl m) (Nat.le_succ N)
  have hok := h.1.remove n
  obtain ⟨ho, β, vs, nv, kv, pv, ss, h⟩ := h
  cases hl : D.look n with
  | error e =>
    have he : D.remove n = (D, e) := by unfold Dr.D.remove; rw [hl]
    have hne := look_ne hl
    rw [he]
    have H := Lib.hid h
    have HL := Lib.hid hl
    have H0 := Lib.hid h0
    clear h ho hl he h0 hok hN
    go_enter Try.func76, Try.ntmps76
    go_wp2_with (go_at_call 90; refine (find_any H.out n).mono ?_; rintro x w1 ⟨rfl, rfl⟩; rw [HL.out]; simp only [found])
    go_ret
    exact ⟨rfl, Turn.refl H0.out⟩
  | ok i =>
    have he : D.remove n = (D.change [(n, none)], 0) := by unfold Dr.D.remove; rw [hl]
    rw [he] at hok ⊢
    have hnm := (look_ok ho hl).1
    have HNM := Lib.hid hnm
    have hp := ho.lenK
    have hnn := ho.lenN
    have H := Lib.hid h
    have HL := Lib.hid hl
    have HO := Lib.hid ho
    have HOK := Lib.hid hok
    have hlow := h.low
    have HLOW := Lib.hid hlow
    have hp1 : D.pend.length ≤ N := by omega
    clear h ho hl he h0 hok hnm hlow hp
    go_enter Try.func76, Try.ntmps76
    go_wp2_with (first
      | (go_at_call 90; refine (find_any H.out n).mono ?_; rintro x w1 ⟨rfl, rfl⟩; rw [HL.out]; simp only [found])
      | (go_at_call 89; refine (change_any (n := 1) (H.out.same (w' := w.alloc (.cells #[encStr n, .pointer none] tStep)) (fun k hk => heap_alloc_old _ _ (HLOW.out k hk)) (by simp)) HO.out (c := [(n, none)]) (fun s hs => by obtain rfl := List.mem_singleton.1 hs; exact ⟨HNM.out, fun i hi => by cases hi⟩) rfl (own_new w (Nat.zero_le _) tStep 2 1 (cStep β [(n, none)]) rfl (by unfold maxLen; omega)) (fun k hk hS => by have := HLOW.out k hS; simp [Value.ownBlock] at hk; omega) (by unfold maxLen; omega) (by omega)).mono ?_; rintro x w2 ⟨rfl, S', nv', kv', pv', ss', hD', hK', hS'⟩; have HD' := Lib.hid hD'; have HK' := Lib.hid hK'; have HS' := Lib.hid hS'; clear hD' hK' hS'))
    go_ret
    refine ⟨rfl, Turn.of HOK.out HD'.out rfl ?_ ?_⟩
    · have h1 := HK'.out
      exact ((Kept.refl w S).below ((Below.refl _ _).alloc (Nat.le_refl _) (.cells #[encStr n, .pointer none] tStep))).trans h1 fun k hk => .inl hk
    · intro k hk
      rcases HS'.out k hk with h1 | h1 | h1
      · exact .inl h1
      · exact .inr (by simp [Value.ownBlock] at h1; omega)
      · exact .inr (by simp at h1; omega)
theorem run_len {w : World} {mv : Value} {l : Dir} (h : DirAt Try.prog kStr w mv l) (ty : TypeId) : (Builtin.len_ #[104] ty #[mv]).run Try.prog w = .ok (.int .i64 (l.length : Int)) w := h.len undirU ty
set_option maxRecDepth 100000 in
set_option maxHeartbeats 4000000 in
theorem create_any (h : Dv w S d D m N) (hN : (N + 1) * 24 ≤ 140737488355328) (n : Bs) : Calls Try.prog 28 #[.pointer (some ⟨d, 0, none⟩), encStr n] w fun x w' => x = .returned (.int .i64 (D.create n).2) ∧ Turn w w' S d (D.create n).1 m (N + 1) := by
  have h0 := h.mono (Nat.le_refl m) (Nat.le_succ N)
  have hok := h.1.create n
  obtain ⟨ho, β, vs, nv, kv, pv, ss, h⟩ := h
  obtain ⟨_, _, c2, _, _⟩ := h.cells
  cases hn : named n with
  | false =>
    have he : D.create n = (D, 91) := by unfold Dr.D.create; rw [if_neg (by simp [hn])]
    rw [he]
    have H0 := Lib.hid h0
    clear h ho he h0 hok hN c2
    go_enter Try.func28, Try.ntmps28
    go_wp2_with (go_at_call 88; refine (named_any n _).mono ?_; rintro x w1 ⟨rfl, rfl⟩; rw [hn])
    go_ret
    exact ⟨rfl, Turn.refl H0.out⟩
  | true =>
    have hk := h.now.run_look (named_len hn)
    rw [find_at] at hk
    have hlen := run_len h.now
    rw [show (at_ β D.now).length = D.now.length by simp [at_]] at hlen
    have hp := ho.lenK
    have hnn := ho.lenN
    have hp1 : D.pend.length ≤ N := by omega
    have hlow := h.low
    clear hp
    by_cases hmany : ((find D.now n).isNone && decide (65536 ≤ D.now.length)) = true
    · have he : D.create n = (D, 112) := by unfold Dr.D.create; rw [if_pos hn, if_pos hmany]
      rw [he]
      have hm1 : find D.now n = none := Option.isNone_iff_eq_none.1 ((Bool.and_eq_true _ _).mp hmany).1
      have hm2 : 65536 ≤ D.now.length := of_decide_eq_true ((Bool.and_eq_true _ _).mp hmany).2
      rw [hm1] at hk
      simp only [Option.map_none, ptr] at hk
      have hl : (D.now.length : Int) ≥ 65536 := by omega
      have H0 := Lib.hid h0
      clear h ho he h0 hok hN hmany hm1 hm2
      go_enter Try.func28, Try.ntmps28
      go_wp2_with (go_at_call 88; refine (named_any n _).mono ?_; rintro x w1 ⟨rfl, rfl⟩; rw [hn])
      go_ret
      exact ⟨rfl, Turn.refl H0.out⟩
    · have he : D.create n = (({ D with bd := D.bd ++ [⟨[], 0⟩] } : Dr.D).change [(n, some D.bd.length)], 0) := by unfold Dr.D.create; rw [if_pos hn, if_neg hmany]
      rw [he] at hok ⊢
      have HB := Lib.hid (h.bodyNew ho)
      have HOB : RowKit.Hid (D.Ok m N) := Lib.hid ho
      have HSN := Lib.hid (show ({ D with bd := D.bd ++ [⟨[], 0⟩] } : Dr.D).used = D.used from sumL_snoc ho.inN)
      have HOK := Lib.hid hok
      have HLOW := Lib.hid hlow
      have H := Lib.hid h
      obtain ⟨p, hp⟩ : ∃ p, ptr ((find D.now n).map β) = .pointer p := by cases find D.now n <;> exact ⟨_, rfl⟩
      rw [hp] at hk
      have hcase : p = none ∧ (D.now.length : Int) < 65536 ∨ ∃ b, p = some b := by
        cases hf : find D.now n with
        | none =>
          rw [hf] at hp hmany
          have hge : ¬ 65536 ≤ D.now.length := fun hge => hmany (by rw [decide_eq_true hge]; rfl)
          refine .inl ⟨by simpa [ptr] using hp.symm, by omega⟩
        | some k => rw [hf] at hp; exact .inr ⟨⟨β k, 0, none⟩, by simpa [ptr] using hp.symm⟩
      clear h ho he h0 hok hmany hlow hp
      rcases hcase with ⟨rfl, hl⟩ | ⟨b, rfl⟩
      all_goals
        have HN := Lib.hid hN
        clear hN
        try (obtain ⟨q, hq⟩ : ∃ q : Int, (D.now.length : Int) = q := ⟨_, rfl⟩; rw [hq] at hl hlen; have hl : ¬ q ≥ 65536 := by omega)
        try clear hq
        go_enter Try.func28, Try.ntmps28
        go_upto_region 5 with (go_at_call 88; refine (named_any n _).mono ?_; rintro x w1 ⟨rfl, rfl⟩; rw [hn])
        go_upto_region 7 with (fail)
        have hcs : cStep (fun i => if i = D.bd.length then w.heap.size else β i) [(n, some D.bd.length)] = [encStr n, .pointer (some ⟨w.heap.size, 0, none⟩)] := by simp [cStep, ptr]
        have hsz : (w.alloc (.cells #[.slice none 0 0, .int .i64 0] tBody)).heap.size = w.heap.size + 1 := by simp
        have hown : ((w.alloc (.cells #[.slice none 0 0, .int .i64 0] tBody)).alloc (.cells #[encStr n, .pointer (some ⟨w.heap.size, 0, none⟩)] tStep)).ownsRow 0 tStep 2 (.slice (some ⟨w.heap.size + 1, 0, none⟩) 1 1) 1 (cStep (fun i => if i = D.bd.length then w.heap.size else β i) [(n, some D.bd.length)]) := by
          rw [hcs, ← hsz]
          exact own_new _ (Nat.zero_le _) tStep 2 1 [encStr n, .pointer (some ⟨w.heap.size, 0, none⟩)] rfl (by unfold maxLen; omega)
        have hD1 := HB.out.same (w' := (w.alloc (.cells #[.slice none 0 0, .int .i64 0] tBody)).alloc (.cells #[encStr n, .pointer (some ⟨w.heap.size, 0, none⟩)] tStep)) (fun k hk => heap_alloc_old _ _ (HB.out.low k hk)) (by simp)
        rw [← HSN.out] at hD1
        have HD1 := Lib.hid hD1
        have HOWN := Lib.hid hown
        have HSZ := Lib.hid hsz
        clear hcs hsz hown hD1
        have hN2 := HN.out
        go_wp2_with (go_at_call 89; refine (change_any (n := 1) HD1.out (okNew HOB.out) (c := [(n, some D.bd.length)]) (fun s hs => by obtain rfl := List.mem_singleton.1 hs; exact ⟨hn, fun i hi => by injection hi with hi; simp [← hi]⟩) rfl HOWN.out (fun k hk hS => by
          have h1 := HB.out.low k hS
          have h2 := HSZ.out
          simp [Value.ownBlock] at hk
          omega) (by unfold maxLen; simp only; omega) (by simp only; omega)).mono ?_; rintro x w2 ⟨rfl, S', nv', kv', pv', ss', hD', hK', hS'⟩; have HD' := Lib.hid hD'; have HK' := Lib.hid hK'; have HS' := Lib.hid hS'; clear hD' hK' hS')
        go_ret
        refine ⟨rfl, Turn.of HOK.out HD'.out rfl ?_ ?_⟩
        · exact (((Kept.refl w S).below ((Below.refl _ _).alloc (Nat.le_refl _) (.cells #[.slice none 0 0, .int .i64 0] tBody))).below ((Below.refl _ _).alloc (Nat.le_refl _) (.cells #[encStr n, .pointer (some ⟨w.heap.size, 0, none⟩)] tStep))).trans HK'.out fun k hk => by
            rcases hk with hk | rfl
            · exact .inl hk
            · exact .inr (Nat.le_refl _)
        · intro k hk
          rcases HS'.out k hk with (h1 | rfl) | h1 | h1
          · exact .inl h1
          · exact .inr (Nat.le_refl _)
          · exact .inr (by simp [Value.ownBlock] at h1; omega)
          · exact .inr (by simp at h1; omega)
set_option maxRecDepth 100000 in
set_option maxHeartbeats 4000000 in
theorem rename_any (h : Dv w S d D m N) (hN : (N + 1) * 24 ≤ 140737488355328) (n b : Bs) : Calls Try.prog 75 #[.pointer (some ⟨d, 0, none⟩), encStr n, encStr b] w fun x w' => x = .returned (.int .i64 (D.rename n b).2) ∧ Turn w w' S d (D.rename n b).1 m (N + 1) := by
  have h0 := h.mono (Nat.le_refl m) (Nat.le_succ N)
  have hok := h.1.rename n b
  obtain ⟨ho, β, vs, nv, kv, pv, ss, h⟩ := h
  by_cases hnb : (named n && !named b) = true
  · have he : D.rename n b = (D, 91) := by unfold Dr.D.rename; rw [if_pos hnb]
    have hn : named n = true := ((Bool.and_eq_true _ _).mp hnb).1
    have hb : named b = false := by simpa using ((Bool.and_eq_true _ _).mp hnb).2
    rw [he]
    have H0 := Lib.hid h0
    clear h ho he h0 hok hN hnb
    go_enter Try.func75, Try.ntmps75
    go_wp2_with (first
      | (go_at_call_of 88 n; refine (named_any n _).mono ?_; rintro x w1 ⟨rfl, rfl⟩; rw [hn])
      | (go_at_call_of 88 b; refine (named_any b _).mono ?_; rintro x w1 ⟨rfl, rfl⟩; rw [hb]))
    go_ret
    exact ⟨rfl, Turn.refl H0.out⟩
  · cases hl : D.look n with
    | error e =>
      have he : D.rename n b = (D, e) := by unfold Dr.D.rename; rw [if_neg hnb, hl]
      have hne := look_ne hl
      rw [he]
      have H0 := Lib.hid h0
      have H := Lib.hid h
      have HL := Lib.hid hl
      obtain ⟨an, han⟩ : ∃ an, named n = an := ⟨_, rfl⟩
      obtain ⟨bn, hbn⟩ : ∃ bn, named b = bn := ⟨_, rfl⟩
      rw [han, hbn] at hnb
      have hcase : an = false ∨ an = true ∧ bn = true := by cases an <;> cases bn <;> simp at hnb ⊢
      clear h ho he h0 hok hN hl hnb
      rcases hcase with rfl | ⟨rfl, rfl⟩
      all_goals
        go_enter Try.func75, Try.ntmps75
        go_wp2_with (first
          | (go_at_call_of 88 n; refine (named_any n _).mono ?_; rintro x w1 ⟨rfl, rfl⟩; rw [han])
          | (go_at_call_of 88 b; refine (named_any b _).mono ?_; rintro x w1 ⟨rfl, rfl⟩; rw [hbn])
          | (go_at_call 90; refine (find_any H.out n).mono ?_; rintro x w1 ⟨rfl, rfl⟩; rw [HL.out]; simp only [found]))
        go_ret
        exact ⟨rfl, Turn.refl H0.out⟩
    | ok i =>
      have hn := (look_ok ho hl).1
      have hb := named_both hnb hn
      by_cases hab : n = b
      · have he : D.rename n b = (D, 0) := by unfold Dr.D.rename; rw [if_neg hnb, hl]; simp only [if_pos hab]
        rw [he]
        have H0 := Lib.hid h0
        have H := Lib.hid h
        have HL := Lib.hid hl
        clear h ho he h0 hok hN hl hnb
        subst hab
        go_enter Try.func75, Try.ntmps75
        go_wp2_with (first
          | (go_at_call 88; refine (named_any n _).mono ?_; rintro x w1 ⟨rfl, rfl⟩; rw [hn])
          | (go_at_call 90; refine (find_any H.out n).mono ?_; rintro x w1 ⟨rfl, rfl⟩; rw [HL.out]; simp only [found]))
        go_ret
        exact ⟨rfl, Turn.refl H0.out⟩
      · have he : D.rename n b = (D.change [(n, none), (b, some i)], 0) := by unfold Dr.D.rename; rw [if_neg hnb, hl]; simp only [if_neg hab]
        rw [he] at hok ⊢
        have hi := (look_in ho hl).2
        have hp := ho.lenK
        have hnn := ho.lenN
        have hp1 : D.pend.length ≤ N := by omega
        have hlow := h.low
        have H := Lib.hid h
        have HL := Lib.hid hl
        have HO := Lib.hid ho
        have HOK := Lib.hid hok
        have HLOW := Lib.hid hlow
        have HI := Lib.hid hi
        have HN := Lib.hid hN
        have hcs : cStep β [(n, none), (b, some i)] = [encStr n, .pointer none, encStr b, .pointer (some ⟨β i, 0, none⟩)] := rfl
        have hown := own_new w (Nat.zero_le _) tStep 2 2 (cStep β [(n, none), (b, some i)]) rfl (by unfold maxLen; omega)
        rw [hcs] at hown
        have HOWN := Lib.hid hown
        have hx : (n == b) = false := by simpa using hab
        clear h ho hl he h0 hok hlow hp hi hnb hown hcs hN
        go_enter Try.func75, Try.ntmps75
        go_upto_region 7 with (first
          | (go_at_call_of 88 n; refine (named_any n _).mono ?_; rintro x w1 ⟨rfl, rfl⟩; rw [hn])
          | (go_at_call_of 88 b; refine (named_any b _).mono ?_; rintro x w1 ⟨rfl, rfl⟩; rw [hb])
          | (go_at_call 90; refine (find_any H.out n).mono ?_; rintro x w1 ⟨rfl, rfl⟩; rw [HL.out]; simp only [found]))
        have hN2 := HN.out
        go_wp2_with (go_at_call 89; refine (change_any (n := 2) (H.out.same (w' := w.alloc (.cells #[encStr n, .pointer none, encStr b, .pointer (some ⟨β i, 0, none⟩)] tStep)) (fun k hk => heap_alloc_old _ _ (HLOW.out k hk)) (by simp)) HO.out (c := [(n, none), (b, some i)]) (fun s hs => by
            rcases List.mem_cons.1 hs with rfl | hs
            · exact ⟨hn, fun i hi => by cases hi⟩
            · obtain rfl := List.mem_singleton.1 hs; exact ⟨hb, fun j hj => by injection hj with hj; rw [← hj]; exact HI.out⟩) rfl HOWN.out (fun k hk hS => by have := HLOW.out k hS; simp [Value.ownBlock] at hk; omega) (by unfold maxLen; omega) (by omega)).mono ?_; rintro x w2 ⟨rfl, S', nv', kv', pv', ss', hD', hK', hS'⟩; have HD' := Lib.hid hD'; have HK' := Lib.hid hK'; have HS' := Lib.hid hS'; clear hD' hK' hS')
        go_ret
        refine ⟨rfl, Turn.of HOK.out HD'.out rfl ?_ ?_⟩
        · exact ((Kept.refl w S).below ((Below.refl _ _).alloc (Nat.le_refl _) (.cells #[encStr n, .pointer none, encStr b, .pointer (some ⟨β i, 0, none⟩)] tStep))).trans HK'.out fun k hk => .inl hk
        · intro k hk
          rcases HS'.out k hk with h1 | h1 | h1
          · exact .inl h1
          · exact .inr (by simp [Value.ownBlock] at h1; omega)
          · exact .inr (by simp at h1; omega)
end
end Go.Proofs.Ytelgcmcnebncmaa.Dr
namespace Go.Proofs.Ytelgcmcnebncmaa.Dr
open Go.RowKit Go.Proofs Go.Maps Go.Sort Go.Shelf Go.Proofs.Ytelgcmcnebncmaa.Ring

theorem sorts (m : Nat) : AnyZ.SortsIn Try.prog Try.sorted102_ren Fence.wide m :=
  ⟨fun blk off cap ss W hH hblk hsz => callsIn_wide.2 (Try.slices_Sort_string blk off cap ss W hH hblk hsz),
   fun p cap W => callsIn_wide.2 (Try.slices_Sort_string_none p cap W)⟩
theorem keys_in (mb : Option Nat) (W : World) : CallsIn Fence.wide 5 Try.prog 103 #[.map mb] W fun e w' => e = .returned (.func (.func 107) #[] #[.pointer (some ⟨W.heap.size, 0, none⟩)]) ∧ w' = W.alloc (.cells #[.map mb] 104) :=
  AnyZ.keys_in Try.keys103 Fence.wide 5 trivial rfl mb W
set_option maxHeartbeats 1000000 in
theorem sorted_in (b nn : Nat) (D0 : DataW Unit) (w : World) (hown : w.ownsMap Try.prog 9 ptrs.R b nn D0) (hmax : Maps.size D0 ≤ maxLen) (hbytes : Maps.size D0 * 16 ≤ 140737488355328) :
    CallsIn Fence.wide 5 Try.prog 102 #[.func (.func 107) #[] #[.pointer (some ⟨w.heap.size, 0, none⟩)]] (w.alloc (.cells #[.map (some b)] 104)) fun e w' => ∃ (v : Value) (ss : List (List UInt8)), e = .returned v ∧ ss.Perm (strKeys D0) ∧
      w'.ownsRow (w.alloc (.cells #[.map (some b)] 104)).heap.size 9 1 v ss.length ((ss.mergeSort (fun x y => decide (x ≤ y))).map encStr) ∧ (v = .slice none 0 0 ↔ ss = []) ∧ Below (w.alloc (.cells #[.map (some b)] 104)).heap.size (w.alloc (.cells #[.map (some b)] 104)) w' := by
  have hbl := hown.lt
  have hseq : SeqGives Fence.wide 2 Try.prog 107 #[.pointer (some ⟨w.heap.size, 0, none⟩)] encStr (fun ss => ss.Perm (strKeys D0)) (Maps.size D0) (w.alloc (.cells #[.map (some b)] 104)) :=
    AnyZ.keys_gives (ρ := Try.keys103_ren) { Try.keys103 with } Fence.wide _ trivial rfl (by omega) w.heap.size b nn D0 _ (by simp) (by simp) (by
      obtain ⟨es, clock, hb, Ft, hs, hD⟩ := hown
      exact ⟨es, clock, (Below.heap_alloc _ _ b hbl).trans hb, Ft, hs, hD⟩)
  exact AnyZ.sorted_in Try.sorted102 Fence.wide 5 trivial trivial trivial trivial rfl (by omega) (sorts _) (enters_of Try.func106 (by kernel_rfl) rfl) 107 #[.pointer (some ⟨w.heap.size, 0, none⟩)] trivial (enters_of Try.func107 (by kernel_rfl) rfl) _ _ hmax hbytes _ hseq
set_option maxHeartbeats 1000000 in
theorem sorted_nil (w : World) :
    CallsIn Fence.wide 5 Try.prog 102 #[.func (.func 107) #[] #[.pointer (some ⟨w.heap.size, 0, none⟩)]] (w.alloc (.cells #[.map none] 104)) fun e w' => ∃ (v : Value) (ss : List (List UInt8)), e = .returned v ∧ ss = [] ∧
      w'.ownsRow (w.alloc (.cells #[.map none] 104)).heap.size 9 1 v ss.length ((ss.mergeSort (fun x y => decide (x ≤ y))).map encStr) ∧ (v = .slice none 0 0 ↔ ss = []) ∧ Below (w.alloc (.cells #[.map none] 104)).heap.size (w.alloc (.cells #[.map none] 104)) w' := by
  have hseq : SeqGives Fence.wide 2 Try.prog 107 #[.pointer (some ⟨w.heap.size, 0, none⟩)] encStr (fun ss : List (List UInt8) => ss = []) 0 (w.alloc (.cells #[.map none] 104)) :=
    AnyZ.keys_gives_nil (ρ := Try.keys103_ren) { Try.keys103 with } Fence.wide _ trivial rfl w.heap.size _ (by simp) (by simp)
  exact AnyZ.sorted_in Try.sorted102 Fence.wide 5 trivial trivial trivial trivial rfl (by omega) (sorts _) (enters_of Try.func106 (by kernel_rfl) rfl) 107 #[.pointer (some ⟨w.heap.size, 0, none⟩)] trivial (enters_of Try.func107 (by kernel_rfl) rfl) _ 0 (Nat.zero_le _) (by omega) _ hseq

theorem before_lt : ∀ {a b : Bs}, bytesBefore a b = true → a < b
  | [], [], h => by simp [bytesBefore] at h
  | [], _ :: _, _ => List.nil_lt_cons _ _
  | _ :: _, [], h => by simp [bytesBefore] at h
  | x :: a, y :: b, h => by
    simp only [bytesBefore, Bool.or_eq_true, Bool.and_eq_true, beq_iff_eq, decide_eq_true_eq] at h
    rcases h with h | ⟨rfl, h⟩
    · exact List.Lex.rel h
    · exact List.Lex.cons (before_lt h)
/-- A rising list's names are sorted. -/
theorem sorted_names {l : Dir} (h : Rise l) : (l.map (·.1)).mergeSort leB = l.map (·.1) := by
  refine List.mergeSort_of_pairwise ?_
  refine List.pairwise_map.2 (h.imp fun {p q} hpq => ?_)
  exact decide_eq_true (List.le_of_lt (before_lt hpq))
set_option maxHeartbeats 1000000 in
theorem names_any {w : World} {mv : Value} {l : Dir} (h : DirAt Try.prog 9 w mv l) (hr : Rise l) (hl : l.length * 16 ≤ 140737488355328) :
    Calls Try.prog 86 #[mv] w fun e w' => ∃ v : Value, e = .returned v ∧ w'.ownsRow w.heap.size 9 1 v l.length (cStr (l.map (·.1))) ∧ Below w.heap.size w w' := by
  have hfK : Fence.wide.fn 103 := trivial
  have hfS : Fence.wide.fn 102 := trivial
  rcases h with ⟨rfl, rfl⟩ | ⟨b, rfl, hown⟩
  · refine (callsIn_wide (n := 6)).1 ?_
    refine callsIn_of_wp Try.func86 rfl trivial ?_ rfl
    simp only [Try.ntmps86, List.size_toArray, List.length_cons, List.length_nil, Nat.reduceAdd, Nat.reduceSub, Array.replicate_succ, Array.replicate_zero, List.push_toArray, List.append_toArray, List.nil_append, List.cons_append]
    gi_wp2_with (first
      | (gi_at_call 103; refine (keys_in _ _).mono ?_; rintro e w' ⟨rfl, rfl⟩)
      | (gi_at_call 102; refine (sorted_nil w).mono ?_; rintro e w' ⟨v, ss, rfl, hS, hrow, hnil, hb⟩))
    go_ret
    obtain rfl := hnil.2 hS
    exact ⟨_, rfl, World.ownsRow_nil _ _ _ _, ((Below.refl _ w).alloc (Nat.le_refl _) _).trans (hb.mono (by simp))⟩
  · have hsz : Maps.size (dirD l) = l.length := by rw [dirD, Maps.size_eq, List.length_map]
    have hmax : Maps.size (dirD l) ≤ maxLen := by rw [hsz]; unfold maxLen; omega
    have hbytes : Maps.size (dirD l) * 16 ≤ 140737488355328 := by rw [hsz]; exact hl
    refine (callsIn_wide (n := 6)).1 ?_
    refine callsIn_of_wp Try.func86 rfl trivial ?_ rfl
    simp only [Try.ntmps86, List.size_toArray, List.length_cons, List.length_nil, Nat.reduceAdd, Nat.reduceSub, Array.replicate_succ, Array.replicate_zero, List.push_toArray, List.append_toArray, List.nil_append, List.cons_append]
    gi_wp2_with (first
      | (gi_at_call 103; refine (keys_in _ _).mono ?_; rintro e w' ⟨rfl, rfl⟩)
      | (gi_at_call 102; refine (sorted_in b l.length (dirD l) w hown hmax hbytes).mono ?_; rintro e w' ⟨v, ss, rfl, hS, hrow, hnil, hb⟩))
    go_ret
    rw [DirAt.names] at hS
    have he : ss.mergeSort leB = l.map (·.1) := by rw [mergeSort_of_perm hS, sorted_names hr]
    have hlen : ss.length = l.length := by rw [hS.length_eq, List.length_map]
    rw [show (ss.mergeSort (fun x y => decide (x ≤ y))) = l.map (·.1) from he, hlen] at hrow
    exact ⟨_, rfl, own_base hrow (by simp), ((Below.refl _ w).alloc (Nat.le_refl _) _).trans (hb.mono (by simp))⟩
end Go.Proofs.Ytelgcmcnebncmaa.Dr
