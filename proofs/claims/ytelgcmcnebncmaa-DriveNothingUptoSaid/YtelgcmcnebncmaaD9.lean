/- The walk of Flip. -/
import Derived.Test.YtelgcmcnebncmaaD8
import Derived.Laws.BitsAllLaws
namespace Go.Proofs.Ytelgcmcnebncmaa.Dr
set_option linter.unusedVariables false
open Go.RowKit Go.Proofs Go.Proofs.Ytelgcmcnebncmaa.Ring

def fl (b : UInt8) : Option UInt8 → UInt8
  | some q => b ^^^ q
  | none => b
theorem flipAt_get : ∀ (l : Bs) (k : Nat) (p : Bs) (x : Nat), (flipAt l k p)[x]? = l[x]?.map fun b => if k ≤ x then fl b p[x - k]? else b
  | [], k, p, x => by simp [flipAt]
  | b :: r, 0, [], x => by
    simp only [flipAt]
    cases h : (b :: r)[x]? <;> simp [fl]
  | b :: r, 0, q :: p, 0 => by simp [flipAt, fl]
  | b :: r, 0, q :: p, x + 1 => by
    have := flipAt_get r 0 p x
    simp only [flipAt, List.getElem?_cons_succ, this, Nat.zero_le, if_true, Nat.sub_zero]
  | b :: r, k + 1, p, 0 => by simp [flipAt]
  | b :: r, k + 1, p, x + 1 => by
    have := flipAt_get r k p x
    simp only [flipAt, List.getElem?_cons_succ, this]
    congr 1
    funext b
    by_cases h : k ≤ x
    · rw [if_pos h, if_pos (by omega), show x + 1 - (k + 1) = x - k by omega]
    · rw [if_neg h, if_neg (by omega)]
theorem flipAt_over {l : Bs} {k : Nat} (h : l.length ≤ k) (p : Bs) : flipAt l k p = l := by
  apply List.ext_getElem?
  intro x
  rw [flipAt_get]
  cases hx : l[x]? with
  | none => rfl
  | some b =>
    have := (List.getElem?_eq_some_iff.1 hx).1
    rw [Option.map_some, if_neg (by omega)]
theorem flipAt_nil (l : Bs) (k : Nat) : flipAt l k [] = l := by
  apply List.ext_getElem?
  intro x
  rw [flipAt_get]
  cases l[x]? with
  | none => rfl
  | some b => simp [fl]
theorem flipAt_all {l : Bs} {k t : Nat} {p : Bs} (h : t = min p.length (l.length - k)) : flipAt l k (p.take t) = flipAt l k p := by
  apply List.ext_getElem?
  intro x
  rw [flipAt_get, flipAt_get]
  cases hx : l[x]? with
  | none => rfl
  | some b =>
    have hxl := (List.getElem?_eq_some_iff.1 hx).1
    rw [Option.map_some, Option.map_some]
    by_cases hk : k ≤ x
    · rw [if_pos hk, if_pos hk]
      by_cases hp : x - k < p.length
      · rw [List.getElem?_take_of_lt (by omega)]
      · rw [List.getElem?_eq_none (by rw [List.length_take]; omega), List.getElem?_eq_none (by omega)]
    · rw [if_neg hk, if_neg hk]
theorem flipAt_snoc {l : Bs} {k j : Nat} {p : Bs} {b q : UInt8} (hb : l[k + j]? = some b) (hq : p[j]? = some q) : flipAt l k (p.take (j + 1)) = (flipAt l k (p.take j)).set (k + j) (b ^^^ q) := by
  have hj := (List.getElem?_eq_some_iff.1 hq).1
  apply List.ext_getElem?
  intro x
  rw [List.getElem?_set, flipAt_get, flipAt_get, flipAt_len]
  by_cases hx : k + j = x
  · subst hx
    rw [if_pos rfl, if_pos (List.getElem?_eq_some_iff.1 hb).1, hb, Option.map_some, if_pos (by omega), show k + j - k = j by omega, List.getElem?_take_of_lt (by omega), hq]
    rfl
  · rw [if_neg hx]
    cases hl : l[x]? with
    | none => rfl
    | some c =>
      rw [Option.map_some, Option.map_some]
      by_cases hk : k ≤ x
      · rw [if_pos hk, if_pos hk]
        by_cases hxj : x - k < j
        · rw [List.getElem?_take_of_lt hxj, List.getElem?_take_of_lt (by omega)]
        · rw [List.getElem?_eq_none (l := p.take j) (by rw [List.length_take]; omega), List.getElem?_eq_none (l := p.take (j + 1)) (by rw [List.length_take]; omega)]
      · rw [if_neg hk, if_neg hk]
theorem flipAt_at {l : Bs} {k j : Nat} {p : Bs} {b : UInt8} (hb : l[k + j]? = some b) : (flipAt l k (p.take j))[k + j]? = some b := by
  rw [flipAt_get, hb, Option.map_some, if_pos (by omega), show k + j - k = j by omega, List.getElem?_eq_none (by rw [List.length_take]; omega)]
  rfl
theorem xor_u8 (a b : UInt8) : bits .xor .u8 (a.toNat : Int) (b.toNat : Int) = ((a ^^^ b).toNat : Int) := by
  rw [u8_xor_nat _ _ (UInt8.toNat_lt a) (UInt8.toNat_lt b), UInt8.toNat_xor]
theorem own_store {w : World} {base : Nat} {e : TypeId} {g n c i : Nat} {xs : List Value} (h : w.ownsRow base e 1 (.slice (some ⟨g, 0, none⟩) n c) n xs) (hi : i < n) (v : Value) : (w.setCell ⟨g, i, none⟩ v).ownsRow base e 1 (.slice (some ⟨g, 0, none⟩) n c) n (xs.set i v) := by
  have hl := h.1
  rcases h.2 with ⟨e1, _⟩ | ⟨g', cap, cur, e1, h1, h2, h3, h4, h5, h6⟩
  · cases e1
  · injection e1 with e1 e2 e3
    injection e1 with e1
    injection e1 with e1 _ _
    subst e1 e3
    refine ⟨by rw [List.length_set]; exact hl, .inr ⟨g, c, cur.setIfInBounds i v, rfl, h1, heap_same h2 v, h3, h4, by simpa using h5, ?_⟩⟩
    rw [Array.toList_setIfInBounds, List.take_set, h6]
section
variable {w w' : World} {S : Nat → Prop} {d : Nat} {D : Dr.D} {u : Int} {β : Nat → Nat} {vs : Nat → Value} {nv kv pv : Value} {ss : List Value} {m N : Nat}
/-- A body's bytes are others, in the same place. -/
theorem DvAt.rewritten (h : DvAt w S d D u β vs nv kv pv ss) {i : Nat} (hi : i < D.bd.length) {x : Bs} (_hx : x.length = (D.at i).data.length) (hr : w'.ownsRow 0 tU8 1 (vs i) x.length (cU8 x)) {g : Nat} (hg : (vs i).ownBlock = some g) (hw : ∀ k, k ≠ g → w'.heap[k]? = w.heap[k]?) (hs : w.heap.size ≤ w'.heap.size) :
    DvAt w' S d (D.setBody i ⟨x, (D.at i).safe⟩) u β vs nv kv pv ss := by
  obtain ⟨cur, h3⟩ := own_lt (h.row i hi) hg
  have h1 := h.bodied (w' := w') hi (b := ⟨x, (D.at i).safe⟩) (v' := vs i) ((hw _ (fun e => ne_ty (h.body i hi) h3 (by decide) e)).trans (h.body i hi)) hr (fun g hg => .inl hg) (fun k _ _ h2 => hw k fun e => h2 (e ▸ hg)) hs
  rw [show (fun j => if j = i then vs i else vs j) = vs from funext fun j => by by_cases e : j = i <;> simp [e], show (fun k => S k ∨ (vs i).ownBlock = some k) = S from funext fun k => propext ⟨fun h2 => h2.elim id fun e => h.inV i k hi e, .inl⟩] at h1
  exact h1
theorem setBody_twice {D : Dr.D} {i : Nat} {a b : Bd} : (D.setBody i a).setBody i b = D.setBody i b := by
  unfold Dr.D.setBody
  simp
set_option maxRecDepth 100000 in
set_option maxHeartbeats 4000000 in
theorem flip_any (h : Dv w S d D m N) (hm : m ≤ 140737488355328) (n : Bs) (k : Int) {A : Option Addr} {t c : Nat} {x : Bs} (hx : Rd w w.heap.size 1 A t (cU8 x)) (htc : t ≤ c) (hcm : c ≤ maxLen) (hxS : ∀ ad, 0 < t → A = some ad → ¬ S ad.block) :
    Calls Try.prog 79 #[.pointer (some ⟨d, 0, none⟩), encStr n, .int .i64 k, .slice A t c] w fun y w' => y = .returned (.int .i64 (D.flip n k x).2) ∧ Turn w w' S d (D.flip n k x).1 m N := by
  have h0 := h
  have hok := h.1.flip n k x
  have hxl : x.length = t := by simpa using hx.1
  have hcm2 : c ≤ 9223372036854775807 := by unfold maxLen at hcm; omega
  obtain ⟨ho, β, vs, nv, kv, pv, ss, h⟩ := h
  by_cases hnk : (named n && decide (k < 0)) = true
  · have he : D.flip n k x = (D, 2) := by unfold Dr.D.flip; rw [if_pos hnk]
    have hn : named n = true := ((Bool.and_eq_true _ _).mp hnk).1
    have hk : k < 0 := of_decide_eq_true ((Bool.and_eq_true _ _).mp hnk).2
    rw [he]
    have H0 := Lib.hid h0
    clear h ho he h0 hok hnk hx hxS
    go_enter Try.func79, Try.ntmps79
    go_wp2_with (go_at_call 88; refine (named_any n _).mono ?_; rintro x w1 ⟨rfl, rfl⟩; rw [hn])
    go_ret
    exact ⟨rfl, Turn.refl H0.out⟩
  · have hcase : named n = false ∨ named n = true ∧ 0 ≤ k := by
      cases hn : named n
      · exact .inl rfl
      · rw [hn] at hnk
        refine .inr ⟨rfl, ?_⟩
        by_cases hk : k < 0
        · exact absurd (by rw [decide_eq_true hk]; rfl) hnk
        · omega
    cases hl : D.look n with
    | error e =>
      have he : D.flip n k x = (D, e) := by unfold Dr.D.flip; rw [if_neg hnk, hl]
      have hne0 : ¬ e = 0 := by have := look_ne hl; simpa using this
      have hne : (e != 0) = true := by rw [bne, look_ne hl]; rfl
      rw [he]
      have H0 := Lib.hid h0
      have H := Lib.hid h
      have HL := Lib.hid hl
      clear h ho he h0 hok hnk hl hx hxS
      rcases hcase with hn | ⟨hn, hk⟩
      all_goals
        go_enter Try.func79, Try.ntmps79
        go_wp2_with (first
          | (go_at_call 88; refine (named_any n _).mono ?_; rintro x w1 ⟨rfl, rfl⟩; rw [hn])
          | (go_at_call 90; refine (find_any H.out n).mono ?_; rintro x w1 ⟨rfl, rfl⟩; rw [HL.out]; simp only [found]))
        go_ret
        exact ⟨rfl, Turn.refl H0.out⟩
    | ok i =>
      have hn := (look_ok ho hl).1
      have hk0 : 0 ≤ k := by
        rcases hcase with h | h
        · rw [hn] at h; cases h
        · exact h.2
      clear hcase
      obtain ⟨q, rfl⟩ : ∃ q : Nat, k = (q : Int) := ⟨k.toNat, by omega⟩
      have hi := (look_in ho hl).2
      have hai := ho.at_ok i
      have he : D.flip n (q : Int) x = (D.setBody i ⟨flipAt (D.at i).data q x, (D.at i).safe⟩, 0) := by unfold Dr.D.flip; rw [if_neg hnk, hl]; rfl
      obtain ⟨A1, c1, hv, hlc, hcm1⟩ := own_form (h.row i hi)
      obtain ⟨b0, b1, _, _⟩ := c_body (h.body i hi)
      rw [hv] at b0
      by_cases hq : (D.at i).data.length ≤ q
      · rw [he, flipAt_over hq, setBody_self hi]
        have hge : (q : Int) ≥ ((D.at i).data.length : Int) := by omega
        have H0 := Lib.hid h0
        have H := Lib.hid h
        have HL := Lib.hid hl
        clear h ho he h0 hok hnk hl hv hq hx hxS
        go_enter Try.func79, Try.ntmps79
        go_wp2_with (first
          | (go_at_call 88; refine (named_any n _).mono ?_; rintro x w1 ⟨rfl, rfl⟩; rw [hn])
          | (go_at_call 90; refine (find_any H.out n).mono ?_; rintro x w1 ⟨rfl, rfl⟩; rw [HL.out]; simp only [found]))
        go_ret
        exact ⟨rfl, Turn.refl H0.out⟩
      · rw [he] at hok ⊢
        have hge : ¬ (q : Int) ≥ ((D.at i).data.length : Int) := by omega
        have hqc : (q : Int) ≤ (c1 : Int) := by omega
        have hql : (q : Int) ≤ ((D.at i).data.length : Int) := by omega
        have hqm : (c1 : Int) ≤ 9223372036854775807 := by unfold maxLen at hcm1; omega
        obtain ⟨r, hr⟩ : ∃ r, min t ((D.at i).data.length - q) = r := ⟨_, rfl⟩
        have hmin : min (t : Int) (((D.at i).data.length : Int) - (q : Int)) = (r : Int) := by omega
        have hrt : (r : Int) ≤ (c : Int) := by omega
        obtain ⟨g, rfl⟩ : ∃ g, A1 = some ⟨g, 0, none⟩ := by
          have h1 := h.row i hi
          rw [hv] at h1
          rcases h1.2 with ⟨e, h2⟩ | ⟨g, _, _, e, _⟩
          · omega
          · injection e with e _ _; exact ⟨g, e⟩
        have H := Lib.hid h
        have HL := Lib.hid hl
        have HOK := Lib.hid hok
        have HV := Lib.hid hv
        have HX := Lib.hid hx
        have HXS := Lib.hid hxS
        have HXL := Lib.hid hxl
        have HR := Lib.hid hr
        have HO := Lib.hid ho
        clear h ho he h0 hok hnk hl hv hx hxS hxl hr
        go_enter Try.func79, Try.ntmps79
        go_upto_region 8 with (first
          | (go_at_call 88; refine (named_any n _).mono ?_; rintro x w1 ⟨rfl, rfl⟩; rw [hn])
          | (go_at_call 90; refine (find_any H.out n).mono ?_; rintro x w1 ⟨rfl, rfl⟩; rw [HL.out]; simp only [found]))
        go_loopw [56] (fun iv wr => ∃ j : Nat, iv = .int .i64 (j : Int) ∧ j ≤ r ∧ DvAt wr S d (D.setBody i ⟨flipAt (D.at i).data q (x.take j), (D.at i).safe⟩) (wrap64 (D.used : Int)) β vs nv kv pv ss ∧ Kept w wr S) (fun iv _ => r - (intOf iv).toNat)
        case atStart =>
          refine ⟨0, rfl, by omega, ?_, Kept.refl _ _⟩
          rw [List.take_zero, flipAt_nil, show (⟨(D.at i).data, (D.at i).safe⟩ : Bd) = D.at i from rfl, setBody_self hi]
          exact H.out
        case round =>
          obtain ⟨j, rfl, hj, hd, hkp⟩ := hrel
          by_cases hlt : j < r
          · have ht0 : 0 < t := by have := HR.out; omega
            obtain ⟨ad, rfl, hadb, hadc⟩ := HX.out.2 ht0
            have hjx : j < x.length := by have := HR.out; have := HXL.out; omega
            obtain ⟨b, hb⟩ : ∃ b, (D.at i).data[q + j]? = some b := ⟨_, List.getElem?_eq_getElem (by have := HR.out; omega)⟩
            obtain ⟨p, hp⟩ : ∃ p, x[j]? = some p := ⟨_, List.getElem?_eq_getElem hjx⟩
            have hlen : (D.setBody i ⟨flipAt (D.at i).data q (x.take j), (D.at i).safe⟩).bd.length = D.bd.length := by simp [Dr.D.setBody]
            have hrow := hd.row i (by rw [hlen]; exact hi)
            rw [at_set hi, if_pos rfl, HV.out] at hrow
            simp only [flipAt_len] at hrow
            have d0 : wr.cell? (ad.add j) = some (.int .u8 (p.toNat : Int)) := by
              rw [World.cell?_of_block (w' := wr) (w := w) (by rw [add_block]; exact hkp.block _ hadb (HXS.out ad ht0 rfl))]
              exact hadc j _ (by simp [cU8, hp])
            have d1 : wr.cell? ⟨g, q + j, none⟩ = some (.int .u8 (b.toNat : Int)) := by
              have := (Rd.of_own hrow).cell rfl (k := q + j) (u := .int .u8 (b.toNat : Int)) (by have := HR.out; omega) (by simp [cU8, flipAt_at hb])
              rw [show (⟨g, 0, none⟩ : Addr).add (q + j) = ⟨g, q + j, none⟩ by unfold Addr.add; split <;> simp <;> omega] at this
              exact this
            have d2 : wr.frozen? ⟨g, q + j, none⟩ = false := by
              obtain ⟨cur, h3⟩ := own_lt hrow rfl
              unfold World.frozen?
              rw [show wr.heap[(⟨g, q + j, none⟩ : Addr).block]? = _ from h3]
              simp
            have hlt2 : (j : Int) < (r : Int) := by omega
            have hlt3 : (j : Int) < ((D.at i).data.length : Int) - (q : Int) := by have := HR.out; omega
            have HD := Lib.hid hd
            have HK := Lib.hid hkp
            have HB := Lib.hid hb
            have HPP := Lib.hid hp
            have HROW := Lib.hid hrow
            clear hd hkp hb hp hrow hlen hjx hadc
            go_wp2
            rw [xor_u8]
            have hnew := own_store HROW.out (i := q + j) (by have := HR.out; omega) (.int .u8 ((b ^^^ p).toNat : Int))
            rw [show (cU8 (flipAt (D.at i).data q (x.take j))).set (q + j) (.int .u8 ((b ^^^ p).toNat : Int)) = cU8 (flipAt (D.at i).data q (x.take (j + 1))) by rw [flipAt_snoc HB.out HPP.out]; simp [cU8, List.map_set]] at hnew
            have hlen : (D.setBody i ⟨flipAt (D.at i).data q (x.take j), (D.at i).safe⟩).bd.length = D.bd.length := by simp [Dr.D.setBody]
            have h2 := HD.out.rewritten (w' := wr.setCell ⟨g, q + j, none⟩ (.int .u8 ((b ^^^ p).toNat : Int))) (i := i) (by rw [hlen]; exact hi) (x := flipAt (D.at i).data q (x.take (j + 1))) (by rw [at_set hi, if_pos rfl, flipAt_len, flipAt_len]) (by rw [HV.out, flipAt_len]; exact hnew) (g := g) (by rw [HV.out]; rfl) (fun k hk => Below.heap_setCell _ _ _ k hk) (by simp [World.setCell])
            rw [at_set hi, if_pos rfl, setBody_twice] at h2
            have H2 := Lib.hid h2
            have HK2 := Lib.hid (HK.out.set (p := ⟨g, q + j, none⟩) (H.out.inV i g hi (by rw [HV.out]; rfl)) (.int .u8 ((b ^^^ p).toNat : Int)))
            clear h2 hnew hlen d0 d1 d2
            go_roundw
            case rel => exact ⟨j + 1, by go_num, by omega, H2.out, HK2.out⟩
            case measure => simp [intOf]; omega
          · obtain rfl : r = j := by omega
            rw [flipAt_all (by have := HR.out; have := HXL.out; omega)] at hd
            have HD := Lib.hid hd
            have HK := Lib.hid hkp
            clear hd hkp
            go_wp2
            go_ret
            refine ⟨rfl, Turn.of HOK.out HD.out ?_ HK.out fun k hk => .inl hk⟩
            have h1 := used_set HO.out HL.out ⟨flipAt (D.at i).data q x, (D.at i).safe⟩
            rw [show (Bd.data ⟨flipAt (D.at i).data q x, (D.at i).safe⟩).length = (D.at i).data.length from flipAt_len _ _ _] at h1
            exact congrArg wrap64 (by omega)
end
end Go.Proofs.Ytelgcmcnebncmaa.Dr
