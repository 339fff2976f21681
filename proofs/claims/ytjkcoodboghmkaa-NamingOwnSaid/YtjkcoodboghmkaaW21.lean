/- The walk of the statement on new memory: small laws first. -/
import Derived.Test.YtjkcoodboghmkaaW20
import Derived.Test.YtjkcoodboghmkaaW17
import Derived.Deep.Heap
namespace Go.Proofs.Ytjkcoodboghmkaa.Nm
open Go.RowKit Go.Proofs

theorem own_kept {w w' : World} {S : Nat → Prop} {base size n : Nat} {e : TypeId} {v : Value} {xs : List Value} (h : w.ownsRow base e size v n xs) (hk : Kept w w' S) (hs : ∀ g, v.ownBlock = some g → ¬ S g) : w'.ownsRow base e size v n xs := by
  obtain ⟨h1, h2⟩ := h
  refine ⟨h1, ?_⟩
  rcases h2 with h2 | ⟨g, cap, cur, hv, hg, hb, rest⟩
  · exact .inl h2
  · exact .inr ⟨g, cap, cur, hv, hg, (hk.block g (Array.getElem?_eq_some_iff.1 hb).1 (hs g (by rw [hv]; rfl))).trans hb, rest⟩
theorem Rd.take {w : World} {B n m : Nat} {A : Option Addr} {xs : List Bs} (h : Rd w B 1 A n (cStr xs)) (hm : m ≤ n) : Rd w B 1 A m (cStr (xs.take m)) := by
  have hl : xs.length = n := by simpa using h.1
  refine ⟨by simp; omega, fun h0 => ?_⟩
  obtain ⟨ad, e, hb, hc⟩ := h.2 (by omega)
  refine ⟨ad, e, hb, fun j u hu => hc j u ?_⟩
  rw [cStr, List.map_take] at hu
  have hj : j < m := by
    have := (List.getElem?_eq_some_iff.1 hu).1
    rw [List.length_take] at this; omega
  rwa [List.getElem?_take_of_lt hj] at hu
theorem Rd.drop {w : World} {B n m : Nat} {ad : Addr} {xs : List Bs} (h : Rd w B 1 (some ad) n (cStr xs)) (hm : m ≤ n) : Rd w B 1 (some (ad.add m)) (n - m) (cStr (xs.drop m)) := by
  have hl : xs.length = n := by simpa using h.1
  refine ⟨by simp; omega, fun h0 => ?_⟩
  obtain ⟨ad', e, hb, hc⟩ := h.2 (by omega)
  obtain rfl : ad = ad' := by injection e
  refine ⟨_, rfl, by rw [add_block]; exact hb, fun j u hu => ?_⟩
  rw [add_add]
  refine hc (m + j) u ?_
  rw [cStr, List.map_drop, List.getElem?_drop] at hu
  exact hu

theorem Kept.to_below {w w' : World} {S : Nat → Prop} {B : Nat} (h : Kept w w' S) (hB : B ≤ w.heap.size) (hs : ∀ k, S k → B ≤ k) : Below B w w' :=
  ⟨h.os, h.tape, h.output, h.size, fun k hk => h.block k (by omega) (fun h1 => by have := hs k h1; omega)⟩
theorem take_set (u v b : List Bs) {i : Nat} {x : Bs} (hx : v[i]? = some x) (hl : u.length = v.length) : (v.take i ++ u.drop i ++ b).set i x = v.take (i + 1) ++ u.drop (i + 1) ++ b := by
  obtain ⟨hi, rfl⟩ := List.getElem?_eq_some_iff.1 hx
  have h1 : (v.take i).length = i := by rw [List.length_take]; omega
  have h2 : u.drop i = u[i]'(by omega) :: u.drop (i + 1) := List.drop_eq_getElem_cons (by omega)
  rw [List.append_assoc, List.set_append_right _ _ (by omega), h1, Nat.sub_self, h2, List.cons_append, List.set_cons_zero, List.append_assoc, List.take_succ_eq_append_getElem hi, List.append_assoc]
  rfl

/-- Three lists of one's own, each in a block of its own. -/
theorem all_three {w wa wb wc : World} {base na nb nc : Nat} {la lb lc : List Bs} {Aa Ab Ac : Option Addr} {ca cb cc : Nat} (ha : w.ownsRow wa.heap.size 9 1 (.slice Aa na ca) na (cStr la)) (hb : w.ownsRow wb.heap.size 9 1 (.slice Ab nb cb) nb (cStr lb)) (hc : w.ownsRow wc.heap.size 9 1 (.slice Ac nc cc) nc (cStr lc))
    (h0 : base ≤ wa.heap.size) (h1 : ∀ g, (Value.slice Aa na ca).ownBlock = some g → g < wb.heap.size) (h2 : ∀ g, (Value.slice Ab nb cb).ownBlock = some g → g < wc.heap.size) (h3 : wa.heap.size ≤ wb.heap.size) (h4 : wb.heap.size ≤ wc.heap.size) :
    All w base (fun k => if k < wb.heap.size then 0 else if k < wc.heap.size then 1 else 2) [(Aa, na, ca), (Ab, nb, cb), (Ac, nc, cc)] (fun i => if i = 0 then la else if i = 1 then lb else lc) ∧
    ∀ k, Sb [(Aa, na, ca), (Ab, nb, cb), (Ac, nc, cc)] k → wa.heap.size ≤ k ∧ k < w.heap.size := by
  constructor
  · intro i r hr
    match i, hr with
    | 0, hr =>
      obtain rfl : (Aa, na, ca) = r := by simpa using hr
      exact ⟨own_base ha h0, fun g hg => by simp only [h1 g hg, if_true]⟩
    | 1, hr =>
      obtain rfl : (Ab, nb, cb) = r := by simpa using hr
      refine ⟨own_base hb (by omega), fun g hg => ?_⟩
      have h5 := (hb.lt g hg).1
      simp only [show ¬ g < wb.heap.size by omega, h2 g hg, if_false, if_true]
    | 2, hr =>
      obtain rfl : (Ac, nc, cc) = r := by simpa using hr
      refine ⟨own_base hc (by omega), fun g hg => ?_⟩
      have h5 := (hc.lt g hg).1
      simp only [show ¬ g < wb.heap.size by omega, show ¬ g < wc.heap.size by omega, if_false]
    | i + 3, hr => simp at hr
  · rintro k ⟨i, r, hr, hk⟩
    match i, hr with
    | 0, hr =>
      obtain rfl : (Aa, na, ca) = r := by simpa using hr
      exact ha.lt k hk
    | 1, hr =>
      obtain rfl : (Ab, nb, cb) = r := by simpa using hr
      exact ⟨Nat.le_trans h3 (hb.lt k hk).1, (hb.lt k hk).2⟩
    | 2, hr =>
      obtain rfl : (Ac, nc, cc) = r := by simpa using hr
      exact ⟨Nat.le_trans (Nat.le_trans h3 h4) (hc.lt k hk).1, (hc.lt k hk).2⟩
    | i + 3, hr => simp at hr

theorem three_small {na nb nc : Nat} {Aa Ab Ac : Option Addr} {ca cb cc : Nat} {m : Nat} (ha : na ≤ m) (hb : nb ≤ m) (hc : nc ≤ m) {i : Nat} {r : Row} (hr : ([(Aa, na, ca), (Ab, nb, cb), (Ac, nc, cc)] : List Row)[i]? = some r) : r.2.1 ≤ m := by
  match i, hr with
  | 0, hr => obtain rfl : (Aa, na, ca) = r := by simpa using hr
             exact ha
  | 1, hr => obtain rfl : (Ab, nb, cb) = r := by simpa using hr
             exact hb
  | 2, hr => obtain rfl : (Ac, nc, cc) = r := by simpa using hr
             exact hc
  | i + 3, hr => simp at hr

theorem apart_here {x : World} {B na nb nc m : Nat} {Aa Ab Ac : Option Addr} {ca cb cc : Nat} {o : Nat → Nat} {f : Nat → List Bs} (hB : B ≤ x.heap.size) (ha : na ≤ m) (hb : nb ≤ m) (hc : nc ≤ m) (hm : m ≤ 8796093021952)
    (hA : All (x.alloc (.cells #[.slice Aa na ca, .slice Ab nb cb, .slice Ac nc cc] 30)) B o [(Aa, na, ca), (Ab, nb, cb), (Ac, nc, cc)] f) (hS : ∀ k, Sb [(Aa, na, ca), (Ab, nb, cb), (Ac, nc, cc)] k → B ≤ k ∧ k < x.heap.size) :
    Calls Try.prog 28 #[.slice (some ⟨x.heap.size, 0, none⟩) 3 3] (x.alloc (.cells #[.slice Aa na ca, .slice Ab nb cb, .slice Ac nc cc] 30)) fun e w' => e = .returned (.bool true) ∧ Below B (x.alloc (.cells #[.slice Aa na ca, .slice Ab nb cb, .slice Ac nc cc] 30)) w' := by
  have hsz : (x.alloc (.cells #[.slice Aa na ca, .slice Ab nb cb, .slice Ac nc cc] 30)).heap.size = x.heap.size + 1 := Deep.nblk_alloc x _
  refine (apart_any (some ⟨x.heap.size, 0, none⟩) 3 3 [(Aa, na, ca), (Ab, nb, cb), (Ac, nc, cc)] rfl (by decide) (fun i r hr => Nat.le_trans (three_small ha hb hc hr) hm) B o f _ (by omega) ⟨rfl, fun _ => ⟨_, rfl, ?_, new_cells x [.slice Aa na ca, .slice Ab nb cb, .slice Ac nc cc] _⟩⟩ ?_ hA).mono ?_
  · rw [hsz]; exact Nat.lt_succ_self _
  · intro ad had
    injection had with had
    subst had
    intro h1
    exact absurd (hS _ h1).2 (Nat.lt_irrefl _)
  · rintro e w' ⟨rfl, hk⟩
    exact ⟨rfl, Kept.to_below hk (by omega) fun k hk => (hS k hk).1⟩

/-- What stands behind the list. -/
abbrev behind3 : List Bs := [[114, 111, 111, 109], [98, 101, 104, 105, 110, 100], [105, 116]]

set_option maxRecDepth 100000 in
set_option maxHeartbeats 4000000 in
theorem law_own (A0 : Option Addr) (n0 c0 : Nat) (xs : List Bs) (A1 : Option Addr) (n1 c1 : Nat) (ys : List Bs) (hn0 : n0 ≤ 8796093021952) (hn1 : n1 ≤ 8796093021952) (hc0 : A0 = none → c0 = 0) (hc1 : A1 = none → c1 = 0) (hl0 : n0 ≤ c0) (hl1 : n1 ≤ c1) (hcm0 : c0 ≤ maxLen) (hcm1 : c1 ≤ maxLen)
    (hxs : ∀ x ∈ xs, x.length ≤ maxLen) (hys : ∀ x ∈ ys, x.length ≤ maxLen) (p : ByteArray) (w : World) (hr0 : Rd w w.heap.size 1 A0 n0 (cStr xs)) (hr1 : Rd w w.heap.size 1 A1 n1 (cStr ys)) :
    Calls Try.prog 13 #[.slice A0 n0 c0, .slice A1 n1 c1, .string p] w fun e w' => e = .returned (.bool true) ∧ Below w.heap.size w w' := by
  obtain ⟨i0, hi, hz0, hz1, hz2⟩ := info_parts infoStr
  obtain ⟨n, hn⟩ : ∃ n : Nat, min (n0 : Int) (n1 : Int) = (n : Int) ∧ n ≤ n0 ∧ n ≤ n1 := ⟨min n0 n1, by omega, by omega, by omega⟩
  obtain ⟨hmin, hm0, hm1⟩ := hn
  have hx := Rd.take hr0 hm0
  have hy := Rd.take hr1 hm1
  have hxn : ∀ x ∈ xs.take n, x.length ≤ maxLen := fun x h => hxs x (List.mem_of_mem_take h)
  have hyn : ∀ x ∈ ys.take n, x.length ≤ maxLen := fun x h => hys x (List.mem_of_mem_take h)
  have hxl : (xs.take n).length = n := by simpa using hx.1
  have hyl : (ys.take n).length = n := by simpa using hy.1
  obtain ⟨u, hu⟩ : ∃ u, xs.take n = u := ⟨_, rfl⟩
  obtain ⟨v, hv⟩ : ∃ v, ys.take n = v := ⟨_, rfl⟩
  rw [hu] at hx hxn hxl
  rw [hv] at hy hyn hyl
  have HX := Lib.hid hx
  have HY := Lib.hid hy
  have HXN := Lib.hid hxn
  have HYN := Lib.hid hyn
  have HXL := Lib.hid hxl
  have HYL := Lib.hid hyl
  obtain ⟨la, hla⟩ : ∃ l, under u p.data.toList = l := ⟨_, rfl⟩
  obtain ⟨lb, hlb⟩ : ∃ l, under u (⟨#[]⟩ : ByteArray).data.toList = l := ⟨_, rfl⟩
  have hE2 : pre? p.data.toList lb = la := by rw [← hlb, ← hla]; exact under_chosen u p.data.toList
  have hla2 := under_len u p.data.toList
  have hlb2 := under_len u (⟨#[]⟩ : ByteArray).data.toList
  rw [hla, hxl] at hla2
  rw [hlb, hxl] at hlb2
  have HLA := Lib.hid hla
  have HLB := Lib.hid hlb
  have HE2 := Lib.hid hE2
  have hnb : n ≤ 8796093021952 := by omega
  have hlc0 : n ≤ c0 := by omega
  have hlc1 : n ≤ c1 := by omega
  unfold maxLen at hcm0 hcm1
  clear hx hy hxn hyn hxl hyl hu hv hla hlb hE2 hxs hys hr0 hr1
  go_enter Try.func13, Try.ntmps13
  go_upto_region 5 with (first
    | (at_builtin; refine wpList_append_rd _ rfl (.tmp 20) (.tmp 23) 30 rfl w.heap.size 9 i0 (.string ⟨#[]⟩) 1 16 Try.underlying30 hi hz0 hz1 hz2 rfl (by decide) (.slice none 0 0) 0 [] rfl (World.ownsRow_nil _ _ _ _) _ A0 n c0 (cStr u) rfl HX.out hc0 (cStr_one _) (by unfold maxLen; omega) (by omega) (Nat.le_refl _) ?_; intro va wa hrowa hga; rw [Nat.zero_add, List.nil_append] at hrowa)
    | (at_builtin; refine wpList_append_own _ rfl (.tmp 25) (.tmp 26) 30 rfl w.heap.size 9 i0 (.string ⟨#[]⟩) 1 16 Try.underlying30 hi hz0 hz1 hz2 rfl (by decide) va _ _ rfl (hrowa.alloc _) ⟨wa.heap.size, 0, none⟩ 3 3 (cStr behind3) rfl rfl (new_cells wa (cStr behind3) _) (cStr_one _) (by unfold maxLen; omega) (by omega) (by have := hga.size; simp; omega) ?_; intro vb wb hrowb hgb _))
  have hBa : Below w.heap.size w wa := (Below.refl _ _).grown hga (Nat.le_refl _) (by intro g hg; cases hg)
  have hBb : Below w.heap.size w wb := (hBa.alloc hBa.size _).grown hgb (by have := hBa.size; simp; omega) (fun j hj => (hrowa.lt j hj).1)
  have hcat : cStr u ++ cStr behind3 = cStr (u ++ behind3) := by simp
  rw [hcat] at hrowb
  obtain ⟨g, cap, rfl, hgw, hgl⟩ := hrowb.form (by omega)
  have hcap : n + 3 ≤ cap ∧ cap ≤ 9223372036854775807 := by
    obtain ⟨_, c9, h8, h9, h10⟩ := own_form hrowb
    injection h8 with _ _ h8
    unfold maxLen at h10
    omega
  obtain ⟨hcap1, hcap2⟩ := hcap
  have HB := Lib.hid hBb
  have HRO := Lib.hid hrowb
  have RB := Lib.hid (Rd.of_own hrowb)
  have htk : (u ++ behind3).take n = u := by rw [← HXL.out]; exact List.take_left
  have hdp : (u ++ behind3).drop n = behind3 := by rw [← HXL.out]; exact List.drop_left
  have RL := Lib.hid (htk ▸ Rd.take RB.out (m := n) (by omega))
  have hadd : (⟨g, 0, none⟩ : Addr).add n = ⟨g, n, none⟩ := by unfold Addr.add; split <;> simp_all
  have h33 : n + 3 - n = 3 := by omega
  have hrd := Rd.drop RB.out (m := n) (by omega)
  rw [hdp, hadd, h33] at hrd
  have RD := Lib.hid hrd
  clear hrd hadd h33
  have hHX := HX.out.below hBb
  have HXB := Lib.hid hHX
  have HYB := Lib.hid (HY.out.below hBb)
  clear hrowa hga hrowb hgb hBa hBb hcat hcm0 hcm1 htk hdp hHX
  go_upto_region 7 with (go_at_call 23; refine (under_any _ n cap u p wb.heap.size (by omega) HXN.out _ (Nat.le_refl _) RL.out).mono ?_; rintro e w1 ⟨v1, rfl, hown1, hb1⟩; rw [HLA.out] at hown1; obtain ⟨Aa, ca, rfl, _, _⟩ := own_form hown1)
  go_upto_region 8 with (go_at_call 23; refine (under_any _ n cap u _ wb.heap.size (by omega) HXN.out _ hb1.size (RL.out.below hb1)).mono ?_; rintro e w2 ⟨v2, rfl, hown2, hb2⟩; rw [show under u (⟨#[]⟩ : ByteArray).data.toList = lb from HLB.out] at hown2; obtain ⟨Ab, cb, rfl, _, _⟩ := own_form hown2)
  go_upto_region 9 with (go_at_call 23; refine (under_any _ n cap u p wb.heap.size (by omega) HXN.out _ (Nat.le_trans hb1.size hb2.size) (RL.out.below (bch hb1 hb2))).mono ?_; rintro e w3 ⟨v3, rfl, hown3, hb3⟩; rw [HLA.out] at hown3; obtain ⟨Ac, cc, rfl, _, _⟩ := own_form hown3)
  have hB3 : Below wb.heap.size wb w3 := bch (bch hb1 hb2) hb3
  have O1 := Lib.hid (own_below (own_below hown1 hb2) hb3)
  have O2 := Lib.hid (own_below hown2 hb3)
  have O3 := Lib.hid hown3
  have L1 := Lib.hid (fun g hg => (hown1.lt g hg).2)
  have L2 := Lib.hid (fun g hg => (hown2.lt g hg).2)
  have S1 := hb1.size
  have S2 := hb2.size
  have S3 := hb3.size
  have R1 := Lib.hid (Rd.of_own O1.out)
  have R2 := Lib.hid (Rd.of_own O2.out)
  have R3 := Lib.hid (Rd.of_own O3.out)
  have HB3 := Lib.hid hB3
  clear hown1 hown2 hown3 hb1 hb2 hb3 hB3
  go_upto_region 11 with (first
    | (go_at_call_of 22 Aa; refine (like_any Aa _ ca la Ac _ cc la _ _ (by unfold maxLen; omega) (by unfold maxLen; omega) _ R1.out R3.out).mono ?_; rintro e x1 ⟨rfl, hq1⟩; have hk1 := below_same hq1 w3.heap.size)
    | (go_at_call_of 22 A0; refine (like_any _ n cap u A0 n c0 u _ _ (by unfold maxLen; omega) (by unfold maxLen; omega) _ (RL.out.below (bch HB3.out hk1)) (HXB.out.below ((bch HB3.out hk1).mono HB.out.size))).mono ?_; rintro e x2 ⟨rfl, hq2⟩; have hk2 := bch hk1 (below_same hq2 _))
    | (go_at_call 22; refine (like_any (some ⟨g, n, none⟩) 3 (cap - n) behind3 (some ⟨x2.heap.size, 0, none⟩) 3 3 behind3 _ (x2.heap.size + 1) (by decide) (by decide) _ (RD.out.below ((bch HB3.out hk2).alloc (bch HB3.out hk2).size _)) ⟨rfl, fun _ => ⟨_, rfl, Nat.lt_succ_self _, new_cells x2 (cStr behind3) _⟩⟩).mono ?_; rintro e x3 ⟨rfl, hq3⟩; have hk3 := bch (hk2.alloc hk2.size (.cells (cStr behind3).toArray 9)) (below_same hq3 _)))
  have HK3 := Lib.hid hk3
  have s3 := hk3.size
  clear hk1 hk2 hk3 hq1 hq2 hq3
  have hlists : ∀ (x7 : World) (hb : Below w3.heap.size w3 x7), All x7 wb.heap.size (fun k => if k < w1.heap.size then 0 else if k < w2.heap.size then 1 else 2) [(Aa, la.length, ca), (Ab, lb.length, cb), (Ac, la.length, cc)] (fun i => if i = 0 then la else if i = 1 then lb else la) ∧ ∀ k, Sb [(Aa, la.length, ca), (Ab, lb.length, cb), (Ac, la.length, cc)] k → wb.heap.size ≤ k ∧ k < x7.heap.size := fun x7 hb =>
    all_three (own_below O1.out hb) (own_below O2.out hb) (own_below O3.out hb) (Nat.le_refl _) L1.out L2.out S1 S2
  have HLS := Lib.hid hlists
  clear hlists
  go_upto_region 13 with (first
    | (go_at_call 27; refine (chosen_any Ab _ cb lb p w3.heap.size (by omega) _ s3 (R2.out.below HK3.out)).mono ?_; rintro e x4 ⟨v4, rfl, hown4, hk4⟩; rw [HE2.out] at hown4; obtain ⟨A4, c4, rfl, _, _⟩ := own_form hown4; have r4 := Rd.of_own hown4; have hk4' := bch HK3.out hk4)
    | (go_at_call_of 22 Aa; refine (like_any Aa _ ca la A4 _ c4 la _ _ (by unfold maxLen; omega) (by unfold maxLen; omega) _ (R1.out.below hk4') r4).mono ?_; rintro e x5 ⟨rfl, hq5⟩; have hk5 := bch hk4' (below_same hq5 _))
    | (go_at_call 28; refine (apart_here (B := wb.heap.size) (m := n) (Nat.le_trans HB3.out.size hk5.size) hla2 hlb2 hla2 hnb (HLS.out _ (hk5.alloc hk5.size _)).1 (fun k hs => ⟨((HLS.out w3 (Below.refl _ _)).2 k hs).1, Nat.lt_of_lt_of_le ((HLS.out w3 (Below.refl _ _)).2 k hs).2 hk5.size⟩)).mono ?_; rintro e x6 ⟨rfl, hk6⟩; have hk7 := (bch HB3.out (hk5.alloc hk5.size _)).trans hk6)
    | (go_at_call 22; refine (like_any _ n cap u A0 n c0 u _ _ (by unfold maxLen; omega) (by unfold maxLen; omega) _ (RL.out.below hk7) (HXB.out.below (hk7.mono HB.out.size))).mono ?_; rintro e x8 ⟨rfl, hq8⟩; have hk8 := hk7.trans (below_same hq8 _)))
  have HK8 := Lib.hid hk8
  have s8 := hk8.size
  clear hk4 hk4' hk5 hk6 hk7 hk8 hq5 hq8 hown4 r4
  go_upto_region 14 with (go_at_call 23; refine (under_any _ n cap u p wb.heap.size (by omega) HXN.out _ s8 (RL.out.below HK8.out)).mono ?_; rintro e w9 ⟨v9, rfl, hown9, hb9⟩)
  have hk9 := HK8.out.trans (hb9.mono s8)
  have HK9 := Lib.hid hk9
  have HB9 := Lib.hid (HB.out.trans (hk9.mono HB.out.size))
  have HRO9 := Lib.hid (own_below HRO.out hk9)
  clear hown9 hk9 hb9
  go_wp2
  go_loopw [13] (fun iv wr => ∃ i : Nat, iv = .int .i64 i ∧ i ≤ n ∧ wr.ownsRow w.heap.size 9 1 (.slice (some ⟨g, 0, none⟩) (n + 3) cap) (n + 3) (cStr (v.take i ++ u.drop i ++ behind3)) ∧ Below w.heap.size w wr) (fun iv _ => n - (intOf iv).toNat)
  case atStart => exact ⟨0, rfl, by omega, by simpa using HRO9.out, HB9.out⟩
  case round =>
    obtain ⟨i, rfl, hin, hown, hbw⟩ := hrel
    by_cases hlt : i < n
    · obtain ⟨ad, x, rfl, hc, hx⟩ := str_at (HY.out.below hbw) hlt
      have hcj := World.ownsRow.cellAt hown i (by omega)
      have hfz := World.ownsRow.frozenAt hown i
      obtain ⟨u0, hu0⟩ : ∃ u0, wr.cell? ⟨g, i, none⟩ = some u0 := ⟨_, hcj.trans (List.getElem?_eq_getElem (by have := HXL.out; have := HYL.out; simp; omega))⟩
      have HST := Lib.hid (hown.stored i (encStr x))
      have HTS := Lib.hid (take_set u v behind3 hx (HXL.out.trans HYL.out.symm))
      have hlt2 : (i : Int) < (n : Int) := by omega
      clear hcj hown hx
      go_wp2
      go_roundw
      case rel =>
        refine ⟨i + 1, by go_num, by omega, ?_, hbw.grown HST.out.2 hbw.size (by intro j hj; injection hj with hj; omega)⟩
        have h1 := HST.out.1
        rw [cStr_set, HTS.out] at h1
        exact h1
      case measure => simp [intOf]; omega
    · obtain rfl : i = n := by omega
      have ht1 : v.take i = v := List.take_of_length_le (by have := HYL.out; omega)
      have ht2 : u.drop i = [] := List.drop_of_length_le (by have := HXL.out; omega)
      rw [ht1, ht2, List.append_nil] at hown
      obtain ⟨wf, rfl⟩ : ∃ wf : World, wf = wr := ⟨_, rfl⟩
      have hrd := Rd.take (Rd.of_own hown) (m := i) (by omega)
      rw [show (v ++ behind3).take i = v by rw [← HYL.out]; exact List.take_left] at hrd
      have RLI := Lib.hid hrd
      have HBW := Lib.hid hbw
      obtain ⟨lv, hlv⟩ : ∃ l, under v p.data.toList = l := ⟨_, rfl⟩
      have hlv2 := under_len v p.data.toList
      rw [hlv, HYL.out] at hlv2
      have HLV := Lib.hid hlv
      clear hown hrd ht1 ht2 hlv hbw
      go_upto_region 20 with (at_builtin; refine wpList_append_rd _ rfl (.tmp 96) (.tmp 99) 30 rfl wf.heap.size 9 i0 (.string ⟨#[]⟩) 1 16 Try.underlying30 hi hz0 hz1 hz2 rfl (by decide) (.slice none 0 0) 0 [] rfl (World.ownsRow_nil _ _ _ _) _ A1 i c1 (cStr v) rfl (HY.out.below HBW.out) hc1 (cStr_one _) (by unfold maxLen; omega) (by omega) (Nat.le_refl _) ?_; intro vt wt hrowt hgt; rw [Nat.zero_add, List.nil_append] at hrowt)
      have hbt : Below wf.heap.size wf wt := (Below.refl _ _).grown hgt (Nat.le_refl _) (by intro g hg; cases hg)
      obtain ⟨At, ct, rfl, _, _⟩ := own_form hrowt
      have RT := Lib.hid (Rd.of_own hrowt)
      have HBT := Lib.hid hbt
      have st := hbt.size
      clear hrowt hgt hbt
      go_wp2_with (first
        | (go_at_call_of 23 g; refine (under_any _ i cap v p wf.heap.size (by omega) HYN.out _ st (RLI.out.below HBT.out)).mono ?_; rintro e y1 ⟨u1, rfl, hown1, hy1⟩; rw [HLV.out] at hown1; obtain ⟨B1, d1, rfl, _, _⟩ := own_form hown1)
        | (go_at_call_of 23 At; refine (under_any At i ct v p wt.heap.size (by omega) HYN.out _ hy1.size (RT.out.below hy1)).mono ?_; rintro e y2 ⟨u2, rfl, hown2, hy2⟩; rw [HLV.out] at hown2; obtain ⟨B2, d2, rfl, _, _⟩ := own_form hown2)
        | (go_at_call 22; refine (like_any B1 _ d1 lv B2 _ d2 lv _ _ (by unfold maxLen; omega) (by unfold maxLen; omega) _ (Rd.of_own (own_below hown1 hy2)) (Rd.of_own hown2)).mono ?_; rintro e y3 ⟨rfl, hq3⟩; have hy3 := bch (bch hy1 hy2) (below_same hq3 _))
        | (go_at_call 14; refine (known_any _).mono ?_; rintro e y4 ⟨rfl, hy4⟩; have hy5 := bch hy3 hy4))
      go_ret
      exact ⟨rfl, HBW.out.trans ((bch HBT.out hy5).mono HBW.out.size)⟩
end Go.Proofs.Ytjkcoodboghmkaa.Nm
