/- XD13: merged by tools/merge.py. -/
import Derived.Test.YtelgcmcnebncmaaQ14
namespace Go.Proofs.Ytelgcmcnebncmaa.Dr
open Go.RowKit Go.Proofs Go.Proofs.Ytelgcmcnebncmaa.Ring

abbrev tFate := 29
abbrev cBool (l : List Bool) : List Value := l.map Value.bool
abbrev cInt (l : List Int) : List Value := l.map (Value.int .i64)
theorem c_fate {w : World} {d : Nat} {a b : Value} (h : w.heap[d]? = some (.cells #[a, b] tFate (0, 0))) : w.cell? ⟨d, 0, none⟩ = some a ∧ w.cell? ⟨d, 1, none⟩ = some b :=
  ⟨by rw [cell_of_row w d _ _ _ _ h]; rfl, by rw [cell_of_row w d _ _ _ _ h]; rfl⟩
section
variable {w : World} {S : Nat → Prop} {d m N : Nat} {D : Dr.D}
/-- What is kept, when so many pending changes have been looked at. -/
def keptAt (D : Dr.D) (dirs : List Bool) (i : Nat) : Dir := keepSome D.kept (D.pend.take i) dirs
theorem keptAt_ok (ho : D.Ok m N) (dirs : List Bool) (i : Nat) : Rise (keptAt D dirs i) ∧ (∀ x ∈ keptAt D dirs i, x.2 < D.bd.length ∧ named x.1 = true) ∧ (keptAt D dirs i).length ≤ N := by
  have h1 := keep_ok (D.pend.take i) dirs ho.kept (fun x hx => ⟨ho.inK x hx, ho.namK x hx⟩) (fun c hc => ho.inP c (List.mem_of_mem_take hc))
  have h2 := len_keep (D.pend.take i) dirs D.kept (fun c hc => ho.oneP c (List.mem_of_mem_take hc))
  have h3 := ho.lenK
  rw [List.length_take] at h2
  exact ⟨h1.1, h1.2, by unfold keptAt; omega⟩
/-- The new drive, when so many names have come. -/
def part (r : Nat) (bs : List Bd) (ks : Dir) (j : Nat) : Dr.D := ⟨r, bs.take j, (places ks).take j, (places ks).take j, []⟩
theorem part_bd {r : Nat} {bs : List Bd} {ks : Dir} {j : Nat} (hl : bs.length = ks.length) (hj : j ≤ ks.length) : (part r bs ks j).bd.length = j := by
  unfold part; simp only [List.length_take]; omega
theorem part_in {r : Nat} {bs : List Bd} {ks : Dir} {j : Nat} (hl : bs.length = ks.length) (hj : j ≤ ks.length) : ∀ x ∈ (places ks).take j, x.2 < (part r bs ks j).bd.length := by
  intro x hx
  rw [part_bd hl hj]
  obtain ⟨i, hi⟩ := List.mem_iff_getElem?.1 hx
  rw [List.getElem?_take] at hi
  split at hi
  · rw [places_at] at hi
    cases h : ks[i]? with
    | none => rw [h] at hi; cases hi
    | some y => rw [h] at hi; simp only [Option.map_some, Option.some.injEq] at hi; rw [← hi]; assumption
  · cases hi
theorem part_rise {ks : Dir} (h : Rise ks) (j : Nat) : Rise ((places ks).take j) := List.Pairwise.sublist (List.take_sublist j _) (rise_names h (places_names ks))
theorem part_front {ks : Dir} (h : Rise ks) {j : Nat} {p : Bs × Nat} (hp : ks[j]? = some p) : ∀ y ∈ (places ks).take j, bytesBefore y.1 p.1 = true := by
  have h1 : Rise (places ks) := rise_names h (places_names ks)
  have h2 : (places ks).take (j + 1) = (places ks).take j ++ [(p.1, j)] := by rw [List.take_add_one, places_at, hp]; rfl
  have h3 := part_rise h (j + 1)
  rw [h2] at h3
  have h4 := (List.pairwise_append.1 h3).2.2
  exact fun y hy => h4 y hy (p.1, j) (List.mem_singleton.2 rfl)
theorem part_next {r : Nat} {bs : List Bd} {ks : Dir} (hk : Rise ks) (hl : bs.length = ks.length) {j : Nat} {p : Bs × Nat} {b : Bd} (hp : ks[j]? = some p) (hb : bs[j]? = some b) :
    part r bs ks (j + 1) = ⟨(part r bs ks j).room, (part r bs ks j).bd ++ [b], put (part r bs ks j).now p.1 (some (part r bs ks j).bd.length), put (part r bs ks j).kept p.1 (some (part r bs ks j).bd.length), []⟩ ∧ find (part r bs ks j).now p.1 = none := by
  have hj : j < ks.length := (List.getElem?_eq_some_iff.1 hp).1
  have hf := part_front hk hp
  rw [part_bd hl (by omega)]
  refine ⟨?_, ?_⟩
  · show _ = (⟨r, bs.take j ++ [b], put ((places ks).take j) p.1 (some j), put ((places ks).take j) p.1 (some j), []⟩ : Dr.D)
    rw [put_last hf]
    unfold part
    rw [List.take_add_one, List.take_add_one, places_at, hp, hb]
    rfl
  · exact find_none.2 fun y hy e => before_ne (hf y hy) e
theorem part_zero (r : Nat) (bs : List Bd) (ks : Dir) : part r bs ks 0 = Dr.D.fresh r := by unfold part; simp only [List.take_zero]; rfl
theorem part_all {r : Nat} {bs : List Bd} {ks : Dir} (hl : bs.length = ks.length) : part r bs ks ks.length = ⟨r, bs, places ks, places ks, []⟩ := by
  unfold part
  rw [List.take_of_length_le (by omega), List.take_of_length_le (by rw [places_len]; omega)]
set_option maxRecDepth 100000 in
set_option maxHeartbeats 8000000 in
theorem crash_any (h : Dv w S d D m N) (hm : m ≤ 140737488355328) (hN : N * 24 ≤ 140737488355328) {Ad Ac : Option Addr} {nd cd nc cc : Nat} {dirs : List Bool} {cuts : List Int} (hd : Rd w w.heap.size 1 Ad nd (cBool dirs)) (hc : Rd w w.heap.size 1 Ac nc (cInt cuts))
    (hcb : ∀ x ∈ cuts, -9223372036854775808 ≤ x ∧ x ≤ 9223372036854775807) (hdS : ∀ ad, 0 < nd → Ad = some ad → ¬ S ad.block) (hcS : ∀ ad, 0 < nc → Ac = some ad → ¬ S ad.block) :
    Calls Try.prog 16 #[.pointer (some ⟨d, 0, none⟩), .agg #[.slice Ad nd cd, .slice Ac nc cc]] w fun x w' => x = .returned (.int .i64 0) ∧ Turn w w' S d (D.crash dirs cuts) m N := by
  have hok := h.1.crash dirs cuts
  obtain ⟨ho, β, vs, nv, kv, pv, ss, h⟩ := h
  have hdl : dirs.length = nd := by simpa using hd.1
  have hcl : cuts.length = nc := by simpa using hc.1
  obtain ⟨n, hn⟩ : ∃ n, D.pend.length = n := ⟨_, rfl⟩
  have hpw := h.pend
  rw [hn] at hpw
  obtain ⟨Ap, cp, hpv, _, _⟩ := own_form hpw
  subst hpv
  have hpN : n ≤ N := by have := ho.lenK; omega
  have hform := h.kept.form
  have H := Lib.hid h
  have HO := Lib.hid ho
  have HOK := Lib.hid hok
  have HD := Lib.hid hd
  have HC := Lib.hid hc
  have HCB := Lib.hid hcb
  have HDS := Lib.hid hdS
  have HCS := Lib.hid hcS
  have HDL := Lib.hid hdl
  have HCL := Lib.hid hcl
  have HN := Lib.hid hn
  have HFORM := Lib.hid hform
  clear h ho hok hd hc hcb hdS hcS hdl hcl hn hpw hform
  go_enter Try.func16, Try.ntmps16
  go_upto_region 1 with (fail)
  have hA : DvAt (w.alloc (.cells #[.slice Ad nd cd, .slice Ac nc cc] tFate)) S d D (wrap64 (D.used : Int)) β vs nv kv (.slice Ap n cp) ss := H.out.same (fun k hk => heap_alloc_old _ _ (H.out.low k hk)) (by simp)
  have hVa := heap_alloc_new w (.cells #[.slice Ad nd cd, .slice Ac nc cc] tFate)
  have hBa : Below w.heap.size w (w.alloc (.cells #[.slice Ad nd cd, .slice Ac nc cc] tFate)) := (Below.refl _ _).alloc (Nat.le_refl _) _
  have hV1 : ¬ S w.heap.size := fun h => by have := H.out.low _ h; omega
  obtain ⟨wa, hwa⟩ : ∃ wa, w.alloc (.cells #[.slice Ad nd cd, .slice Ac nc cc] tFate) = wa := ⟨_, rfl⟩
  obtain ⟨V, hV⟩ : ∃ V, w.heap.size = V := ⟨_, rfl⟩
  rw [hwa] at hA hVa hBa ⊢
  rw [hV] at hVa hV1 ⊢
  have HA := Lib.hid hA
  have HVA := Lib.hid hVa
  have HBA := Lib.hid hBa
  have HV1 := Lib.hid hV1
  have HV := Lib.hid hV
  clear hA hVa hBa hwa hV hV1
  have y4 : wa.cell? ⟨d, 4, none⟩ = some (.slice Ap n cp) := (c_now HA.out.head).2.2.1
  go_upto_region 4 with (fail)
  go_loopw [20] (fun iv wr => ∃ i : Nat, iv = .int .i64 (i : Int) ∧ i ≤ n ∧ DvAt wr S d { D with kept := keptAt D dirs i } (wrap64 (D.used : Int)) β vs nv kv (.slice Ap n cp) ss ∧ Kept wa wr S) (fun iv _ => n - (intOf iv).toNat)
  case atStart =>
    refine ⟨0, rfl, by omega, ?_, Kept.refl _ _⟩
    rw [show keptAt D dirs 0 = D.kept by unfold keptAt; rw [List.take_zero]; unfold keepSome; rfl]
    exact HA.out
  case round =>
    obtain ⟨i, rfl, hi, hDi, hkp⟩ := hrel
    by_cases hlt : i < n
    · obtain ⟨c, hc⟩ : ∃ c, D.pend[i]? = some c := ⟨_, List.getElem?_eq_getElem (by have := HN.out; omega)⟩
      have hssl : ss.length = n := by have := HA.out.pend.1; rw [HN.out] at this; simpa using this
      obtain ⟨s, hs⟩ : ∃ s, ss[i]? = some s := ⟨_, List.getElem?_eq_getElem (by omega)⟩
      have hrow := hDi.steps i c s hc hs
      have hprow : wr.ownsRow 0 tSteps 1 (.slice Ap n cp) n ss := by have := hDi.pend; rw [show ({ D with kept := keptAt D dirs i } : Dr.D).pend.length = n from HN.out] at this; exact this
      obtain ⟨adp, hAp, _, hadp⟩ := (Rd.of_own hprow).2 (by omega)
      subst hAp
      have e0 : wr.cell? (adp.add i) = some s := (Rd.of_own hprow).cell rfl hlt hs
      obtain ⟨As, cs, hsf, _, _⟩ := own_form hrow
      subst hsf
      have hVr : wr.heap[V]? = some (.cells #[.slice Ad nd cd, .slice Ac nc cc] tFate (0, 0)) := (hkp.block V (Array.getElem?_eq_some_iff.1 HVA.out).1 HV1.out).trans HVA.out
      obtain ⟨e1, e2⟩ := c_fate hVr
      have hlt2 : (i : Int) < (n : Int) := by omega
      have e3 : wr.cell? ⟨d, 3, none⟩ = some kv := (c_kp hDi.head).1
      have hki := keptAt_ok HO.out dirs i
      have hks := keep_snoc D.pend dirs D.kept i c hc
      have HDI := Lib.hid hDi
      have HKP := Lib.hid hkp
      have HCI := Lib.hid hc
      have HROW := Lib.hid hrow
      have HVR := Lib.hid hVr
      have HKI := Lib.hid hki
      have HKS := Lib.hid hks
      clear hDi hkp hc hrow hprow hVr hki hks hadp hs hssl
      by_cases hdi : i < nd
      · obtain ⟨b, hb⟩ : ∃ b, dirs[i]? = some b := ⟨_, List.getElem?_eq_getElem (by have := HDL.out; omega)⟩
        obtain ⟨add, hAd, haddb, hadd⟩ := HD.out.2 (by omega)
        subst hAd
        have e4 : wr.cell? (add.add i) = some (.bool b) := by
          have h1 : w.cell? (add.add i) = some (.bool b) := hadd i _ (by simp [cBool, hb])
          have h2 : wr.heap[(add.add i).block]? = w.heap[(add.add i).block]? := by
            rw [add_block]
            exact (HKP.out.block _ (Nat.lt_of_lt_of_le haddb HBA.out.size) (HDS.out add (by omega) rfl)).trans (HBA.out.block _ haddb)
          exact (World.cell?_of_block h2).trans h1
        have hdi2 : (i : Int) < (nd : Int) := by omega
        have HB := Lib.hid hb
        clear hb hadd
        cases b with
        | false =>
          have hsame : keptAt D dirs (i + 1) = keptAt D dirs i := by
            have := HKS.out
            rw [HB.out, if_neg (by decide)] at this
            exact this
          have hD2 := HDI.out
          rw [← hsame] at hD2
          have HD2 := Lib.hid hD2
          clear hD2 hsame
          go_wp2
          go_roundw
          case rel => exact ⟨i + 1, by go_num, by omega, HD2.out, HKP.out⟩
          case measure => simp [intOf]; omega
        | true =>
          have hap : keptAt D dirs (i + 1) = apply (keptAt D dirs i) c := by
            have := HKS.out
            rw [HB.out, if_pos rfl] at this
            exact this
          have hnn : mapBlock kv ≠ none := fun e => by
            have h1 := HA.out.live (HA.out.both.2 e)
            rw [h1] at HN
            have := HN.out
            simp at this
            omega
          obtain ⟨bk, hbk⟩ : ∃ bk, mapBlock kv = some bk := by
            cases e : mapBlock kv with
            | none => exact absurd e hnn
            | some b => exact ⟨b, rfl⟩
          have hkv : kv = .map (some bk) := by rw [HFORM.out, hbk]
          rw [hkv] at e3
          have hkd : DirAt Try.prog kStr wr (.map (some bk)) (at_ β (keptAt D dirs i)) := by rw [← hkv]; exact HDI.out.kept
          have hcr := HROW.out
          rw [cStep_cS] at hcr
          have hcin := HO.out.inP c (List.mem_of_getElem? HCI.out)
          have hone := HO.out.oneP c (List.mem_of_getElem? HCI.out)
          have HKD := Lib.hid hkd
          have HCR := Lib.hid hcr
          have HKV := Lib.hid hkv
          have HAP := Lib.hid hap
          have HCIN := Lib.hid hcin
          have HONE := Lib.hid hone
          have HBK := Lib.hid hbk
          clear hkd hcr hkv hap hnn hcin hone hbk
          go_wp2_with (go_at_call 85; refine (apply_gen HKD.out HCR.out (by simp) (fun s hs => by obtain ⟨s', hs', rfl⟩ := List.mem_map.1 hs; exact named_len (HCIN.out s' hs').1) (by
            have h1 := HKI.out.2.2
            have h2 := HONE.out
            have h3 : (c.map fun s => (s.1, s.2.map β)).countP (fun s => s.2.isSome) = c.countP (fun s => s.2.isSome) := by
              rw [List.countP_map]
              congr 1
              funext s
              cases hs : s.2 <;> simp [hs]
            rw [h3]
            simp only [at_, List.length_map]
            unfold maxLen
            omega)).mono ?_; rintro x wn ⟨rfl, hdn, hkn⟩; have HDN := Lib.hid hdn; have HKN := Lib.hid hkn; clear hdn hkn)
          have hdn := HDN.out
          rw [apply_at, ← HAP.out, ← HKV.out] at hdn
          have hD2 := HDI.out.keeps (w' := wn) (b := bk) (l := keptAt D dirs (i + 1)) HBK.out hdn HKN.out
          have HD2 := Lib.hid hD2
          have HK2 := Lib.hid (HKP.out.trans HKN.out fun k e => .inl (by rw [e]; exact HDI.out.inK bk HBK.out))
          clear hdn hD2 e3 e4
          go_roundw
          case rel => exact ⟨i + 1, by go_num, by omega, HD2.out, HK2.out⟩
          case measure => simp [intOf]; omega
      · have hsame : keptAt D dirs (i + 1) = keptAt D dirs i := by
          have := HKS.out
          rw [List.getElem?_eq_none (by have := HDL.out; omega), if_neg (by decide)] at this
          exact this
        have hD2 := HDI.out
        rw [← hsame] at hD2
        have HD2 := Lib.hid hD2
        have hdi2 : ¬ (i : Int) < (nd : Int) := by omega
        clear hD2 hsame
        go_wp2
        go_roundw
        case rel => exact ⟨i + 1, by go_num, by omega, HD2.out, HKP.out⟩
        case measure => simp [intOf]; omega
    · obtain rfl : n = i := by omega
      have hkk := keptAt_ok HO.out dirs n
      have hcr : D.crash dirs cuts = ⟨D.room, (keptAt D dirs n).zipIdx.map fun p => (D.at p.1.2).left (cuts.getD p.2 0), places (keptAt D dirs n), places (keptAt D dirs n), []⟩ := by
        rw [Dr.D.crash_eq, show keptAt D dirs n = keepSome D.kept D.pend dirs by unfold keptAt; rw [List.take_of_length_le (by have := HN.out; omega)]]
      obtain ⟨ks, hks⟩ : ∃ ks, keptAt D dirs n = ks := ⟨_, rfl⟩
      rw [hks] at hDi hkk hcr
      obtain ⟨q, hq⟩ : ∃ q, ks.length = q := ⟨_, rfl⟩
      have hqN : q ≤ N := by rw [← hq]; exact hkk.2.2
      have hr := HO.out.room
      have HDI := Lib.hid hDi
      have HKP := Lib.hid hkp
      have HKK := Lib.hid hkk
      have HCR := Lib.hid hcr
      have HQ := Lib.hid hq
      have y0 : wr.cell? ⟨d, 0, none⟩ = some (.int .i64 (D.room : Int)) := (c_all hDi.head).1
      clear hDi hkp hkk hcr hq hks y4
      go_upto_region 10 with (go_at_call 57; refine (new_dv D.room hr _).mono ?_; rintro x w1 ⟨dn, ba, bk, rfl, hdn, hDN, hb1⟩)
      have hD1 := HDI.out.same (w' := w1) (fun k hk => hb1.block k (HDI.out.low k hk)) hb1.size
      have HD1 := Lib.hid hD1
      have HDN := Lib.hid hDN
      have HB1 := Lib.hid hb1
      have y3 : w1.cell? ⟨d, 3, none⟩ = some kv := (c_kp hD1.head).1
      clear hD1 hDN hb1 y0
      have hrise : Rise (at_ β ks) := rise_names HKK.out.1 (by simp [at_, Function.comp_def])
      have hl16 : (at_ β ks).length * 16 ≤ 140737488355328 := by have := HQ.out; simp only [at_, List.length_map]; omega
      have HRISE := Lib.hid hrise
      clear hrise
      go_upto_region 11 with (go_at_call 86; refine (names_any HD1.out.kept HRISE.out hl16).mono ?_; rintro x w2 ⟨v2, rfl, hv2, hb2⟩; rw [show (at_ β ks).length = q by rw [← HQ.out]; simp [at_], show (at_ β ks).map (·.1) = ks.map (·.1) by simp [at_, Function.comp_def]] at hv2; obtain ⟨A2, k2, rfl, _, _⟩ := own_form hv2)
      have HV2 := Lib.hid hv2
      have HB2 := Lib.hid hb2
      clear hv2 hb2 y3
      have hS2 := HD1.out.same (w' := w2) (fun k hk => HB2.out.block k (HD1.out.low k hk)) HB2.out.size
      have hN2 := HDN.out.same (w' := w2) (fun k hk => HB2.out.block k hk.2) HB2.out.size
      obtain ⟨bs, hbs⟩ : ∃ bs, (ks.zipIdx.map fun p => (D.at p.1.2).left (cuts.getD p.2 0)) = bs := ⟨_, rfl⟩
      have hbl : bs.length = ks.length := by rw [← hbs]; simp
      have hba : ∀ (j : Nat) (p : Bs × Nat), ks[j]? = some p → bs[j]? = some ((D.at p.2).left (cuts.getD j 0)) := fun j p hj => by rw [← hbs, List.getElem?_map, List.getElem?_zipIdx, hj]; simp
      have hVw : V < wr.heap.size := (Array.getElem?_eq_some_iff.1 ((HKP.out.block V (Array.getElem?_eq_some_iff.1 HVA.out).1 HV1.out).trans HVA.out)).1
      have hV2 : w2.heap[V]? = some (.cells #[.slice Ad nd cd, .slice Ac nc cc] tFate (0, 0)) := (HB2.out.block V (Nat.lt_of_lt_of_le hVw HB1.out.size)).trans ((HB1.out.block V hVw).trans ((HKP.out.block V (Array.getElem?_eq_some_iff.1 HVA.out).1 HV1.out).trans HVA.out))
      have hww : w.heap.size ≤ wr.heap.size := Nat.le_trans HBA.out.size HKP.out.size
      have hC2 : ∀ (j : Nat) (x : Int), j < nc → cuts[j]? = some x → ∃ ad, Ac = some ad ∧ ad.block < w.heap.size ∧ w2.cell? (ad.add j) = some (.int .i64 x) := by
        intro j x hj hx
        obtain ⟨ad, hA, hb, hadd⟩ := HC.out.2 (by omega)
        have h1 : w.cell? (ad.add j) = some (.int .i64 x) := hadd j _ (by simp [cInt, hx])
        have h2 : w2.heap[(ad.add j).block]? = w.heap[(ad.add j).block]? := by
          rw [add_block]
          have k1 := HB2.out.block _ (Nat.lt_of_lt_of_le (Nat.lt_of_lt_of_le hb hww) HB1.out.size)
          have k2 := HB1.out.block _ (Nat.lt_of_lt_of_le hb hww)
          have k3 := HKP.out.block _ (Nat.lt_of_lt_of_le hb HBA.out.size) (HCS.out ad (by omega) hA)
          exact k1.trans (k2.trans (k3.trans (HBA.out.block _ hb)))
        exact ⟨ad, hA, hb, (World.cell?_of_block h2).trans h1⟩
      have hlowS : ∀ k, S k → k < wr.heap.size := HDI.out.low
      have hrow2 : ∀ g, (Value.slice A2 q k2).ownBlock = some g → w1.heap.size ≤ g := fun g hg => own_ge HV2.out hg
      obtain ⟨w0, hw0⟩ : ∃ w0, w0 = wr := ⟨_, rfl⟩
      rw [← hw0] at hVw hww hlowS HB1 HKP HDI
      have hsub : Below w0.heap.size w0 w2 := bch HB1.out HB2.out
      have HS2 := Lib.hid hS2
      have HN2 := Lib.hid hN2
      have HBL := Lib.hid hbl
      have HBAT := Lib.hid hba
      have HVW := Lib.hid hVw
      have HV2A := Lib.hid hV2
      have HWW := Lib.hid hww
      have HC2 := Lib.hid hC2
      have HLS := Lib.hid hlowS
      have HROW2 := Lib.hid hrow2
      have HSUB := Lib.hid hsub
      have HBS := Lib.hid hbs
      have hdnw : w0.heap.size ≤ dn ∧ dn < w1.heap.size := by have := HDN.out.inD; rw [← hw0] at this; exact this
      have HDNW := Lib.hid hdnw
      have hnbk : w0.heap.size ≤ bk ∧ bk < w1.heap.size := by have := HDN.out.inK bk rfl; rw [← hw0] at this; exact this
      have hnba : w0.heap.size ≤ ba ∧ ba < w1.heap.size := by have := HDN.out.inN ba rfl; rw [← hw0] at this; exact this
      have HNBK := Lib.hid hnbk
      have HNBA := Lib.hid hnba
      have hat0 : ∀ k, (w0.heap.size ≤ k ∧ k < w1.heap.size) → (w0.heap.size ≤ k ∧ k < w1.heap.size) ∨ w2.heap.size ≤ k := fun k hk => .inl hk
      have HSN : Hid (DvAt w2 (fun k => w0.heap.size ≤ k ∧ k < w1.heap.size) dn (Dr.D.fresh D.room) (wrap64 ((Dr.D.fresh D.room).used : Int)) (fun _ => 0) (fun _ => .slice none 0 0) (.map (some ba)) (.map (some bk)) (.slice none 0 0) []) := Lib.hid (by have := HN2.out; rw [← hw0] at this; exact this)
      clear hS2 hN2 hbl hba hVw hV2 hww hC2 hlowS hrow2 hsub hbs hw0 hdnw hnbk hnba HD1 HDN HN2
      go_loopw [55] (fun iv wq => ∃ (j : Nat) (Sj : Nat → Prop) (βj : Nat → Nat) (vj : Nat → Value), iv = .int .i64 (j : Int) ∧ j ≤ q ∧ DvAt wq Sj dn (part D.room bs ks j) (wrap64 ((part D.room bs ks j).used : Int)) βj vj (.map (some ba)) (.map (some bk)) (.slice none 0 0) [] ∧ (∀ k, Sj k → (w0.heap.size ≤ k ∧ k < w1.heap.size) ∨ w2.heap.size ≤ k) ∧ Kept w2 wq (fun k => w0.heap.size ≤ k ∧ k < w1.heap.size)) (fun iv _ => q - (intOf iv).toNat)
      case atStart => exact ⟨0, _, _, _, rfl, by omega, HSN.out, hat0, Kept.refl _ _⟩
      case round =>
        obtain ⟨j, Sj, βj, vj, rfl, hj, hDj, hlow, hkq⟩ := hrel
        by_cases hlt : j < q
        · obtain ⟨p, hp⟩ : ∃ p, ks[j]? = some p := ⟨_, List.getElem?_eq_getElem (by have := HQ.out; omega)⟩
          obtain ⟨nm, k⟩ := p
          have hb := HBAT.out j _ hp
          obtain ⟨hnx, hfn⟩ := part_next (r := D.room) HKK.out.1 HBL.out hp hb
          try dsimp only at hb hnx hfn
          have hin : ∀ x ∈ (part D.room bs ks j).now, x.2 < (part D.room bs ks j).bd.length := part_in HBL.out (by have := HQ.out; omega)
          have hik : ∀ x ∈ (part D.room bs ks j).kept, x.2 < (part D.room bs ks j).bd.length := hin
          have hri : Rise (part D.room bs ks j).now := part_rise HKK.out.1 j
          have hln : (part D.room bs ks j).now.length ≤ j := by unfold part; simp only [List.length_take]; omega
          have hlk : (part D.room bs ks j).kept.length ≤ j := hln
          have hpe : (part D.room bs ks j).pend = [] := rfl
          have hkn : named nm = true := (HKK.out.2.1 _ (List.mem_of_getElem? hp)).2
          have hkl : k < D.bd.length := (HKK.out.2.1 _ (List.mem_of_getElem? hp)).1
          have hfind : find ks nm = some k := Rise.get_find HKK.out.1 hp
          obtain ⟨Dj, hDJ⟩ : ∃ Dj, part D.room bs ks j = Dj := ⟨_, rfl⟩
          rw [hDJ] at hnx hfn hin hik hri hln hlk hpe hDj
          have hS3 := HS2.out.same (w' := wr) (fun g hg => hkq.block g (HS2.out.low g hg) (fun h => by have := HLS.out g hg; omega)) hkq.size
          have e0 : wr.cell? ⟨d, 3, none⟩ = some kv := (c_kp hS3.head).1
          have e1 : (Instr.lookup 104 kv (encStr nm) false).run Try.prog wr = .ok (.pointer (some ⟨β k, 0, none⟩)) wr := by
            have := hS3.kept.run_look (named_len hkn)
            rw [find_at, hfind] at this
            exact this
          obtain ⟨e2, e3', _⟩ := c_body (hS3.body k hkl)
          have e3 : wr.cell? ⟨β k, 1, none⟩ = some (.int .i64 ((D.at k).safe : Int)) := e3'
          have hrow : wr.ownsRow 0 tU8 1 (vs k) (D.at k).data.length (cU8 (D.at k).data) := hS3.row k hkl
          clear e3'
          obtain ⟨Ak, ck, hvk, hck1, hck2⟩ := own_form hrow
          rw [hvk] at e2 hrow
          have hVq : wr.heap[V]? = some (.cells #[.slice Ad nd cd, .slice Ac nc cc] tFate (0, 0)) := (hkq.block V (Array.getElem?_eq_some_iff.1 HV2A.out).1 (fun h => by have := HVW.out; omega)).trans HV2A.out
          obtain ⟨_, e4⟩ := c_fate hVq
          obtain ⟨ad2, hA2, _, had2⟩ := (Rd.of_own HV2.out).2 (by omega)
          subst hA2
          have hn2 : w2.cell? (ad2.add j) = some (encStr nm) := (Rd.of_own HV2.out).cell rfl (k := j) (u := encStr nm) hlt (by simp [cStr, hp])
          have hg2 : w1.heap.size ≤ ad2.block := by
            refine HROW2.out ad2.block ?_
            rcases HV2.out.2 with ⟨hv, _⟩ | ⟨g, cap, cur, hv, _⟩
            · cases hv
            · injection hv with hv; injection hv with hv; rw [hv]; rfl
          have e5 : wr.cell? (ad2.add j) = some (encStr nm) := by
            obtain ⟨cur, hc⟩ := own_lt HV2.out (g := ad2.block) (by
              rcases HV2.out.2 with ⟨hv, _⟩ | ⟨g, cap, cur, hv, _⟩
              · cases hv
              · injection hv with hv; injection hv with hv; rw [hv]; rfl)
            refine (World.cell?_of_block (hkq.block _ ?_ ?_)).trans hn2
            · rw [add_block]; exact (Array.getElem?_eq_some_iff.1 hc).1
            · rw [add_block]; omega
          have hsafe := (HO.out.at_ok k).1
          have hlen := (HO.out.at_ok k).2
          obtain ⟨sf, hsf⟩ : ∃ sf, (D.at k).safe = sf := ⟨_, rfl⟩
          obtain ⟨ln, hln0⟩ : ∃ ln, (D.at k).data.length = ln := ⟨_, rfl⟩
          rw [hsf] at hsafe e3
          rw [hln0] at hsafe hlen hrow e2 hck1
          have hlt2 : (j : Int) < (q : Int) := by omega
          obtain ⟨K, hK⟩ : ∃ K : Nat, K = min (max (cuts.getD j 0) 0).toNat (ln - sf) + sf := ⟨_, rfl⟩
          have hKl : K ≤ ln := by omega
          have hleft : (D.at k).left (cuts.getD j 0) = ⟨(D.at k).data.take K, K⟩ := by
            unfold Bd.left
            simp only [hsf, hln0]
            rw [← hK]
          rw [hleft] at hb hnx
          have hcut : wr.ownsRow 0 tU8 1 (.slice Ak K ck) K (cU8 ((D.at k).data.take K)) := by
            rw [show cU8 ((D.at k).data.take K) = (cU8 (D.at k).data).take K by simp [cU8, List.map_take]]
            rcases Nat.lt_or_ge K ln with h | h
            · exact own_front hrow h
            · have e : K = ln := by omega
              rw [e, List.take_of_length_le (by simp [cU8]; omega)]
              exact hrow
          have hxl : ((D.at k).data.take K).length = K := by rw [List.length_take]; omega
          obtain ⟨xb, hxb0⟩ : ∃ xb : Bs, (D.at k).data.take K = xb := ⟨_, rfl⟩
          rw [hxb0] at hb hnx hcut hxl
          subst hxl
          have hKE := hK
          have hs1 : (xb.length : Int) ≤ (ck : Int) := by omega
          have hs2 : (ck : Int) ≤ 9223372036854775807 := by unfold maxLen at hck2; omega
          have HP := Lib.hid hp
          have HB := Lib.hid hb
          have HNX := Lib.hid hnx
          have HFN := Lib.hid hfn
          have HIN := Lib.hid hin
          have HIK := Lib.hid hik
          have HRI := Lib.hid hri
          have HLN := Lib.hid hln
          have HLK := Lib.hid hlk
          have HPE := Lib.hid hpe
          have HNM := Lib.hid hkn
          have HD := Lib.hid hDj
          have HLOW := Lib.hid hlow
          have HKQ := Lib.hid hkq
          have HCUT := Lib.hid hcut
          have HSF := Lib.hid hsf
          have HLN0 := Lib.hid hln0
          have HKE := Lib.hid hKE
          clear hp hb hnx hfn hin hik hri hln hlk hpe hkn hfind hDJ hDj hlow hkq hS3 hrow hvk hVq hn2 hg2 had2 hsf hln0 hK hKE hxb0 hcut hleft
          by_cases hjc : j < nc
          case' pos =>
            obtain ⟨cx, hx⟩ : ∃ x, cuts[j]? = some x := ⟨_, List.getElem?_eq_getElem (by have := HCL.out; omega)⟩
            obtain ⟨adc, hAc, hbc, hc2⟩ := HC2.out j cx hjc hx
            subst hAc
            have e6 : wr.cell? (adc.add j) = some (.int .i64 cx) := by
              have h1 := (Nat.lt_of_lt_of_le hbc HWW.out)
              have h2 := HSUB.out.size
              refine (World.cell?_of_block (HKQ.out.block _ ?_ ?_)).trans hc2
              · rw [add_block]; omega
              · rw [add_block]; omega
            have hxb := HCB.out cx (List.mem_of_getElem? hx)
            have hjc2 : (j : Int) < (nc : Int) := by omega
            have hgx : cuts.getD j 0 = cx := by rw [List.getD_eq_getElem?_getD, hx]; rfl
            have HGX := Lib.hid hgx
            clear hx hc2 hgx
            go_upto_region 16 with (fail)
            go_region
            go_upto_region 18 with (fail)
            rw [show min (max cx 0) ((ln : Int) - (sf : Int)) + (sf : Int) = (xb.length : Int) by have := HKE.out; rw [HGX.out] at this; omega]
            clear e6 hxb hjc2
            go_upto_region 19 with (go_at_call 87; refine (clone_any (base := 0) (x := xb) (show wr.drew.ownsRow 0 tU8 1 (.slice Ak xb.length ck) xb.length (cU8 xb) from HCUT.out) (by omega)).mono ?_; rintro z w5 ⟨x5, rfl, hx5, hb5⟩; obtain ⟨A5, c5, rfl, _, _⟩ := own_form hx5; have HX5 := Lib.hid hx5; have HB50 := Lib.hid hb5; clear hx5 hb5)
          case' neg =>
            have hjc2 : ¬ (j : Int) < (nc : Int) := by omega
            have hgx : cuts.getD j 0 = 0 := by rw [List.getD_eq_getElem?_getD, List.getElem?_eq_none (by have := HCL.out; omega)]; rfl
            have HGX := Lib.hid hgx
            clear hgx
            go_upto_region 18 with (fail)
            rw [show (sf : Int) = (xb.length : Int) by have := HKE.out; rw [HGX.out] at this; omega]
            clear hjc2
            go_upto_region 19 with (go_at_call 87; refine (clone_any (base := 0) (x := xb) HCUT.out (by omega)).mono ?_; rintro z w5 ⟨x5, rfl, hx5, hb5⟩; obtain ⟨A5, c5, rfl, _, _⟩ := own_form hx5; have HX5 := Lib.hid hx5; have HB50 := Lib.hid hb5; clear hx5 hb5)
          all_goals
            have HB5 : Hid (Below wr.heap.size wr w5) := by first | exact HB50 | exact Lib.hid (bch (show Below wr.heap.size wr wr.drew from (Below.refl _ _).drew) HB50.out)
            have HX5' : Hid (w5.ownsRow wr.heap.size tU8 1 (.slice A5 xb.length c5) xb.length (cU8 xb)) := HX5
            clear HX5 HB50
            have hB : Below wr.heap.size wr (w5.alloc (.cells #[.slice A5 xb.length c5, .int .i64 (xb.length : Int)] tBody)) := HB5.out.alloc HB5.out.size _
            have hD2 := HD.out.bodyAdd hB (x := w5.heap.size) (v := .slice A5 xb.length c5) (b := ⟨xb, xb.length⟩) (heap_alloc_new w5 _) HB5.out.size (own_alloc (own_base HX5'.out (Nat.zero_le _)) _) (fun g hg => own_ge HX5'.out hg) HIN.out HIK.out (fun c hc => (by rw [HPE.out] at hc; cases hc))
            have hbx := heap_alloc_new w5 (.cells #[.slice A5 xb.length c5, .int .i64 (xb.length : Int)] tBody)
            obtain ⟨wb, hwb⟩ : ∃ wb, w5.alloc (.cells #[.slice A5 xb.length c5, .int .i64 (xb.length : Int)] tBody) = wb := ⟨_, rfl⟩
            obtain ⟨bx, hbx0⟩ : ∃ bx, w5.heap.size = bx := ⟨_, rfl⟩
            have hbxl : wr.heap.size ≤ bx := by rw [← hbx0]; exact HB5.out.size
            rw [hwb] at hD2 hB hbx ⊢
            rw [hbx0] at hD2 hbx ⊢
            have HD2 := Lib.hid hD2
            have HBB := Lib.hid hB
            have HBX := Lib.hid hbx
            clear hB hD2 hbx hwb hbx0 e0 e1 e2 e3 e4 e5
            have hnl : (at_ (fun i => if i = Dj.bd.length then bx else βj i) Dj.now).length < maxLen := by have := HLN.out; simp only [at_, List.length_map]; unfold maxLen; omega
            have hkl : (at_ (fun i => if i = Dj.bd.length then bx else βj i) Dj.kept).length < maxLen := by have := HLK.out; simp only [at_, List.length_map]; unfold maxLen; omega
            have hnk : nm.length ≤ maxLen := named_len HNM.out
            refine wp_region_any (by kernel_rfl) ?_
            change wpAny _ _ _ _ _ _ _ (World.drew _)
            refine wpAny_of_P (S := fun w' => w'.heap[dn]? = some (.cells #[.int .i64 (Dj.room : Int), .int .i64 (wrap64 (Dj.used : Int)), .map (some ba), .map (some bk), .slice none 0 0] tDrive (0, 0))) (late := [15]) _ _ _ _ ?_
            refine takeT (i := 0) (v := ?_) rfl (by kernel_rfl) (by kernel_rfl) (by kernel_rfl) (by kernel_rfl) (fun _ _ _ h => h) (HD2.out.head) (.inl ⟨by rfl, fun w => .inl ?hy0⟩) ?_; case hy0 => (go_simp; try with_reducible rfl)
            try go_frame
            refine takeT (i := 1) (v := ?_) rfl (by kernel_rfl) (by kernel_rfl) (by kernel_rfl) (by kernel_rfl) (fun _ _ _ h => h) (HD2.out.head) (.inl ⟨by rfl, fun w => .inl ?hy1⟩) ?_; case hy1 => (go_simp; try with_reducible rfl)
            try go_frame
            refine takeT (i := 2) (v := ?_) rfl (by kernel_rfl) (by kernel_rfl) (by kernel_rfl) (by kernel_rfl) (fun _ _ _ h => h) (HD2.out.head) (.inl ⟨by rfl, fun w => .inl ?hy2⟩) ?_; case hy2 => (go_simp; try with_reducible rfl)
            try go_frame
            refine takePT 8 (i := 3) (v := ?_) rfl (by kernel_rfl) (by kernel_rfl) (by kernel_rfl) (by kernel_rfl) (by kernel_rfl) (by kernel_rfl) (fun _ _ _ h => h) (HD2.out.head) (.inl ⟨by rfl, fun w hw => .inl ?hy3⟩) ?_; case hy3 => (have y2 := (c_now hw).2.1; have y3 := (c_maps hw).2.1; clear hw; go_simp; try with_reducible rfl)
            try go_frame
            refine takeT (i := 4) (v := ?_) rfl (by kernel_rfl) (by kernel_rfl) (by kernel_rfl) (by kernel_rfl) (fun _ _ _ h => h) (HD2.out.head) (.inl ⟨by rfl, fun w => .inl ?hy4⟩) ?_; case hy4 => (go_simp; try with_reducible rfl)
            try go_frame
            refine takeT (i := 5) (v := ?_) rfl (by kernel_rfl) (by kernel_rfl) (by kernel_rfl) (by kernel_rfl) (fun _ _ _ h => h) (HD2.out.head) (.inl ⟨by rfl, fun w => .inl ?hy5⟩) ?_; case hy5 => (go_simp; try with_reducible rfl)
            try go_frame
            refine takeT (i := 6) (v := ?_) rfl (by kernel_rfl) (by kernel_rfl) (by kernel_rfl) (by kernel_rfl) (fun _ _ _ h => h) (HD2.out.head) (.inl ⟨by rfl, fun w => .inl ?hy6⟩) ?_; case hy6 => (go_simp; try with_reducible rfl)
            try go_frame
            refine takeT (i := 7) (v := ?_) rfl (by kernel_rfl) (by kernel_rfl) (by kernel_rfl) (by kernel_rfl) (fun _ _ _ h => h) (HD2.out.head) (.inl ⟨by rfl, fun w => .inl ?hy7⟩) ?_; case hy7 => (go_simp; try with_reducible rfl)
            try go_frame
            refine takePT 8 (i := 8) (v := ?_) rfl (by kernel_rfl) (by kernel_rfl) (by kernel_rfl) (by kernel_rfl) (by kernel_rfl) (by kernel_rfl) (fun _ _ _ h => h) (HD2.out.head) (.inl ⟨by rfl, fun w hw => .inl ?hy8⟩) ?_; case hy8 => (have y2 := (c_now hw).2.1; have y3 := (c_maps hw).2.1; clear hw; go_simp; try with_reducible rfl)
            try go_frame
            refine takeT (i := 9) (v := ?_) rfl (by kernel_rfl) (by kernel_rfl) (by kernel_rfl) (by kernel_rfl) (fun _ _ _ h => h) (HD2.out.head) (.inl ⟨by rfl, fun w => .inl ?hy9⟩) ?_; case hy9 => (go_simp; try with_reducible rfl)
            try go_frame
            refine takeT (i := 10) (v := ?_) rfl (by kernel_rfl) (by kernel_rfl) (by kernel_rfl) (by kernel_rfl) (fun _ _ _ h => h) (HD2.out.head) (.inl ⟨by rfl, fun w => .inl ?hy10⟩) ?_; case hy10 => (go_simp; try with_reducible rfl)
            try go_frame
            refine takeT (i := 11) (v := ?_) rfl (by kernel_rfl) (by kernel_rfl) (by kernel_rfl) (by kernel_rfl) (fun _ _ _ h => h) (HD2.out.head) (.inl ⟨by rfl, fun w => .inl ?hy11⟩) ?_; case hy11 => (go_simp; try with_reducible rfl)
            try go_frame
            refine forcedP (i := 12) rfl rfl (by kernel_rfl) (fun K hK => ?_)
            obtain ⟨va, sa, wc, hra, hga, hsa, hta⟩ := DirAt.entry (w := wb.drew) (HD2.out.now.same fun b _ => rfl) hnk hnl bx
            have hdc : wc.heap[dn]? = wb.heap[dn]? := hga.block dn (Array.getElem?_eq_some_iff.1 HD2.out.head).1 (fun e => HD2.out.d_not.1 ba rfl (by injection e with e; exact e.symm))
            go_simp
            refine hK _ _ (hdc.trans HD2.out.head) ?_; clear hK K
            try go_frame
            refine takeT (i := 13) (v := ?_) rfl (by kernel_rfl) (by kernel_rfl) (by kernel_rfl) (by kernel_rfl) (fun _ _ _ h => h) (hdc.trans HD2.out.head) (.inl ⟨by rfl, fun w => .inl ?hy13⟩) ?_; case hy13 => (go_simp; try with_reducible rfl)
            try go_frame
            refine forcedP (i := 14) rfl rfl (by kernel_rfl) (fun K hK => ?_)
            obtain ⟨wd, hrb, hdd, hgd, hsd⟩ := hta wc rfl
            have hde : wd.heap[dn]? = wb.heap[dn]? := (hgd.block dn (by rw [hsa]; exact (Array.getElem?_eq_some_iff.1 HD2.out.head).1) (fun e => HD2.out.d_not.1 ba rfl (by injection e with e; exact e.symm))).trans hdc
            go_simp
            refine hK _ _ (hde.trans HD2.out.head) ?_; clear hK K
            try go_frame
            refine lateP (i := 15) rfl rfl (by kernel_rfl) (by kernel_rfl) (fun K hK => ?_)
            have hbk : bk ≠ ba := fun e => HD2.out.apart ba rfl (by rw [← e]; rfl)
            have heq : wd.heap[bk]? = wb.heap[bk]? := (hgd.block bk (by rw [hsa]; exact HD2.out.kept.lt rfl) (fun e => hbk (by injection e with e))).trans (hga.block bk (HD2.out.kept.lt rfl) (fun e => hbk (by injection e with e)))
            have hkd := HD2.out.kept.same (w' := wd) (fun b hb => (by (obtain rfl : bk = b := (by simpa [mapBlock] using hb)); exact heq))
            obtain ⟨vb, sb, we, hrc, hgc, hsc, htc⟩ := DirAt.entry hkd hnk hkl bx
            go_simp
            refine hK _ _ ?_; clear hK K
            try go_frame
            refine takeL (i := 16) (v := ?_) rfl (by kernel_rfl) (by kernel_rfl) (by kernel_rfl) (fun _ _ _ h => h) (.inl ⟨by rfl, fun w => .inl ?hy16⟩) ?_; case hy16 => (go_simp; try with_reducible rfl)
            try go_frame
            refine forcedL (i := 17) rfl rfl (by kernel_rfl) (fun K hK => ?_)
            obtain ⟨wf, hrd, hdf, hgf, hsf⟩ := htc we rfl
            go_simp
            refine hK _ _ ?_; clear hK K
            try go_frame
            refine wpAny_done (by kernel_rfl) ?_ _
            have hβ : (some bx : Option Nat) = (some Dj.bd.length : Option Nat).map (fun i => if i = Dj.bd.length then bx else βj i) := by simp
            rw [hβ, put_at] at hdd hdf
            have hK1 : Kept wb wd (fun k => k = ba) := (((Kept.refl wb (fun k => k = ba)).below (show Below wb.heap.size wb wb.drew from (Below.refl _ _).drew)).grown hga fun b hb => .inl (by injection hb with hb; exact hb.symm)).grown hgd fun b hb => .inl (by injection hb with hb; exact hb.symm)
            have hS1 := HD2.out.stands (w' := wd) (b := ba) rfl hdd hK1
            have hK2 : Kept wd wf (fun k => k = bk) := ((Kept.refl wd (fun k => k = bk)).grown hgc fun b hb => .inl (by injection hb with hb; exact hb.symm)).grown hgf fun b hb => .inl (by injection hb with hb; exact hb.symm)
            have hS2 := hS1.keeps (w' := wf) (b := bk) rfl hdf hK2
            have hKf : Kept w2 wf (fun k => w0.heap.size ≤ k ∧ k < w1.heap.size) := ((HKQ.out.below HBB.out).trans hK1 (fun k e => .inl (by rw [e]; exact HNBA.out))).trans hK2 (fun k e => .inl (by rw [e]; exact HNBK.out))
            have HS := Lib.hid hS2
            have HKF := Lib.hid hKf
            clear hβ hdd hdf hK1 hK2 hS1 hS2 hKf hga hgd hgc hgf hra hrb hrc hrd hdc hde hkd heq hta htc hsa hsd hsc hsf hbk
            have e1 : wf.cell? ⟨dn, 1, none⟩ = some (.int .i64 (wrap64 (Dj.used : Int))) := (c_now HS.out.head).1
            have e2 : wf.frozen? ⟨dn, 1, none⟩ = false := (c_now HS.out.head).2.2.2.1
            go_upto_region 21 with (fail)
            have hu : wrap64 (wrap64 (Dj.used : Int) + (xb.length : Int)) = wrap64 (((⟨Dj.room, Dj.bd ++ [⟨xb, xb.length⟩], put Dj.now nm (some Dj.bd.length), put Dj.kept nm (some Dj.bd.length), []⟩ : Dr.D).used : Nat) : Int) := by
              have h1 := sumL_put (bd := Dj.bd ++ [⟨xb, xb.length⟩]) HRI.out nm (some Dj.bd.length)
              rw [HFN.out, sumL_snoc HIN.out] at h1
              have h2 : lenOf (Dj.bd ++ [⟨xb, xb.length⟩]) (some Dj.bd.length) = xb.length := by simp [lenOf, lenAt]
              rw [h2] at h1
              have h3 : (⟨Dj.room, Dj.bd ++ [⟨xb, xb.length⟩], put Dj.now nm (some Dj.bd.length), put Dj.kept nm (some Dj.bd.length), []⟩ : Dr.D).used = Dj.used + xb.length := h1
              rw [h3, wrap_add]
              exact congrArg wrap64 (by omega)
            have hfin := (HS.out.used (wrap64 (wrap64 (Dj.used : Int) + (xb.length : Int)))).same (w' := (wf.setCell ⟨dn, 1, none⟩ (.int .i64 (wrap64 (wrap64 (Dj.used : Int) + (xb.length : Int)))))) (fun k _ => rfl) (Nat.le_refl _)
            rw [show (⟨Dj.room, Dj.bd ++ [⟨xb, xb.length⟩], put Dj.now nm (some Dj.bd.length), put Dj.kept nm (some Dj.bd.length), Dj.pend⟩ : Dr.D) = part D.room bs ks (j + 1) by rw [HPE.out, HNX.out]] at hfin
            rw [show wrap64 (wrap64 (Dj.used : Int) + (xb.length : Int)) = wrap64 ((part D.room bs ks (j + 1)).used : Int) by rw [HNX.out]; exact hu] at hfin
            have HFIN := Lib.hid hfin
            have hlow2 : ∀ k, ((Sj k ∨ k = bx ∨ (Value.slice A5 xb.length c5).ownBlock = some k) → (w0.heap.size ≤ k ∧ k < w1.heap.size) ∨ w2.heap.size ≤ k) := by
              have h0 := HKQ.out.size
              rintro k (hk | rfl | hk)
              · exact HLOW.out k hk
              · exact .inr (by omega)
              · have h1 : wr.heap.size ≤ k := own_ge HX5'.out hk; exact .inr (by omega)
            have HLOW2 := Lib.hid hlow2
            have hKf2 := HKF.out.set (p := ⟨dn, 1, none⟩) (by have := HDNW.out; exact this) (.int .i64 (wrap64 (wrap64 (Dj.used : Int) + (xb.length : Int))))
            rw [show wrap64 (wrap64 (Dj.used : Int) + (xb.length : Int)) = wrap64 ((part D.room bs ks (j + 1)).used : Int) by rw [HNX.out]; exact hu] at hKf2
            have HKF2 := Lib.hid hKf2
            rw [show wrap64 (wrap64 (Dj.used : Int) + (xb.length : Int)) = wrap64 ((part D.room bs ks (j + 1)).used : Int) by rw [HNX.out]; exact hu]
            clear hfin hlow2 hKf2 hu e1 e2
            go_wp2
            go_roundw
            case rel => exact ⟨j + 1, _, _, _, by go_num, by omega, HFIN.out, HLOW2.out, HKF2.out⟩
            case measure => simp [intOf]; omega
        · obtain rfl : q = j := by omega
          rw [show part D.room bs ks q = D.crash dirs cuts by rw [HCR.out, HBS.out]; rw [← HQ.out]; exact part_all HBL.out] at hDj
          have hS3 := HS2.out.same (w' := wr) (fun g hg => hkq.block g (HS2.out.low g hg) (fun h => by have := HLS.out g hg; omega)) hkq.size
          obtain ⟨x0, x1, x2, x3, x4, y0, y1, y2, y3, y4⟩ := hDj.cells
          obtain ⟨e0, e1, e2, e3, e4, g0, g1, g2, g3, g4⟩ := c_all hS3.head
          have hdw : d < w0.heap.size := HLS.out d HS2.out.inD
          have hqd : d ≠ dn := by have := HDNW.out; omega
          have hK : Kept w wr S := (((((Kept.of_below S HBA.out).trans HKP.out fun k hk => .inl hk).below HB1).below HB2.out).trans hkq fun k hk => .inr (Nat.le_trans HWW.out hk.1))
          have HS3 := Lib.hid hS3
          have HDJ := Lib.hid hDj
          have HKK2 := Lib.hid hK
          have HLOW := Lib.hid hlow
          clear hS3 hDj hK hlow hkq
          go_wp2
          go_ret
          have hm := HDJ.out.moved (d' := d) (w' := set5 wr d (.int .i64 ((D.crash dirs cuts).room : Int)) (.int .i64 (wrap64 ((D.crash dirs cuts).used : Int))) (.map (some ba)) (.map (some bk)) (.slice none 0 0)) (fun h => by rcases HLOW.out d h with h | h <;> have := HSUB.out.size <;> omega) (set5_at HS3.out.head) (fun k hk => set5_off _ _ _ _ _ (fun e => by subst e; rcases HLOW.out k hk with h | h <;> have := HSUB.out.size <;> omega)) (by rw [set5_size]; exact Nat.le_refl _)
          refine ⟨rfl, Turn.of HOK.out hm rfl (set5_kept HKK2.out HS2.out.inD _ _ _ _ _) ?_⟩
          rintro k (hk | rfl)
          · have h1 := HWW.out; have h2 := HSUB.out.size; rcases HLOW.out k hk with h | h <;> exact .inr (by omega)
          · exact .inl HS2.out.inD
end
end Go.Proofs.Ytelgcmcnebncmaa.Dr
