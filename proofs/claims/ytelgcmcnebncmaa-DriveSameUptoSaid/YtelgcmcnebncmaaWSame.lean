/- The walk of DriveSame. -/
import Derived.Test.YtelgcmcnebncmaaTwo
import Derived.Test.YtelgcmcnebncmaaFill2
import Derived.Test.YtelgcmcnebncmaaL8
import Derived.Test.YtelgcmcnebncmaaMix
import Derived.LaidEqlPtr
namespace Go.Proofs.Ytelgcmcnebncmaa.Dr
set_option linter.unusedVariables false
open Go.RowKit Go.Proofs Go.Deep Go.Proofs.Ytelgcmcnebncmaa.Ring

theorem made_one (n : Nat) (v : Value) : (madeCells #[v] n).toList = List.replicate n v := by
  unfold madeCells
  apply List.ext_getElem
  · simp
  · intro i h1 h2
    simp [Nat.mod_one]
theorem own_of {W : World} {g n : Nat} {M : Array Value} {e : TypeId} {xs : List Value} (h : W.heap[g]? = some (.cells M e (0, 0))) (hl : M.toList = xs) (hx : xs.length = n) (hn : n ≤ maxLen) : W.ownsRow 0 e 1 (.slice (some ⟨g, 0, none⟩) n n) n xs := by
  have hs : M.size = n := by rw [← hx, ← hl]; simp
  exact ⟨by omega, .inr ⟨g, n, M, rfl, Nat.zero_le _, h, Nat.le_refl _, hn, by omega, by rw [hl, Nat.mul_one, ← hx, List.take_length]⟩⟩
theorem hand_of {W : World} {g gb gd gc : Nat} {MB MD MC : Array Value} (hMB : madeCells #[.int .u8 0] 4096 = MB) (hMD : madeCells #[.bool false] 64 = MD) (hMC : madeCells #[.int .i64 0] 64 = MC)
    (hg : W.heap[g]? = some (.cells #[.slice (some ⟨gb, 0, none⟩) 4096 4096, .slice (some ⟨gd, 0, none⟩) 64 64, .slice (some ⟨gc, 0, none⟩) 64 64] tHand (0, 0)))
    (hb : W.heap[gb]? = some (.cells MB tU8 (0, 0))) (hd : W.heap[gd]? = some (.cells MD tBool (0, 0))) (hc : W.heap[gc]? = some (.cells MC tInt (0, 0))) : HandAt W g gb gd gc := by
  refine ⟨hg, ⟨List.replicate 4096 0, own_of hb ?_ ?_ ?_⟩, ⟨List.replicate 64 false, own_of hd ?_ ?_ ?_⟩, ⟨List.replicate 64 0, own_of hc ?_ ?_ ?_⟩⟩
  · rw [← hMB, made_one]; unfold cU8; rw [List.map_replicate]; congr 1
  · unfold cU8; rw [List.length_map, List.length_replicate]
  · unfold maxLen; decide
  · rw [← hMD, made_one]; simp [cBool]
  · simp [cBool]
  · unfold maxLen; decide
  · rw [← hMC, made_one]; simp [cInt]
  · simp [cInt]
  · unfold maxLen; decide
theorem lay4 (w : World) (o1 o2 o3 o4 : Obj) : ((((w.alloc o1).alloc o2).alloc o3).alloc o4).heap[w.heap.size]? = some o1 ∧ ((((w.alloc o1).alloc o2).alloc o3).alloc o4).heap[w.heap.size + 1]? = some o2 ∧ ((((w.alloc o1).alloc o2).alloc o3).alloc o4).heap[w.heap.size + 1 + 1]? = some o3 ∧
    ((((w.alloc o1).alloc o2).alloc o3).alloc o4).heap[w.heap.size + 1 + 1 + 1]? = some o4 ∧ Below w.heap.size w ((((w.alloc o1).alloc o2).alloc o3).alloc o4) := by
  have s1 : (w.alloc o1).heap.size = w.heap.size + 1 := by simp
  have s2 : ((w.alloc o1).alloc o2).heap.size = w.heap.size + 1 + 1 := by simp
  have s3 : (((w.alloc o1).alloc o2).alloc o3).heap.size = w.heap.size + 1 + 1 + 1 := by simp
  refine ⟨?_, ?_, ?_, ?_, ((((Below.refl _ _).alloc (Nat.le_refl _) _).alloc (by omega) _).alloc (by omega) _).alloc (by omega) _⟩
  · exact (heap_alloc_old _ _ (by omega)).trans ((heap_alloc_old _ _ (by omega)).trans ((heap_alloc_old _ _ (by omega)).trans (heap_alloc_new _ _)))
  · have := heap_alloc_new (w.alloc o1) o2
    rw [s1] at this
    exact (heap_alloc_old _ _ (by omega)).trans ((heap_alloc_old _ _ (by omega)).trans this)
  · have := heap_alloc_new ((w.alloc o1).alloc o2) o3
    rw [s2] at this
    exact (heap_alloc_old _ _ (by omega)).trans this
  · have := heap_alloc_new (((w.alloc o1).alloc o2).alloc o3) o4
    rw [s3] at this
    exact this
theorem act_store (w : World) (a : Ac) (A : Option Addr) (n c : Nat) (Ad : Option Addr) (nd cd : Nat) (Au : Option Addr) (nu cu : Nat) : (storeCells ⟨w.heap.size, 0, none⟩ [.int .i64 a.kind, .string ⟨a.name.toArray⟩, .string ⟨a.dst.toArray⟩, .int .i64 a.n, .slice A n c, .slice Ad nd cd, .slice Au nu cu] 0).run Try.prog (w.alloc (.cells #[.int .i64 0, .string ⟨#[]⟩, .string ⟨#[]⟩, .int .i64 0, .slice none 0 0, .slice none 0 0, .slice none 0 0] tAct)) =
    .ok () (w.alloc (.cells #[.int .i64 a.kind, .string ⟨a.name.toArray⟩, .string ⟨a.dst.toArray⟩, .int .i64 a.n, .slice A n c, .slice Ad nd cd, .slice Au nu cu] tAct)) :=
  run_storeCells_new (P := Try.prog) w tAct #[.int .i64 0, .string ⟨#[]⟩, .string ⟨#[]⟩, .int .i64 0, .slice none 0 0, .slice none 0 0, .slice none 0 0] #[.int .i64 a.kind, .string ⟨a.name.toArray⟩, .string ⟨a.dst.toArray⟩, .int .i64 a.n, .slice A n c, .slice Ad nd cd, .slice Au nu cu] (by kernel_rfl) rfl (by simp [Value.oneCell'])
/-- A block that holds an act. -/
def ActAt (w : World) (P : Nat) (x : Av) : Prop := w.heap[P]? = some (.cells x.cells.toArray tAct (0, 0))
theorem ActAt.range {w : World} {P : Nat} {x : Av} (h : ActAt w P x) : w.rangeAt P 0 x.cells := by
  intro j v hv
  rw [Nat.zero_add, cell_of_row w P _ _ _ _ h]
  simpa using hv
theorem ActAt.keep {w w' : World} {P : Nat} {x : Av} {H : Nat → Prop} (h : ActAt w P x) (hk : Keeps H w w') (hP : H P) : ActAt w' P x := (hk.2 P hP (Array.getElem?_eq_some_iff.1 h).1).trans h
theorem ActAt.below {w w' : World} {P : Nat} {x : Av} (h : ActAt w P x) (hb : Below w.heap.size w w') : ActAt w' P x := (hb.block P (Array.getElem?_eq_some_iff.1 h).1).trans h
theorem Now.pending {w0 w : World} {H : Nat → Prop} {d e g gb gd gc m N m' N' k : Nat} {D E : Dr.D} (h : Now w0 w H d e g gb gd gc D E m N m' N') (hk : D.pend.length = k) : Calls Try.prog 22 #[.pointer (some ⟨d, 0, none⟩)] w fun x w' => x = .returned (.int .i64 (k : Int)) ∧ w = w' := by
  subst hk
  obtain ⟨S, h1⟩ := h.dv
  exact pending_any h1
theorem dv_same {w w' : World} {S : Nat → Prop} {d m N : Nat} {D : Dr.D} (h : Dv w S d D m N) (hw : ∀ k, S k → w'.heap[k]? = w.heap[k]?) (hs : w.heap.size ≤ w'.heap.size) : Dv w' S d D m N := by
  obtain ⟨h0, β, vs, nv, kv, pv, ss, h1⟩ := h
  exact ⟨h0, β, vs, nv, kv, pv, ss, h1.same hw hs⟩
theorem now_start {w1 w2 w3 wc : World} {d e g gb gd gc m N : Nat} {D : Dr.D} (h1 : Own w1 w2 d D m N) (h2 : Own w2 w3 e D m N) (hb : Below w3.heap.size w3 wc) (hh : HandAt wc g gb gd gc) (hg : w3.heap.size ≤ g ∧ w3.heap.size ≤ gb ∧ w3.heap.size ≤ gd ∧ w3.heap.size ≤ gc) :
    Now w1 wc (fun k => w3.heap.size ≤ k ∧ k < wc.heap.size) d e g gb gd gc D D m N m N := by
  obtain ⟨S, a1, a2, a3⟩ := h1
  obtain ⟨T, b1, b2, b3⟩ := h2
  have s2 := a2.size
  have s3 := b2.size
  have hn := hh.ne
  refine ⟨⟨S, T, a1.below (b2.trans (hb.mono s3)), b1.below hb, fun k hS => ⟨a3 k hS, ?_, fun hT => ?_⟩, fun k hT => ⟨Nat.le_trans s2 (b3 k hT), ?_, fun hS => ?_⟩⟩, a2.trans ((b2.mono s2).trans (hb.mono (by omega))), fun k hk => ⟨by omega, hk.2⟩, hh, ⟨by omega, by omega, by omega, by omega⟩⟩
  · have := a1.low k hS; omega
  · have := a1.low k hS; have := b3 k hT; omega
  · have := b1.low k hT; omega
  · have := a1.low k hS; have := b3 k hT; omega
set_option maxRecDepth 100000 in
set_option maxHeartbeats 8000000 in
theorem same_any (k : Kv) (w : World) (hk : k.In w w.heap.size) : Calls Try.prog 9 #[.agg k.cells.toArray] w fun x w' => x = .returned (.bool true) ∧ Below w.heap.size w w' := by
  obtain ⟨V, hV⟩ : ∃ V, w.heap.size = V := ⟨_, rfl⟩
  rw [hV] at hk ⊢
  have HK := Lib.hid hk
  clear hk
  go_enter Try.func9, Try.ntmps9
  go_upto_region 1 with (fail)
  obtain ⟨w0, hw0⟩ : ∃ w0, w.alloc (.cells k.cells.toArray tKeep) = w0 := ⟨_, rfl⟩
  have hA0 : w0.heap[V]? = some (.cells k.cells.toArray tKeep (0, 0)) := by
    rw [← hw0, ← hV]
    exact heap_alloc_new _ _
  have hb0 : Below V w w0 := by
    rw [← hw0, ← hV]
    exact (Below.refl _ _).alloc (Nat.le_refl _) _
  have hs0 : w0.heap.size = V + 1 := by rw [← hw0, ← hV]; simp
  rw [hw0]
  clear hw0 hV
  have HA0 := Lib.hid hA0
  have HB0 := Lib.hid hb0
  have HS0 := Lib.hid hs0
  clear hA0 hb0 hs0
  go_upto_region 2 with (go_at_call 25; refine (awake_any w0).mono ?_; rintro x w1 ⟨rfl, hb1⟩; have HB1 := Lib.hid hb1; clear hb1)
  have hbw1 : Below V w w1 := HB0.out.trans (HB1.out.mono (by have := HS0.out; omega))
  have hbox : ∀ wr, Below (V + 1) w1 wr → wr.rangeAt V 0 k.cells := fun wr hb => keep_box (((hb.block V (by have := HB1.out.size; have := HS0.out; omega)).trans (HB1.out.block V (by have := HS0.out; omega))).trans HA0.out)
  have hV1 : V + 1 ≤ w1.heap.size := by have := HB1.out.size; have := HS0.out; omega
  have hk1 : k.In w1 V := HK.out.below hbw1
  have HBW1 := Lib.hid hbw1
  have HBOX := Lib.hid hbox
  have HV1 := Lib.hid hV1
  have HK1 := Lib.hid hk1
  clear hbw1 hbox hV1 hk1 HK HA0 HB0 HB1 HS0
  have hst : w1.rangeAt V 0 [.int .i64 k.how, .int .i64 k.room, .slice k.Af k.nf k.cf] := by
    intro j v hv
    refine HBOX.out w1 (Below.refl _ _) j v ?_
    match j, hv with
    | 0, hv => exact hv
    | 1, hv => exact hv
    | 2, hv => exact hv
    | j + 3, hv => cases hv
  have HST := Lib.hid hst
  clear hst
  go_upto_region 5 with (first
    | (refine wpList_load_mid rfl tStart (.tmp 27) rfl V 0 rfl [.int .i64 k.how, .int .i64 k.room, .slice k.Af k.nf k.cf] _ HST.out Try.underlying24 rfl (by kernel_rfl) ?_)
    | (go_at_call 12; refine (made_any (how := k.how) (room := k.room) HK1.out.files (by have := HV1.out; omega)).mono ?_; rintro x w2 hmade; obtain ⟨p, hx, hp⟩ := hmade.ptr; subst hx; have HP := Lib.hid hp; clear hp hmade))
  obtain ⟨hb2, hp⟩ := HP.out
  have hst2 : w2.rangeAt V 0 [.int .i64 k.how, .int .i64 k.room, .slice k.Af k.nf k.cf] := by
    intro j v hv
    refine HBOX.out w2 (hb2.mono HV1.out) j v ?_
    match j, hv with
    | 0, hv => exact hv
    | 1, hv => exact hv
    | 2, hv => exact hv
    | j + 3, hv => cases hv
  have hk2 : k.In w2 V := HK1.out.below (hb2.mono (by have := HV1.out; omega))
  have HST2 := Lib.hid hst2
  have HK2 := Lib.hid hk2
  have HB2 := Lib.hid hb2
  have HPP := Lib.hid hp
  clear hst2 hk2 hb2 hp HST HP
  go_upto_region 6 with (first
    | (refine wpList_load_mid rfl tStart (.tmp 33) rfl V 0 rfl [.int .i64 k.how, .int .i64 k.room, .slice k.Af k.nf k.cf] _ HST2.out Try.underlying24 rfl (by kernel_rfl) ?_)
    | (go_at_call 12; refine (made_any (how := k.how) (room := k.room) HK2.out.files (by have := HV1.out; have := HB2.out.size; omega)).mono ?_; rintro x w3 hmade; obtain ⟨p2, hx, hp2⟩ := hmade.ptr; subst hx; have HP2 := Lib.hid hp2; clear hp2 hmade))
  obtain ⟨hb3, hp2⟩ := HP2.out
  have hp := HPP.out
  have HB3 := Lib.hid hb3
  clear hb3 HPP HP2 HST2
  rcases hp with ⟨hn, rfl⟩ | ⟨D, d, hD, rfl, hown⟩
  · rcases hp2 with ⟨_, rfl⟩ | ⟨D', _, hD', _, _⟩
    · clear HBOX
      go_wp2
      go_ret
      exact ⟨rfl, HBW1.out.trans ((HB2.out.mono (by have := HV1.out; omega)).trans (HB3.out.mono (by have := HV1.out; have := HB2.out.size; omega)))⟩
    · rw [hn] at hD'; cases hD'
  rcases hp2 with ⟨hn, _⟩ | ⟨D', e, hD', rfl, hown2⟩
  · rw [hD] at hn; cases hn
  rw [hD] at hD'
  injection hD' with hD'
  subst hD'
  have HO1 := Lib.hid hown
  have HO2 := Lib.hid hown2
  clear hown hown2 hD
  obtain ⟨i0, hi0, hz0, hz1, hz2⟩ := info_parts infoU8
  obtain ⟨j0, hj0, hy0, hy1, hy2⟩ := info_parts infoBool
  obtain ⟨k0, hk0, hx0, hx1, hx2⟩ := info_parts infoInt
  obtain ⟨MB, hMB⟩ : ∃ M, madeCells #[.int .u8 0] 4096 = M := ⟨_, rfl⟩
  obtain ⟨MD, hMD⟩ : ∃ M, madeCells #[.bool false] 64 = M := ⟨_, rfl⟩
  obtain ⟨MC, hMC⟩ : ∃ M, madeCells #[.int .i64 0] 64 = M := ⟨_, rfl⟩
  have m1 : ∀ W : World, (Instr.makeSlice 35 (.int .i64 4096) (.int .i64 4096)).run Try.prog W = .ok (.slice (some ⟨W.heap.size, 0, none⟩) 4096 4096) (W.alloc (.cells MB tU8)) := fun W => by
    have h := run_make (P := Try.prog) (w := W) 35 tU8 i0 (.int .u8 0) Try.underlying35 hi0 hz0 .i64 .i64 4096 4096 (by omega) (by omega) (by rw [hz2]; omega) (by omega)
    rw [hz1] at h
    rw [← hMB]
    exact h
  have m2 : ∀ W : World, (Instr.makeSlice 26 (.int .i64 64) (.int .i64 64)).run Try.prog W = .ok (.slice (some ⟨W.heap.size, 0, none⟩) 64 64) (W.alloc (.cells MD tBool)) := fun W => by
    have h := run_make (P := Try.prog) (w := W) 26 tBool j0 (.bool false) Try.underlying26 hj0 hy0 .i64 .i64 64 64 (by omega) (by omega) (by rw [hy2]; omega) (by omega)
    rw [hy1] at h
    rw [← hMD]
    exact h
  have m3 : ∀ W : World, (Instr.makeSlice 27 (.int .i64 64) (.int .i64 64)).run Try.prog W = .ok (.slice (some ⟨W.heap.size, 0, none⟩) 64 64) (W.alloc (.cells MC tInt)) := fun W => by
    have h := run_make (P := Try.prog) (w := W) 27 tInt k0 (.int .i64 0) Try.underlying27 hk0 hx0 .i64 .i64 64 64 (by omega) (by omega) (by rw [hx2]; omega) (by omega)
    rw [hx1] at h
    rw [← hMC]
    exact h
  clear hi0 hz0 hz1 hz2 hj0 hy0 hy1 hy2 hk0 hx0 hx1 hx2
  have HMB := Lib.hid hMB
  have HMD := Lib.hid hMD
  have HMC := Lib.hid hMC
  clear hMB hMD hMC
  go_upto_region 8 with (fail)
  go_cut [8] from 56 to 60 (fun hv wr => ∃ g gb gd gc, hv = .pointer (some ⟨g, 0, none⟩) ∧ HandAt wr g gb gd gc ∧ Below w3.heap.size w3 wr ∧ w3.heap.size ≤ g ∧ w3.heap.size ≤ gb ∧ w3.heap.size ≤ gd ∧ w3.heap.size ≤ gc)
  case first =>
    go_region
    all_goals (
      go_wp2
      go_meet
      refine ⟨_, _, _, _, rfl, hand_of HMB.out HMD.out HMC.out (lay4 w3 _ _ _ _).2.2.2.1 ?_ ?_ ?_, (lay4 w3 _ _ _ _).2.2.2.2.drew, ?_, ?_, ?_, ?_⟩
      any_goals omega
      all_goals first | exact (lay4 w3 _ _ _ _).1 | exact (lay4 w3 _ _ _ _).2.1 | exact (lay4 w3 _ _ _ _).2.2.1)
  case rest =>
    obtain ⟨g, gb, gd, gc, rfl, hh, hbc, q1, q2, q3, q4⟩ := hcut
    have hnow := now_start HO1.out HO2.out hbc hh ⟨q1, q2, q3, q4⟩
    have HNOW := Lib.hid hnow
    have hna : k.na ≤ 1048576 := HK1.out.acts.2.2
    clear hnow hh hbc q1 q2 q3 q4 HO1 HO2 HMB HMD HMC HK2 HB2 HB3 m1 m2 m3
    go_upto_region 10 with (fail)
    obtain ⟨e3, _, _, _, _⟩ := keep_cells (HBOX.out wc (HNOW.out.back.mono HV1.out))
    go_loopw [9] (fun iv wr => ∃ (i : Nat) (H : Nat → Prop) (D' : Dr.D), iv = .int .i64 (i : Int) ∧ i ≤ k.na ∧ Now w1 wr H d e g gb gd gc D' D' (1099511627776 + i * 2097152) (1048576 + i * 2) (1099511627776 + i * 2097152) (1048576 + i * 2)) (fun iv _ => k.na - (intOf iv).toNat)
    case atStart => exact ⟨0, _, D, rfl, by omega, by simpa using HNOW.out⟩
    case round =>
      clear e3 HNOW
      obtain ⟨i, H, D1, rfl, hi, hN⟩ := hrel
      obtain ⟨wq, rfl⟩ : ∃ wq, wq = wr := ⟨_, rfl⟩
      obtain ⟨e3, _, _, _, _⟩ := keep_cells (HBOX.out wq (hN.back.mono HV1.out))
      by_cases hlt : i < k.na
      · obtain ⟨b, o, x, hAa, hbV, hx, hcells⟩ := (HK1.out.acts.below (hN.back.mono (by have := HV1.out; omega))).1.at_ hlt
        have hxin := HK1.out.acts.2.1 x (List.mem_of_getElem? hx)
        rw [hAa] at e3
        have hlt2 : (i : Int) < (k.na : Int) := by omega
        obtain ⟨m, hm⟩ : ∃ m, 1099511627776 + i * 2097152 = m := ⟨_, rfl⟩
        obtain ⟨N, hNN⟩ : ∃ N, 1048576 + i * 2 = N := ⟨_, rfl⟩
        rw [hm, hNN] at hN
        have hmb : m ≤ 4398046511104 := by omega
        have hNb : N ≤ 4194304 := by omega
        obtain ⟨a, A, n, c, Ad, nd, cd, Au, nu, cu⟩ := x
        have HM := Lib.hid (show 1099511627776 + i * 2097152 = m ∧ 1048576 + i * 2 = N from ⟨hm, hNN⟩)
        have H0 := Lib.hid hN
        have HC := Lib.hid hcells
        have HXIN := Lib.hid hxin
        clear hm hNN hN hcells hxin hx
        by_cases hf : n ≤ 4096 ∧ nd ≤ 64 ∧ nu ≤ 64
        · have hxq : Av.In wq w1.heap.size ⟨a, A, n, c, Ad, nd, cd, Au, nu, cu⟩ := ActIn.more (ActIn.below HXIN.out (H0.out.back.mono (by have := HV1.out; omega))) (by have := HV1.out; omega)
          have hc1 := H0.out.filled hxq 0 (by omega) hf
          dsimp only at hc1
          obtain ⟨a0, ha0⟩ : ∃ a0, fillA 0 a = a0 := ⟨_, rfl⟩
          obtain ⟨a1, ha1⟩ : ∃ a1, fillA 1 a = a1 := ⟨_, rfl⟩
          rw [ha0] at hc1
          have HC1 := Lib.hid hc1
          have HA1 := Lib.hid ha1
          clear hc1 ha0 ha1 hxq
          go_upto_region 13 with (first
            | (refine loadAct rfl (.tmp 73) rfl b (o + i * 7) rfl HC.out ?_)
            | (go_at_call 48; refine HC1.out.mono ?_; rintro y w2 ⟨rfl, hn, hk, ha⟩; have hst := act_store w2 a0 (some ⟨gb, 0, none⟩) n 4096 (some ⟨gd, 0, none⟩) nd 64 (some ⟨gc, 0, none⟩) nu 64; have HN2 := Lib.hid hn; have HA2 := Lib.hid ha; clear hn ha hk))
          clear hst e3 HC1
          obtain ⟨P, hP⟩ : ∃ P, w2.heap.size = P := ⟨_, rfl⟩
          obtain ⟨wA, hwA⟩ : ∃ wA, w2.alloc (.cells #[.int .i64 a0.kind, .string ⟨a0.name.toArray⟩, .string ⟨a0.dst.toArray⟩, .int .i64 a0.n, .slice (some ⟨gb, 0, none⟩) n 4096, .slice (some ⟨gd, 0, none⟩) nd 64, .slice (some ⟨gc, 0, none⟩) nu 64] tAct) = wA := ⟨_, rfl⟩
          have hbA : Below w2.heap.size w2 wA := by rw [← hwA]; exact (Below.refl _ _).alloc (Nat.le_refl _) _
          have hPA : ActAt wA P ⟨a0, some ⟨gb, 0, none⟩, n, 4096, some ⟨gd, 0, none⟩, nd, 64, some ⟨gc, 0, none⟩, nu, 64⟩ := by rw [← hwA, ← hP]; exact heap_alloc_new _ _
          have hsA : P < wA.heap.size := (Array.getElem?_eq_some_iff.1 hPA).1
          obtain ⟨HA, hsub, hHP, hnA⟩ : ∃ HA : Nat → Prop, (∀ k, H k → HA k) ∧ HA P ∧ Now w1 wA HA d e g gb gd gc D1 D1 m N m N := ⟨_, fun k hk => .inl (.inl hk), .inr ⟨by omega, hsA⟩, HN2.out.below hbA⟩
          have haA : Aside wA HA ⟨a0, some ⟨gb, 0, none⟩, n, 4096, some ⟨gd, 0, none⟩, nd, 64, some ⟨gc, 0, none⟩, nu, 64⟩ := (HA2.out.keep (Keeps.below hbA)).more hsub
          have hgP : g < P ∧ gb < P ∧ gd < P ∧ gc < P := by have := HN2.out.hand.ne; omega
          rw [hwA, hP]
          have HPA := Lib.hid hPA
          have HSA := Lib.hid hsA
          have HHP := Lib.hid hHP
          have HNA := Lib.hid hnA
          have HAA := Lib.hid haA
          have HGP := Lib.hid hgP
          clear hP hwA hbA hPA hsA hsub hHP hnA haA hgP HN2 HA2
          go_upto_region 15 with (first
            | (refine loadAct rfl (.tmp 10) rfl P 0 rfl HPA.out.range ?_)
            | (go_at_call 49; refine (HNA.out.twin HAA.out).mono ?_; rintro y w3 ⟨A2, c2, Ad2, cd2, Au2, cu2, rfl, hn, hb, ha⟩; have hst := act_store w3 a0 A2 n c2 Ad2 nd cd2 Au2 nu cu2; have HN3 := Lib.hid hn; have HB3 := Lib.hid hb; have HA3 := Lib.hid ha; clear hn hb ha))
          clear hst
          obtain ⟨Q, hQ⟩ : ∃ Q, w3.heap.size = Q := ⟨_, rfl⟩
          obtain ⟨wB, hwB⟩ : ∃ wB, w3.alloc (.cells #[.int .i64 a0.kind, .string ⟨a0.name.toArray⟩, .string ⟨a0.dst.toArray⟩, .int .i64 a0.n, .slice A2 n c2, .slice Ad2 nd cd2, .slice Au2 nu cu2] tAct) = wB := ⟨_, rfl⟩
          have hbB : Below w3.heap.size w3 wB := by rw [← hwB]; exact (Below.refl _ _).alloc (Nat.le_refl _) _
          have hQB : ActAt wB Q ⟨a0, A2, n, c2, Ad2, nd, cd2, Au2, nu, cu2⟩ := by rw [← hwB, ← hQ]; exact heap_alloc_new _ _
          have hsB : Q < wB.heap.size := (Array.getElem?_eq_some_iff.1 hQB).1
          have hPQ : P < Q := by have := HSA.out; have := HB3.out.size; omega
          obtain ⟨HB, hsub, hHQ, hfr, hnB⟩ : ∃ HB : Nat → Prop, (∀ k, HA k → HB k) ∧ HB Q ∧ (∀ k, P < k → k < Q → wA.heap.size ≤ k → HB k) ∧ Now w1 wB HB d e g gb gd gc D1 D1 m N m N := ⟨_, fun k hk => .inl (.inl hk), .inr ⟨by omega, hsB⟩, fun k h1 h2 h3 => .inl (.inr ⟨h3, by omega⟩), HN3.out.below hbB⟩
          have hPB : ActAt wB P ⟨a0, some ⟨gb, 0, none⟩, n, 4096, some ⟨gd, 0, none⟩, nd, 64, some ⟨gc, 0, none⟩, nu, 64⟩ := (HPA.out.below HB3.out).below hbB
          have haB : Aside wB HB ⟨a0, some ⟨gb, 0, none⟩, n, 4096, some ⟨gd, 0, none⟩, nd, 64, some ⟨gc, 0, none⟩, nu, 64⟩ := ((HAA.out.keep (Keeps.below HB3.out)).keep (Keeps.below hbB)).more hsub
          have hbb : Aside wB (fun k => HB k ∧ P < k ∧ k < Q) ⟨a0, A2, n, c2, Ad2, nd, cd2, Au2, nu, cu2⟩ := (HA3.out.keep (Keeps.below hbB)).more fun k hk => ⟨hfr k (by have := HSA.out; omega) (by omega) hk.1, by have := HSA.out; omega, by omega⟩
          rw [hwB, hQ]
          have HPB := Lib.hid hPB
          have HQB := Lib.hid hQB
          have HPQ := Lib.hid hPQ
          have HHP := Lib.hid (hsub _ HHP.out)
          have HHQ := Lib.hid hHQ
          have HNB := Lib.hid hnB
          have HAB := Lib.hid haB
          have HBB := Lib.hid hbb
          clear hQ hwB hbB hQB hsB hPQ hsub hHQ hfr hnB hPB haB hbb HN3 HB3 HA3 HPA HSA HNA HAA
          obtain ⟨D2, an, hst1⟩ : ∃ D2 an, D1.step a0 = (D2, an) := ⟨_, _, rfl⟩
          have hcd := HNB.out.first HAB.out (by omega) (by omega)
          dsimp only at hcd
          rw [hst1] at hcd
          have HCD := Lib.hid hcd
          have HST1 := Lib.hid hst1
          clear hcd hst1
          go_upto_region 16 with (first
            | (refine loadAct rfl (.tmp 10) rfl P 0 rfl HPB.out.range ?_)
            | (go_at_call 50; refine HCD.out.mono ?_; rintro y w4 ⟨rfl, hn, hk⟩; have HN4 := Lib.hid hn; have HK4 := Lib.hid hk; clear hn hk))
          have hP4 := HPB.out.keep HK4.out HHP.out
          have hQ4 := HQB.out.keep HK4.out HHQ.out
          have ha4 := HAB.out.keep HK4.out
          have hb4 := HBB.out.keep (HK4.out.less fun k hk => hk.1)
          obtain ⟨e3, _, _, _, _⟩ := keep_cells (HBOX.out w4 (HN4.out.back.mono HV1.out))
          rw [hAa] at e3
          have hcells4 : w4.rangeAt b (o + i * 7) (Av.cells ⟨a, A, n, c, Ad, nd, cd, Au, nu, cu⟩) := fun j v hv => (World.cell?_of_block ((HN4.out.back.block b (by have := HV1.out; omega)).trans (H0.out.back.block b (by have := HV1.out; omega)).symm)).trans (HC.out j v hv)
          have hx4 : Av.In w4 w1.heap.size ⟨a, A, n, c, Ad, nd, cd, Au, nu, cu⟩ := ActIn.more (ActIn.below HXIN.out (HN4.out.back.mono (by have := HV1.out; omega))) (by have := HV1.out; omega)
          have hc5 := HN4.out.filled hx4 1 (by omega) hf
          dsimp only at hc5
          rw [HA1.out] at hc5
          have HP4 := Lib.hid hP4
          have HQ4 := Lib.hid hQ4
          have HB4 := Lib.hid hb4
          have HC4 := Lib.hid hcells4
          have HC5 := Lib.hid hc5
          clear hP4 hQ4 ha4 hb4 hcells4 hx4 hc5 HPB HQB HNB HAB HBB HCD
          go_upto_region 17 with (first
            | (refine loadAct rfl (.tmp 90) rfl b (o + i * 7) rfl HC4.out ?_)
            | (go_at_call 48; refine HC5.out.mono ?_; rintro y w5 ⟨rfl, hn, hk, ha⟩; have hP5 : ActAt w5 P ⟨a0, some ⟨gb, 0, none⟩, n, 4096, some ⟨gd, 0, none⟩, nd, 64, some ⟨gc, 0, none⟩, nu, 64⟩ := (hk.block P (Array.getElem?_eq_some_iff.1 HP4.out).1 (by have := HGP.out; omega)).trans HP4.out; have p0 : w5.cell? ⟨P, 0, none⟩ = some (.int .i64 a0.kind) := (by rw [cell_of_row w5 P _ _ _ _ hP5]; rfl); have p1 : w5.cell? ⟨P, 1, none⟩ = some (.string ⟨a0.name.toArray⟩) := (by rw [cell_of_row w5 P _ _ _ _ hP5]; rfl); have p2 : w5.cell? ⟨P, 2, none⟩ = some (.string ⟨a0.dst.toArray⟩) := (by rw [cell_of_row w5 P _ _ _ _ hP5]; rfl); have p3 : w5.cell? ⟨P, 3, none⟩ = some (.int .i64 a0.n) := (by rw [cell_of_row w5 P _ _ _ _ hP5]; rfl); have p4 : w5.cell? ⟨P, 4, none⟩ = some (.slice (some ⟨gb, 0, none⟩) n 4096) := (by rw [cell_of_row w5 P _ _ _ _ hP5]; rfl); have p5 : w5.cell? ⟨P, 5, none⟩ = some (.slice (some ⟨gd, 0, none⟩) nd 64) := (by rw [cell_of_row w5 P _ _ _ _ hP5]; rfl); have p6 : w5.cell? ⟨P, 6, none⟩ = some (.slice (some ⟨gc, 0, none⟩) nu 64) := (by rw [cell_of_row w5 P _ _ _ _ hP5]; rfl); have y0 := unfrozen hP5 0; have y1 := unfrozen hP5 1; have y2 := unfrozen hP5 2; have y3 := unfrozen hP5 3; have y4 := unfrozen hP5 4; have y5 := unfrozen hP5 5; have y6 := unfrozen hP5 6; have HP5 := Lib.hid hP5; have HN5 := Lib.hid hn; have HK5 := Lib.hid hk; have HA5 := Lib.hid ha; clear hn hk ha hP5))
          have hPE := heap_same (heap_same (heap_same (heap_same (heap_same (heap_same (heap_same (HP5.out) (i := 0) (.int .i64 a1.kind)) (i := 1) (.string ⟨a1.name.toArray⟩)) (i := 2) (.string ⟨a1.dst.toArray⟩)) (i := 3) (.int .i64 a1.n)) (i := 4) (.slice (some ⟨gb, 0, none⟩) n 4096)) (i := 5) (.slice (some ⟨gd, 0, none⟩) nd 64)) (i := 6) (.slice (some ⟨gc, 0, none⟩) nu 64)
          have hkE := ((((((((Kept.refl w5 (fun k => k = P)).set (p := ⟨P, 0, none⟩) rfl (.int .i64 a1.kind)).set (p := ⟨P, 1, none⟩) rfl (.string ⟨a1.name.toArray⟩)).set (p := ⟨P, 2, none⟩) rfl (.string ⟨a1.dst.toArray⟩)).set (p := ⟨P, 3, none⟩) rfl (.int .i64 a1.n)).set (p := ⟨P, 4, none⟩) rfl (.slice (some ⟨gb, 0, none⟩) n 4096)).set (p := ⟨P, 5, none⟩) rfl (.slice (some ⟨gd, 0, none⟩) nd 64)).set (p := ⟨P, 6, none⟩) rfl (.slice (some ⟨gc, 0, none⟩) nu 64))
          obtain ⟨wE, hwE⟩ : ∃ wE, (((((((w5.setCell ⟨P, 0, none⟩ (.int .i64 a1.kind)).setCell ⟨P, 1, none⟩ (.string ⟨a1.name.toArray⟩)).setCell ⟨P, 2, none⟩ (.string ⟨a1.dst.toArray⟩)).setCell ⟨P, 3, none⟩ (.int .i64 a1.n)).setCell ⟨P, 4, none⟩ (.slice (some ⟨gb, 0, none⟩) n 4096)).setCell ⟨P, 5, none⟩ (.slice (some ⟨gd, 0, none⟩) nd 64)).setCell ⟨P, 6, none⟩ (.slice (some ⟨gc, 0, none⟩) nu 64)) = wE := ⟨_, rfl⟩
          have hPE2 : ActAt wE P ⟨a1, some ⟨gb, 0, none⟩, n, 4096, some ⟨gd, 0, none⟩, nd, 64, some ⟨gc, 0, none⟩, nu, 64⟩ := by rw [← hwE]; exact hPE
          rw [hwE] at hkE ⊢
          clear hPE hwE p0 p1 p2 p3 p4 p5 p6 y0 y1 y2 y3 y4 y5 y6 e3
          have hkPE : ∀ k, k ≠ P → k < w5.heap.size → wE.heap[k]? = w5.heap[k]? := fun k hk hl => hkE.block k hl hk
          have hQE : ActAt wE Q ⟨a0, A2, n, c2, Ad2, nd, cd2, Au2, nu, cu2⟩ := (hkPE Q (by have := HPQ.out; omega) (Nat.lt_of_lt_of_le (Array.getElem?_eq_some_iff.1 HQ4.out).1 HK5.out.size)).trans ((HK5.out.block Q (Array.getElem?_eq_some_iff.1 HQ4.out).1 (by have := HPQ.out; have := HGP.out; omega)).trans HQ4.out)
          have hnE : ∃ HE : Nat → Prop, (∀ k, HB k → HE k) ∧ Now w1 wE HE d e g gb gd gc D2 D1 (m + 1048576) (N + 1) m N := by
            refine ⟨_, fun k hk => .inl (.inl hk), HN5.out.hold (hkE.mono fun k hk => ?_) (HN5.out.hand.keep fun k hk => hkPE k ?_ ?_)⟩
            · rw [hk]; exact .inl HHP.out
            · have := HGP.out; omega
            · have := HN5.out.hand.ne; omega
          obtain ⟨HE, hsub, hnE⟩ := hnE
          have haE : Aside wE HE ⟨a1, some ⟨gb, 0, none⟩, n, 4096, some ⟨gd, 0, none⟩, nd, 64, some ⟨gc, 0, none⟩, nu, 64⟩ := by
            have h1 : Aside w5 (fun k => HB k ∧ k ≠ P) ⟨a1, some ⟨gb, 0, none⟩, n, 4096, some ⟨gd, 0, none⟩, nd, 64, some ⟨gc, 0, none⟩, nu, 64⟩ := ⟨HA5.out.act, HA5.out.cap, fun ad e => ⟨HA5.out.a ad e, by injection e with e; subst e; have := HGP.out; show gb ≠ P; omega⟩, fun ad e => ⟨HA5.out.d ad e, by injection e with e; subst e; have := HGP.out; show gd ≠ P; omega⟩, fun ad e => ⟨HA5.out.u ad e, by injection e with e; subst e; have := HGP.out; show gc ≠ P; omega⟩⟩
            exact (h1.keep ⟨hkE.size, fun k hk hl => hkPE k hk.2 hl⟩).more fun k hk => hsub k hk.1
          have hbE : Aside wE (fun k => HE k ∧ P < k ∧ k < Q) ⟨a0, A2, n, c2, Ad2, nd, cd2, Au2, nu, cu2⟩ := ((HB4.out.keep ⟨HK5.out.size, fun k hk hl => HK5.out.block k hl (by have := HGP.out; omega)⟩).keep ⟨hkE.size, fun k hk hl => hkPE k (by omega) hl⟩).more fun k hk => ⟨hsub k hk.1, hk.2⟩
          have HPE := Lib.hid hPE2
          have HQE := Lib.hid hQE
          have HNE := Lib.hid hnE
          have HAE := Lib.hid haE
          have HBE := Lib.hid hbE
          have HHPE := Lib.hid (hsub _ HHP.out)
          have HHQE := Lib.hid (hsub _ HHQ.out)
          clear hkE hPE2 hkPE hQE hnE haE hbE hsub HP5 HN5 HK5 HA5 HP4 HQ4 HB4 HC4 HC5 HN4 HK4
          go_upto_region 18 with (first
            | (refine loadAct rfl (.tmp 10) rfl P 0 rfl HPE.out.range ?_)
            | (go_at_call 49; refine (HNE.out.twin HAE.out).mono ?_; rintro y w6 ⟨A3, c3, Ad3, cd3, Au3, cu3, rfl, hn, hb, ha⟩; have hst := act_store w6 a1 A3 n c3 Ad3 nd cd3 Au3 nu cu3; have HN6 := Lib.hid hn; have HB6 := Lib.hid hb; have HA6 := Lib.hid ha; clear hn hb ha))
          clear hst
          obtain ⟨R, hR⟩ : ∃ R, w6.heap.size = R := ⟨_, rfl⟩
          obtain ⟨wF, hwF⟩ : ∃ wF, w6.alloc (.cells #[.int .i64 a1.kind, .string ⟨a1.name.toArray⟩, .string ⟨a1.dst.toArray⟩, .int .i64 a1.n, .slice A3 n c3, .slice Ad3 nd cd3, .slice Au3 nu cu3] tAct) = wF := ⟨_, rfl⟩
          have hbF : Below w6.heap.size w6 wF := by rw [← hwF]; exact (Below.refl _ _).alloc (Nat.le_refl _) _
          have hRF : ActAt wF R ⟨a1, A3, n, c3, Ad3, nd, cd3, Au3, nu, cu3⟩ := by rw [← hwF, ← hR]; exact heap_alloc_new _ _
          have hsF : R < wF.heap.size := (Array.getElem?_eq_some_iff.1 hRF).1
          obtain ⟨HF, hsub, hHR, hfr, hnF⟩ : ∃ HF : Nat → Prop, (∀ k, HE k → HF k) ∧ HF R ∧ (∀ k, k < R → wE.heap.size ≤ k → HF k) ∧ Now w1 wF HF d e g gb gd gc D2 D1 (m + 1048576) (N + 1) m N := ⟨_, fun k hk => .inl (.inl hk), .inr ⟨by omega, hsF⟩, fun k h2 h3 => .inl (.inr ⟨h3, by omega⟩), HN6.out.below hbF⟩
          have hPF : ActAt wF P ⟨a1, some ⟨gb, 0, none⟩, n, 4096, some ⟨gd, 0, none⟩, nd, 64, some ⟨gc, 0, none⟩, nu, 64⟩ := (HPE.out.below HB6.out).below hbF
          have hQF : ActAt wF Q ⟨a0, A2, n, c2, Ad2, nd, cd2, Au2, nu, cu2⟩ := (HQE.out.below HB6.out).below hbF
          have haF : Aside wF HF ⟨a1, some ⟨gb, 0, none⟩, n, 4096, some ⟨gd, 0, none⟩, nd, 64, some ⟨gc, 0, none⟩, nu, 64⟩ := ((HAE.out.keep (Keeps.below HB6.out)).keep (Keeps.below hbF)).more hsub
          have hbbF : Aside wF HF ⟨a0, A2, n, c2, Ad2, nd, cd2, Au2, nu, cu2⟩ := ((HBE.out.keep (Keeps.below HB6.out)).keep (Keeps.below hbF)).more fun k hk => hsub k hk.1
          have hcF : Aside wF HF ⟨a1, A3, n, c3, Ad3, nd, cd3, Au3, nu, cu3⟩ := (HA6.out.keep (Keeps.below hbF)).more fun k hk => hfr k (by omega) hk.1
          rw [hwF, hR]
          have HPF := Lib.hid hPF
          have HQF := Lib.hid hQF
          have HRF := Lib.hid hRF
          have HNF := Lib.hid hnF
          have HAF := Lib.hid haF
          have HBF := Lib.hid hbbF
          have HCF := Lib.hid hcF
          have HHR := Lib.hid hHR
          have HHQF := Lib.hid (hsub _ HHQE.out)
          clear hR hwF hbF hRF hsF hsub hHR hfr hnF hPF hQF haF hbbF hcF HN6 HB6 HA6 HPE HQE HNE HAE HBE HHPE HHQE
          obtain ⟨D3, an2, hst2⟩ : ∃ D3 an2, D2.step a1 = (D3, an2) := ⟨_, _, rfl⟩
          have hcd := HNF.out.first HAF.out (by omega) (by omega)
          dsimp only at hcd
          rw [hst2] at hcd
          have HCD := Lib.hid hcd
          have HST2 := Lib.hid hst2
          clear hcd hst2
          go_upto_region 19 with (first
            | (refine loadAct rfl (.tmp 10) rfl P 0 rfl HPF.out.range ?_)
            | (go_at_call 50; refine HCD.out.mono ?_; rintro y w7 ⟨rfl, hn, hk⟩; have HN7 := Lib.hid hn; have HK7 := Lib.hid hk; clear hn hk))
          have hce := HN7.out.second (HBF.out.keep HK7.out) (by omega) (by omega)
          dsimp only at hce
          rw [HST1.out] at hce
          have HCE := Lib.hid hce
          have HQ7 := Lib.hid (HQF.out.keep HK7.out HHQF.out)
          have HR7 := Lib.hid (HRF.out.keep HK7.out HHR.out)
          have HC7 := Lib.hid (HCF.out.keep HK7.out)
          clear hce HPF HQF HRF HAF HBF HCF HNF HCD HK7
          obtain ⟨fs, hfs⟩ : ∃ fs, D3.image = fs := ⟨_, rfl⟩
          obtain ⟨nf, hnf⟩ : ∃ n, fs.length = n := ⟨_, rfl⟩
          have hnfN : nf ≤ N + 2 := by rw [← hnf, ← hfs, image_len]; have := HN7.out.ok.lenN; omega
          have HFS := Lib.hid hfs
          have HNF := Lib.hid hnf
          clear hfs hnf
          go_wp2_with (first
            | (refine loadAct rfl (.tmp 12) rfl Q 0 rfl HQ7.out.range ?_)
            | (go_at_call 50; refine HCE.out.mono ?_; rintro y w8 ⟨rfl, hn, hk⟩; have hce2 := hn.second (HC7.out.keep hk) (by omega) (by omega); dsimp only at hce2; rw [HST2.out] at hce2; have HCE2 := Lib.hid hce2; have hR8 := HR7.out.keep hk HHR.out; have r0 : w8.cell? ⟨R, 0, none⟩ = some (.int .i64 a1.kind) := (by rw [cell_of_row w8 R _ _ _ _ hR8]; rfl); have r1 : w8.cell? ⟨R, 1, none⟩ = some (.string ⟨a1.name.toArray⟩) := (by rw [cell_of_row w8 R _ _ _ _ hR8]; rfl); have r2 : w8.cell? ⟨R, 2, none⟩ = some (.string ⟨a1.dst.toArray⟩) := (by rw [cell_of_row w8 R _ _ _ _ hR8]; rfl); have r3 : w8.cell? ⟨R, 3, none⟩ = some (.int .i64 a1.n) := (by rw [cell_of_row w8 R _ _ _ _ hR8]; rfl); have r4 : w8.cell? ⟨R, 4, none⟩ = some (.slice A3 n c3) := (by rw [cell_of_row w8 R _ _ _ _ hR8]; rfl); have r5 : w8.cell? ⟨R, 5, none⟩ = some (.slice Ad3 nd cd3) := (by rw [cell_of_row w8 R _ _ _ _ hR8]; rfl); have r6 : w8.cell? ⟨R, 6, none⟩ = some (.slice Au3 nu cu3) := (by rw [cell_of_row w8 R _ _ _ _ hR8]; rfl); clear hn hk hce2 HCE hR8)
            | (go_at_call 50; refine HCE2.out.mono ?_; rintro y w9 ⟨rfl, hn, hk⟩; have HN9 := Lib.hid hn; clear hn hk HCE2)
            | (go_at_call 20; refine (image_form HN9.out.dv (by omega) (by omega) HFS.out HNF.out).mono ?_; rintro x wi ⟨Ai, ci, dvi, rfl, hfi, hbi⟩; have HI1 := Lib.hid (hfi.rd HNF.out); have HN10 := Lib.hid (HN9.out.same hbi); clear hfi hbi HN9)
            | (go_at_call 20; refine (image_form HN10.out.swap.dv (by omega) (by omega) HFS.out HNF.out).mono ?_; rintro x wj ⟨Aj, cj, dvj, rfl, hfj, hbj⟩; have HI2 := Lib.hid (hfj.rd HNF.out); have HI3 := Lib.hid (HI1.out.below hbj); have HN11 := Lib.hid (HN10.out.same hbj); clear hfj hbj HN10)
            | (go_at_call 19; refine (sameFiles_any HI3.out HI2.out (by omega)).mono ?_; rintro x wl ⟨rfl, hb⟩; have HN12 := Lib.hid (HN11.out.same hb); clear hb HN11))
          go_roundw
          case rel => exact ⟨i + 1, HF, D3, by go_num, by omega, ((HN12.out.mono (by have := HM.out; omega) (by have := HM.out; omega)).swap.mono (by have := HM.out; omega) (by have := HM.out; omega)).swap⟩
          case measure => simp [intOf]; omega
        · have hc1 := filled_not (x := ⟨a, A, n, c, Ad, nd, cd, Au, nu, cu⟩) 0 H0.out.hand hf
          have HC1 := Lib.hid hc1
          clear hc1 hf
          go_upto_region 13 with (first
            | (refine loadAct rfl (.tmp 73) rfl b (o + i * 7) rfl HC.out ?_)
            | (go_at_call 48; refine HC1.out.mono ?_; rintro y w2 ⟨rfl, hb⟩; have hst := act_store w2 a A n c Ad nd cd Au nu cu; have HB := Lib.hid hb; clear hb))
          have hn2 := H0.out.same (HB.out.alloc HB.out.size (.cells #[.int .i64 a.kind, .string ⟨a.name.toArray⟩, .string ⟨a.dst.toArray⟩, .int .i64 a.n, .slice A n c, .slice Ad nd cd, .slice Au nu cu] tAct))
          have HN2 := Lib.hid hn2
          clear hn2 hst e3
          go_wp2
          go_roundw
          case rel => exact ⟨i + 1, H, D1, by go_num, by omega, ((HN2.out.mono (by have := HM.out; omega) (by have := HM.out; omega)).swap.mono (by have := HM.out; omega) (by have := HM.out; omega)).swap⟩
          case measure => simp [intOf]; omega
      · obtain rfl : k.na = i := by omega
        obtain ⟨m, hm⟩ : ∃ m, 1099511627776 + k.na * 2097152 = m := ⟨_, rfl⟩
        obtain ⟨N, hNN⟩ : ∃ N, 1048576 + k.na * 2 = N := ⟨_, rfl⟩
        rw [hm, hNN] at hN
        have hmb : m ≤ 4398046511104 := by omega
        have hNb : N ≤ 4194304 := by omega
        clear hm hNN
        obtain ⟨fs, hfs⟩ : ∃ fs, D1.image = fs := ⟨_, rfl⟩
        obtain ⟨nf, hnf⟩ : ∃ n, fs.length = n := ⟨_, rfl⟩
        obtain ⟨fz, hfz⟩ : ∃ fs, D1.safe = fs := ⟨_, rfl⟩
        obtain ⟨nz, hnz⟩ : ∃ n, fz.length = n := ⟨_, rfl⟩
        obtain ⟨np, hnp⟩ : ∃ n, D1.pend.length = n := ⟨_, rfl⟩
        have hnfN : nf ≤ N := by rw [← hnf, ← hfs, image_len]; exact hN.ok.lenN
        have hnzN : nz ≤ N := by rw [← hnz, ← hfz, safe_len]; have := hN.ok.lenK; omega
        have HFS := Lib.hid hfs
        have HNF := Lib.hid hnf
        have HFZ := Lib.hid hfz
        have HNZ := Lib.hid hnz
        have HNP := Lib.hid hnp
        have H0 := Lib.hid hN
        clear hfs hnf hfz hnz hnp hN
        go_upto_region 23 with (first
          | (go_at_call 21; refine (safe_form H0.out.dv (by omega) (by omega) HFZ.out HNZ.out).mono ?_; rintro x wi ⟨Ai, ci, dvi, rfl, hfi, hbi⟩; have HI1 := Lib.hid (hfi.rd HNZ.out); have HN1 := Lib.hid (H0.out.same hbi); clear hfi hbi H0)
          | (go_at_call 21; refine (safe_form HN1.out.swap.dv (by omega) (by omega) HFZ.out HNZ.out).mono ?_; rintro x wj ⟨Aj, cj, dvj, rfl, hfj, hbj⟩; have HI2 := Lib.hid (hfj.rd HNZ.out); have HI3 := Lib.hid (HI1.out.below hbj); have HN2 := Lib.hid (HN1.out.same hbj); clear hfj hbj HN1)
          | (go_at_call 19; refine (sameFiles_any HI3.out HI2.out (by omega)).mono ?_; rintro x w4 ⟨rfl, hb⟩; have HN3 := Lib.hid (HN2.out.same hb); clear hb HN2)
          | (go_at_call 22; have hpn := HN3.out.pending HNP.out; have HN4 := HN3; refine hpn.mono ?_; rintro x wp ⟨rfl, rfl⟩; clear hpn HN3)
          | (go_at_call 22; have hpn := HN4.out.swap.pending HNP.out; refine hpn.mono ?_; rintro x wp ⟨rfl, rfl⟩; clear hpn))
        clear HI1 HI2 HI3
        obtain ⟨S9, hS9⟩ := HN4.out.swap.dv
        have HBK := Lib.hid HN4.out.back
        have HS9 := Lib.hid hS9
        clear HN4 hS9
        go_upto_region 24 with (go_at_call 20; refine (image_form ⟨_, HS9.out⟩ (by omega) (by omega) HFS.out HNF.out).mono ?_; rintro x w5 ⟨A5, c5, dv5, rfl, hf, hb⟩; obtain ⟨B5, hB5, hf5⟩ : ∃ B, w1.heap.size ≤ B ∧ FilesAt w5 B (.slice A5 nf c5) dv5 fs := ⟨_, HBK.out.size, hf⟩; have HB5B := Lib.hid hB5; have HF5 := Lib.hid hf5; clear hB5 hf5; have HB5 := Lib.hid hb; clear hf hb)
        go_upto_region 25 with (go_at_call 20; refine (image_form ⟨_, HS9.out.below HB5.out⟩ (by omega) (by omega) HFS.out HNF.out).mono ?_; rintro x w6 ⟨A6, c6, dv6, rfl, hf, hb⟩; have HF6 := Lib.hid hf; have HB6 := Lib.hid hb; clear hf hb)
        have hok : D1.Ok m N := HS9.out.1
        have HOK := Lib.hid hok
        clear hok
        go_upto_region 26 with (go_at_call 39; refine (load_back HOK.out (by omega) (by omega) (by rw [HFS.out]; exact (HF5.out.below HB6.out).rd HNF.out)).mono ?_; rintro x w7 ⟨L, l, rfl, hl, hli, _, _⟩; have HL7 := Lib.hid hl; have HLI := Lib.hid hli; clear hl hli)
        go_upto_region 27 with (go_at_call 39; refine (load_back HOK.out (by omega) (by omega) (by rw [HFS.out]; exact ((HF5.out.below HB6.out).below HL7.out.back).rd HNF.out)).mono ?_; rintro x w8 ⟨L2, l2, rfl, hl, hli, _, _⟩; have HL8 := Lib.hid hl; have HLI2 := Lib.hid hli; clear hl hli)
        have hl12 : l ≠ l2 := by
          obtain ⟨S1, a1, _⟩ := HL7.out
          obtain ⟨S2, b1, _, b3⟩ := HL8.out
          obtain ⟨_, _, _, _, _, _, _, a2⟩ := a1
          obtain ⟨_, _, _, _, _, _, _, b2⟩ := b1
          have := a2.low _ a2.inD
          have := b3 _ b2.inD
          omega
        have heq : (binOp .eql 32 (.pointer (some ⟨l, 0, none⟩)) (.pointer (some ⟨l2, 0, none⟩))).run Try.prog w8 = .ok (.bool false) w8 := by
          have hi : (Try.prog.info? tDrive).map (fun i => i.size) = some 5 := by kernel_rfl
          obtain ⟨S1, ⟨_, _, _, _, _, _, _, a2⟩, _⟩ := HL7.out.below HL8.out.back
          obtain ⟨S2, ⟨_, _, _, _, _, _, _, b2⟩, _⟩ := HL8.out
          cases hq : Try.prog.info? tDrive with
          | none => rw [hq] at hi; cases hi
          | some j =>
            rw [hq] at hi
            simp at hi
            exact run_eql_ptr_other w8 Try.underlying32 hq (by omega) (fun e => hl12 (by injection e)) a2.head b2.head
        go_upto_region 29 with (first
          | (go_at_call 20; refine (image_form (HL7.out.below HL8.out.back).dv (by omega) (by omega) (HLI.out.trans HFS.out) HNF.out).mono ?_; rintro x w9 ⟨A9, c9, dv9, rfl, hf, hb⟩; have HF9 := Lib.hid hf; have HB9 := Lib.hid hb; clear hf hb)
          | (go_at_call 19; refine (sameFiles_any (HF9.out.rd HNF.out) ((((HF6.out.below HL7.out.back).below HL8.out.back).below HB9.out).rd HNF.out) (by omega)).mono ?_; rintro x wa ⟨rfl, hb⟩; have HBA := Lib.hid hb; clear hb))
        have hbs := (HL7.out.beside ((HL8.out.back.trans (HB9.out.mono HL8.out.back.size)).trans (HBA.out.mono (by have := HL8.out.back.size; have := HB9.out.size; omega))))
        have hl2 : ∃ S2, Dv wa S2 l2 L2 m N ∧ ∀ k, S2 k → w7.heap.size ≤ k := by
          obtain ⟨S2, b1, _, b3⟩ := (HL8.out.below HB9.out).below HBA.out
          exact ⟨S2, b1, b3⟩
        have HBS := Lib.hid hbs
        have HL2 := Lib.hid hl2
        clear hbs hl2
        go_upto_region 30 with (go_at_call 51; refine (HBS.out.call fun S hD _ => wipe_any hD).mono ?_; rintro x wb ⟨rfl, hbs⟩; have HBS2 := Lib.hid hbs; clear hbs)
        have hdb : ∃ S2, Dv wb S2 l2 L2 m N ∧ ∀ k, S2 k → w7.heap.size ≤ k := by
          obtain ⟨S2, b1, b3⟩ := HL2.out
          obtain ⟨_, _, _, _, _, h5, h6⟩ := HBS2.out
          exact ⟨S2, dv_same b1 (fun k hk => h6 k (b3 k hk) (b1.low k hk)) h5, b3⟩
        have hb6 : Below w6.heap.size w6 wb := HBS2.out.own.back
        obtain ⟨S2, hD2, hS2⟩ := hdb
        have hf6b := HF6.out.below hb6
        have hf5b := (HF5.out.below HB6.out).below hb6
        have HD2 := Lib.hid hD2
        have HS2 := Lib.hid hS2
        have HF6B := Lib.hid hf6b
        have HF5B := Lib.hid hf5b
        have HB6B := Lib.hid hb6
        clear hD2 hS2 hf6b hf5b hb6 HBS HBS2 HL2 HB9 HBA HF9
        go_upto_region 32 with (first
          | (go_at_call 20; refine (image_form ⟨_, HD2.out⟩ (by omega) (by omega) (HLI2.out.trans HFS.out) HNF.out).mono ?_; rintro x w9 ⟨A9, c9, dv9, rfl, hf, hb⟩; have HF9 := Lib.hid hf; have HB9 := Lib.hid hb; clear hf hb)
          | (go_at_call 19; refine (sameFiles_any (HF9.out.rd HNF.out) ((HF6B.out.below HB9.out).rd HNF.out) (by omega)).mono ?_; rintro x wd ⟨rfl, hb⟩; have HBD := Lib.hid hb; clear hb))
        have hmix := mix_begin ((HF5B.out.below HB9.out).below HBD.out) (U := w5.heap.size) (fun j x g hx hg => (HF5.out.lt hx hg).2)
        have hgd : Dv wd S2 l2 L2 m N := (HD2.out.below HB9.out).below HBD.out
        have hwas := (HF6B.out.below HB9.out).below HBD.out
        have hback : Below V w wd := HBW1.out.trans (((((HBK.out.trans (HB5.out.mono HBK.out.size)).trans (HB6.out.mono (by have := HBK.out.size; have := HB5.out.size; omega))).trans (HB6B.out.mono (by have := HBK.out.size; have := HB5.out.size; have := HB6.out.size; omega))).trans ((HB9.out.mono (by have := HBK.out.size; have := HB5.out.size; have := HB6.out.size; have := HB6B.out.size; omega)).trans (HBD.out.mono (by have := HBK.out.size; have := HB5.out.size; have := HB6.out.size; have := HB6B.out.size; have := HB9.out.size; omega)))).mono (by have := HV1.out; omega))
        have hsz : w5.heap.size ≤ w7.heap.size ∧ V ≤ B5 ∧ V ≤ wd.heap.size := ⟨by have := HB6.out.size; have := HL7.out.back.size; omega, by have := HV1.out; have := HB5B.out; omega, by have := HV1.out; have := HBK.out.size; have := HB5.out.size; have := HB6.out.size; have := HB6B.out.size; have := HB9.out.size; have := HBD.out.size; omega⟩
        have hfb : ∀ f ∈ fs, f.2.length ≤ m := by
          rw [← HFS.out]
          intro f hf
          obtain ⟨p, hp, rfl⟩ := mem_files.1 hf
          exact (HOK.out.at_ok p.2).2
        have HMIX := Lib.hid hmix
        have HGD := Lib.hid hgd
        have HWAS := Lib.hid hwas
        have HBACK := Lib.hid hback
        have HSZ := Lib.hid hsz
        have HFB := Lib.hid hfb
        clear hmix hgd hwas hback hsz hfb HD2 HF6B HF5B HB6B HB9 HBD HL7 HL8 HLI HF5 HF6 HBK HB5 HB6 HBW1 HV1 HBOX HK1 HS9 HB5B hl12
        go_upto_region 33 with (fail)
        go_loopw [20] (fun iv wr => ∃ i : Nat, iv = .int .i64 (i : Int) ∧ i ≤ nf ∧ MixAt wd wr B5 w5.heap.size A5 nf c5 dv5 fs i 0) (fun iv _ => nf - (intOf iv).toNat)
        case atStart => exact ⟨0, rfl, by omega, HMIX.out⟩
        case round =>
          clear HMIX
          obtain ⟨i, rfl, hi, hM⟩ := hrel
          obtain ⟨wo, rfl⟩ : ∃ wo : World, wo = wr := ⟨_, rfl⟩
          by_cases hlt : i < nf
          · obtain ⟨f, hf⟩ : ∃ f, fs[i]? = some f := ⟨_, List.getElem?_eq_getElem (by rw [HNF.out]; exact hlt)⟩
            have hfm := HFB.out f (List.mem_of_getElem? hf)
            obtain ⟨ga, Af, cf, rfl, hx, hc⟩ := hM.file hf HNF.out
            obtain ⟨lf, hlf⟩ : ∃ l, f.2.length = l := ⟨_, rfl⟩
            rw [hlf] at hfm hx hc
            have hlt2 : (i : Int) < (nf : Int) := by omega
            have HFI := Lib.hid hf
            have HX := Lib.hid hx
            have HLF := Lib.hid hlf
            have HM := Lib.hid hM
            clear hf hx hlf hM hc
            go_upto_region 36 with (fail)
            go_loopw [21] (fun jv wr => ∃ j : Nat, jv = .int .i64 (j : Int) ∧ j ≤ lf ∧ MixAt wd wr B5 w5.heap.size (some ⟨ga, 0, none⟩) nf c5 dv5 fs i j) (fun jv _ => lf - (intOf jv).toNat)
            case atStart => exact ⟨0, rfl, by omega, HM.out⟩
            case round =>
              clear HM
              obtain ⟨j, rfl, hj, hM⟩ := hrel
              obtain ⟨_, _, _, e, hx2, hc⟩ := hM.file HFI.out HNF.out
              injection e with e
              injection e with e
              subst e
              rw [HX.out] at hx2
              injection hx2 with hx2
              rw [← hx2] at hc
              clear hx2
              by_cases hjl : j < lf
              · obtain ⟨y, hy⟩ : ∃ y, f.2[j]? = some y := ⟨_, List.getElem?_eq_getElem (by rw [HLF.out]; exact hjl)⟩
                have hx3 := HX.out
                rw [← HLF.out] at hx3
                obtain ⟨g, rfl, hb, hz, hM2⟩ := hM.byte HFI.out hx3 hy
                have hjl2 : (j : Int) < (lf : Int) := by omega
                have hadd : ((y.toNat : Int) + 1) % 256 = ((y + 1).toNat : Int) := by
                  rw [UInt8.toNat_add]
                  simp
                have hc2 : wr.drew.cell? ⟨ga, i * 2 + 1, none⟩ = _ := hc
                have hb2 : wr.drew.cell? ⟨g, j, none⟩ = _ := hb
                have hz2 : wr.drew.frozen? ⟨g, j, none⟩ = _ := hz
                have HM2 := Lib.hid hM2
                clear hM2 hx3 hM hy
                go_upto_region 38 with (fail)
                go_region
                all_goals (
                  go_wp2
                  go_roundw
                  case rel => exact ⟨j + 1, by go_num, by omega, by first | exact HM2.out | exact HM2.out.below (Below.refl _ _).drew | (rw [hadd]; exact HM2.out)⟩
                  case measure => simp [intOf]; omega)
              · obtain rfl : lf = j := by omega
                rw [← HLF.out] at hM
                have hM2 := hM.next HFI.out
                have HM2 := Lib.hid hM2
                clear hM2 hM
                go_wp2
                go_roundw
                case rel => exact ⟨i + 1, by go_num, by omega, HM2.out⟩
                case measure => simp [intOf]; omega
          · obtain rfl : nf = i := by omega
            have hz : FilesAt wo B5 (.slice A5 nf c5) dv5 (fs.map up1) := by rw [← mix_all (Nat.le_of_eq HNF.out)]; exact hM.1
            have hkz := hM.2.1
            have hbi : (Dr.D.bump D1).image = fs.map up1 := (bump_image HOK.out).trans (by rw [HFS.out]; rfl)
            have hgz : Dv wo S2 l2 L2 m N := dv_same HGD.out (fun k hk => hkz.block k (HGD.out.low k hk) (fun h => by have := HS2.out k hk; have := HSZ.out; omega)) hkz.size
            have hwz := HWAS.out.kept hkz (fun k hk => hk.2)
            have hvz : Below V w wo := HBACK.out.trans (hkz.to_below HSZ.out.2.2 (fun k hk => by have := HSZ.out; omega))
            have hszo : V ≤ wo.heap.size := by have := hkz.size; have := HSZ.out; omega
            have hlu : (fs.map up1).length = nf := by rw [List.length_map]; exact HNF.out
            have HZ := Lib.hid hz
            have HBI := Lib.hid hbi
            have HGZ := Lib.hid hgz
            have HWZ := Lib.hid hwz
            have HVZ := Lib.hid hvz
            have HSO := Lib.hid hszo
            have HLU := Lib.hid hlu
            clear hz hbi hgz hwz hvz hszo hM hkz HGD HWAS HBACK hlu
            go_wp2_with (first
              | (go_at_call 39; refine (load_back (bump_ok HOK.out) (by omega) (by omega) (by rw [HBI.out]; exact HZ.out.rd HLU.out)).mono ?_; rintro x we ⟨X, l3, rfl, hl, hli, _, _⟩; have HL9 := Lib.hid hl; have HLI := Lib.hid (hli.trans HBI.out); clear hl hli)
              | (go_at_call 20; refine (image_form HL9.out.dv (by omega) (by omega) HLI.out HLU.out).mono ?_; rintro x wf ⟨A9, c9, dv9, rfl, hf, hb⟩; have HF9 := Lib.hid hf; have HB9 := Lib.hid hb; clear hf hb HLI)
              | (go_at_call 19; refine (sameFiles_any (HF9.out.rd HLU.out) (((HZ.out.below HL9.out.back).below HB9.out).rd HLU.out) (by omega)).mono ?_; rintro x wg ⟨rfl, hb⟩; have HBA := Lib.hid hb; clear hb HF9)
              | (go_at_call 20; refine (image_form ⟨_, ((HGZ.out.below HL9.out.back).below HB9.out).below HBA.out⟩ (by omega) (by omega) (HLI2.out.trans HFS.out) HNF.out).mono ?_; rintro x wh ⟨Ah, ch, dvh, rfl, hf, hb⟩; have HFH := Lib.hid hf; have HBH := Lib.hid hb; clear hf hb HLI2)
              | (go_at_call 19; refine (sameFiles_any (HFH.out.rd HNF.out) (((((HWZ.out.below HL9.out.back).below HB9.out).below HBA.out).below HBH.out).rd HNF.out) (by omega)).mono ?_; rintro x wi ⟨rfl, hb⟩; have HBI2 := Lib.hid hb; clear hb HFH))
            go_ret
            exact ⟨rfl, HVZ.out.trans (((HL9.out.back.trans (HB9.out.mono HL9.out.back.size)).trans ((HBA.out.mono (by have := HL9.out.back.size; have := HB9.out.size; omega)).trans ((HBH.out.mono (by have := HL9.out.back.size; have := HB9.out.size; have := HBA.out.size; omega)).trans (HBI2.out.mono (by have := HL9.out.back.size; have := HB9.out.size; have := HBA.out.size; have := HBH.out.size; omega))))).mono HSO.out)⟩
end Go.Proofs.Ytelgcmcnebncmaa.Dr
