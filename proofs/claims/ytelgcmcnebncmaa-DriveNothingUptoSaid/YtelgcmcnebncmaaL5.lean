/- The law's own named, shows, touches, played. -/
import Derived.Test.YtelgcmcnebncmaaL4
namespace Go.Proofs.Ytelgcmcnebncmaa.Dr
open Go.RowKit Go.Proofs Go.Proofs.Ytelgcmcnebncmaa.Ring

set_option maxRecDepth 100000 in
theorem lnamed_any (n : Bs) (w : World) : Calls Try.prog 26 #[encStr n] w fun x w' => x = .returned (.bool (Dr.named n)) ∧ w = w' := by
  unfold Dr.named
  by_cases h1 : 1 ≤ n.length
  · by_cases h2 : n.length ≤ 1024
    · have e : decide (1 ≤ n.length ∧ n.length ≤ 1024) = true := by simp [h1, h2]
      have h3 : (1 : Int) ≤ (n.length : Int) := by omega
      have h4 : (n.length : Int) ≤ 1024 := by omega
      rw [e]
      clear e
      go_enter Try.func26, Try.ntmps26
      go_wp2
      go_ret
      exact ⟨rfl, rfl⟩
    · have e : decide (1 ≤ n.length ∧ n.length ≤ 1024) = false := by simp [h2]
      have h3 : (1 : Int) ≤ (n.length : Int) := by omega
      have h4 : ¬ (n.length : Int) ≤ 1024 := by omega
      rw [e]
      clear e
      go_enter Try.func26, Try.ntmps26
      go_wp2
      go_ret
      exact ⟨rfl, rfl⟩
  · have e : decide (1 ≤ n.length ∧ n.length ≤ 1024) = false := by simp [h1]
    have h3 : ¬ (1 : Int) ≤ (n.length : Int) := by omega
    rw [e]
    clear e
    go_enter Try.func26, Try.ntmps26
    go_wp2
    go_ret
    exact ⟨rfl, rfl⟩
section
variable {w : World} {S : Nat → Prop} {d m N : Nat} {D : Dr.D}
set_option maxRecDepth 100000 in
theorem shows_yes (h : Dv w S d D m N) (hm : m ≤ 140737488355328) {n x : Bs} {i : Nat} (hl : D.look n = .ok i) (hx : (D.at i).data = x) :
    Calls Try.prog 33 #[.pointer (some ⟨d, 0, none⟩), encStr n, encStr x] w fun y w' => y = .returned (.bool true) ∧ Below w.heap.size w w' := by
  subst hx
  have H := Lib.hid h
  have HL := Lib.hid hl
  clear h hl
  go_enter Try.func33, Try.ntmps33
  go_upto_region 2 with (go_at_call 77; refine (read_ok H.out hm HL.out).mono ?_; rintro y w' ⟨hb, A, c, rfl, ho⟩; have HB := Lib.hid hb; have HO := Lib.hid ho; clear hb ho)
  have t1 := run_text (P := Try.prog) w' 35 9 5 Try.underlying35 Try.underlying5 Try.underlying9 c (Rd.of_own HO.out)
  go_wp2
  go_ret
  exact ⟨rfl, HB.out⟩
end
theorem loadAct {ops : Array Oper} {rest : List Oper} {o : Oper} {a : Act} {w : World} {Q : Exit → Act → World → Prop} (hg : o.guard = none) (x : Operand) (ho : o.op = .load tAct x) (b off : Nat) (hx : a.eval x = .pointer (some ⟨b, off, none⟩)) {y : Av}
    (hc : w.rangeAt b off y.cells) (h : wpList Try.prog ops Q rest (a.put o.dst (actV y.a y.A y.n y.c y.Ad y.nd y.cd y.Au y.nu y.cu)) w) : wpList Try.prog ops Q (o :: rest) a w :=
  wpList_load_mid hg tAct x ho b off hx y.cells _ hc Try.underlying41 rfl (by kernel_rfl) h
/-- Acts done. -/
def plays (D : Dr.D) (l : List Ac) : Dr.D := l.foldl (fun D a => (D.step a).1) D
theorem plays_snoc (D : Dr.D) (l : List Ac) (a : Ac) : plays D (l ++ [a]) = ((plays D l).step a).1 := by simp [plays]
section
variable {w w1 w2 : World} {S : Nat → Prop} {d m N m1 N1 : Nat} {D D1 : Dr.D}
/-- A call of one drive, seen from further back. -/
theorem Turn.after {S1 : Nat → Prop} (hk : Kept w w1 S) (hs : ∀ k, S1 k → S k ∨ w.heap.size ≤ k) (h2 : Turn w1 w2 S1 d D m N) : Turn w w2 S d D m N := by
  obtain ⟨S2, a1, a2, a3⟩ := h2
  refine ⟨S2, a1, hk.trans a2 hs, fun k hk2 => ?_⟩
  rcases a3 k hk2 with h | h
  · exact hs k h
  · exact .inr (Nat.le_trans hk.size h)
theorem Turn.back (h : Turn w w1 S d D m N) {B : Nat} (hB : B ≤ w.heap.size) (hS : ∀ k, S k → B ≤ k) : Below B w w1 := by
  obtain ⟨S2, _, a2, _⟩ := h
  exact a2.to_below hB hS
set_option maxRecDepth 100000 in
set_option maxHeartbeats 4000000 in
theorem played_any (h : Dv w S d D m N) {B : Nat} (hB : B ≤ w.heap.size) (hS : ∀ k, S k → B ≤ k) {A : Option Addr} {n c : Nat} {l : List Av} (ha : Acts w B A n l) (hm : m ≤ 35184372088832) (hN : N ≤ 17592186044) :
    Calls Try.prog 27 #[.pointer (some ⟨d, 0, none⟩), .slice A n c] w fun x w' => x = .returned (.tuple #[]) ∧ Turn w w' S d (plays D (l.map (·.a))) (m + 1099511627776) (N + 1048576) := by
  have hn := ha.2.2
  have hll : l.length = n := ha.1.1
  have H := Lib.hid h
  have HS := Lib.hid hS
  have HA := Lib.hid ha
  have HLL := Lib.hid hll
  clear h hS ha hll
  go_enter Try.func27, Try.ntmps27
  go_upto_region 1 with (fail)
  go_loopw [4] (fun iv wr => ∃ i : Nat, iv = .int .i64 (i : Int) ∧ i ≤ n ∧ Turn w wr S d (plays D ((l.map (·.a)).take i)) (m + i * 1048576) (N + i)) (fun iv _ => n - (intOf iv).toNat)
  case atStart => exact ⟨0, rfl, by omega, by simpa [plays] using Turn.refl H.out⟩
  case round =>
    obtain ⟨i, rfl, hi, ht⟩ := hrel
    by_cases hlt : i < n
    · have hbw := ht.back hB HS.out
      obtain ⟨b, o, x, rfl, hbB, hx, hcells⟩ := (HA.out.below hbw).1.at_ hlt
      have hxin := (HA.out.below hbw).2.1 x (List.mem_of_getElem? hx)
      obtain ⟨S1, hD1, hk1, hs1⟩ := ht
      have hB1 : ∀ k, S1 k → B ≤ k := fun k hk => by
        rcases hs1 k hk with h | h
        · exact HS.out k h
        · omega
      have hi5 : i * 1048576 ≤ 1099511627776 := by omega
      have HX := Lib.hid hx
      have HXIN := Lib.hid hxin
      have HD1 := Lib.hid hD1
      have HK1 := Lib.hid hk1
      have HS1 := Lib.hid hs1
      have HB1 := Lib.hid hB1
      have HC := Lib.hid hcells
      have HBW := Lib.hid hbw
      have hlt2 : (i : Int) < (n : Int) := by omega
      clear hx hxin hD1 hk1 hs1 hB1 hcells hbw
      go_wp2_with (first
        | (refine loadAct rfl (.tmp 14) rfl b (o + i * 7) rfl HC.out ?_)
        | (go_at_call 14; refine (do_any HD1.out (Nat.le_trans hB HBW.out.size) HB1.out HXIN.out (by omega) (by omega)).mono ?_; rintro y w2 ⟨_, _, _, _, rfl, _, ht2⟩; have HT2 := Lib.hid ht2; clear ht2))
      have ht3 := (Turn.after HK1.out HS1.out HT2.out).mono (m' := m + (i + 1) * 1048576) (N' := N + (i + 1)) (by have := HXIN.out.n_le; omega) (by omega)
      rw [← plays_snoc, ← take_snoc_f (show (l.map (·.a))[i]? = some x.a by rw [List.getElem?_map, HX.out]; rfl)] at ht3
      have HT3 := Lib.hid ht3
      clear ht3
      go_roundw
      case rel => exact ⟨i + 1, by go_num, by omega, HT3.out⟩
      case measure => simp [intOf]; omega
    · obtain rfl : n = i := by omega
      rw [List.take_of_length_le (by have := HLL.out; simp; omega)] at ht
      have HT := Lib.hid ht
      clear ht
      go_wp2
      go_end0
      exact ⟨rfl, HT.out.mono (by omega) (by omega)⟩
end
end Go.Proofs.Ytelgcmcnebncmaa.Dr
