/- The document's cache: its lists of entries, and the walks of without, sum. -/
import Derived.Test.YtpppgdfgbhglbaaTx
import Derived.Test.YtpppgdfgbhglbaaBase2
import Derived.Test.YtpppgdfgbhglbaaLru
import Derived.Test.YtpppgdfgbhglbaaStack
import Derived.Great.BuildSlice
import Derived.Deep.MidRow
namespace Go.Proofs.Ytpppgdfgbhglbaa.Ca
open Go.RowKit Go.Proofs Go.Proofs.Ytpppgdfgbhglbaa.Lru

abbrev Ent := It Bs Bs
/-- An entry, a list of them, as cells. -/
abbrev eC (e : Ent) : List Value := [.string ⟨e.key.toArray⟩, .string ⟨e.val.toArray⟩, .int .i64 (e.wt : Int)]
abbrev cE (l : List Ent) : List Value := l.flatMap eC
theorem cE_len (l : List Ent) : (cE l).length = l.length * 3 := by
  induction l with
  | nil => rfl
  | cons a r ih => show (eC a ++ cE r).length = _; rw [List.length_append, ih]; simp; omega
theorem cE_one (l : List Ent) : ∀ u ∈ cE l, u.oneCell' = true := by
  intro u hu
  obtain ⟨e, _, h⟩ := List.mem_flatMap.1 hu
  simp only [eC, List.mem_cons, List.not_mem_nil, or_false] at h
  rcases h with rfl | rfl | rfl <;> rfl
theorem cE_one1 (e : Ent) : ∀ u ∈ eC e, u.oneCell' = true := by
  intro u hu
  simp only [eC, List.mem_cons, List.not_mem_nil, or_false] at hu
  rcases hu with rfl | rfl | rfl <;> rfl
theorem cE_single (e : Ent) : cE [e] = eC e := by simp
theorem cE_append (a b : List Ent) : cE (a ++ b) = cE a ++ cE b := List.flatMap_append
theorem cE_at {l : List Ent} {i : Nat} {e : Ent} (h : l[i]? = some e) (j : Nat) (hj : j < 3) : (cE l)[i * 3 + j]? = (eC e)[j]? := by
  induction l generalizing i with
  | nil => simp at h
  | cons a r ih =>
    show (eC a ++ cE r)[i * 3 + j]? = _
    cases i with
    | zero =>
      have ha : a = e := by simpa using h
      subst ha
      rw [List.getElem?_append_left (by simp; omega)]
      congr 1
      omega
    | succ i =>
      rw [List.getElem?_append_right (by simp; omega)]
      have := ih (i := i) (by simpa using h)
      rw [← this]
      congr 1
      simp
      omega
theorem cE_take (l : List Ent) (n : Nat) : (cE l).take (n * 3) = cE (l.take n) := by
  induction l generalizing n with
  | nil => simp
  | cons a r ih =>
    cases n with
    | zero => simp
    | succ n =>
      show (eC a ++ cE r).take ((n + 1) * 3) = eC a ++ cE (r.take n)
      rw [← ih n, List.take_append, List.take_of_length_le (by simp; omega)]
      congr 2
      simp
      omega

/-- A list of entries that a slice leads to. -/
def Es (w : World) (B : Nat) (A : Option Addr) (n : Nat) (l : List Ent) : Prop := l.length = n ∧ Rd w B 3 A n (cE l) ∧ (A = none ∨ ∃ b, A = some ⟨b, 0, none⟩)
section
variable {w w' : World} {B n : Nat} {A : Option Addr} {l : List Ent}
theorem Es.below (h : Es w B A n l) (hb : Below B w w') : Es w' B A n l := ⟨h.1, h.2.1.below hb, h.2.2⟩
theorem Es.more {B' : Nat} (h : Es w B A n l) (hB : B ≤ B') : Es w B' A n l := ⟨h.1, h.2.1.more hB, h.2.2⟩
theorem Es.next (h : Es w w.heap.size A n l) (hb : Below w.heap.size w w') : Es w' w'.heap.size A n l := (h.below hb).more hb.size
theorem Es.none_ : Es w B none 0 [] := ⟨rfl, Rd.none_, .inl rfl⟩
theorem Es.at_ {i : Nat} (h : Es w B A n l) (hi : i < n) : ∃ b e, A = some ⟨b, 0, none⟩ ∧ b < B ∧ l[i]? = some e ∧ w.cell? ⟨b, i * 3, none⟩ = some (.string ⟨e.key.toArray⟩) ∧ w.cell? ⟨b, i * 3 + 1, none⟩ = some (.string ⟨e.val.toArray⟩) ∧ w.cell? ⟨b, i * 3 + 2, none⟩ = some (.int .i64 (e.wt : Int)) := by
  obtain ⟨hl, hr, ha⟩ := h
  obtain ⟨ad, e, hb, hc⟩ := hr.2 (by omega)
  subst e
  rcases ha with ha | ⟨b, ha⟩
  · cases ha
  · injection ha with ha
    subst ha
    have hu : l[i]? = some (l[i]'(by omega)) := List.getElem?_eq_getElem (by omega)
    have add0 : ∀ j, (⟨b, 0, none⟩ : Addr).add j = ⟨b, j, none⟩ := fun j => by unfold Addr.add; split <;> simp_all
    refine ⟨b, _, rfl, hb, hu, ?_, ?_, ?_⟩
    · have := hc (i * 3 + 0) _ (cE_at hu 0 (by omega)); rwa [add0] at this
    · have := hc (i * 3 + 1) _ (cE_at hu 1 (by omega)); rwa [add0] at this
    · have := hc (i * 3 + 2) _ (cE_at hu 2 (by omega)); rwa [add0] at this
/-- A row of the call's own. -/
theorem Es.of_own {base : Nat} {t : TypeId} {c : Nat} (h : w.ownsRow base t 3 (.slice A n c) n (cE l)) : Es w w.heap.size A n l := by
  refine ⟨?_, Rd.of_own h, ?_⟩
  · have := h.1; rw [cE_len] at this; omega
  · rcases h.2 with ⟨h1, _⟩ | ⟨g, cap, cur, hv, _⟩
    · injection h1 with h1; exact .inl h1
    · injection hv with hv; exact .inr ⟨g, hv⟩
theorem Es.own_cap {base : Nat} {t : TypeId} {c : Nat} {xs : List Value} (h : w.ownsRow base t 3 (.slice A n c) n xs) : A = none → c = 0 := by
  rcases h.2 with ⟨h1, _⟩ | ⟨g, cap, cur, hv, _⟩
  · injection h1 with _ _ h1; exact fun _ => h1
  · injection hv with hv; intro h0; rw [hv] at h0; cases h0
theorem Es.front {m : Nat} (h : Es w B A n l) (hm : m ≤ n) : Es w B A m (l.take m) := by
  obtain ⟨hl, hr, ha⟩ := h
  refine ⟨by rw [List.length_take]; omega, ⟨by rw [cE_len, List.length_take]; congr 1; omega, fun h0 => ?_⟩, ha⟩
  obtain ⟨ad, e, hb, hc⟩ := hr.2 (by omega)
  refine ⟨ad, e, hb, fun j u hu => hc j u ?_⟩
  rw [← cE_take] at hu
  have hj := (List.getElem?_eq_some_iff.1 hu).1
  rw [List.length_take] at hj
  rwa [List.getElem?_take_of_lt (by omega)] at hu
end
theorem out_snoc_eq {k : Bs} {l : List Ent} {i : Nat} {e : Ent} (h : l[i]? = some e) (he : e.key = k) : out k (l.take (i + 1)) = out k (l.take i) := by
  obtain ⟨hi, rfl⟩ := List.getElem?_eq_some_iff.1 h
  rw [List.take_succ_eq_append_getElem hi]
  unfold out
  rw [List.filter_append]
  simp [he]
theorem out_snoc_ne {k : Bs} {l : List Ent} {i : Nat} {e : Ent} (h : l[i]? = some e) (he : e.key ≠ k) : out k (l.take (i + 1)) = out k (l.take i) ++ [e] := by
  obtain ⟨hi, rfl⟩ := List.getElem?_eq_some_iff.1 h
  rw [List.take_succ_eq_append_getElem hi]
  unfold out
  rw [List.filter_append]
  simp [he]

theorem info_parts' {t : TypeId} {z : Value} {s b : Nat} (h : (Try.prog.info? t).map (fun i => (i.zero, i.size, i.bytes)) = some (some z, s, b)) : ∃ i, Try.prog.info? t = some i ∧ i.zero = some z ∧ i.size = s ∧ i.bytes = b := by
  cases hi : Try.prog.info? t with
  | none => rw [hi] at h; cases h
  | some i => rw [hi] at h; simp at h; exact ⟨i, rfl, h.1, h.2.1, h.2.2⟩
abbrev zE : Value := .agg #[.string ⟨#[]⟩, .string ⟨#[]⟩, .int .i64 0]
theorem infoEnt : (Try.prog.info? 88).map (fun i => (i.zero, i.size, i.bytes)) = some (some zE, 3, 40) := by kernel_rfl
theorem infoText : (Try.prog.info? 9).map (fun i => (i.zero, i.size, i.bytes)) = some (some (.string ⟨#[]⟩), 1, 16) := by kernel_rfl

theorem fill_ent (k v : List UInt8) (n : Nat) : Instr.fill (fun i => some (i * 3, 3)) (Array.map (fun x => zE.cells[x % zE.cells.size]!) (Array.range (1 * 3))) [(0, Value.agg #[.string ⟨k.toArray⟩, .string ⟨v.toArray⟩, .int .i64 (n : Int)])] = some #[.string ⟨k.toArray⟩, .string ⟨v.toArray⟩, .int .i64 (n : Int)] := by kernel_rfl
/-- An entry read whole. -/
theorem wpList_loadEnt {ops : Array Oper} {rest : List Oper} {o : Oper} {a : Act} {w : World} {Q : Exit → Act → World → Prop} (hg : o.guard = none) (x : Operand) (ho : o.op = .load 88 x) (b off : Nat) (hx : a.eval x = .pointer (some ⟨b, off, none⟩)) {e : Ent}
    (c0 : w.cell? ⟨b, off, none⟩ = some (.string ⟨e.key.toArray⟩)) (c1 : w.cell? ⟨b, off + 1, none⟩ = some (.string ⟨e.val.toArray⟩)) (c2 : w.cell? ⟨b, off + 2, none⟩ = some (.int .i64 (e.wt : Int)))
    (h : wpList Try.prog ops Q rest (a.put o.dst (.agg (eC e).toArray)) w) : wpList Try.prog ops Q (o :: rest) a w := by
  refine wpList_load_mid hg 88 x ho b off hx (eC e) _ (fun j v hv => ?_) Try.underlying88 rfl (by kernel_rfl) h
  match j, hv with
  | 0, hv => cases hv; exact c0
  | 1, hv => cases hv; exact c1
  | 2, hv => cases hv; exact c2
  | j + 3, hv => cases hv
/-- A slice literal of one entry. -/
theorem wpList_buildEnt {ops : Array Oper} {rest : List Oper} {o : Oper} {a : Act} {w : World} {Q : Exit → Act → World → Prop} (hg : o.guard = none) (x : Operand) (ho : o.op = .buildSlice 43 1 #[(0, x)]) (e : Ent) (hx : a.eval x = .agg (eC e).toArray)
    (h : wpList Try.prog ops Q rest (a.put o.dst (.slice (some ⟨w.heap.size, 0, none⟩) 1 1)) (w.alloc (.cells (eC e).toArray 88))) : wpList Try.prog ops Q (o :: rest) a w := by
  obtain ⟨i0, hi, hz0, hz1, hz2⟩ := info_parts' infoEnt
  refine wpList_buildSlice hg 43 88 1 _ ho _ i0 zE Try.underlying43 hi hz0 (by rw [hz1]; omega) (by rw [hz1]; omega) ?_ h
  rw [hz1]
  have : (#[(0, x)].map fun (i, x) => (i, a.eval x)).toList = [(0, .agg (eC e).toArray)] := by simp [hx]
  rw [this]
  exact fill_ent e.key e.val e.wt

set_option maxRecDepth 100000 in
set_option maxHeartbeats 1000000 in
theorem without_any (A : Option Addr) (n c B : Nat) (l : List Ent) (k : Bs) (hn : n ≤ 3298534883328) (w : World) (hB : B ≤ w.heap.size) (hr : Es w B A n l) :
    Calls Try.prog 40 #[.slice A n c, .string ⟨k.toArray⟩] w fun x w' => ∃ v, x = .returned v ∧ w'.ownsRow w.heap.size 88 3 v (out k l).length (cE (out k l)) ∧ Below w.heap.size w w' := by
  obtain ⟨i0, hi, hz0, hz1, hz2⟩ := info_parts' infoEnt
  have HR := Lib.hid hr
  have HL := Lib.hid hr.1
  clear hr
  go_enter Try.func40, Try.ntmps40
  go_wp2
  go_loopw [5, 6] (fun v iv wr => ∃ (i m : Nat), iv = .int .i64 i ∧ i ≤ n ∧ m ≤ i ∧ (out k (l.take i)).length = m ∧ wr.ownsRow w.heap.size 88 3 v m (cE (out k (l.take i))) ∧ Below w.heap.size w wr) (fun _ iv _ => n - (intOf iv).toNat)
  case atStart => exact ⟨0, 0, rfl, by omega, by omega, rfl, World.ownsRow_nil _ _ _ _, Below.refl _ _⟩
  case round =>
    obtain ⟨i, m, rfl, hin, hmi, hm, hown, hb⟩ := hrel
    have HM := Lib.hid hm
    clear hm
    by_cases hlt : i < n
    · obtain ⟨b, e, rfl, hbB, he, e0, e1, e2⟩ := (HR.out.below (hb.mono hB)).at_ hlt
      have HE := Lib.hid he
      have hlt2 : (i : Int) < (n : Int) := by omega
      clear he
      by_cases hk : e.key = k
      · have hbk : (e.key == k) = true := by simpa using hk
        have HK := Lib.hid hk
        clear hk
        go_wp2
        go_roundw
        case rel => exact ⟨i + 1, m, by go_num, by omega, by omega, by rw [out_snoc_eq HE.out HK.out]; exact HM.out, by rw [out_snoc_eq HE.out HK.out]; exact hown, hb⟩
        case measure => simp [intOf]; omega
      · have hbk : (e.key == k) = false := by simpa using hk
        have HK := Lib.hid hk
        clear hk
        go_wp2_with (first
          | (refine wpList_loadEnt rfl (.tmp 23) rfl b (i * 3) rfl e0 e1 e2 ?_)
          | (refine wpList_buildEnt rfl (.tmp 24) rfl e rfl ?_)
          | (at_builtin; refine wpList_append_own _ rfl (.tmp 20) (.tmp 25) 43 rfl w.heap.size 88 i0 zE 3 40 Try.underlying43 hi hz0 hz1 hz2 rfl (by decide) _ _ _ rfl (hown.alloc _) ⟨wr.heap.size, 0, none⟩ 1 1 (eC e) rfl rfl (new_cells _ _ _) (cE_one1 e) (by unfold maxLen; omega) (by omega) (by have := hb.size; simp; omega) ?_; intro v2 w2 hrow2 hg2 _; have hb2 := (hb.alloc hb.size (.cells #[.string ⟨e.key.toArray⟩, .string ⟨e.val.toArray⟩, .int .i64 (e.wt : Int)] 88)).grown hg2 (by have := hb.size; simp; omega) (fun j hj => (hown.lt j hj).1)))
        go_roundw
        case rel => exact ⟨i + 1, m + 1, by go_num, by omega, by omega, by rw [out_snoc_ne HE.out HK.out, List.length_append, HM.out]; rfl, by rw [out_snoc_ne HE.out HK.out, cE_append, cE_single]; exact hrow2, hb2⟩
        case measure => simp [intOf]; omega
    · have hin2 : i = n := by omega
      subst hin2
      have hE : l.take i = l := List.take_of_length_le (by have := HL.out; omega)
      rw [hE] at hown HM
      go_wp2
      go_ret
      exact ⟨_, rfl, by rw [HM.out]; exact hown, hb⟩

theorem sum_take {l : List Ent} {i : Nat} {e : Ent} (h : l[i]? = some e) : sumW (l.take (i + 1)) = sumW (l.take i) + e.wt := by
  obtain ⟨hi, rfl⟩ := List.getElem?_eq_some_iff.1 h
  rw [List.take_succ_eq_append_getElem hi, sumW_append]
  rfl
theorem sum_take_le (l : List Ent) (i : Nat) : sumW (l.take i) ≤ sumW l := sumW_sub (List.take_sublist i l)

set_option maxRecDepth 100000 in
set_option maxHeartbeats 1000000 in
theorem sum_any (A : Option Addr) (n c B : Nat) (l : List Ent) (hn : n ≤ 3298534883328) (hs : sumW l ≤ 4611686018427387904) (w : World) (hr : Es w B A n l) :
    Calls Try.prog 41 #[.slice A n c] w fun x w' => x = .returned (.int .i64 (sumW l : Int)) ∧ w = w' := by
  have HR := Lib.hid hr
  have HL := Lib.hid hr.1
  clear hr
  go_enter Try.func41, Try.ntmps41
  go_wp2
  go_loopw [3, 4] (fun v iv wr => ∃ (i s : Nat), iv = .int .i64 i ∧ v = .int .i64 s ∧ i ≤ n ∧ sumW (l.take i) = s ∧ wr = w) (fun _ iv _ => n - (intOf iv).toNat)
  case atStart => exact ⟨0, 0, rfl, rfl, by omega, rfl, rfl⟩
  case round =>
    obtain ⟨i, s, rfl, rfl, hin, hm, rfl⟩ := hrel
    have HM := Lib.hid hm
    clear hm
    by_cases hlt : i < n
    · obtain ⟨b, e, rfl, hbB, he, e0, e1, e2⟩ := HR.out.at_ hlt
      have hsn := sum_take he
      have hle := sum_take_le l (i + 1)
      rw [HM.out] at hsn
      have HS := Lib.hid hsn
      have hsm : s + e.wt ≤ 4611686018427387904 := by omega
      have hlt2 : (i : Int) < (n : Int) := by omega
      clear he hsn hle
      go_wp2
      go_roundw
      case rel => exact ⟨i + 1, s + e.wt, by go_num, by go_num, by omega, HS.out, trivial⟩
      case measure => simp [intOf]; omega
    · have hin2 : i = n := by omega
      subst hin2
      have hE : l.take i = l := List.take_of_length_le (by have := HL.out; omega)
      rw [hE] at HM
      go_wp2
      go_ret
      exact ⟨ret_int (by rw [HM.out]), rfl⟩
end Go.Proofs.Ytpppgdfgbhglbaa.Ca
