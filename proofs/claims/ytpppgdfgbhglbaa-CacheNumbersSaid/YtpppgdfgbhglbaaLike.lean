/- A floating-point number as a text: the walk of 'like'. -/
import Derived.Test.YtpppgdfgbhglbaaRestF
import Derived.Laws.Externs
import Derived.Laws.Shifts
import Derived.Test.YtpppgdfgbhglbaaTwin
namespace Go.Proofs.Ytpppgdfgbhglbaa.CaF
open Go.RowKit Go.Proofs Go.Proofs.Ytpppgdfgbhglbaa.Fl Go.Proofs.Ytpppgdfgbhglbaa.Ring Go.Proofs.Ytpppgdfgbhglbaa.Lru

/-- A class as a text. -/
def bytes8 (b : Nat) (n : Nat) : Bs := (List.range n).map fun i => UInt8.ofNat (b / 256 ^ i)
def tx (c : Nat) : Bs := if c = 0 then [48] else bytes8 c 8

theorem bytes8_succ (b n : Nat) : bytes8 b (n + 1) = bytes8 b n ++ [UInt8.ofNat (b / 256 ^ n)] := by
  unfold bytes8
  rw [List.range_succ, List.map_append]
  rfl
theorem infoU8 : (Try.prog.info? 5).map (fun i => (i.zero, i.size, i.bytes)) = some (some (.int .u8 0), 1, 1) := by kernel_rfl
theorem run_bits (k : Nat) (w : World) : (callFunc 42 #[.float .f64 k]).run Try.prog w = .ok (.value (.int .u64 k)) w := by
  rw [run_callFunc_extern (fn := Try.f42) (e := Extern.MathFloatBits.float64bits) (by kernel_rfl) (by kernel_rfl) (by kernel_rfl) (by kernel_rfl) (by kernel_rfl)]
  rfl

set_option maxRecDepth 100000 in
set_option maxHeartbeats 1000000 in
theorem like_any (k : Nat) (hk : k < 18446744073709551616) (hn : ¬ fnan k) (w : World) :
    Calls Try.prog 17 #[.float .f64 k] w fun x w' => x = .returned (encStr (tx (fcls k))) ∧ Below w.heap.size w w' := by
  obtain ⟨i0, hi, hz0, hz1, hz2⟩ := info_parts infoU8
  have hq := eq_zero hk hn
  have hb := run_bits k
  by_cases h0 : fcls k = 0
  · rw [decide_eq_true h0] at hq
    go_enter Try.func17, Try.ntmps17
    go_wp2
    go_ret
    exact ⟨by unfold tx; rw [if_pos h0]; rfl, Below.refl _ _⟩
  · rw [decide_eq_false h0] at hq
    have HF := Lib.hid (fcls_of h0)
    have HF0 := Lib.hid h0
    clear h0
    go_enter Try.func17, Try.ntmps17
    go_wp2
    go_loopg [4, 5] 8 (fun m v iv wr => ∃ i : Nat, iv = .int .i64 (i : Int) ∧ i + m = 8 ∧ wr.ownsRow w.heap.size 5 1 v i (cU8 (bytes8 k i)) ∧ Below w.heap.size w wr)
    case atStart => exact ⟨0, rfl, rfl, World.ownsRow_nil _ _ _ _, Below.refl _ _⟩
    case round =>
      obtain ⟨i, rfl, hm, hown, hb⟩ := hrel
      by_cases hlt : i < 8
      · have h1 : ((8 * (i : Int)) % 18446744073709551616) = 8 * (i : Int) := by omega
        obtain ⟨e, he⟩ : ∃ e : Int, e = (k : Int) / 2 ^ (8 * i) % 256 := ⟨_, rfl⟩
        have he2 : ∀ n : Nat, n = 8 * i → (k : Int) / 2 ^ n % 256 = e := fun n hn => by rw [hn, he]
        have HE := Lib.hid he
        have e0 := he2 _ rfl
        clear he he2
        go_wp2_with (first
          | (at_builtin; refine wpList_append_own _ rfl (.tmp 14) (.tmp 21) 36 rfl w.heap.size 5 i0 (.int .u8 0) 1 1 Try.underlying36 hi hz0 hz1 hz2 rfl (by decide) _ _ _ rfl (hown.alloc _) ⟨wr.heap.size, 0, none⟩ 1 1 [.int .u8 e] rfl rfl (cell_one_new _ _ _) (by simp [Value.oneCell']) (by unfold maxLen; omega) (by omega) (by have := hb.size; simp; omega) ?_; intro v2 w2 hrow2 hg2 _; have hb2 := (hb.alloc hb.size (.cells #[.int .u8 e] 5)).grown hg2 (by have := hb.size; simp; omega) (fun j hj => (hown.lt j hj).1)))
        go_roundg (7 - i)
        case measure => omega
        case rel =>
          refine ⟨i + 1, by go_num, by omega, ?_, hb2⟩
          rw [bytes8_succ]
          have h3 : e = ((UInt8.ofNat (k / 256 ^ i)).toNat : Int) := by
            have h4 : (2 : Int) ^ (8 * i) = ((256 ^ i : Nat) : Int) := by
              rw [Int.pow_mul]; simp
            rw [HE.out, UInt8.toNat_ofNat', h4]
            generalize 256 ^ i = z
            omega
          rw [h3] at hrow2
          simpa using hrow2
      · obtain rfl : i = 8 := by omega
        obtain ⟨A, c, rfl, _, _⟩ := own_form hown
        have ht := run_text (P := Try.prog) wr 36 9 5 Try.underlying36 Try.underlying5 Try.underlying9 c (Rd.of_own hown)
        go_wp2
        go_ret
        refine ⟨?_, hb⟩
        unfold tx
        rw [HF.out, if_neg]
        · rfl
        · intro h
          have := HF0.out
          rw [HF.out] at this
          exact this h
end Go.Proofs.Ytpppgdfgbhglbaa.CaF
/- Keys that are numbers beside keys that are texts: the plain law. And a cache of numbers beside the document's. -/
namespace Go.Proofs.Ytpppgdfgbhglbaa.CaF
open Go.RowKit Go.Proofs Go.Proofs.Ytpppgdfgbhglbaa.Fl Go.Proofs.Ytpppgdfgbhglbaa.Ring Go.Proofs.Ytpppgdfgbhglbaa.Lru

theorem bytes8_inj (n : Nat) {a b : Nat} (ha : a < 256 ^ n) (hb : b < 256 ^ n) (h : bytes8 a n = bytes8 b n) : a = b := by
  induction n generalizing a b with
  | zero => simp at ha hb; omega
  | succ n ih =>
    have hs : ∀ x : Nat, bytes8 x (n + 1) = UInt8.ofNat x :: bytes8 (x / 256) n := by
      intro x
      unfold bytes8
      rw [List.range_succ_eq_map, List.map_cons, List.map_map]
      simp only [Nat.pow_zero, Nat.div_one, Function.comp_def]
      congr 1
      refine List.map_congr_left fun i _ => ?_
      rw [Nat.succ_eq_add_one, Nat.pow_succ, Nat.mul_comm, Nat.div_div_eq_div_mul]
    rw [hs, hs] at h
    injection h with h1 h2
    have h3 := congrArg UInt8.toNat h1
    simp only [UInt8.toNat_ofNat'] at h3
    have h4 := ih (a := a / 256) (b := b / 256) (by rw [Nat.pow_succ] at ha; exact Nat.div_lt_of_lt_mul (by rwa [Nat.mul_comm])) (by rw [Nat.pow_succ] at hb; exact Nat.div_lt_of_lt_mul (by rwa [Nat.mul_comm])) h2
    omega
theorem tx_inj {a b : Nat} (ha : a < 18446744073709551616) (hb : b < 18446744073709551616) (h : tx a = tx b) : a = b := by
  have hl : ∀ x, (bytes8 x 8).length = 8 := fun x => by simp [bytes8]
  unfold tx at h
  split at h <;> split at h
  · omega
  · have := congrArg List.length h; rw [hl] at this; simp at this
  · have := congrArg List.length h; rw [hl] at this; simp at this
  · exact bytes8_inj 8 (by simpa using ha) (by simpa using hb) h

def ritem (e : It Nat Fv) : It Bs Bs := ⟨tx e.key, e.val.2, e.wt⟩
/-- The list as the document has it. -/
def rl (l : List (It Nat Fv)) : List (It Bs Bs) := l.map ritem
def Low (l : List (It Nat Fv)) : Prop := ∀ e ∈ l, e.key < 18446744073709551616
theorem sum_rl (l : List (It Nat Fv)) : sumW (rl l) = sumW l := by
  induction l with
  | nil => rfl
  | cons e r ih => show e.wt + sumW (rl r) = e.wt + sumW r; rw [ih]
theorem out_rl {c : Nat} (hc : c < 18446744073709551616) : ∀ {l : List (It Nat Fv)}, Low l → out (tx c) (rl l) = rl (out c l)
  | [], _ => rfl
  | e :: r, h => by
    have ih := out_rl hc (l := r) fun x hx => h x (by simp [hx])
    unfold out rl at ih ⊢
    rw [List.map_cons, List.filter_cons, List.filter_cons]
    by_cases he : e.key = c
    · have h1 : (ritem e).key = tx c := by unfold ritem; rw [he]
      simp only [h1, he, ne_eq, not_true_eq_false, decide_false, Bool.false_eq_true, if_false]
      exact ih
    · have h1 : (ritem e).key ≠ tx c := fun h2 => he (tx_inj (h e (by simp)) hc h2)
      simp only [h1, he, ne_eq, not_false_eq_true, decide_true, if_true, List.map_cons]
      rw [ih]
theorem seek_rl {c : Nat} (hc : c < 18446744073709551616) : ∀ {l : List (It Nat Fv)}, Low l → seek (tx c) (rl l) = (seek c l).map ritem
  | [], _ => rfl
  | e :: r, h => by
    have ih := seek_rl hc (l := r) fun x hx => h x (by simp [hx])
    unfold seek rl at ih ⊢
    rw [List.map_cons, List.find?_cons, List.find?_cons]
    by_cases he : e.key = c
    · have h1 : (ritem e).key = tx c := by unfold ritem; rw [he]
      rw [decide_eq_true h1, decide_eq_true he]
      rfl
    · have h1 : (ritem e).key ≠ tx c := fun h2 => he (tx_inj (h e (by simp)) hc h2)
      rw [decide_eq_false h1, decide_eq_false he]
      exact ih
theorem get_rl {c : Nat} (hc : c < 18446744073709551616) {l : List (It Nat Fv)} (h : Low l) : Lru.get (tx c) (rl l) = rl (Lru.get c l) := by
  unfold Lru.get
  rw [seek_rl hc h, out_rl hc h]
  cases seek c l <;> rfl
theorem trim_rl (room w : Nat) : ∀ (n : Nat) (l : List (It Nat Fv)), trim room w n (rl l) = rl (trim room w n l)
  | 0, _ => rfl
  | n + 1, l => by
    unfold trim
    rw [sum_rl]
    split
    · rw [← trim_rl room w n l.dropLast]
      congr 1
      unfold rl
      rw [List.map_dropLast]
    · rfl
theorem put_rl {c room : Nat} (hc : c < 18446744073709551616) (b : Nat) (v : Bs) (wt : Int) {l : List (It Nat Fv)} (h : Low l) : putI room (tx c) v wt (rl l) = rl (putI room c (b, v) wt l) := by
  unfold putI
  split
  · unfold Lru.put
    rw [out_rl hc h, show (rl (out c l)).length = (out c l).length by simp [rl], trim_rl]
    rfl
  · exact out_rl hc h
theorem rl_keys (l : List (It Nat Fv)) : (rl l).map (·.key) = l.map fun e => tx e.key := by simp [rl, ritem, Function.comp_def]
theorem cs_low {w : World} {S : Nat → Prop} {c room cnt : Nat} {l : List (It Nat Fv)} (h : Cs w S c room l cnt) : Low l := fun e he => by
  have := h.oks e he
  rw [← this.2.2]
  exact fcls_lt this.1
theorem rl_nodup {l : List (It Nat Fv)} (hl : Low l) (h : (l.map (·.key)).Nodup) : ((rl l).map (·.key)).Nodup := by
  rw [rl_keys]
  induction l with
  | nil => simp
  | cons e r ih =>
    rw [List.map_cons, List.nodup_cons] at h ⊢
    refine ⟨fun hm => ?_, ih (fun x hx => hl x (by simp [hx])) h.2⟩
    obtain ⟨x, hx, he⟩ := List.mem_map.1 hm
    have := tx_inj (hl x (by simp [hx])) (hl e (by simp)) he
    exact h.1 (this ▸ List.mem_map_of_mem (f := fun x : It Nat Fv => x.key) hx)
theorem rl_len (l : List (It Nat Fv)) : (rl l).length = l.length := by simp [rl]

/-- A cache whose keys are numbers; and the document's, which lies at X. -/
structure FT (w : World) (B X : Nat) (S : Nat → Prop) (pc r : Nat) (l : List (It Nat Fv)) (lr : List (It Bs Bs)) (A : Option Addr) (n c cnt : Nat) : Prop where
  cs : Cs w S pc r l cnt
  es : Ca.Es w w.heap.size A n lr
  cap : A = none → c = 0
  off : ∀ ad, 0 < n → A = some ad → ¬ S ad.block ∧ ad.block ≠ X
  low : ∀ k, S k → B ≤ k
  x : w.heap[X]? = some (CaS.rvCells r A n c)
  xS : ¬ S X
  bX : B ≤ X
  bw : B ≤ w.heap.size
section
variable {w w' : World} {B X : Nat} {S : Nat → Prop} {pc r : Nat} {l l' : List (It Nat Fv)} {lr lr' : List (It Bs Bs)} {A A' : Option Addr} {n c n' c' cnt cnt' : Nat}
theorem FT.below (h : FT w B X S pc r l lr A n c cnt) (hb : Below w.heap.size w w') : FT w' B X S pc r l lr A n c cnt :=
  ⟨h.cs.below hb, h.es.next hb, h.cap, h.off, h.low, hb.at_block h.x, h.xS, h.bX, Nat.le_trans h.bw hb.size⟩
theorem FT.mono (h : FT w B X S pc r l lr A n c cnt) {m : Nat} (hm : cnt ≤ m) : FT w B X S pc r l lr A n c m := ⟨h.cs.mono hm, h.es, h.cap, h.off, h.low, h.x, h.xS, h.bX, h.bw⟩
/-- The cache is called. -/
theorem FT.turn (h : FT w B X S pc r l lr A n c cnt) (ht : Turn w w' S pc r l' cnt') : ∃ S', FT w' B X S' pc r l' lr A n c cnt' ∧ Kept w w' S ∧ Below B w w' := by
  obtain ⟨S', h1, h2, h3⟩ := ht
  have hX : X < w.heap.size := (Array.getElem?_eq_some_iff.1 h.x).1
  refine ⟨S', ⟨h1, CaS.Es.kept h.es h2 fun ad h0 e => (h.off ad h0 e).1, h.cap, fun ad h0 e => ⟨fun hs => ?_, (h.off ad h0 e).2⟩, fun k hk => ?_, (h2.block X hX h.xS).trans h.x, fun hs => ?_, h.bX, Nat.le_trans h.bw h2.size⟩, h2, h2.to_below h.bw h.low⟩
  · rcases h3 _ hs with h4 | h4
    · exact (h.off ad h0 e).1 h4
    · have := CaS.Es.block_lt h.es h0 e; omega
  · rcases h3 _ hk with h4 | h4
    · exact h.low k h4
    · exact Nat.le_trans h.bw h4
  · rcases h3 _ hs with h4 | h4
    · exact h.xS h4
    · omega
/-- The document's is called, and what it answers is kept. -/
theorem FT.ref (h : FT w B X S pc r l lr A n c cnt) (hb : Below w.heap.size w w') (hE : Ca.Es w' w'.heap.size A' n' lr') (hcap : A' = none → c' = 0) (hfr : ∀ ad, 0 < n' → A' = some ad → (A' = A ∧ 0 < n) ∨ w.heap.size ≤ ad.block) :
    FT ((w'.setCell ⟨X, 0, none⟩ (.int .i64 (r : Int))).setCell ⟨X, 1, none⟩ (.slice A' n' c')) B X S pc r l lr' A' n' c' cnt ∧ Kept w ((w'.setCell ⟨X, 0, none⟩ (.int .i64 (r : Int))).setCell ⟨X, 1, none⟩ (.slice A' n' c')) (fun k => k = X) ∧ Below B w ((w'.setCell ⟨X, 0, none⟩ (.int .i64 (r : Int))).setCell ⟨X, 1, none⟩ (.slice A' n' c')) := by
  have hX : X < w.heap.size := (Array.getElem?_eq_some_iff.1 h.x).1
  have hks : Kept w' ((w'.setCell ⟨X, 0, none⟩ (.int .i64 (r : Int))).setCell ⟨X, 1, none⟩ (.slice A' n' c')) (fun k => k = X) := ((Kept.refl w' (fun k => k = X)).set (p := ⟨X, 0, none⟩) rfl _).set (p := ⟨X, 1, none⟩) rfl _
  have hx' := hb.at_block h.x
  have hoff : ∀ ad, 0 < n' → A' = some ad → ¬ S ad.block ∧ ad.block ≠ X := by
    intro ad h0 had
    rcases hfr ad h0 had with ⟨e, h1⟩ | h1
    · exact h.off ad h1 (e ▸ had)
    · exact ⟨fun hs => by have := h.cs.low _ hs; omega, by omega⟩
  refine ⟨⟨(h.cs.below hb).kept hks fun k hs e => h.xS (e ▸ hs), CaS.Es.kept hE hks fun ad h0 e => (hoff ad h0 e).2, hcap, hoff, h.low, ?_, h.xS, h.bX, ?_⟩, (Kept.of_below _ hb).trans hks fun k hk => .inl hk, (hb.mono h.bw).trans (hks.to_below (Nat.le_trans h.bw hb.size) fun k e => e ▸ h.bX)⟩
  · have e1 : (w'.setCell ⟨X, 0, none⟩ (.int .i64 (r : Int))).heap[X]? = some (.cells (#[.int .i64 (r : Int), .slice A n c].setIfInBounds 0 (.int .i64 (r : Int))) 45 (0, 0)) := heap_same hx' _
    exact heap_same (i := 1) e1 (.slice A' n' c')
  · have := h.bw; have := hb.size; have := hks.size; omega
end
theorem Turn.undrew {w w' : World} {S : Nat → Prop} {c room cnt : Nat} {l : List (It Nat Fv)} (h : Turn w.drew w' S c room l cnt) : Turn w w' S c room l cnt := by
  obtain ⟨S', h1, h2, h3⟩ := h
  exact ⟨S', h1, ⟨h2.os, h2.tape, h2.output, h2.size, h2.block⟩, h3⟩
end Go.Proofs.Ytpppgdfgbhglbaa.CaF
