/- XBase, XOpen, XRing, XDmap: merged by tools/merge.py. -/
import Derived.WalkKit
import Derived.WalkLawsBesides
import Derived.WalkSpells
import Derived.Lib.Hide
import Derived.Deep.QuietTactic
import Derived.BigQuiet
import Derived.Deep.RegionWith
import Derived.Deep.CutRange
import Derived.Deep.AppendLies
import Derived.Maps.AppendAt
import Derived.Laws.BytesArg
import Derived.Sort.EncStr
import Derived.Lib.Strings
import Derived.Maps.RangeWalk
import Derived.Maps.OwnSet
import Derived.ProofKit
import Derived.OpenShut
import Derived.ShutString
import Derived.ChangeOld
import Derived.SizedLaws
import Derived.SliceStrings
import Derived.Test.YtelgcmcnebncmaaQ01
import Derived.Shelf.SlMaps.Clone
import Derived.Sort.KeysCollected
namespace Go.Proofs.Ytelgcmcnebncmaa
open Go.RowKit Go.Proofs

theorem ret_eq {u v : Value} (h : u = v) : Ending.returned u = .returned v := by rw [h]
theorem ret_int {k : IntKind} {a b : Int} (h : a = b) : Ending.returned (.int k a) = .returned (.int k b) := by rw [h]
theorem ret_bool {a b : Bool} (h : a = b) : Ending.returned (.bool a) = .returned (.bool b) := by rw [h]
theorem ret_str {X : ByteArray} {l : List UInt8} (h : X.data.toList = l) : Ending.returned (.string X) = .returned (.string ⟨l.toArray⟩) := by
  rw [← h]

theorem len_data (s : ByteArray) : s.data.toList.length = s.size := Array.length_toList
theorem ba_eq (X : ByteArray) (l : List UInt8) (h : X.data.toList = l) : X = ⟨l.toArray⟩ := by
  apply ByteArray.ext; rw [← h]
theorem ba_inj {X Y : ByteArray} (h : X.data.toList = Y.data.toList) : X = Y := by
  apply ByteArray.ext; exact Array.ext' h
theorem take_all (s : ByteArray) (k : Nat) (h : s.size ≤ k) : s.data.toList.take k = s.data.toList := List.take_of_length_le (by rw [len_data]; exact h)
theorem take_snoc (s : ByteArray) (k : Nat) (h : k < s.size) : s.data.toList.take (k + 1) = s.data.toList.take k ++ [s[k]] := by
  rw [List.take_succ_eq_append_getElem (by simpa using h)]; rfl
theorem byte_256 (b : UInt8) : (b.toNat : Int) < 256 := by have := UInt8.toNat_lt b; omega

/-- Bytes, texts, as cells. -/
abbrev cU8 (l : List UInt8) : List Value := l.map fun b => Value.int .u8 (b.toNat : Int)
abbrev cStr (l : List (List UInt8)) : List Value := l.map encStr

theorem cU8_one (l : List UInt8) : ∀ u ∈ cU8 l, u.oneCell' = true := by
  intro u hu; obtain ⟨b, _, rfl⟩ := List.mem_map.1 hu; rfl
theorem cStr_one (l : List (List UInt8)) : ∀ u ∈ cStr l, u.oneCell' = true := by
  intro u hu; obtain ⟨b, _, rfl⟩ := List.mem_map.1 hu; rfl

theorem add_block (a : Addr) (n : Nat) : (a.add n).block = a.block := by unfold Addr.add; split <;> rfl
theorem add_add (a : Addr) (i j : Nat) : (a.add i).add j = a.add (i + j) := by
  unfold Addr.add
  by_cases hi : i = 0 <;> by_cases hj : j = 0 <;> simp [hi, hj, Nat.add_assoc]

/-- A slice of n elements (each 'size' cells) at A holds the cells xs; it lies below block B. -/
def Rd (w : World) (B size : Nat) (A : Option Addr) (n : Nat) (xs : List Value) : Prop :=
  xs.length = n * size ∧ (0 < n → ∃ ad, A = some ad ∧ ad.block < B ∧ ∀ j u, xs[j]? = some u → w.cell? (ad.add j) = some u)

section
variable {w w' : World} {B B' size n : Nat} {A : Option Addr} {xs : List Value}
theorem Rd.none_ : Rd w B size A 0 [] := ⟨by simp, fun h => absurd h (by omega)⟩
theorem Rd.at_ {k : Nat} (h : Rd w B 1 A n xs) (hk : k < n) : ∃ ad u, A = some ad ∧ ad.block < B ∧ xs[k]? = some u ∧ w.cell? (ad.add k) = some u := by
  obtain ⟨ad, e, hb, hc⟩ := h.2 (by omega)
  have hl : k < xs.length := by have := h.1; omega
  exact ⟨ad, xs[k], e, hb, List.getElem?_eq_getElem hl, hc k _ (List.getElem?_eq_getElem hl)⟩
theorem Rd.keep (h : Rd w B size A n xs) (hk : ∀ p : Addr, p.block < B → w'.cell? p = w.cell? p) : Rd w' B size A n xs :=
  ⟨h.1, fun hn => by
    obtain ⟨ad, e, hb, hc⟩ := h.2 hn
    exact ⟨ad, e, hb, fun j u hu => (hk _ (by rw [add_block]; exact hb)).trans (hc j u hu)⟩⟩
theorem Rd.more (h : Rd w B size A n xs) (hB : B ≤ B') : Rd w B' size A n xs :=
  ⟨h.1, fun hn => by
    obtain ⟨ad, e, hb, hc⟩ := h.2 hn
    exact ⟨ad, e, by omega, hc⟩⟩
theorem Rd.below (h : Rd w B size A n xs) (hb : Below B w w') : Rd w' B size A n xs := h.keep fun _ hp => hb.cell hp
theorem Rd.drewN (h : Rd w B size A n xs) (k : Nat) : Rd (w.drewN k) B size A n xs := h
theorem Rd.drew (h : Rd w B size A n xs) : Rd w.drew B size A n xs := h
theorem Rd.alloc (h : Rd w B size A n xs) (hB : B ≤ w.heap.size) (o : Obj) : Rd (w.alloc o) B size A n xs := h.keep fun p hp => World.cell?_alloc_lt w o p (by omega)
theorem Rd.setCell (h : Rd w B size A n xs) {p : Addr} (hB : B ≤ p.block) (u : Value) : Rd (w.setCell p u) B size A n xs :=
  h.keep fun q hq => World.cell?_setCell_other w p q u (fun e => by subst e; omega)
theorem Rd.grown (h : Rd w B size A n xs) {row : Option Nat} (hg : w.grownBy w' row) (hB : B ≤ w.heap.size) (hr : ∀ g, row = some g → B ≤ g) : Rd w' B size A n xs :=
  h.keep fun p hp => World.cell?_of_block (hg.block p.block (by omega) (fun e => by have := hr _ e.symm; omega))
theorem Rd.of_own {base : Nat} {e : TypeId} {c : Nat} (h : w.ownsRow base e size (.slice A n c) n xs) : Rd w w.heap.size size A n xs := by
  refine ⟨h.1, fun hn => ?_⟩
  obtain ⟨g, cap, hv, _, hlt⟩ := h.form hn
  have hA : A = some ⟨g, 0, none⟩ := by injection hv
  subst hA
  exact ⟨_, rfl, hlt, h.cells (g := g) rfl⟩
/-- The cell of element k, where there is one. -/
theorem Rd.cell (h : Rd w B 1 A n xs) {ad : Addr} (hA : A = some ad) {k : Nat} {u : Value} (hk : k < n) (hu : xs[k]? = some u) : w.cell? (ad.add k) = some u := by
  obtain ⟨ad', e, _, hc⟩ := h.2 (by omega)
  rw [hA] at e
  obtain rfl : ad = ad' := by injection e
  exact hc k u hu
end

theorem grown_of_below {a w : World} (h : Below a.heap.size a w) (row : Option Nat) : a.grownBy w row := ⟨h.os, h.tape, h.output, h.size, fun i hi _ => h.block i hi⟩
theorem own_below {w w' : World} {base : Nat} {e : TypeId} {size n : Nat} {v : Value} {xs : List Value} (h : w.ownsRow base e size v n xs) (hb : Below w.heap.size w w') : w'.ownsRow base e size v n xs :=
  h.kept (grown_of_below hb none) (by cases hv : v.ownBlock <;> simp)
theorem own_base {w : World} {base base' : Nat} {e : TypeId} {size n : Nat} {v : Value} {xs : List Value} (h : w.ownsRow base' e size v n xs) (hb : base ≤ base') : w.ownsRow base e size v n xs := by
  refine ⟨h.1, ?_⟩
  rcases h.2 with h2 | ⟨g, cap, cur, hv, hg, rest⟩
  · exact .inl h2
  · exact .inr ⟨g, cap, cur, hv, by omega, rest⟩
theorem below_drewN {B : Nat} {a w : World} (h : Below B a w) (n : Nat) : Below B a (w.drewN n) := ⟨h.os, h.tape, h.output, h.size, h.block⟩
theorem below_same {w w' : World} (h : ∃ n, w' = w.drewN n) (B : Nat) : Below B w w' := by obtain ⟨n, rfl⟩ := h; exact below_drewN (Below.refl _ _) n
/-- Contracts that leave the very world, in a region whose operations only read. -/
theorem quiet_l {P : Program} {f : FuncId} {args : Array Value} {w : World} {n : Nat} {v : Value}
    (h : Calls P f args (w.drewN n) fun e w' => e = .returned v ∧ w.drewN n = w') : Calls P f args (w.drewN n) fun e w'' => e = .returned v ∧ ∃ m, w'' = w.drewN m :=
  h.mono fun _ _ ⟨he, hm⟩ => ⟨he, n, hm.symm⟩
theorem quiet_la {P : Program} {f : FuncId} {args : Array Value} {w : World} {a n : Nat} {v : Value}
    (h : Calls P f args (w.drewN (a + n)) fun e w' => e = .returned v ∧ w.drewN (a + n) = w') :
    Calls P f args (w.drewN (a + n)) fun e w'' => e = .returned v ∧ ∃ m, w'' = w.drewN (a + m) :=
  h.mono fun _ _ ⟨he, hm⟩ => ⟨he, n, hm.symm⟩
/-- Two steps, each of which leaves what stood ahead of it. -/
theorem bch {w w1 w2 : World} (h1 : Below w.heap.size w w1) (h2 : Below w1.heap.size w1 w2) : Below w.heap.size w w2 := h1.trans (h2.mono h1.size)
theorem Rd.next {w w1 : World} {size n : Nat} {A : Option Addr} {xs : List Value} (h : Rd w w.heap.size size A n xs) (hb : Below w.heap.size w w1) : Rd w1 w1.heap.size size A n xs := (h.below hb).more hb.size
/-- The cells of a new block. -/
theorem new_cells (w : World) (l : List Value) (e : TypeId) : ∀ j u, l[j]? = some u → (w.alloc (.cells l.toArray e)).cell? ((⟨w.heap.size, 0, none⟩ : Addr).add j) = some u := by
  intro j u hu
  have hadd : (⟨w.heap.size, 0, none⟩ : Addr).add j = ⟨w.heap.size, j, none⟩ := by unfold Addr.add; split <;> simp_all
  rw [hadd, cell_of_row _ w.heap.size j l.toArray e (0, 0) (heap_alloc_new w _)]
  simpa using hu
/-- The value of a slice that a call owns is a slice of its length. -/
theorem own_form {w : World} {base : Nat} {e : TypeId} {size n : Nat} {v : Value} {xs : List Value} (h : w.ownsRow base e size v n xs) : ∃ A c, v = .slice A n c ∧ n ≤ c ∧ c ≤ maxLen := by
  rcases h.2 with ⟨hv, hx⟩ | ⟨g, cap, cur, hv, _, _, h1, h2, _⟩
  · subst hv; subst hx
    exact ⟨none, 0, rfl, Nat.le_refl _, Nat.zero_le _⟩
  · exact ⟨_, _, hv, h1, h2⟩

section
variable {P : Program} (w : World)
/-- Bytes read as a text. -/
theorem run_text (src dst e : TypeId) (hs : P.underlying src = some (.slice e)) (he : P.underlying e = some (.int .u8)) (hd : P.underlying dst = some .string)
    {B n : Nat} {A : Option Addr} (c : Nat) {l : List UInt8} (h : Rd w B 1 A n (cU8 l)) :
    (convert src dst (.slice A n c)).run P w = .ok (.string ⟨l.toArray⟩) w := by
  have hl : l.length = n := by simpa using h.1
  cases A with
  | none =>
    have h0 : n = 0 := by
      rcases Nat.eq_zero_or_pos n with h0 | h0
      · exact h0
      · obtain ⟨ad, e, _⟩ := h.2 h0; cases e
    subst h0
    have : l = [] := List.eq_nil_of_length_eq_zero hl
    subst this
    rw [run_convert_bytes_nil w src e hs he 0 c dst hd]; rfl
  | some ad =>
    rw [run_convert_bytes_string w src dst e _ n c hs he hd]
    have hload : (loadCells ad n).run P w = .ok ((l.map fun b => (b.toNat : Int)).map (Value.int .u8)).toArray w := by
      have := run_loadCells_list (P := P) w ad (cU8 l) (fun j v hj => by
        have hn : 0 < n := by
          rcases Nat.eq_zero_or_pos n with h0 | h0
          · have : l = [] := List.eq_nil_of_length_eq_zero (by omega)
            subst this; simp at hj
          · exact h0
        obtain ⟨ad', e, _, hc⟩ := h.2 hn
        obtain rfl : ad = ad' := by injection e
        exact hc j v hj)
      simpa [hl, List.map_map, Function.comp_def] using this
    rw [run_bytesToString w ad n c _ hload, foldl_push_bytes]
    congr 2
    apply ba_inj
    have e1 : ∀ b : UInt8, UInt8.ofNat ((b.toNat : Int)).toNat = b := fun b => by simp
    simp only [ByteArray.empty, ByteArray.emptyWithCapacity, List.map_map, Function.comp_def, e1, List.map_id']
    rw [Array.toList_append]
    rfl
end
end Go.Proofs.Ytelgcmcnebncmaa
namespace Go.Proofs.Ytelgcmcnebncmaa
open Go.ChangeShapes Go.WideShapes Go.ChangeAt Go.RowKit Go.Proofs
open Go.ChangeMaps (open_string shut_string)

theorem block_of_cell {w : World} {a : Addr} {v : Value} (h : w.cell? a = some v) : a.block < w.heap.size := by
  unfold World.cell? at h
  rcases Nat.lt_or_ge a.block w.heap.size with hlt | hge
  · exact hlt
  · rw [Array.getElem?_eq_none hge] at h; cases h

/-- A list of texts that came in. -/
theorem open_strs {H : Type} {enc : TypeId × Value → H} {P : Program} {W : World} {t e : TypeId} (ht : P.underlying t = some (.slice e)) (he : P.underlying e = some .string) (hc : P.cellsOf e = 1)
    {A : Option Addr} {n c : Nat} {d : DataW H} {p : List MemPlace} (h : DataW.Trod enc P W 0 (fun _ => true) true t (.slice A n c) d p) :
    ∃ xs : List (List UInt8), Rd W W.heap.size 1 A n (cStr xs) ∧ (∀ x ∈ xs, x.length ≤ maxLen) ∧ (n = 0 ∨ ∃ el sp, d = .slice el sp ∧ el.length = n) := by
  obtain ⟨fuel, hf⟩ := h
  rcases open_strings ht he hc hf with ⟨hcs, hx⟩ | ⟨a, len, cap, ss, hcs, _, hl, hm, hz, hx, hcell, hws⟩
  · simp [Value.cells] at hcs
    obtain ⟨rfl, rfl, rfl⟩ := hcs
    exact ⟨[], ⟨rfl, fun h0 => absurd h0 (by omega)⟩, by simp, .inl rfl⟩
  · simp [Value.cells] at hcs
    obtain ⟨rfl, rfl, rfl⟩ := hcs
    simp only [if_true] at hz
    have hnl : n ≤ ss.length := by omega
    refine ⟨(ss.take n).map fun s => s.data.toList, ⟨by simp; omega, fun h0 => ⟨a, rfl, ?_, ?_⟩⟩, ?_, .inr ⟨strs (ss.take n), strs (ss.drop n), ?_, ?_⟩⟩
    · have := block_of_cell (hcell 0 (by omega))
      rwa [add_block] at this
    · intro j u hu
      simp only [cStr, List.map_map, List.getElem?_map] at hu
      cases hs : (ss.take n)[j]? with
      | none => rw [hs] at hu; cases hu
      | some s =>
        rw [hs] at hu
        have hj : j < n := by
          obtain ⟨h1, _⟩ := List.getElem?_eq_some_iff.1 hs
          rw [List.length_take] at h1; omega
        rw [hcell j (by omega)]
        have hs2 : ss[j]? = some s := by rw [List.getElem?_take_of_lt hj] at hs; exact hs
        simp only [Option.map_some, Option.some.injEq, Function.comp] at hu
        rw [← hu, List.getD_eq_getElem?_getD, hs2]
        rfl
    · intro x hx
      obtain ⟨s, hs, rfl⟩ := List.mem_map.1 hx
      rw [len_data]
      exact hws s (List.mem_of_mem_take hs)
    · have := (Prod.mk.inj hx).1; exact this
    · simp [strs]; omega

/-- A nil list of texts has no room. -/
theorem open_strs_nil {H : Type} {enc : TypeId × Value → H} {P : Program} {W : World} {t e : TypeId} (ht : P.underlying t = some (.slice e)) (he : P.underlying e = some .string) (hc : P.cellsOf e = 1)
    {A : Option Addr} {n c : Nat} {d : DataW H} {p : List MemPlace} (h : DataW.Trod enc P W 0 (fun _ => true) true t (.slice A n c) d p) : A = none → c = 0 := by
  obtain ⟨fuel, hf⟩ := h
  rcases open_strings ht he hc hf with ⟨hcs, hx⟩ | ⟨a, len, cap, ss, hcs, _⟩
  · simp [Value.cells] at hcs
    exact fun _ => hcs.2.2
  · simp [Value.cells] at hcs
    intro h0
    rw [hcs.1] at h0; cases h0

/-- The last step: the call answered true and left what stood. -/
theorem shut_true {H : Type} {enc : TypeId × Value → H} {P : Program} {f : Func} {s : ChangeSpec} {W W' : World} {args : Array Value} {ds : List (DataW H)} {p : List MemPlace}
    (tb : TypeId) (hb : P.underlying tb = some .bool) (hres : f.resultTypes = #[tb])
    (hW : DataW.Whole enc P f.params.toList s.vars false W args.toList ds [] (p ++ []))
    (hs : (s.fn H ds).results = [.lit (.bool true)] ∧ (s.fn H ds).args = ds ∧ (s.fn H ds).vars = []) (hv : s.vars = [])
    (hargs : DataW.TrodAll enc P W' 0 (fun b => decide (b < W.heap.size)) true f.params.toList args.toList ds p)
    (bel : Below W.heap.size W W') : s.post enc P f false true false false W args (.bool true) W' := by
  refine ⟨_, _, _, [], p, [], hW, ?_, ?_, ?_, bel.frame _, fun h => by cases h⟩
  · rw [List.append_nil, hs.1, hres]
    exact trodAll_mk1 (shut_bool hb _)
  · rw [List.append_nil, hs.2.1]; exact hargs
  · rw [List.append_nil, hs.2.2, hv]; rfl
end Go.Proofs.Ytelgcmcnebncmaa
namespace Go.Proofs.Ytelgcmcnebncmaa
open Go.RowKit Go.Proofs

/-- Of what was there nothing has turned but the blocks of S. -/
structure Kept (w w' : World) (S : Nat → Prop) : Prop where
  os : w'.os = w.os
  tape : w'.tape = w.tape
  output : w'.output = w.output
  size : w.heap.size ≤ w'.heap.size
  block : ∀ k, k < w.heap.size → ¬ S k → w'.heap[k]? = w.heap[k]?

theorem Kept.refl (w : World) (S : Nat → Prop) : Kept w w S := ⟨rfl, rfl, rfl, Nat.le_refl _, fun _ _ _ => rfl⟩
theorem Kept.below {w w1 w2 : World} {S : Nat → Prop} (h : Kept w w1 S) (hb : Below w1.heap.size w1 w2) : Kept w w2 S :=
  ⟨hb.os.trans h.os, hb.tape.trans h.tape, hb.output.trans h.output, Nat.le_trans h.size hb.size, fun k hk hs => (hb.block k (Nat.lt_of_lt_of_le hk h.size)).trans (h.block k hk hs)⟩
theorem Kept.of_below {w w1 : World} (S : Nat → Prop) (hb : Below w.heap.size w w1) : Kept w w1 S := (Kept.refl w S).below hb
theorem Kept.mono {w w' : World} {S T : Nat → Prop} (h : Kept w w' S) (hs : ∀ k, S k → T k) : Kept w w' T := ⟨h.os, h.tape, h.output, h.size, fun k hk ht => h.block k hk fun h1 => ht (hs k h1)⟩
theorem Kept.trans {w w1 w2 : World} {S T : Nat → Prop} (h : Kept w w1 S) (h2 : Kept w1 w2 T) (ht : ∀ k, T k → S k ∨ w.heap.size ≤ k) : Kept w w2 S :=
  ⟨h2.os.trans h.os, h2.tape.trans h.tape, h2.output.trans h.output, Nat.le_trans h.size h2.size, fun k hk hs => (h2.block k (Nat.lt_of_lt_of_le hk h.size) (fun h1 => by
    rcases ht k h1 with h3 | h3
    · exact hs h3
    · omega)).trans (h.block k hk hs)⟩
theorem Kept.set {w w' : World} {S : Nat → Prop} (h : Kept w w' S) {p : Addr} (hp : S p.block) (v : Value) : Kept w (w'.setCell p v) S :=
  ⟨h.os, h.tape, h.output, by simpa [World.setCell] using h.size, fun k hk hs => (Below.heap_setCell w' p v k (fun e => hs (e ▸ hp))).trans (h.block k hk hs)⟩
theorem Kept.grown {w w1 w2 : World} {S : Nat → Prop} (h : Kept w w1 S) {row : Option Nat} (hg : w1.grownBy w2 row) (hr : ∀ b, row = some b → S b ∨ w.heap.size ≤ b) : Kept w w2 S :=
  ⟨hg.os.trans h.os, hg.tape.trans h.tape, hg.output.trans h.output, Nat.le_trans h.size hg.size, fun k hk hs => (hg.block k (Nat.lt_of_lt_of_le hk h.size) (fun e => by
    rcases hr k e.symm with h1 | h1
    · exact hs h1
    · omega)).trans (h.block k hk hs)⟩
theorem Kept.to_below {w w' : World} {S : Nat → Prop} {B : Nat} (h : Kept w w' S) (hB : B ≤ w.heap.size) (hs : ∀ k, S k → B ≤ k) : Below B w w' :=
  ⟨h.os, h.tape, h.output, h.size, fun k hk => h.block k (by omega) (fun h1 => by have := hs k h1; omega)⟩

namespace Ring
theorem heap_same {w : World} {b i : Nat} {cs : Array Value} {T : TypeId} {fr : Nat × Nat} (hb : w.heap[b]? = some (.cells cs T fr)) (v : Value) :
    (w.setCell ⟨b, i, none⟩ v).heap[b]? = some (.cells (cs.setIfInBounds i v) T fr) := by
  simp [World.setCell, Array.getElem?_modify, hb]

def ptr : Option Nat → Value
  | none => .pointer none
  | some b => .pointer (some ⟨b, 0, none⟩)

/-- An entry: its block, its key, its value, its weight. -/
structure En (κ ν : Type) where
  b : Nat
  key : κ
  val : ν
  wt : Nat

section
variable {κ ν : Type} (ek : κ → ν → Value) (ev : ν → Value) (t : TypeId)

/-- The entry's cells, with the newer and the older one. -/
def EnAt (w : World) (e : En κ ν) (n o : Option Nat) : Prop := w.heap[e.b]? = some (.cells #[ek e.key e.val, ev e.val, .int .i64 (e.wt : Int), ptr n, ptr o] t (0, 0))

def hd : List (En κ ν) → Option Nat → Option Nat
  | [], n => n
  | e :: _, _ => some e.b
def lst (p : Option Nat) : List (En κ ν) → Option Nat
  | [] => p
  | e :: r => lst (some e.b) r

/-- Entries one behind another; ahead of them p, behind them n. -/
def Seg (w : World) : Option Nat → List (En κ ν) → Option Nat → Prop
  | _, [], _ => True
  | p, e :: r, n => EnAt ek ev t w e p (hd r n) ∧ Seg w (some e.b) r n
end

section
variable {κ ν : Type} {ek : κ → ν → Value} {ev : ν → Value} {t : TypeId} {w w' : World}

theorem hd_append (l1 l2 : List (En κ ν)) (n : Option Nat) : hd (l1 ++ l2) n = hd l1 (hd l2 n) := by
  cases l1 <;> rfl
theorem lst_append (l1 l2 : List (En κ ν)) (p : Option Nat) : lst p (l1 ++ l2) = lst (lst p l1) l2 := by
  induction l1 generalizing p with
  | nil => rfl
  | cons e r ih => exact ih _
theorem lst_snoc (l : List (En κ ν)) (e : En κ ν) (p : Option Nat) : lst p (l ++ [e]) = some e.b := by rw [lst_append]; rfl

theorem EnAt.set {e : En κ ν} {n o : Option Nat} (h : EnAt ek ev t w e n o) (i : Nat) (v : Value) : (w.setCell ⟨e.b, i, none⟩ v).heap[e.b]? = some (.cells (#[ek e.key e.val, ev e.val, .int .i64 (e.wt : Int), ptr n, ptr o].setIfInBounds i v) t (0, 0)) := heap_same h v
theorem EnAt.set3 {e : En κ ν} {n o : Option Nat} (h : EnAt ek ev t w e n o) (n' : Option Nat) : EnAt ek ev t (w.setCell ⟨e.b, 3, none⟩ (ptr n')) e n' o := h.set 3 _
theorem EnAt.set4 {e : En κ ν} {n o : Option Nat} (h : EnAt ek ev t w e n o) (o' : Option Nat) : EnAt ek ev t (w.setCell ⟨e.b, 4, none⟩ (ptr o')) e n o' := h.set 4 _
theorem EnAt.same {e : En κ ν} {n o : Option Nat} (h : EnAt ek ev t w e n o) (hw : w'.heap[e.b]? = w.heap[e.b]?) : EnAt ek ev t w' e n o := hw.trans h
theorem EnAt.off {e : En κ ν} {n o : Option Nat} (h : EnAt ek ev t w e n o) {b : Nat} (hb : e.b ≠ b) (i : Nat) (v : Value) : EnAt ek ev t (w.setCell ⟨b, i, none⟩ v) e n o := h.same (Below.heap_setCell w _ v e.b hb)
theorem EnAt.lt {e : En κ ν} {n o : Option Nat} (h : EnAt ek ev t w e n o) : e.b < w.heap.size := (Array.getElem?_eq_some_iff.1 h).1
theorem EnAt.cell {e : En κ ν} {n o : Option Nat} (h : EnAt ek ev t w e n o) (i : Nat) : w.cell? ⟨e.b, i, none⟩ = #[ek e.key e.val, ev e.val, .int .i64 (e.wt : Int), ptr n, ptr o][i]? := by
  unfold World.cell?
  rw [show w.heap[(⟨e.b, i, none⟩ : Addr).block]? = _ from h]
  rfl
theorem EnAt.frozen {e : En κ ν} {n o : Option Nat} (h : EnAt ek ev t w e n o) (i : Nat) : w.frozen? ⟨e.b, i, none⟩ = false := by
  unfold World.frozen?
  rw [show w.heap[(⟨e.b, i, none⟩ : Addr).block]? = _ from h]
  simp

theorem seg_append {l1 l2 : List (En κ ν)} {p n : Option Nat} : Seg ek ev t w p (l1 ++ l2) n ↔ Seg ek ev t w p l1 (hd l2 n) ∧ Seg ek ev t w (lst p l1) l2 n := by
  induction l1 generalizing p with
  | nil => simp [Seg, lst]
  | cons e r ih =>
    simp only [List.cons_append, Seg, hd_append, ih, lst]
    exact ⟨fun ⟨h1, h2, h3⟩ => ⟨⟨h1, h2⟩, h3⟩, fun ⟨⟨h1, h2⟩, h3⟩ => ⟨h1, h2, h3⟩⟩

theorem seg_same {l : List (En κ ν)} {p n : Option Nat} (h : Seg ek ev t w p l n) (hw : ∀ e ∈ l, w'.heap[e.b]? = w.heap[e.b]?) : Seg ek ev t w' p l n := by
  induction l generalizing p with
  | nil => trivial
  | cons e r ih => exact ⟨h.1.same (hw e (by simp)), ih h.2 fun x hx => hw x (by simp [hx])⟩
theorem seg_off {l : List (En κ ν)} {p n : Option Nat} (h : Seg ek ev t w p l n) {b : Nat} (hb : ∀ e ∈ l, e.b ≠ b) (i : Nat) (v : Value) : Seg ek ev t (w.setCell ⟨b, i, none⟩ v) p l n :=
  seg_same h fun e he => Below.heap_setCell w _ v e.b (hb e he)
theorem seg_mem {l : List (En κ ν)} {p n : Option Nat} (h : Seg ek ev t w p l n) {e : En κ ν} (he : e ∈ l) : ∃ x y, EnAt ek ev t w e x y := by
  induction l generalizing p with
  | nil => cases he
  | cons a r ih =>
    rcases List.mem_cons.1 he with h1 | h1
    · subst h1; exact ⟨_, _, h.1⟩
    · exact ih h.2 h1

/-- The cache's own cells: its room, its weight, its map, its first and its last entry. -/
def HdAt (t : TypeId) (w : World) (c : Nat) (r0 r1 r2 : Value) (n o : Option Nat) : Prop := w.heap[c]? = some (.cells #[r0, r1, r2, ptr n, ptr o] t (0, 0))
variable {tc : TypeId} {c : Nat} {r0 r1 r2 : Value} {n o : Option Nat}
theorem HdAt.same (h : HdAt tc w c r0 r1 r2 n o) (hw : w'.heap[c]? = w.heap[c]?) : HdAt tc w' c r0 r1 r2 n o := hw.trans h
theorem HdAt.off (h : HdAt tc w c r0 r1 r2 n o) {b : Nat} (hb : c ≠ b) (i : Nat) (v : Value) : HdAt tc (w.setCell ⟨b, i, none⟩ v) c r0 r1 r2 n o := h.same (Below.heap_setCell w _ v c hb)
theorem HdAt.lt (h : HdAt tc w c r0 r1 r2 n o) : c < w.heap.size := (Array.getElem?_eq_some_iff.1 h).1
theorem HdAt.cell (h : HdAt tc w c r0 r1 r2 n o) (i : Nat) : w.cell? ⟨c, i, none⟩ = #[r0, r1, r2, ptr n, ptr o][i]? := by
  unfold World.cell?
  rw [show w.heap[(⟨c, i, none⟩ : Addr).block]? = _ from h]
  rfl
theorem HdAt.frozen (h : HdAt tc w c r0 r1 r2 n o) (i : Nat) : w.frozen? ⟨c, i, none⟩ = false := by
  unfold World.frozen?
  rw [show w.heap[(⟨c, i, none⟩ : Addr).block]? = _ from h]
  simp
theorem HdAt.set1 (h : HdAt tc w c r0 r1 r2 n o) (v : Value) : HdAt tc (w.setCell ⟨c, 1, none⟩ v) c r0 v r2 n o := heap_same h v
theorem HdAt.set2 (h : HdAt tc w c r0 r1 r2 n o) (v : Value) : HdAt tc (w.setCell ⟨c, 2, none⟩ v) c r0 r1 v n o := heap_same h v
theorem HdAt.set3 (h : HdAt tc w c r0 r1 r2 n o) (n' : Option Nat) : HdAt tc (w.setCell ⟨c, 3, none⟩ (ptr n')) c r0 r1 r2 n' o := heap_same h _
theorem HdAt.set4 (h : HdAt tc w c r0 r1 r2 n o) (o' : Option Nat) : HdAt tc (w.setCell ⟨c, 4, none⟩ (ptr o')) c r0 r1 r2 n o' := heap_same h _
theorem apart_of (ht : t ≠ tc) {e : En κ ν} {x y : Option Nat} (he : EnAt ek ev t w e x y) (h : HdAt tc w c r0 r1 r2 n o) : e.b ≠ c := by
  intro hb
  unfold EnAt at he
  unfold HdAt at h
  rw [hb, h] at he
  injection he with he
  injection he with _ h2 _
  exact ht h2.symm

/-- The whole order. -/
structure RingAt (ek : κ → ν → Value) (ev : ν → Value) (t tc : TypeId) (w : World) (c : Nat) (r0 r1 r2 : Value) (L : List (En κ ν)) : Prop where
  head : HdAt tc w c r0 r1 r2 (hd L none) (lst none L)
  seg : Seg ek ev t w none L none
  nodup : (L.map (·.b)).Nodup

theorem RingAt.same {L : List (En κ ν)} (h : RingAt ek ev t tc w c r0 r1 r2 L) (hc : w'.heap[c]? = w.heap[c]?) (he : ∀ e ∈ L, w'.heap[e.b]? = w.heap[e.b]?) : RingAt ek ev t tc w' c r0 r1 r2 L :=
  ⟨h.head.same hc, seg_same h.seg he, h.nodup⟩
theorem RingAt.apart {L : List (En κ ν)} (h : RingAt ek ev t tc w c r0 r1 r2 L) (ht : t ≠ tc) {e : En κ ν} (he : e ∈ L) : e.b ≠ c := by
  obtain ⟨x, y, h1⟩ := seg_mem h.seg he
  exact apart_of ht h1 h.head
end

/-- How values of a type read: what one value is, and back. -/
structure Rdr (α : Type) where
  av : α → Value
  dt : α → DataW Unit
  R : Value → Option (DataW Unit × List MemPlace)
  read : ∀ x, R (av x) = some (dt x, [])
  inv : ∀ v x ps, R v = some (dt x, ps) → v = av x

def dtPtr : Option Nat → DataW Unit
  | none => .nil
  | some b => .lit (.int .i64 (b : Int))
/-- How a pointer to an entry reads. -/
def pRead : Value → Option (DataW Unit × List MemPlace)
  | .pointer none => some (.nil, [])
  | .pointer (some ⟨b, 0, none⟩) => some (.lit (.int .i64 (b : Int)), [])
  | _ => none
def ptrs : Rdr (Option Nat) where
  av := ptr
  dt := dtPtr
  R := pRead
  read := fun o => by cases o <;> rfl
  inv := fun v o ps h => by
    unfold pRead at h
    split at h
    · cases o with
      | none => rfl
      | some b => simp [dtPtr] at h
    · cases o with
      | none => simp [dtPtr] at h
      | some b => simp [dtPtr] at h; exact congrArg (fun x => ptr (some x)) (by omega)
    · cases h

section
variable {P : Program} {κ α : Type}

/-- The map reads as f, by keys that read as literals kl; z is what stands nowhere. -/
def MapOk (P : Program) (kt : TypeId) (kl : κ → Lit) (X : Rdr α) (z : α) (w : World) (mv : Value) (cnt : Nat) (f : κ → α) : Prop :=
  (mv = .map none ∧ ∀ k, f k = z) ∨ ∃ b D, mv = .map (some b) ∧ w.ownsMap P kt X.R b cnt D ∧ ∀ k, D.atKey (kl k) (X.dt z) = X.dt (f k)

variable {kt : TypeId} {kl : κ → Lit} {X : Rdr α} {z : α} {w w' : World} {mv : Value} {cnt : Nat} {f : κ → α}

/-- The map's block. -/
def mapBlock : Value → Option Nat
  | .map b => b
  | _ => none
theorem MapOk.lt (h : MapOk P kt kl X z w mv cnt f) {b : Nat} (hb : mapBlock mv = some b) : b < w.heap.size := by
  rcases h with ⟨rfl, _⟩ | ⟨b', D, rfl, ho, _⟩
  · cases hb
  · obtain rfl : b' = b := by simpa [mapBlock] using hb
    exact ho.lt
theorem MapOk.isMap (h : MapOk P kt kl X z w mv cnt f) {b : Nat} (hb : mapBlock mv = some b) : ∃ es clock, w.heap[b]? = some (.map es clock) := by
  rcases h with ⟨rfl, _⟩ | ⟨b', D, rfl, ho, _⟩
  · cases hb
  · obtain rfl : b' = b := by simpa [mapBlock] using hb
    obtain ⟨es, clock, h1, _⟩ := ho
    exact ⟨es, clock, h1⟩
theorem MapOk.apart (h : MapOk P kt kl X z w mv cnt f) {b : Nat} (hb : mapBlock mv = some b) {g : Nat} {cs : Array Value} {t : TypeId} {fr : Nat × Nat} (hg : w.heap[g]? = some (.cells cs t fr)) : b ≠ g := by
  intro e
  subst e
  obtain ⟨es, clock, h1⟩ := h.isMap hb
  rw [h1] at hg
  cases hg
theorem MapOk.form (h : MapOk P kt kl X z w mv cnt f) : mv = .map (mapBlock mv) := by
  rcases h with ⟨rfl, _⟩ | ⟨b', D, rfl, ho, _⟩ <;> rfl
theorem MapOk.same (h : MapOk P kt kl X z w mv cnt f) (hw : ∀ b, mapBlock mv = some b → w'.heap[b]? = w.heap[b]?) : MapOk P kt kl X z w' mv cnt f := by
  rcases h with h | ⟨b, D, rfl, ho, hat⟩
  · exact .inl h
  · refine .inr ⟨b, D, rfl, ?_, hat⟩
    obtain ⟨es, clock, hb, r⟩ := ho
    exact ⟨es, clock, (hw b rfl).trans hb, r⟩
theorem MapOk.set (h : MapOk P kt kl X z w mv cnt f) {g : Nat} {cs : Array Value} {t : TypeId} {fr : Nat × Nat} (hg : w.heap[g]? = some (.cells cs t fr)) (i : Nat) (v : Value) : MapOk P kt kl X z (w.setCell ⟨g, i, none⟩ v) mv cnt f :=
  h.same fun b hb => Below.heap_setCell w _ v b (h.apart hb hg)
theorem MapOk.mono (h : MapOk P kt kl X z w mv cnt f) {m : Nat} (hm : cnt ≤ m) : MapOk P kt kl X z w mv m f := by
  rcases h with h | ⟨b, D, rfl, ho, hat⟩
  · exact .inl h
  · exact .inr ⟨b, D, rfl, ho.mono hm, hat⟩
theorem MapOk.congr (h : MapOk P kt kl X z w mv cnt f) {g : κ → α} (hg : ∀ k, g k = f k) : MapOk P kt kl X z w mv cnt g := by
  obtain rfl : g = f := funext hg
  exact h
theorem MapOk.look (h : MapOk P kt kl X z w mv cnt f) (K : Maps.Keyed P kt) {t e : TypeId} (ht : P.underlying t = some (.map kt e)) (hz : (zeroValue e).run P w = .ok (X.av z) w) {key : Value} {k : κ} (hk : keyOf P kt key = some (kl k)) :
    (Instr.lookup t mv key false).run P w = .ok (X.av (f k)) w := by
  rcases h with ⟨rfl, hf⟩ | ⟨b, D, rfl, ho, hat⟩
  · rw [Maps.look_nil false K ht hz hk, hf k]; rfl
  · obtain ⟨v, ps, hrun, hv⟩ := ho.lookup K ht hz (X.read z) hk
    rw [hat k] at hv
    rw [hrun, X.inv _ _ _ hv]
theorem MapOk.drop [DecidableEq κ] (h : MapOk P kt kl X z w mv cnt f) (K : Maps.Keyed P kt) {t e : TypeId} (ht : P.underlying t = some (.map kt e)) (hinj : ∀ a b : κ, kl a = kl b → a = b) {key : Value} {k : κ} (hk : keyOf P kt key = some (kl k)) (ty : TypeId) :
    ∃ w', (Builtin.delete_ #[t, kt] ty #[mv, key]).run P w = .ok (.tuple #[]) w' ∧ MapOk P kt kl X z w' mv cnt (fun x => if x = k then z else f x) ∧ w.grownBy w' (mapBlock mv) ∧ w'.heap.size = w.heap.size := by
  rcases h with ⟨rfl, hf⟩ | ⟨b, D, rfl, ho, hat⟩
  · exact ⟨w, Maps.drop_nil K ht hk ty, .inl ⟨rfl, fun x => by simp [hf]⟩, ⟨rfl, rfl, rfl, Nat.le_refl _, fun _ _ _ => rfl⟩, rfl⟩
  · obtain ⟨w', hrun, ho', hturn⟩ := ho.drop K ht hk ty
    refine ⟨w', hrun, .inr ⟨b, _, rfl, ho', fun x => ?_⟩, hturn.grown, ?_⟩
    · show _ = X.dt (if x = k then _ else _)
      by_cases hx : x = k
      · subst hx; rw [if_pos rfl, Maps.atKey_del_same]
      · rw [if_neg hx, Maps.atKey_del_other (fun e => hx (hinj _ _ e)), hat]
    · obtain ⟨_, _, es', clock', _, rfl⟩ := hturn; simp [Go.ChangeMaps.setBlock]
theorem MapOk.put [DecidableEq κ] {b : Nat} (h : MapOk P kt kl X z w (.map (some b)) cnt f) (K : Maps.Keyed P kt) {t e : TypeId} (ht : P.underlying t = some (.map kt e)) (hinj : ∀ a b : κ, kl a = kl b → a = b) (hkl : ∀ k, WideAt.IsKeyLit (kl k)) (hn : cnt < maxLen) {key : Value} {k : κ} (hk : keyOf P kt key = some (kl k)) (g : α) :
    ∃ w', (Instr.mapUpdate t (.map (some b)) key (X.av g)).run P w = .ok () w' ∧ MapOk P kt kl X z w' (.map (some b)) (cnt + 1) (fun x => if x = k then g else f x) ∧ w.grownBy w' (some b) ∧ w'.heap.size = w.heap.size := by
  rcases h with ⟨h0, _⟩ | ⟨b', D, h0, ho, hat⟩
  · cases h0
  · obtain rfl : b = b' := by simpa using h0
    obtain ⟨w', hrun, ho', hturn⟩ := ho.store K ht hn hk (X.read g)
    refine ⟨w', hrun, .inr ⟨b, _, rfl, ho', fun x => ?_⟩, hturn.grown, ?_⟩
    · show _ = X.dt (if x = k then _ else _)
      by_cases hx : x = k
      · subst hx; rw [if_pos rfl, Maps.atKey_put_same ho.isMap (hkl x)]
      · rw [if_neg hx, Maps.atKey_put_other (fun e => hx (hinj _ _ e)), hat]
    · obtain ⟨_, _, es', clock', _, rfl⟩ := hturn; simp [Go.ChangeMaps.setBlock]
theorem MapOk.made (P : Program) (w : World) (kt : TypeId) (kl : κ → Lit) (X : Rdr α) (z : α) : MapOk P kt kl X z (w.alloc (.map #[] 0)) (.map (some w.heap.size)) 0 (fun _ => z) :=
  .inr ⟨w.heap.size, .map [], rfl, World.ownsMap_made w P kt X.R, fun _ => rfl⟩

/-! At the operation, for the walk. -/
variable {ops : Array Oper} {rest : List Oper} {o : Oper} {a : Act} {Q : Exit → Act → World → Prop}
theorem wp_look (h : MapOk P kt kl X z w mv cnt f) (K : Maps.Keyed P kt) (hg : o.guard = none) (m x : Operand) (t : TypeId) (hop : o.op = Op.lookup t m x false) {e : TypeId} (ht : P.underlying t = some (.map kt e)) (hz : (zeroValue e).run P w = .ok (X.av z) w)
    (hm : a.eval m = mv) {key : Value} {k : κ} (hx : a.eval x = key) (hk : keyOf P kt key = some (kl k)) (hK : wpList P ops Q rest (a.put o.dst (X.av (f k))) w) : wpList P ops Q (o :: rest) a w := by
  refine wpList_plain hg fun K' hK' => ?_
  have hrun := h.look K ht hz hk
  unfold Oper.wp
  simp [execOp, hop, hm, hx, hrun, Result.andThen]
  exact hK' _ _ hK
theorem wp_drop [DecidableEq κ] (h : MapOk P kt kl X z w mv cnt f) (K : Maps.Keyed P kt) (hg : o.guard = none) (m x : Operand) (t : TypeId) (hop : o.op = Op.call { callee := Callee.builtin Builtin.delete, args := #[m, x], argTypes := #[t, kt] }) {e : TypeId} (ht : P.underlying t = some (.map kt e)) (hinj : ∀ a b : κ, kl a = kl b → a = b)
    (hm : a.eval m = mv) {key : Value} {k : κ} (hx : a.eval x = key) (hk : keyOf P kt key = some (kl k))
    (hK : ∀ w', MapOk P kt kl X z w' mv cnt (fun x => if x = k then z else f x) → w.grownBy w' (mapBlock mv) → w'.heap.size = w.heap.size → wpList P ops Q rest (a.put o.dst (.tuple #[])) w') : wpList P ops Q (o :: rest) a w := by
  refine wpList_plain hg fun K' hK' => ?_
  obtain ⟨w', hrun, r1, r2, r3⟩ := h.drop K ht hinj hk o.type
  unfold Oper.wp
  simp [execOp, hop, resolve, invoke, builtin, hm, hx, hrun, Result.andThen]
  exact hK' _ _ (hK w' r1 r2 r3)
theorem wp_put [DecidableEq κ] {b : Nat} (h : MapOk P kt kl X z w (.map (some b)) cnt f) (K : Maps.Keyed P kt) (hg : o.guard = none) (m x v : Operand) (t : TypeId) (hop : o.op = Op.mapUpdate t m x v) {e : TypeId} (ht : P.underlying t = some (.map kt e)) (hinj : ∀ a b : κ, kl a = kl b → a = b) (hkl : ∀ k, WideAt.IsKeyLit (kl k)) (hn : cnt < maxLen)
    (hm : a.eval m = .map (some b)) {key : Value} {k : κ} (hx : a.eval x = key) (hk : keyOf P kt key = some (kl k)) (g : α) (hv : a.eval v = X.av g)
    (hK : ∀ w', MapOk P kt kl X z w' (.map (some b)) (cnt + 1) (fun x => if x = k then g else f x) → w.grownBy w' (some b) → w'.heap.size = w.heap.size → wpList P ops Q rest (a.put o.dst undef) w') : wpList P ops Q (o :: rest) a w := by
  refine wpList_plain hg fun K' hK' => ?_
  obtain ⟨w', hrun, r1, r2, r3⟩ := h.put K ht hinj hkl hn hk g
  unfold Oper.wp
  simp [execOp, hop, hm, hx, hv, hrun, Result.andThen]
  exact hK' _ _ (hK w' r1 r2 r3)
end
end Ring
end Go.Proofs.Ytelgcmcnebncmaa
namespace Go.Proofs.Ytelgcmcnebncmaa.Dr
open Go.RowKit Go.Proofs Go.Proofs.Ytelgcmcnebncmaa.Ring

/-- How a list of names that lead to blocks reads. -/
def dirD (l : Dir) : DataW Unit := .map (l.map fun p => (Lit.string p.1, dtPtr (some p.2)))
theorem dirD_ins (x : Bs × Nat) (l : Dir) : DataW.insert (Lit.string x.1, dtPtr (some x.2)) (l.map fun p => (Lit.string p.1, dtPtr (some p.2))) = (ins x l).map fun p => (Lit.string p.1, dtPtr (some p.2)) := by
  induction l with
  | nil => rfl
  | cons y r ih =>
    by_cases hb : bytesBefore x.1 y.1 = true
    · rw [show ins x (y :: r) = x :: y :: r from if_pos hb]
      exact if_pos (show (Lit.string x.1).before (Lit.string y.1) = true from hb)
    · rw [show ins x (y :: r) = y :: ins x r from if_neg hb, List.map_cons, List.map_cons, ← ih]
      exact if_neg (show ¬ (Lit.string x.1).before (Lit.string y.1) = true from hb)
theorem dirD_strike (l : Dir) (k : Bs) : (l.map fun p => (Lit.string p.1, dtPtr (some p.2))).filter (fun p => !p.1.sameKey (.string k)) = (del l k).map fun p => (Lit.string p.1, dtPtr (some p.2)) := by
  unfold del
  rw [List.filter_map]
  congr 1
  refine List.filter_congr fun p _ => ?_
  simp only [Function.comp_apply, Lit.sameKey]
  by_cases h : p.1 = k
  · simp [h]
  · simp [h]
theorem dirD_put (l : Dir) (k : Bs) (b : Nat) : (dirD l).put (.string k) (dtPtr (some b)) = dirD (put l k (some b)) := by
  show DataW.map _ = DataW.map _
  rw [dirD_strike, dirD_ins (k, b)]
  rfl
theorem dirD_del (l : Dir) (k : Bs) : (dirD l).del (.string k) = dirD (del l k) := by
  show DataW.map _ = DataW.map _
  rw [dirD_strike]
theorem dirD_at (l : Dir) (k : Bs) : (dirD l).atKey (.string k) (dtPtr none) = dtPtr (find l k) := by
  unfold dirD find DataW.atKey
  simp only
  rw [List.find?_map]
  have : ((fun p : Lit × DataW Unit => p.1.sameKey (.string k)) ∘ fun p : Bs × Nat => (Lit.string p.1, dtPtr (some p.2))) = fun p => decide (p.1 = k) := by
    funext p
    simp only [Function.comp_apply, Lit.sameKey]
    by_cases h : p.1 = k <;> simp [h]
  rw [this]
  cases l.find? fun p => decide (p.1 = k) <;> rfl

section
variable {P : Program} {kt : TypeId} {w w' : World} {mv : Value} {l : Dir}
/-- The map reads as l. -/
def DirAt (P : Program) (kt : TypeId) (w : World) (mv : Value) (l : Dir) : Prop :=
  (mv = .map none ∧ l = []) ∨ ∃ b, mv = .map (some b) ∧ w.ownsMap P kt ptrs.R b l.length (dirD l)
theorem DirAt.form (h : DirAt P kt w mv l) : mv = .map (mapBlock mv) := by
  rcases h with ⟨rfl, _⟩ | ⟨b, rfl, _⟩ <;> rfl
theorem DirAt.isMap (h : DirAt P kt w mv l) {b : Nat} (hb : mapBlock mv = some b) : ∃ es clock, w.heap[b]? = some (.map es clock) := by
  rcases h with ⟨rfl, _⟩ | ⟨b', rfl, ho⟩
  · cases hb
  · obtain rfl : b' = b := by simpa [mapBlock] using hb
    obtain ⟨es, clock, h1, _⟩ := ho
    exact ⟨es, clock, h1⟩
theorem DirAt.lt (h : DirAt P kt w mv l) {b : Nat} (hb : mapBlock mv = some b) : b < w.heap.size := by
  obtain ⟨_, _, h1⟩ := h.isMap hb
  exact (Array.getElem?_eq_some_iff.1 h1).1
theorem DirAt.apart (h : DirAt P kt w mv l) {b : Nat} (hb : mapBlock mv = some b) {g : Nat} {cs : Array Value} {t : TypeId} {fr : Nat × Nat} (hg : w.heap[g]? = some (.cells cs t fr)) : b ≠ g := by
  intro e
  subst e
  obtain ⟨es, clock, h1⟩ := h.isMap hb
  rw [h1] at hg
  cases hg
theorem DirAt.same (h : DirAt P kt w mv l) (hw : ∀ b, mapBlock mv = some b → w'.heap[b]? = w.heap[b]?) : DirAt P kt w' mv l := by
  rcases h with h | ⟨b, rfl, ho⟩
  · exact .inl h
  · refine .inr ⟨b, rfl, ?_⟩
    obtain ⟨es, clock, hb, r⟩ := ho
    exact ⟨es, clock, (hw b rfl).trans hb, r⟩
theorem DirAt.made (P : Program) (w : World) (kt : TypeId) : DirAt P kt (w.alloc (.map #[] 0)) (.map (some w.heap.size)) [] :=
  .inr ⟨w.heap.size, rfl, World.ownsMap_made w P kt ptrs.R⟩
/-- The bound may be the list's own length. -/
theorem owns_exact {b n : Nat} {D : DataW Unit} (h : w.ownsMap P kt ptrs.R b n D) : w.ownsMap P kt ptrs.R b (Maps.size D) D := by
  obtain ⟨es, clock, h1, h2, h3, h4⟩ := h
  refine ⟨es, clock, h1, h2, ?_, h4⟩
  rw [h4, Maps.size_eq, length_read]
  exact Nat.le_refl _
theorem DirAt.of_owns {b n : Nat} (h : w.ownsMap P kt ptrs.R b n (dirD l)) : DirAt P kt w (.map (some b)) l := by
  refine .inr ⟨b, rfl, ?_⟩
  have := owns_exact h
  rw [show Maps.size (dirD l) = l.length by rw [dirD, Maps.size_eq, List.length_map]] at this
  exact this
theorem DirAt.look (h : DirAt P kt w mv l) (K : Maps.Keyed P kt) {t e : TypeId} (ht : P.underlying t = some (.map kt e)) (hz : (zeroValue e).run P w = .ok (.pointer none) w) {key : Value} {k : Bs} (hk : keyOf P kt key = some (.string k)) :
    (Instr.lookup t mv key false).run P w = .ok (ptr (find l k)) w := by
  rcases h with ⟨rfl, rfl⟩ | ⟨b, rfl, ho⟩
  · rw [Maps.look_nil false K ht hz hk]; rfl
  · obtain ⟨v, ps, hrun, hv⟩ := ho.lookup K ht hz (ptrs.read none) hk
    rw [show ptrs.dt none = dtPtr none from rfl, dirD_at l k] at hv
    rw [hrun, ptrs.inv _ _ _ hv]
    rfl
theorem DirAt.len (h : DirAt P kt w mv l) {t e : TypeId} (ht : P.underlying t = some (.map kt e)) (ty : TypeId) : (Builtin.len_ #[t] ty #[mv]).run P w = .ok (.int .i64 (l.length : Int)) w := by
  rcases h with ⟨rfl, rfl⟩ | ⟨b, rfl, ho⟩
  · exact Maps.len_nil ht ty
  · rw [ho.len ht ty, show Maps.size (dirD l) = l.length by rw [dirD, Maps.size_eq, List.length_map]]
theorem DirAt.drop (h : DirAt P kt w mv l) (K : Maps.Keyed P kt) {t e : TypeId} (ht : P.underlying t = some (.map kt e)) {key : Value} {k : Bs} (hk : keyOf P kt key = some (.string k)) (ty : TypeId) :
    ∃ w', (Builtin.delete_ #[t, kt] ty #[mv, key]).run P w = .ok (.tuple #[]) w' ∧ DirAt P kt w' mv (put l k none) ∧ w.grownBy w' (mapBlock mv) ∧ w'.heap.size = w.heap.size := by
  rcases h with ⟨rfl, rfl⟩ | ⟨b, rfl, ho⟩
  · exact ⟨w, Maps.drop_nil K ht hk ty, .inl ⟨rfl, rfl⟩, ⟨rfl, rfl, rfl, Nat.le_refl _, fun _ _ _ => rfl⟩, rfl⟩
  · obtain ⟨w', hrun, ho', hturn⟩ := ho.drop K ht hk ty
    refine ⟨w', hrun, ?_, hturn.grown, ?_⟩
    · rw [dirD_del] at ho'
      exact DirAt.of_owns ho'
    · obtain ⟨_, _, es', clock', _, rfl⟩ := hturn; simp [Go.ChangeMaps.setBlock]
theorem DirAt.put {b : Nat} (h : DirAt P kt w (.map (some b)) l) (K : Maps.Keyed P kt) {t e : TypeId} (ht : P.underlying t = some (.map kt e)) (hn : l.length < maxLen) {key : Value} {k : Bs} (hk : keyOf P kt key = some (.string k)) (g : Nat) :
    ∃ w', (Instr.mapUpdate t (.map (some b)) key (.pointer (some ⟨g, 0, none⟩))).run P w = .ok () w' ∧ DirAt P kt w' (.map (some b)) (put l k (some g)) ∧ w.grownBy w' (some b) ∧ w'.heap.size = w.heap.size := by
  rcases h with ⟨h0, _⟩ | ⟨b', h0, ho⟩
  · cases h0
  · obtain rfl : b = b' := by simpa using h0
    obtain ⟨w', hrun, ho', hturn⟩ := ho.store K ht hn hk (ptrs.read (some g))
    refine ⟨w', hrun, ?_, hturn.grown, ?_⟩
    · rw [show ptrs.dt (some g) = dtPtr (some g) from rfl, dirD_put] at ho'
      exact DirAt.of_owns ho'
    · obtain ⟨_, _, es', clock', _, rfl⟩ := hturn; simp [Go.ChangeMaps.setBlock]
theorem DirAt.names (l : Dir) : strKeys (dirD l) = l.map (·.1) := by
  unfold dirD strKeys
  simp [strOf, Function.comp_def]

/-! At the operation, for the walk. -/
variable {ops : Array Oper} {rest : List Oper} {o : Oper} {a : Act} {Q : Exit → Act → World → Prop}
theorem wp_len (h : DirAt P kt w mv l) (hg : o.guard = none) (m : Operand) (t : TypeId) (hop : o.op = Op.call { callee := Callee.builtin Builtin.len, args := #[m], argTypes := #[t] }) {e : TypeId} (ht : P.underlying t = some (.map kt e))
    (hm : a.eval m = mv) (hK : wpList P ops Q rest (a.put o.dst (.int .i64 (l.length : Int))) w) : wpList P ops Q (o :: rest) a w := by
  refine wpList_plain hg fun K' hK' => ?_
  have hrun := h.len ht o.type
  unfold Oper.wp
  simp [execOp, hop, resolve, invoke, builtin, hm, hrun, Result.andThen]
  exact hK' _ _ hK
theorem wp_drop (h : DirAt P kt w mv l) (K : Maps.Keyed P kt) (hg : o.guard = none) (m x : Operand) (t : TypeId) (hop : o.op = Op.call { callee := Callee.builtin Builtin.delete, args := #[m, x], argTypes := #[t, kt] }) {e : TypeId} (ht : P.underlying t = some (.map kt e))
    (hm : a.eval m = mv) {key : Value} {k : Bs} (hx : a.eval x = key) (hk : keyOf P kt key = some (.string k))
    (hK : ∀ w', DirAt P kt w' mv (Dr.put l k none) → w.grownBy w' (mapBlock mv) → w'.heap.size = w.heap.size → wpList P ops Q rest (a.put o.dst (.tuple #[])) w') : wpList P ops Q (o :: rest) a w := by
  refine wpList_plain hg fun K' hK' => ?_
  obtain ⟨w', hrun, r1, r2, r3⟩ := h.drop K ht hk o.type
  unfold Oper.wp
  simp [execOp, hop, resolve, invoke, builtin, hm, hx, hrun, Result.andThen]
  exact hK' _ _ (hK w' r1 r2 r3)
theorem wp_put {b : Nat} (h : DirAt P kt w (.map (some b)) l) (K : Maps.Keyed P kt) (hg : o.guard = none) (m x v : Operand) (t : TypeId) (hop : o.op = Op.mapUpdate t m x v) {e : TypeId} (ht : P.underlying t = some (.map kt e)) (hn : l.length < maxLen)
    (hm : a.eval m = .map (some b)) {key : Value} {k : Bs} (hx : a.eval x = key) (hk : keyOf P kt key = some (.string k)) (g : Nat) (hv : a.eval v = .pointer (some ⟨g, 0, none⟩))
    (hK : ∀ w', DirAt P kt w' (.map (some b)) (Dr.put l k (some g)) → w.grownBy w' (some b) → w'.heap.size = w.heap.size → wpList P ops Q rest (a.put o.dst undef) w') : wpList P ops Q (o :: rest) a w := by
  refine wpList_plain hg fun K' hK' => ?_
  obtain ⟨w', hrun, r1, r2, r3⟩ := h.put K ht hn hk g
  unfold Oper.wp
  simp [execOp, hop, hm, hx, hv, hrun, Result.andThen]
  exact hK' _ _ (hK w' r1 r2 r3)
end
end Go.Proofs.Ytelgcmcnebncmaa.Dr
