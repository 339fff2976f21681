/- A drive each of whose bytes is one more. -/
import Derived.Test.YtelgcmcnebncmaaL9
import Derived.Test.YtelgcmcnebncmaaSame
namespace Go.Proofs.Ytelgcmcnebncmaa.Dr
open Go.RowKit Go.Proofs Go.Proofs.Ytelgcmcnebncmaa.Ring

/-- Every byte one more. -/
def D.bump (d : Dr.D) : Dr.D := { d with bd := d.bd.map fun b => ⟨b.data.map (· + 1), b.safe⟩ }
theorem bump_at (d : Dr.D) {i : Nat} (hi : i < d.bd.length) : (Dr.D.bump d).at i = ⟨(d.at i).data.map (· + 1), (d.at i).safe⟩ := by
  unfold Dr.D.at Dr.D.bump
  simp [List.getD_eq_getElem?_getD, List.getElem?_map, List.getElem?_eq_getElem hi]
theorem bump_image {d : Dr.D} {m N : Nat} (h : d.Ok m N) : (Dr.D.bump d).image = d.image.map fun f => (f.1, f.2.map (· + 1)) := by
  unfold Dr.D.image Dr.D.files
  rw [List.map_map]
  refine List.map_congr_left fun p hp => ?_
  rw [bump_at d (h.inN p hp)]
  rfl
theorem bump_ok {d : Dr.D} {m N : Nat} (h : d.Ok m N) : (Dr.D.bump d).Ok m N := by
  have hl : (Dr.D.bump d).bd.length = d.bd.length := by unfold Dr.D.bump; simp
  refine ⟨h.room, h.now, h.kept, fun p hp => hl ▸ h.inN p hp, fun p hp => hl ▸ h.inK p hp, fun c hc s hs => ⟨(h.inP c hc s hs).1, fun i hi => hl ▸ (h.inP c hc s hs).2 i hi⟩, h.one, h.oneP, fun b hb => ?_, h.lenN, h.lenK, h.namN, h.namK⟩
  unfold Dr.D.bump at hb
  obtain ⟨b0, hb0, rfl⟩ := List.mem_map.1 hb
  have := h.safe b0 hb0
  simpa using this
end Go.Proofs.Ytelgcmcnebncmaa.Dr
namespace Go.Proofs.Ytelgcmcnebncmaa.Dr
open Go.RowKit Go.Proofs Go.Proofs.Ytelgcmcnebncmaa.Ring

def up1 (f : Bs × Bs) : Bs × Bs := (f.1, f.2.map (· + 1))
/-- Of file j: all of it one more where j is below i, its first c bytes where j is i. -/
def mixB (i c j : Nat) (b : Bs) : Bs := if j < i then b.map (· + 1) else if j = i then (b.take c).map (· + 1) ++ b.drop c else b
def mix (fs : List (Bs × Bs)) (i c : Nat) : List (Bs × Bs) := fs.mapIdx fun j f => (f.1, mixB i c j f.2)
theorem mix_len (fs : List (Bs × Bs)) (i c : Nat) : (mix fs i c).length = fs.length := by simp [mix]
theorem mix_at (fs : List (Bs × Bs)) (i c j : Nat) : (mix fs i c)[j]? = (fs[j]?).map fun f => (f.1, mixB i c j f.2) := by simp [mix, List.getElem?_mapIdx]
theorem mixB_len (i c j : Nat) (b : Bs) : (mixB i c j b).length = b.length := by
  unfold mixB
  split
  · simp
  · split
    · simp; omega
    · rfl
theorem mix_start (fs : List (Bs × Bs)) : mix fs 0 0 = fs := by
  apply List.ext_getElem?
  intro j
  rw [mix_at]
  cases fs[j]? with
  | none => rfl
  | some f => simp [mixB]
theorem mix_next {fs : List (Bs × Bs)} {i : Nat} {f : Bs × Bs} (hf : fs[i]? = some f) : mix fs i f.2.length = mix fs (i + 1) 0 := by
  apply List.ext_getElem?
  intro j
  rw [mix_at, mix_at]
  by_cases hj : j = i
  · subst hj
    rw [hf]
    simp only [Option.map_some, mixB]
    rw [if_neg (by omega), if_pos (show j < j + 1 by omega), if_pos trivial, List.take_length, List.drop_length, List.append_nil]
  · cases fs[j]? with
    | none => rfl
    | some x =>
      simp only [Option.map_some, mixB]
      by_cases h1 : j < i
      · rw [if_pos h1, if_pos (by omega)]
      · rw [if_neg h1, if_neg hj, if_neg (by omega)]
        by_cases h2 : j = i + 1
        · rw [if_pos h2]; simp
        · rw [if_neg h2]
theorem mix_all {fs : List (Bs × Bs)} {i : Nat} (hi : fs.length ≤ i) : mix fs i 0 = fs.map up1 := by
  apply List.ext_getElem?
  intro j
  rw [mix_at, List.getElem?_map]
  cases hj : fs[j]? with
  | none => rfl
  | some x =>
    have := (List.getElem?_eq_some_iff.1 hj).1
    simp only [Option.map_some, mixB, up1]
    rw [if_pos (by omega)]
theorem mixB_now {i c : Nat} {b : Bs} {y : UInt8} (hy : b[c]? = some y) : (mixB i c i b)[c]? = some y ∧ (mixB i c i b).set c (y + 1) = mixB i (c + 1) i b := by
  have hc := (List.getElem?_eq_some_iff.1 hy).1
  have hlen : ((b.take c).map (· + 1)).length = c := by simp; omega
  unfold mixB
  rw [if_neg (by omega), if_pos rfl, if_pos rfl, if_neg (by omega)]
  refine ⟨?_, ?_⟩
  · rw [List.getElem?_append_right (by omega), hlen, Nat.sub_self, List.getElem?_drop, Nat.add_zero, hy]
  · rw [List.set_append, if_neg (by omega), hlen, Nat.sub_self, List.drop_eq_getElem_cons hc, List.set_cons_zero, List.take_succ_eq_append_getElem hc]
    have : b[c] = y := by rw [List.getElem?_eq_getElem hc] at hy; injection hy
    simp [this]
theorem mix_step {fs : List (Bs × Bs)} {i c : Nat} {f : Bs × Bs} {y : UInt8} (hf : fs[i]? = some f) (hy : f.2[c]? = some y) : (mix fs i c).set i (f.1, (mixB i c i f.2).set c (y + 1)) = mix fs i (c + 1) := by
  apply List.ext_getElem?
  intro j
  by_cases hj : j = i
  · subst hj
    have hl : j < (mix fs j c).length := by rw [mix_len]; exact (List.getElem?_eq_some_iff.1 hf).1
    rw [List.getElem?_set_self hl, mix_at, hf, (mixB_now hy).2]
    rfl
  · rw [List.getElem?_set_ne (by omega), mix_at, mix_at]
    cases fs[j]? with
    | none => rfl
    | some x =>
      simp only [Option.map_some, mixB]
      by_cases h1 : j < i
      · rw [if_pos h1, if_pos h1]
      · rw [if_neg h1, if_neg hj, if_neg h1, if_neg hj]
theorem cF_set : ∀ (fs : List (Bs × Bs)) (dv : List Value) (i : Nat) (f : Bs × Bs) (x : Bs), fs[i]? = some f → cF (fs.set i (f.1, x)) dv = cF fs dv
  | [], _, _, _, _, h => by cases h
  | _ :: _, [], 0, _, _, _ => rfl
  | _ :: _, [], _ + 1, _, _, _ => rfl
  | a :: fs, y :: dv, 0, f, x, h => by injection h with h; subst h; rfl
  | a :: fs, y :: dv, i + 1, f, x, h => by
    show encStr a.1 :: y :: cF (fs.set i (f.1, x)) dv = _
    rw [cF_set fs dv i f x h]
    rfl
theorem FilesAt.poke {w : World} {base : Nat} {v : Value} {dv : List Value} {fs : List (Bs × Bs)} (h : FilesAt w base v dv fs) {i c g n cap : Nat} {f : Bs × Bs} (y : UInt8) (hf : fs[i]? = some f) (hx : dv[i]? = some (.slice (some ⟨g, 0, none⟩) n cap)) (hn : f.2.length = n) :
    FilesAt (w.setCell ⟨g, c, none⟩ (.int .u8 (y.toNat : Int))) base v dv (fs.set i (f.1, f.2.set c y)) := by
  have hd := h.data i f _ hf hx
  have hil := (List.getElem?_eq_some_iff.1 hf).1
  obtain ⟨cur, hcur⟩ := own_lt hd (g := g) rfl
  refine ⟨?_, by rw [List.length_set]; exact h.len, fun j f' x hf' hx' => ?_, h.own⟩
  · rw [cF_set fs dv i f _ hf, List.length_set]
    refine ownsRow_setCell_other h.row (fun e => ?_) _
    obtain ⟨cur', h2⟩ := own_lt h.row e
    rw [hcur] at h2
    injection h2 with h2
    injection h2 with _ h2 _
    revert h2; decide
  · by_cases hj : j = i
    · subst hj
      rw [List.getElem?_set_self hil] at hf'
      injection hf' with hf'
      subst hf'
      rw [hx] at hx'
      injection hx' with hx'
      subst hx'
      have hst := (World.ownsRow.stored (hn ▸ hd) c (.int .u8 (y.toNat : Int))).1
      simp only [List.length_set]
      have e : cU8 (f.2.set c y) = (cU8 f.2).set c (.int .u8 (y.toNat : Int)) := by simp [cU8, List.map_set]
      rw [e, hn]
      exact hst
    · rw [List.getElem?_set_ne (by omega)] at hf'
      exact ownsRow_setCell_other (h.data j f' x hf' hx') (fun e => hj (h.own j i x _ g hx' hx e rfl)) _
theorem FilesAt.kept {w w' : World} {base : Nat} {v : Value} {dv : List Value} {fs : List (Bs × Bs)} {S : Nat → Prop} (h : FilesAt w base v dv fs) (hk : Kept w w' S) (hS : ∀ k, S k → k < base) : FilesAt w' base v dv fs := by
  have hb : ∀ {e : TypeId} {s n : Nat} {x : Value} {xs : List Value}, w.ownsRow base e s x n xs → w'.ownsRow base e s x n xs := by
    intro e s n x xs hx
    refine own_same hx fun g hg => hk.block g ?_ fun h1 => ?_
    · obtain ⟨cur, h1⟩ := own_lt hx hg
      exact (Array.getElem?_eq_some_iff.1 h1).1
    · have := own_ge hx hg; have := hS g h1; omega
  exact ⟨hb h.row, h.len, fun j f x hf hx => hb (h.data j f x hf hx), h.own⟩
theorem FilesAt.lt {w : World} {base : Nat} {v : Value} {dv : List Value} {fs : List (Bs × Bs)} (h : FilesAt w base v dv fs) {i : Nat} {x : Value} {g : Nat} (hx : dv[i]? = some x) (hg : x.ownBlock = some g) : base ≤ g ∧ g < w.heap.size := by
  have hi := (List.getElem?_eq_some_iff.1 hx).1
  have hd := h.data i _ x (List.getElem?_eq_getElem (by have := h.len; omega)) hx
  obtain ⟨cur, h1⟩ := own_lt hd hg
  exact ⟨own_ge hd hg, (Array.getElem?_eq_some_iff.1 h1).1⟩
/-- The files in the middle of the writing: of what stood in w0 only their own blocks have turned. -/
def MixAt (w0 w : World) (B U : Nat) (A : Option Addr) (n c : Nat) (dv : List Value) (fs : List (Bs × Bs)) (i k : Nat) : Prop :=
  FilesAt w B (.slice A n c) dv (mix fs i k) ∧ Kept w0 w (fun b => B ≤ b ∧ b < U) ∧ ∀ (j : Nat) (x : Value) (g : Nat), dv[j]? = some x → x.ownBlock = some g → g < U
section
variable {w0 w : World} {B U n c i k : Nat} {A : Option Addr} {dv : List Value} {fs : List (Bs × Bs)}
theorem mix_begin (h : FilesAt w B (.slice A n c) dv fs) (hU : ∀ (j : Nat) (x : Value) (g : Nat), dv[j]? = some x → x.ownBlock = some g → g < U) : MixAt w w B U A n c dv fs 0 0 :=
  ⟨by rw [mix_start]; exact h, Kept.refl _ _, hU⟩
theorem MixAt.next {f : Bs × Bs} (h : MixAt w0 w B U A n c dv fs i f.2.length) (hf : fs[i]? = some f) : MixAt w0 w B U A n c dv fs (i + 1) 0 := by
  unfold MixAt
  rw [← mix_next hf]
  exact h
theorem MixAt.below {w1 : World} (h : MixAt w0 w B U A n c dv fs i k) (hb : Below w.heap.size w w1) : MixAt w0 w1 B U A n c dv fs i k := ⟨h.1.below hb, h.2.1.below hb, h.2.2⟩
theorem MixAt.file {f : Bs × Bs} (h : MixAt w0 w B U A n c dv fs i k) (hf : fs[i]? = some f) (hn : fs.length = n) : ∃ ga Af cf, A = some ⟨ga, 0, none⟩ ∧ dv[i]? = some (.slice Af f.2.length cf) ∧ w.cell? ⟨ga, i * 2 + 1, none⟩ = some (.slice Af f.2.length cf) := by
  obtain ⟨g, Af, cf, e, _, _, h2, h3⟩ := (h.1.rd ((mix_len _ _ _).trans hn)).2 i (f.1, mixB i k i f.2) (by rw [mix_at, hf]; rfl)
  simp only [mixB_len] at h2
  have hi := (List.getElem?_eq_some_iff.1 hf).1
  have hdl : i < dv.length := by have h5 := h.1.len; rw [mix_len] at h5; omega
  refine ⟨g, Af, cf, e, ?_, h2⟩
  have hr := h.1.row
  rw [e, mix_len, hn] at hr
  have hc1 := World.ownsRow.cellAt hr (i * 2 + 1) (by omega)
  rw [h2, (cF_at _ dv i (f.1, mixB i k i f.2) dv[i] (by rw [mix_at, hf]; rfl) (List.getElem?_eq_getElem hdl)).2] at hc1
  rw [List.getElem?_eq_getElem hdl]
  exact hc1.symm
theorem MixAt.byte {f : Bs × Bs} {Af : Option Addr} {cf : Nat} {y : UInt8} (h : MixAt w0 w B U A n c dv fs i k) (hf : fs[i]? = some f) (hx : dv[i]? = some (.slice Af f.2.length cf)) (hy : f.2[k]? = some y) : ∃ g, Af = some ⟨g, 0, none⟩ ∧ w.cell? ⟨g, k, none⟩ = some (.int .u8 (y.toNat : Int)) ∧
    w.frozen? ⟨g, k, none⟩ = false ∧ MixAt w0 (w.setCell ⟨g, k, none⟩ (.int .u8 ((y + 1).toNat : Int))) B U A n c dv fs i (k + 1) := by
  have hk := (List.getElem?_eq_some_iff.1 hy).1
  have hm : (mix fs i k)[i]? = some (f.1, mixB i k i f.2) := by rw [mix_at, hf]; rfl
  have hd := h.1.data i _ _ hm hx
  simp only [mixB_len] at hd
  obtain ⟨g, rfl⟩ := own_some hd (by omega)
  refine ⟨g, rfl, ?_, World.ownsRow.frozenAt hd k, ?_, ?_, h.2.2⟩
  · rw [World.ownsRow.cellAt hd k (by omega)]
    unfold cU8
    rw [List.getElem?_map, (mixB_now hy).1]
    rfl
  · have := h.1.poke (c := k) (y + 1) hm hx (mixB_len _ _ _ _)
    rw [mix_step hf hy] at this
    exact this
  · have hg1 := (h.1.lt hx (g := g) rfl).1
    exact h.2.1.set ⟨hg1, h.2.2 i _ g hx rfl⟩ _
end
end Go.Proofs.Ytelgcmcnebncmaa.Dr
