/- XPNothing: merged by tools/merge.py. -/
import Derived.Test.YtelgcmcnebncmaaQ03
namespace Go.Proofs.Ytelgcmcnebncmaa.Dr
open Go

/-- A trace: names, to which body each leads, to which it has led; of each body its bytes and how many are safe. -/
structure Tr where
  names : List Bs
  leads : List (Option Nat)
  led : List (List Nat)
  data : List Bs
  safe : List Nat
/-- The place of a name, if it has one. -/
def Tr.at? (t : Tr) (n : Bs) : Option Nat := t.names.idxOf? n
def Tr.place (t : Tr) (n : Bs) : Tr × Nat := match t.at? n with
  | some i => (t, i)
  | none => ({ t with names := t.names ++ [n], leads := t.leads ++ [none], led := t.led ++ [[]] }, t.names.length)
/-- The name at a place leads to a body. -/
def Tr.leadAt (t : Tr) (i : Nat) (b : Option Nat) : Tr := { t with leads := t.leads.set i b, led := match b with | some x => t.led.modify i (· ++ [x]) | none => t.led }
def Tr.lead (t : Tr) (n : Bs) (b : Option Nat) : Tr := (t.place n).1.leadAt (t.place n).2 b
def Tr.fresh (t : Tr) : Tr := { t with led := t.leads.map fun b => b.toList }
def Tr.body (t : Tr) (x : Bs) (s : Nat) : Tr := { t with data := t.data ++ [x], safe := t.safe ++ [s] }
def Tr.setSafe (t : Tr) (i s : Nat) : Tr := { t with safe := t.safe.set i s }
def Tr.anew (fs : List (Bs × Bs)) : Tr := ⟨fs.map (·.1), (List.range fs.length).map some, (List.range fs.length).map fun i => [i], fs.map (·.2), fs.map (·.2.length)⟩
/-- An act that was answered OK, behind the place of its name. -/
def Tr.turn (t : Tr) (b : Option Nat) (a : Ac) : Tr :=
  if a.kind = 0 then (t.body [] 0).lead a.name (some t.data.length)
  else if a.kind = 2 then match b with | some i => t.setSafe i (t.data.getD i []).length | none => t
  else if a.kind = 3 then if a.name = a.dst then t else (t.lead a.dst b).lead a.name none
  else if a.kind = 4 then t.lead a.name none
  else if a.kind = 5 then t.fresh
  else if a.kind = 15 then match b with | some i => if a.n < (t.safe.getD i 0 : Int) then t.setSafe i a.n.toNat else t | none => t
  else t
def Tr.follow (t : Tr) (a : Ac) : Tr := (t.place a.name).1.turn ((t.place a.name).1.leads.getD (t.place a.name).2 none) a
/-- The bytes behind a look at the first names. -/
def seeOne (d : D) (l : List Bs) (p : Bs × Option Nat) : List Bs := match p.2, d.look p.1 with | some i, .ok j => l.set i (d.at j).data | _, _ => l
def Tr.seen (t : Tr) (d : D) (k : Nat) : List Bs := ((t.names.zip t.leads).take k).foldl (seeOne d) t.data
def Tr.see (t : Tr) (d : D) : Tr := { t with data := t.seen d t.names.length }
/-- May the name have these bytes behind a loss of power? -/
def Tr.has (t : Tr) (n x : Bs) : Prop := ∃ i b, t.at? n = some i ∧ b ∈ t.led.getD i [] ∧ t.safe.getD b 0 ≤ x.length ∧ x <+: t.data.getD b []
/-- The trace tells of names that lead, have led to bodies, some of whose bytes are safe; s: the drive's number of each body. -/
structure Tells (t : Tr) (s : Nat → Nat) (now : Bs → Option Nat) (led : Bs → Nat → Prop) (bn : Nat) (sf : Nat → Nat) : Prop where
  len : t.leads.length = t.names.length ∧ t.led.length = t.names.length ∧ t.safe.length = t.data.length
  nodup : t.names.Nodup
  inj : ∀ i j, i < t.data.length → j < t.data.length → s i = s j → i = j
  dest : ∀ i, i < t.data.length → s i < bn
  safe : ∀ i, i < t.data.length → t.safe.getD i 0 = sf (s i)
  leads : ∀ (k : Nat) n, t.names[k]? = some n → now n = (t.leads.getD k none).map s
  inL : ∀ (k i : Nat), t.leads[k]? = some (some i) → i < t.data.length
  ledIn : ∀ (k : Nat) l i, t.led[k]? = some l → i ∈ l → i < t.data.length
  hist : ∀ (k : Nat) n, t.names[k]? = some n → ∀ b, led n b → ∃ i ∈ t.led.getD k [], s i = b
  off : ∀ n, n ∉ t.names → now n = none ∧ ∀ b, ¬ led n b
section
variable {t : Tr} {s : Nat → Nat} {now : Bs → Option Nat} {led : Bs → Nat → Prop} {bn : Nat} {sf : Nat → Nat}
theorem at_some (hn : t.names.Nodup) {n : Bs} {k : Nat} : t.at? n = some k ↔ t.names[k]? = some n := by
  unfold Tr.at?
  rw [List.idxOf?_eq_some_iff]
  constructor
  · rintro ⟨h1, h2, _⟩
    rw [List.getElem?_eq_getElem h1]
    simpa using h2
  · intro h
    obtain ⟨hkl, hke⟩ := List.getElem?_eq_some_iff.1 h
    refine ⟨hkl, by simpa using hke, fun q hq => ?_⟩
    have hne := List.pairwise_iff_getElem.1 hn q k (by omega) hkl hq
    simpa [hke] using hne
theorem at_none {n : Bs} : t.at? n = none ↔ n ∉ t.names := by
  unfold Tr.at?
  rw [List.idxOf?_eq_none_iff]
theorem Tells.to {now' : Bs → Option Nat} {led' : Bs → Nat → Prop} {bn' : Nat} {sf' : Nat → Nat} (h : Tells t s now led bn sf) (h1 : ∀ n, now' n = now n) (h2 : ∀ n b, led' n b → led n b) (h3 : bn ≤ bn') (h4 : ∀ i, i < t.data.length → sf' (s i) = sf (s i)) : Tells t s now' led' bn' sf' :=
  ⟨h.len, h.nodup, h.inj, fun i hi => Nat.lt_of_lt_of_le (h.dest i hi) h3, fun i hi => (h.safe i hi).trans (h4 i hi).symm, fun k n hk => (h1 n).trans (h.leads k n hk), h.inL, h.ledIn, fun k n hk b hb => h.hist k n hk b (h2 n b hb), fun n hn => ⟨(h1 n).trans (h.off n hn).1, fun b hb => (h.off n hn).2 b (h2 n b hb)⟩⟩
theorem place_at (_hl : t.leads.length = t.names.length) (n : Bs) : (t.place n).1.names[(t.place n).2]? = some n ∧ (t.place n).1.data = t.data ∧ (t.place n).1.safe = t.safe ∧ ∀ k i : Nat, t.leads[k]? = some (some i) → (t.place n).1.leads[k]? = some (some i) := by
  unfold Tr.place
  cases ha : t.at? n with
  | some i =>
    refine ⟨?_, rfl, rfl, fun k i h => h⟩
    unfold Tr.at? at ha
    obtain ⟨h1, h2, _⟩ := List.idxOf?_eq_some_iff.1 ha
    show t.names[i]? = some n
    rw [List.getElem?_eq_getElem h1]
    simpa using h2
  | none =>
    refine ⟨by simp, rfl, rfl, fun k i h => ?_⟩
    show (t.leads ++ [none])[k]? = _
    rw [List.getElem?_append_left (List.getElem?_eq_some_iff.1 h).1]
    exact h
theorem Tells.place (h : Tells t s now led bn sf) (n : Bs) : Tells (t.place n).1 s now led bn sf := by
  unfold Tr.place
  cases ha : t.at? n with
  | some i => exact h
  | none =>
    have hn := at_none.1 ha
    obtain ⟨l1, l2, l3⟩ := h.len
    refine ⟨⟨by simp [l1], by simp [l2], l3⟩, ?_, h.inj, h.dest, h.safe, fun k x hk => ?_, fun k i hk => ?_, fun k l i hk hi => ?_, fun k x hk b hb => ?_, fun x hx => h.off x fun hx2 => hx (List.mem_append_left _ hx2)⟩
    · refine List.nodup_append.2 ⟨h.nodup, by simp, fun a ha b hb e => ?_⟩
      rw [List.mem_singleton.1 hb] at e
      exact hn (e ▸ ha)
    · rcases Nat.lt_or_ge k t.names.length with hlt | hge
      · have hk2 : t.names[k]? = some x := by rw [← hk]; exact (List.getElem?_append_left hlt).symm
        rw [h.leads k x hk2]
        simp only [List.getD_eq_getElem?_getD, List.getElem?_append_left (show k < t.leads.length by omega)]
      · have hk3 : k < (t.names ++ [n]).length := (List.getElem?_eq_some_iff.1 hk).1
        obtain rfl : k = t.names.length := by simp at hk3; omega
        have : x = n := by simpa using hk.symm
        subst this
        rw [(h.off x hn).1]
        simp [← l1]
    · rcases Nat.lt_or_ge k t.leads.length with hlt | hge
      · refine h.inL k i ?_
        rw [← hk]; exact (List.getElem?_append_left hlt).symm
      · change (t.leads ++ [Option.none])[k]? = _ at hk
        rw [List.getElem?_append_right hge] at hk
        obtain ⟨h1, h2⟩ := List.getElem?_eq_some_iff.1 hk
        simp at h2
    · rcases Nat.lt_or_ge k t.led.length with hlt | hge
      · refine h.ledIn k l i ?_ hi
        rw [← hk]; exact (List.getElem?_append_left hlt).symm
      · change (t.led ++ [[]])[k]? = _ at hk
        rw [List.getElem?_append_right hge] at hk
        obtain ⟨h1, h2⟩ := List.getElem?_eq_some_iff.1 hk
        simp at h2
        subst h2; cases hi
    · rcases Nat.lt_or_ge k t.names.length with hlt | hge
      · have hk2 : t.names[k]? = some x := by rw [← hk]; exact (List.getElem?_append_left hlt).symm
        have := h.hist k x hk2 b hb
        simpa only [List.getD_eq_getElem?_getD, List.getElem?_append_left (show k < t.led.length by omega)] using this
      · have hk3 : k < (t.names ++ [n]).length := (List.getElem?_eq_some_iff.1 hk).1
        obtain rfl : k = t.names.length := by simp at hk3; omega
        have : x = n := by simpa using hk.symm
        subst this
        exact absurd hb ((h.off x hn).2 b)
/-- A name that has its place leads elsewhere. -/
theorem Tells.leadAt (h : Tells t s now led bn sf) {n : Bs} {q : Nat} (hq : t.names[q]? = some n) {x : Option Nat} (hx : ∀ i, x = some i → i < t.data.length) :
    Tells (t.leadAt q x) s (fun k => if k = n then x.map s else now k) (fun k b => led k b ∨ (k = n ∧ x.map s = some b)) bn sf := by
  obtain ⟨l1, l2, l3⟩ := h.len
  obtain ⟨hql, hqe⟩ := List.getElem?_eq_some_iff.1 hq
  have huniq : ∀ k x, t.names[k]? = some x → (x = n ↔ k = q) := by
    intro k x hk
    obtain ⟨h1, h2⟩ := List.getElem?_eq_some_iff.1 hk
    constructor
    · rintro rfl
      rcases Nat.lt_trichotomy k q with h3 | h3 | h3
      · exact absurd (h2.trans hqe.symm) (List.pairwise_iff_getElem.1 h.nodup k q h1 hql h3)
      · exact h3
      · exact absurd (hqe.trans h2.symm) (List.pairwise_iff_getElem.1 h.nodup q k hql h1 h3)
    · rintro rfl
      exact h2.symm.trans hqe
  have hled : ∀ k : Nat, (t.leadAt q x).led[k]? = (t.led[k]?).map fun l => if k = q then l ++ x.toList else l := by
    intro k
    unfold Tr.leadAt
    cases x with
    | none => simp
    | some y =>
      show (t.led.modify q (· ++ [y]))[k]? = _
      rw [List.getElem?_modify]
      by_cases hk : q = k
      · subst hk; simp
      · have : ¬ k = q := fun e => hk e.symm
        simp [hk, this]
  refine ⟨⟨by simp [Tr.leadAt, l1], ?_, l3⟩, h.nodup, h.inj, h.dest, h.safe, fun k y hk => ?_, fun k i hk => ?_, fun k l i hk hi => ?_, fun k y hk b hb => ?_, fun y hy => ?_⟩
  · show _ = t.names.length
    rw [← l2]
    unfold Tr.leadAt
    cases x <;> simp
  · show _ = ((t.leads.set q x).getD k Option.none).map s
    rw [List.getD_eq_getElem?_getD, List.getElem?_set]
    by_cases hkq : q = k
    · subst hkq
      have hyn := (huniq q y hk).2 rfl
      simp only [hyn, if_true]
      rw [if_pos (by omega)]
      rfl
    · have hyn : ¬ y = n := fun e => hkq ((huniq k y hk).1 e).symm
      simp only [hyn, if_false, hkq]
      rw [h.leads k y hk, List.getD_eq_getElem?_getD]
  · change (t.leads.set q x)[k]? = _ at hk
    rw [List.getElem?_set] at hk
    split at hk
    · split at hk
      · exact hx i (by injection hk)
      · cases hk
    · exact h.inL k i hk
  · rw [hled] at hk
    cases hl : t.led[k]? with
    | none => rw [hl] at hk; cases hk
    | some l0 =>
      rw [hl] at hk
      simp only [Option.map_some, Option.some.injEq] at hk
      subst hk
      split at hi
      · rcases List.mem_append.1 hi with h1 | h1
        · exact h.ledIn k l0 i hl h1
        · cases x with
          | none => cases h1
          | some y => exact hx i (by rw [List.mem_singleton.1 h1])
      · exact h.ledIn k l0 i hl hi
  · change t.names[k]? = some y at hk
    have hlk : k < t.led.length := by have := (List.getElem?_eq_some_iff.1 hk).1; omega
    rw [List.getD_eq_getElem?_getD, hled, List.getElem?_eq_getElem hlk]
    have hgd : t.led.getD k [] = t.led[k] := by rw [List.getD_eq_getElem?_getD, List.getElem?_eq_getElem hlk]; rfl
    simp only [Option.map_some, Option.getD_some]
    rcases hb with hb | ⟨hy, hb⟩
    · obtain ⟨i, hi, e⟩ := h.hist k y hk b hb
      rw [hgd] at hi
      refine ⟨i, ?_, e⟩
      split
      · exact List.mem_append_left _ hi
      · exact hi
    · have hkq := (huniq k y hk).1 hy
      rw [if_pos hkq]
      cases x with
      | none => cases hb
      | some z =>
        injection hb with hb
        exact ⟨z, by simp, hb⟩
  · change y ∉ t.names at hy
    have hyn : ¬ y = n := fun e => hy (e ▸ List.mem_of_getElem? hq)
    refine ⟨by rw [if_neg hyn]; exact (h.off y hy).1, fun b hb => ?_⟩
    rcases hb with hb | ⟨hb, _⟩
    · exact (h.off y hy).2 b hb
    · exact hyn hb
theorem Tells.lead (h : Tells t s now led bn sf) (n : Bs) {x : Option Nat} (hx : ∀ i, x = some i → i < t.data.length) :
    Tells (t.lead n x) s (fun k => if k = n then x.map s else now k) (fun k b => led k b ∨ (k = n ∧ x.map s = some b)) bn sf := by
  obtain ⟨h1, h2, _⟩ := place_at h.len.1 n
  exact (h.place n).leadAt h1 (by rw [h2]; exact hx)
theorem Tells.fresh (h : Tells t s now led bn sf) : Tells t.fresh s now (fun n b => now n = some b) bn sf := by
  obtain ⟨l1, l2, l3⟩ := h.len
  have hled : ∀ k : Nat, t.fresh.led[k]? = (t.leads[k]?).map fun b : Option Nat => b.toList := fun k => by simp [Tr.fresh]
  refine ⟨⟨l1, by simp [Tr.fresh, l1], l3⟩, h.nodup, h.inj, h.dest, h.safe, h.leads, h.inL, fun k l i hk hi => ?_, fun k n hk b hb => ?_, fun n hn => ⟨(h.off n hn).1, fun b hb => ?_⟩⟩
  · rw [hled] at hk
    cases hl : t.leads[k]? with
    | none => rw [hl] at hk; cases hk
    | some x =>
      rw [hl] at hk
      simp only [Option.map_some, Option.some.injEq] at hk
      subst hk
      cases x with
      | none => cases hi
      | some y => rw [List.mem_singleton.1 hi]; exact h.inL k y hl
  · have hlk : k < t.leads.length := by have := (List.getElem?_eq_some_iff.1 hk).1; change k < t.names.length at this; omega
    have h2 := h.leads k n hk
    change now n = some b at hb
    rw [hb, List.getD_eq_getElem?_getD, List.getElem?_eq_getElem hlk] at h2
    rw [List.getD_eq_getElem?_getD, hled, List.getElem?_eq_getElem hlk]
    cases hx : t.leads[k] with
    | none => rw [hx] at h2; cases h2
    | some i =>
      rw [hx] at h2
      injection h2 with h2
      exact ⟨i, by simp, h2.symm⟩
  · change now n = some b at hb
    rw [(h.off n hn).1] at hb
    cases hb
theorem Tells.body (h : Tells t s now led bn sf) (x : Bs) (f : Nat) : Tells (t.body x f) (fun i => if i = t.data.length then bn else s i) now led (bn + 1) (fun j => if j = bn then f else sf j) := by
  obtain ⟨l1, l2, l3⟩ := h.len
  have hlt : ∀ i, i < (t.body x f).data.length → i ≠ t.data.length → i < t.data.length := fun i hi hne => by
    simp [Tr.body] at hi; omega
  refine ⟨⟨l1, l2, by simp [Tr.body, l3]⟩, h.nodup, fun i j hi hj e => ?_, fun i hi => ?_, fun i hi => ?_, fun k n hk => ?_, fun k i hk => ?_, fun k l i hk hi => ?_, fun k n hk b hb => ?_, h.off⟩
  · by_cases h1 : i = t.data.length
    · by_cases h2 : j = t.data.length
      · omega
      · rw [if_pos h1, if_neg h2] at e
        have := h.dest j (hlt j hj h2); omega
    · by_cases h2 : j = t.data.length
      · rw [if_neg h1, if_pos h2] at e
        have := h.dest i (hlt i hi h1); omega
      · rw [if_neg h1, if_neg h2] at e
        exact h.inj i j (hlt i hi h1) (hlt j hj h2) e
  · split
    · omega
    · rename_i h1; have := h.dest i (hlt i hi h1); omega
  · show (t.safe ++ [f]).getD i 0 = _
    by_cases h1 : i = t.data.length
    · subst h1
      simp [← l3]
    · have h2 := hlt i hi h1
      have h3 := h.dest i h2
      simp only [if_neg h1]
      rw [if_neg (by omega), ← h.safe i h2]
      simp only [List.getD_eq_getElem?_getD, List.getElem?_append_left (show i < t.safe.length by omega)]
  · rw [h.leads k n hk]
    show (t.leads.getD k Option.none).map s = (t.leads.getD k Option.none).map _
    cases hl : t.leads.getD k Option.none with
    | none => rfl
    | some i =>
      have : i < t.data.length := h.inL k i (by
        have hkl := (List.getElem?_eq_some_iff.1 hk).1
        change k < t.names.length at hkl
        rw [List.getElem?_eq_getElem (by omega)]
        rw [List.getD_eq_getElem?_getD, List.getElem?_eq_getElem (by omega)] at hl
        simpa using hl)
      simp only [Option.map_some]
      rw [if_neg (by omega)]
  · have := h.inL k i hk
    simp [Tr.body]; omega
  · have := h.ledIn k l i hk hi
    simp [Tr.body]; omega
  · obtain ⟨i, hi, e⟩ := h.hist k n hk b hb
    have hkl : k < t.led.length := by have := (List.getElem?_eq_some_iff.1 hk).1; change k < t.names.length at this; omega
    have : i < t.data.length := h.ledIn k (t.led.getD k []) i (by rw [List.getD_eq_getElem?_getD, List.getElem?_eq_getElem hkl]; rfl) hi
    exact ⟨i, hi, by rw [if_neg (by omega)]; exact e⟩
theorem Tells.setSafe (h : Tells t s now led bn sf) {i : Nat} (hi : i < t.data.length) (f : Nat) : Tells (t.setSafe i f) s now led bn (fun j => if j = s i then f else sf j) := by
  obtain ⟨l1, l2, l3⟩ := h.len
  refine ⟨⟨l1, l2, by simp [Tr.setSafe, l3]⟩, h.nodup, h.inj, h.dest, fun j hj => ?_, h.leads, h.inL, h.ledIn, h.hist, h.off⟩
  change j < t.data.length at hj
  show (t.safe.set i f).getD j 0 = _
  rw [List.getD_eq_getElem?_getD, List.getElem?_set]
  by_cases hij : i = j
  · subst hij
    rw [if_pos rfl, if_pos (by omega), if_pos rfl]; rfl
  · rw [if_neg hij, if_neg (fun e => hij (h.inj i j hi hj e.symm)), ← h.safe j hj, List.getD_eq_getElem?_getD]
end
/-- What a drive's name has led to. -/
def D.led (d : D) (n : Bs) (b : Nat) : Prop := (n, b) ∈ d.kept ∨ ∃ c ∈ d.pend, (n, some b) ∈ c
def Told (t : Tr) (s : Nat → Nat) (d : D) : Prop := Tells t s (find d.now) d.led d.bd.length (fun j => (d.at j).safe)
/-- All bytes were seen. -/
def Full (t : Tr) (s : Nat → Nat) (d : D) : Prop := Told t s d ∧ ∀ i, i < t.data.length → t.data.getD i [] = (d.at (s i)).data
/-- All bytes but those of names that lead were seen. -/
def Near (t : Tr) (s : Nat → Nat) (d : D) : Prop := Told t s d ∧ ∀ i, i < t.data.length → t.data.getD i [] = (d.at (s i)).data ∨ ∃ k : Nat, t.leads[k]? = some (some i)
section
variable {t : Tr} {s : Nat → Nat} {d : D} {m N : Nat}
theorem Full.near (h : Full t s d) : Near t s d := ⟨h.1, fun i hi => .inl (h.2 i hi)⟩
theorem Full.place (h : Full t s d) (n : Bs) : Full (t.place n).1 s d := by
  obtain ⟨_, h2, _⟩ := place_at h.1.len.1 n
  exact ⟨Tells.place h.1 n, fun i hi => by rw [h2]; rw [h2] at hi; exact h.2 i hi⟩
theorem seen_next {k : Nat} {n : Bs} {x : Option Nat} (hn : t.names[k]? = some n) (hx : t.leads[k]? = some x) :
    t.seen d (k + 1) = seeOne d (t.seen d k) (n, x) := by
  have hz : (t.names.zip t.leads)[k]? = some (n, x) := by
    rw [List.getElem?_zip_eq_some]; exact ⟨hn, hx⟩
  unfold Tr.seen
  rw [List.take_add_one, hz, List.foldl_append]
  rfl
theorem seen_len (k : Nat) : (t.seen d k).length = t.data.length := by
  unfold Tr.seen
  generalize (t.names.zip t.leads).take k = l
  generalize t.data = y
  induction l generalizing y with
  | nil => rfl
  | cons p l ih =>
    rw [List.foldl_cons, ih]
    unfold seeOne
    split <;> simp
/-- What a look at the name at a place finds. -/
theorem Told.look (h : Told t s d) (ho : d.Ok m N) {k : Nat} {n : Bs} (hk : t.names[k]? = some n) :
    (t.leads[k]? = some none → ∃ e, d.look n = .error e ∧ e ≠ 0) ∧ ∀ i, t.leads[k]? = some (some i) → d.look n = .ok (s i) ∧ i < t.data.length := by
  have h1 := h.leads k n hk
  refine ⟨fun hx => ?_, fun i hx => ?_⟩
  · rw [List.getD_eq_getElem?_getD, hx] at h1
    unfold D.look
    split
    · rw [show find d.now n = none from h1]
      exact ⟨_, rfl, by decide⟩
    · exact ⟨_, rfl, by decide⟩
  · rw [List.getD_eq_getElem?_getD, hx] at h1
    have h2 : find d.now n = some (s i) := h1
    refine ⟨?_, h.inL k i hx⟩
    unfold D.look
    rw [if_pos (ho.namN _ ((find_some ho.now).1 h2)), h2]
theorem Near.see (h : Near t s d) (ho : d.Ok m N) : Full (t.see d) s d := by
  obtain ⟨l1, l2, l3⟩ := h.1.len
  have hdl : (t.see d).data.length = t.data.length := seen_len _
  have h1 := h.1
  refine ⟨⟨⟨l1, l2, by rw [hdl]; exact l3⟩, h1.nodup, fun i j hi hj => h1.inj i j (hdl ▸ hi) (hdl ▸ hj), fun i hi => h1.dest i (hdl ▸ hi), fun i hi => h1.safe i (hdl ▸ hi), h1.leads, fun k i hk => by rw [hdl]; exact h1.inL k i hk, fun k l i hk hi => by rw [hdl]; exact h1.ledIn k l i hk hi, h1.hist, h1.off⟩, ?_⟩
  have key : ∀ k, k ≤ t.names.length → ∀ i, i < t.data.length → (t.seen d k).getD i [] = (d.at (s i)).data ∨ ∃ q, k ≤ q ∧ t.leads[q]? = some (some i) := by
    intro k
    induction k with
    | zero =>
      intro _ i hi
      rcases h.2 i hi with h2 | ⟨q, h2⟩
      · exact .inl h2
      · exact .inr ⟨q, Nat.zero_le _, h2⟩
    | succ k ih =>
      intro hk i hi
      have hn : t.names[k]? = some t.names[k] := List.getElem?_eq_getElem (by omega)
      have hx : t.leads[k]? = some (t.leads[k]'(by omega)) := List.getElem?_eq_getElem (by omega)
      obtain ⟨g1, g2⟩ := h1.look ho hn
      rw [seen_next hn hx]
      unfold seeOne
      cases hy : t.leads[k]'(by omega) with
      | none =>
        rcases ih (by omega) i hi with h2 | ⟨q, h2, h3⟩
        · exact .inl h2
        · refine .inr ⟨q, ?_, h3⟩
          rcases Nat.eq_or_lt_of_le h2 with rfl | h4
          · rw [hx, hy] at h3; cases h3
          · exact h4
      | some j =>
        rw [hy] at hx
        obtain ⟨g3, g4⟩ := g2 j hx
        rw [g3]
        dsimp only
        rw [List.getD_eq_getElem?_getD, List.getElem?_set]
        by_cases hji : j = i
        · subst hji
          rw [if_pos rfl, if_pos (by rw [seen_len]; exact hi)]
          exact .inl rfl
        · rw [if_neg hji, ← List.getD_eq_getElem?_getD]
          rcases ih (by omega) i hi with h2 | ⟨q, h2, h3⟩
          · exact .inl h2
          · refine .inr ⟨q, ?_, h3⟩
            rcases Nat.eq_or_lt_of_le h2 with rfl | h4
            · rw [hx] at h3
              injection h3 with h3
              injection h3 with h3
              exact absurd h3 hji
            · exact h4
  intro i hi
  rw [hdl] at hi
  rcases key _ (Nat.le_refl _) i hi with h2 | ⟨q, h2, h3⟩
  · exact h2
  · have := (List.getElem?_eq_some_iff.1 h3).1
    omega
theorem mem_apply : ∀ (c : List (Bs × Option Nat)) (l : Dir) {x : Bs × Nat}, x ∈ apply l c → x ∈ l ∨ (x.1, some x.2) ∈ c
  | [], l, x, h => .inl h
  | y :: c, l, x, h => by
    rcases mem_apply c (put l y.1 y.2) h with h | h
    · rcases mem_put.1 h with ⟨h, _⟩ | ⟨h1, h2⟩
      · exact .inl h
      · right
        rw [h1, ← h2]
        exact List.mem_cons_self
    · exact .inr (List.mem_cons_of_mem _ h)
theorem mem_keep : ∀ (p : List (List (Bs × Option Nat))) (b : List Bool) (l : Dir) {x : Bs × Nat}, x ∈ keepSome l p b → x ∈ l ∨ ∃ c ∈ p, (x.1, some x.2) ∈ c
  | [], b, l, x, h => by rw [keep_nil] at h; exact .inl h
  | c :: p, [], l, x, h => .inl h
  | c :: p, b :: r, l, x, h => by
    rcases mem_keep p r (if b then apply l c else l) h with h | ⟨c', hc, h⟩
    · cases b with
      | false => exact .inl h
      | true =>
        rcases mem_apply c l h with h | h
        · exact .inl h
        · exact .inr ⟨c, List.mem_cons_self, h⟩
    · exact .inr ⟨c', List.mem_cons_of_mem _ hc, h⟩
/-- Each file behind a loss of power is one that the trace allows. -/
theorem Full.has (h : Full t s d) (ho : d.Ok m N) (dirs : List Bool) (cuts : List Int) : ∀ f ∈ (d.crash dirs cuts).image, t.has f.1 f.2 := by
  intro f hf
  obtain ⟨h, hdat⟩ := h
  have he := crash_files (d := d) (fun b => b.data) dirs cuts
  change (d.crash dirs cuts).image = _ at he
  rw [he] at hf
  obtain ⟨⟨⟨n, b⟩, j⟩, hp, rfl⟩ := List.mem_map.1 hf
  have hk : (n, b) ∈ keepSome d.kept d.pend dirs := by
    obtain ⟨_, _, h3⟩ := List.mem_zipIdx hp
    rw [h3]
    exact List.getElem_mem _
  have hw : d.led n b := mem_keep d.pend dirs d.kept hk
  have hn : n ∈ t.names := by
    by_cases hn : n ∈ t.names
    · exact hn
    · exact absurd hw ((h.off n hn).2 b)
  obtain ⟨k, hkn⟩ := List.mem_iff_getElem?.1 hn
  obtain ⟨i, hi, hib⟩ := h.hist k n hkn b hw
  have hkl : k < t.led.length := by have := (List.getElem?_eq_some_iff.1 hkn).1; have := h.len.2.1; omega
  have hil : i < t.data.length := h.ledIn k (t.led.getD k []) i (by rw [List.getD_eq_getElem?_getD, List.getElem?_eq_getElem hkl]; rfl) hi
  have hb1 := hdat i hil
  have hb2 := h.safe i hil
  rw [hib] at hb1 hb2
  refine ⟨k, i, (at_some h.nodup).2 hkn, hi, ?_, ?_⟩
  · rw [hb2]
    show (d.at b).safe ≤ ((d.at b).left (cuts.getD j 0)).data.length
    have := (ho.at_ok b).1
    unfold Bd.left
    simp only [List.length_take]
    omega
  · rw [hb1]
    show ((d.at b).left (cuts.getD j 0)).data <+: (d.at b).data
    unfold Bd.left
    exact List.take_prefix _ _
end
end Go.Proofs.Ytelgcmcnebncmaa.Dr
