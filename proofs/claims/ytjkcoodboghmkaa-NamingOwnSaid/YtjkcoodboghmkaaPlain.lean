/- Plain laws about names of files: lists of bytes alone, no program. -/
namespace Go.Proofs.Ytjkcoodboghmkaa.Nm

abbrev Bs := List UInt8

/-- A digit of a number below sixteen. -/
def dig (n : Nat) : UInt8 := if n < 10 then UInt8.ofNat (48 + n) else UInt8.ofNat (87 + n)
def objTail : Bs → Bs
  | [] => []
  | b :: r => dig (b.toNat / 16) :: dig (b.toNat % 16) :: objTail r
def fitB (k : Bs) : Bool := decide (1 ≤ k.length) && decide (k.length ≤ 255)
/-- The name of a key; what is no key has the empty one. -/
def objName (k : Bs) : Bs := if fitB k then 111 :: objTail k else []
def objErr (k : Bs) : Int := if fitB k then 0 else 90

def num (c : UInt8) : Option Nat :=
  if 48 ≤ c.toNat ∧ c.toNat ≤ 57 then some (c.toNat - 48) else if 97 ≤ c.toNat ∧ c.toNat ≤ 102 then some (c.toNat - 87) else none
def unhex : Bs → Option Bs
  | [] => some []
  | [_] => none
  | a :: b :: r =>
    match num a, num b, unhex r with
    | some x, some y, some l => some (UInt8.ofNat (16 * x + y) :: l)
    | _, _, _ => none
/-- The key of a name. -/
def key? (n : Bs) : Option Bs :=
  match n with
  | [] => none
  | c :: h => if c = 111 ∧ 1 ≤ h.length ∧ h.length ≤ 510 then unhex h else none
theorem key_cons (c : UInt8) (h : Bs) : key? (c :: h) = if c = 111 ∧ 1 ≤ h.length ∧ h.length ≤ 510 then unhex h else none := rfl
def keyOk (n : Bs) : Bool := (key? n).isSome
def keyOf (n : Bs) : Bs := (key? n).getD []
def kind (n : Bs) : Int := if n = [116] then 2 else if n = [108] then 3 else if keyOk n then 1 else 0

theorem num_dig (n : Nat) (h : n < 16) : num (dig n) = some n := by
  have : ∀ n : Fin 16, num (dig n.val) = some n.val := by decide
  exact this ⟨n, h⟩
theorem dig_num (c : UInt8) (n : Nat) (h : num c = some n) : n < 16 ∧ dig n = c := by
  unfold num at h
  split at h
  · rename_i h1
    simp only [Option.some.injEq] at h
    subst h
    refine ⟨by omega, ?_⟩
    unfold dig
    rw [if_pos (by omega)]
    apply UInt8.toNat.inj
    simp only [UInt8.toNat_ofNat']
    omega
  · split at h
    · rename_i h0 h1
      simp only [Option.some.injEq] at h
      subst h
      refine ⟨by omega, ?_⟩
      unfold dig
      rw [if_neg (by omega)]
      apply UInt8.toNat.inj
      simp only [UInt8.toNat_ofNat']
      omega
    · cases h

theorem objTail_length (k : Bs) : (objTail k).length = 2 * k.length := by
  induction k with
  | nil => rfl
  | cons b r ih => simp [objTail, ih]; omega

theorem unhex_objTail (k : Bs) : unhex (objTail k) = some k := by
  induction k with
  | nil => rfl
  | cons b r ih =>
    have hb : b.toNat < 256 := UInt8.toNat_lt b
    have h1 := num_dig (b.toNat / 16) (by omega)
    have h2 := num_dig (b.toNat % 16) (by omega)
    simp only [objTail, unhex, h1, h2, ih, Option.some.injEq, List.cons.injEq, and_true]
    apply UInt8.toNat.inj
    simp only [UInt8.toNat_ofNat']
    omega

theorem unhex_some (h k : Bs) (e : unhex h = some k) : objTail k = h := by
  match h, e with
  | [], e => simp only [unhex, Option.some.injEq] at e; subst e; rfl
  | [_], e => simp [unhex] at e
  | a :: b :: r, e =>
    simp only [unhex] at e
    cases ha : num a with
    | none => simp [ha] at e
    | some x =>
      cases hb : num b with
      | none => simp [ha, hb] at e
      | some y =>
        cases hr : unhex r with
        | none => simp [ha, hb, hr] at e
        | some l =>
          simp only [ha, hb, hr, Option.some.injEq] at e
          subst e
          obtain ⟨hx, hxd⟩ := dig_num a x ha
          obtain ⟨hy, hyd⟩ := dig_num b y hb
          have hn : (UInt8.ofNat (16 * x + y)).toNat = 16 * x + y := by simp only [UInt8.toNat_ofNat']; omega
          simp only [objTail, hn]
          rw [show (16 * x + y) / 16 = x by omega, show (16 * x + y) % 16 = y by omega, hxd, hyd, unhex_some r l hr]

theorem unhex_length (h k : Bs) (e : unhex h = some k) : h.length = 2 * k.length := by
  rw [← unhex_some h k e, objTail_length]

theorem unhex_append (p q : Bs) (j : Nat) (hp : p.length = 2 * j) : unhex (p ++ q) = (unhex p).bind fun l => (unhex q).map (l ++ ·) := by
  induction j generalizing p with
  | zero =>
    have : p = [] := List.eq_nil_of_length_eq_zero (by omega)
    subst this
    cases h : unhex q <;> simp [unhex, h]
  | succ j ih =>
    match p, hp with
    | [], hp => simp at hp
    | [_], hp => simp at hp; omega
    | a :: b :: r, hp =>
      have hr : r.length = 2 * j := by simp at hp; omega
      simp only [List.cons_append, unhex, ih r hr]
      cases ha : num a with
      | none => simp
      | some x =>
        cases hb : num b with
        | none => simp
        | some y =>
          cases hq : unhex r with
          | none => simp
          | some l =>
            cases hqq : unhex q <;> simp
theorem unhex_step (h l : Bs) (j : Nat) (hj : 2 * j + 1 < h.length) (hl : unhex (h.take (2 * j)) = some l) :
    unhex (h.take (2 * (j + 1))) = (match num (h[2 * j]'(by omega)), num (h[2 * j + 1]'hj) with | some x, some y => some (l ++ [UInt8.ofNat (16 * x + y)]) | _, _ => none) := by
  have e : h.take (2 * (j + 1)) = h.take (2 * j) ++ [h[2 * j]'(by omega), h[2 * j + 1]'hj] := by
    rw [show 2 * (j + 1) = 2 * j + 1 + 1 by omega, List.take_succ_eq_append_getElem hj, List.take_succ_eq_append_getElem (show 2 * j < h.length by omega), List.append_assoc]
    rfl
  rw [e, unhex_append _ _ j (by rw [List.length_take]; omega), hl]
  simp only [Option.bind_some, unhex]
  cases num (h[2 * j]'(by omega)) <;> cases num (h[2 * j + 1]'hj) <;> simp
theorem unhex_stop (h : Bs) (j : Nat) (hj : 2 * (j + 1) ≤ h.length) (hn : unhex (h.take (2 * (j + 1))) = none) : unhex h = none := by
  have e : h = h.take (2 * (j + 1)) ++ h.drop (2 * (j + 1)) := (List.take_append_drop _ _).symm
  rw [e, unhex_append _ _ (j + 1) (by rw [List.length_take]; omega), hn]
  rfl
theorem unhex_odd (h : Bs) (j : Nat) (hj : h.length = 2 * j + 1) : unhex h = none := by
  cases hu : unhex h with
  | none => rfl
  | some k => have := unhex_length h k hu; omega

theorem fit_iff (k : Bs) : fitB k = true ↔ 1 ≤ k.length ∧ k.length ≤ 255 := by simp [fitB]

/-- There and back. -/
theorem key_obj (k : Bs) (h : fitB k = true) : key? (objName k) = some k := by
  have hf := (fit_iff k).1 h
  have hl := objTail_length k
  unfold objName
  rw [if_pos h]
  show (if (111 : UInt8) = 111 ∧ 1 ≤ (objTail k).length ∧ (objTail k).length ≤ 510 then unhex (objTail k) else none) = some k
  rw [if_pos ⟨rfl, by omega, by omega⟩]
  exact unhex_objTail k
/-- Back and there. -/
theorem obj_key (n k : Bs) (h : key? n = some k) : fitB k = true ∧ objName k = n := by
  cases n with
  | nil => simp [key?] at h
  | cons c r =>
    simp only [key?] at h
    split at h
    · rename_i hc
      obtain ⟨rfl, h1, h2⟩ := hc
      have hl := unhex_length r k h
      have hf : fitB k = true := (fit_iff k).2 ⟨by omega, by omega⟩
      refine ⟨hf, ?_⟩
      unfold objName
      rw [if_pos hf, unhex_some r k h]
    · cases h

theorem key_none_short (n : Bs) (h : n.length < 3) : key? n = none := by
  cases hk : key? n with
  | none => rfl
  | some k =>
    obtain ⟨hf, he⟩ := obj_key n k hk
    have := (fit_iff k).1 hf
    have hl : n.length = 1 + 2 * k.length := by
      rw [← he]; unfold objName; rw [if_pos hf]; simp [objTail_length]; omega
    omega

theorem dig_mono (a b : Nat) (ha : a < 16) (hb : b < 16) : (dig a < dig b ↔ a < b) ∧ (dig a = dig b ↔ a = b) := by
  have : ∀ a b : Fin 16, (dig a.val < dig b.val ↔ a.val < b.val) ∧ (dig a.val = dig b.val ↔ a.val = b.val) := by decide
  exact this ⟨a, ha⟩ ⟨b, hb⟩

theorem byte_lt (x y : UInt8) : x < y ↔ x.toNat / 16 < y.toNat / 16 ∨ (x.toNat / 16 = y.toNat / 16 ∧ x.toNat % 16 < y.toNat % 16) := by
  rw [UInt8.lt_iff_toNat_lt]; omega
theorem byte_eq (x y : UInt8) : x = y ↔ x.toNat / 16 = y.toNat / 16 ∧ x.toNat % 16 = y.toNat % 16 := by
  constructor
  · rintro rfl; exact ⟨rfl, rfl⟩
  · intro h; apply UInt8.toNat.inj; omega

/-- Names keep the keys' order. -/
theorem objTail_lt (a b : Bs) : objTail a < objTail b ↔ a < b := by
  induction a generalizing b with
  | nil =>
    cases b with
    | nil => simp [objTail]
    | cons y s => simp [objTail]
  | cons x r ih =>
    cases b with
    | nil => simp [objTail]
    | cons y s =>
      have hx : x.toNat < 256 := UInt8.toNat_lt x
      have hy : y.toNat < 256 := UInt8.toNat_lt y
      have h1 := dig_mono (x.toNat / 16) (y.toNat / 16) (by omega) (by omega)
      have h2 := dig_mono (x.toNat % 16) (y.toNat % 16) (by omega) (by omega)
      simp only [objTail, List.cons_lt_cons_iff, ih s, h1.1, h1.2, h2.1, h2.2, byte_lt x y, byte_eq x y]
      constructor
      · rintro (h | ⟨h, h' | ⟨h', h''⟩⟩)
        · exact .inl (.inl h)
        · exact .inl (.inr ⟨h, h'⟩)
        · exact .inr ⟨⟨h, h'⟩, h''⟩
      · rintro ((h | ⟨h, h'⟩) | ⟨⟨h, h'⟩, h''⟩)
        · exact .inl h
        · exact .inr ⟨h, .inl h'⟩
        · exact .inr ⟨h, .inr ⟨h', h''⟩⟩
theorem objTail_inj (a b : Bs) (h : objTail a = objTail b) : a = b := by
  have := congrArg unhex h
  simpa [unhex_objTail] using this
theorem objTail_prefix (a b : Bs) : (objTail a).isPrefixOf (objTail b) = a.isPrefixOf b := by
  induction a generalizing b with
  | nil => simp [objTail]
  | cons x r ih =>
    cases b with
    | nil => simp [objTail]
    | cons y s =>
      have hx : x.toNat < 256 := UInt8.toNat_lt x
      have hy : y.toNat < 256 := UInt8.toNat_lt y
      have h1 := dig_mono (x.toNat / 16) (y.toNat / 16) (by omega) (by omega)
      have h2 := dig_mono (x.toNat % 16) (y.toNat % 16) (by omega) (by omega)
      simp only [objTail, List.isPrefixOf_cons_cons, ih s]
      rw [Bool.eq_iff_iff]
      simp only [Bool.and_eq_true, beq_iff_eq, h1.2, h2.2, byte_eq x y, and_assoc]

theorem obj_lt (a b : Bs) (ha : fitB a = true) (hb : fitB b = true) : objName a < objName b ↔ a < b := by
  unfold objName; rw [if_pos ha, if_pos hb]; simp [objTail_lt]
theorem obj_inj (a b : Bs) (ha : fitB a = true) (hb : fitB b = true) : objName a = objName b ↔ a = b := by
  unfold objName; rw [if_pos ha, if_pos hb]
  exact ⟨fun h => objTail_inj a b (by simpa using h), fun h => by rw [h]⟩
theorem obj_prefix (a b : Bs) (ha : fitB a = true) (hb : fitB b = true) : (objName a).isPrefixOf (objName b) = a.isPrefixOf b := by
  unfold objName; rw [if_pos ha, if_pos hb]; simp [objTail_prefix]

/-! ### The keys among names -/
/-- What a name gives under a prefix. -/
def pick (pre n : Bs) : Option Bs := match key? n with | some k => if pre.isPrefixOf k then some k else none | none => none
def picks (names : List Bs) (pre : Bs) : List Bs := names.filterMap (pick pre)
/-- A text put at its place in a rising list. -/
def ins (l : List Bs) (t : Bs) : List Bs :=
  match l with
  | [] => [t]
  | x :: r => if t < x then t :: x :: r else x :: ins r t
def under (names : List Bs) (pre : Bs) : List Bs :=
  names.foldl (fun l n => match pick pre n with | some k => if k ∈ l then l else ins l k | none => l) []

def Rises (l : List Bs) : Prop := l.Pairwise (· < ·)

theorem mem_ins (l : List Bs) (t x : Bs) : x ∈ ins l t ↔ x = t ∨ x ∈ l := by
  induction l with
  | nil => simp [ins]
  | cons y r ih =>
    unfold ins
    split
    · simp
    · simp only [List.mem_cons, ih]
      constructor
      · rintro (h | h | h)
        · exact .inr (.inl h)
        · exact .inl h
        · exact .inr (.inr h)
      · rintro (h | h | h)
        · exact .inr (.inl h)
        · exact .inl h
        · exact .inr (.inr h)

theorem tri (a b : Bs) : a < b ∨ a = b ∨ b < a := by
  by_cases h : a < b
  · exact .inl h
  · by_cases h' : b < a
    · exact .inr (.inr h')
    · exact .inr (.inl (List.le_antisymm (List.not_lt.1 h') (List.not_lt.1 h)))
theorem lt_of_not {a b : Bs} (h : ¬ a < b) (hne : a ≠ b) : b < a := by
  rcases tri a b with h1 | h1 | h1
  · exact absurd h1 h
  · exact absurd h1 hne
  · exact h1

theorem rises_ins (l : List Bs) (t : Bs) (h : Rises l) (hn : t ∉ l) : Rises (ins l t) := by
  induction l with
  | nil => simp [ins, Rises]
  | cons y r ih =>
    unfold Rises at h
    rw [List.pairwise_cons] at h
    unfold ins
    split
    · rename_i hlt
      unfold Rises
      rw [List.pairwise_cons]
      refine ⟨fun z hz => ?_, List.pairwise_cons.2 h⟩
      rcases List.mem_cons.1 hz with rfl | hz
      · exact hlt
      · exact List.lt_trans hlt (h.1 z hz)
    · rename_i hlt
      unfold Rises
      rw [List.pairwise_cons]
      refine ⟨fun z hz => ?_, ih h.2 (fun hm => hn (List.mem_cons_of_mem _ hm))⟩
      rcases (mem_ins r t z).1 hz with rfl | hz
      · exact lt_of_not hlt (fun e => hn (by rw [e]; exact List.mem_cons_self ..))
      · exact h.1 z hz

theorem rises_ext {a b : List Bs} (ha : Rises a) (hb : Rises b) (h : ∀ x, x ∈ a ↔ x ∈ b) : a = b := by
  have pa : a.Perm b := by
    refine (List.perm_ext_iff_of_nodup (ha.imp fun {x y} h => ?_) (hb.imp fun {x y} h => ?_)).2 h
    · rintro rfl; exact List.lt_irrefl _ h
    · rintro rfl; exact List.lt_irrefl _ h
  refine List.Perm.eq_of_pairwise (le := fun x y : Bs => x < y) (fun x y _ _ h1 h2 => ?_) ha hb pa
  exact absurd (List.lt_trans h1 h2) (List.lt_irrefl _)

theorem under_spec_gen (names : List Bs) (pre : Bs) (l0 : List Bs) (h0 : Rises l0) :
    Rises (names.foldl (fun l n => match pick pre n with | some k => if k ∈ l then l else ins l k | none => l) l0) ∧
    ∀ x, x ∈ names.foldl (fun l n => match pick pre n with | some k => if k ∈ l then l else ins l k | none => l) l0 ↔ x ∈ l0 ∨ x ∈ picks names pre := by
  induction names generalizing l0 with
  | nil => simp [picks, h0]
  | cons n r ih =>
    simp only [List.foldl_cons]
    cases hp : pick pre n with
    | none =>
      obtain ⟨i1, i2⟩ := ih l0 h0
      refine ⟨i1, fun x => ?_⟩
      rw [i2 x]
      simp [picks, hp]
    | some k =>
      by_cases hk : k ∈ l0
      · simp only [if_pos hk]
        obtain ⟨i1, i2⟩ := ih l0 h0
        refine ⟨i1, fun x => ?_⟩
        rw [i2 x]
        simp only [picks, List.filterMap_cons, hp, List.mem_cons]
        constructor
        · rintro (h | h)
          · exact .inl h
          · exact .inr (.inr h)
        · rintro (h | h | h)
          · exact .inl h
          · exact .inl (h ▸ hk)
          · exact .inr h
      · simp only [if_neg hk]
        obtain ⟨i1, i2⟩ := ih (ins l0 k) (rises_ins l0 k h0 hk)
        refine ⟨i1, fun x => ?_⟩
        rw [i2 x, mem_ins]
        simp only [picks, List.filterMap_cons, hp, List.mem_cons]
        constructor
        · rintro ((h | h) | h)
          · exact .inr (.inl h)
          · exact .inl h
          · exact .inr (.inr h)
        · rintro (h | h | h)
          · exact .inl (.inr h)
          · exact .inl (.inl h)
          · exact .inr h
theorem under_rises (names : List Bs) (pre : Bs) : Rises (under names pre) := (under_spec_gen names pre [] List.Pairwise.nil).1
theorem mem_under (names : List Bs) (pre x : Bs) : x ∈ under names pre ↔ x ∈ picks names pre := by
  have h := (under_spec_gen names pre [] List.Pairwise.nil).2 x
  have h0 : ¬ x ∈ ([] : List Bs) := by simp
  constructor
  · intro hx
    exact (h.1 hx).resolve_left h0
  · intro hx
    exact h.2 (.inr hx)
theorem under_eq_of (names : List Bs) (pre : Bs) (l : List Bs) (h : Rises l) (hm : ∀ x, x ∈ l ↔ x ∈ picks names pre) : l = under names pre :=
  rises_ext h (under_rises names pre) fun x => by rw [hm, mem_under]

theorem mem_picks (names : List Bs) (pre x : Bs) : x ∈ picks names pre ↔ ∃ n ∈ names, key? n = some x ∧ pre.isPrefixOf x = true := by
  simp only [picks, List.mem_filterMap]
  constructor
  · rintro ⟨n, hn, hp⟩
    refine ⟨n, hn, ?_⟩
    unfold pick at hp
    cases hk : key? n with
    | none => simp [hk] at hp
    | some k =>
      simp only [hk] at hp
      split at hp
      · rename_i h1; simp only [Option.some.injEq] at hp; subst hp; exact ⟨rfl, h1⟩
      · cases hp
  · rintro ⟨n, hn, hk, hp⟩
    exact ⟨n, hn, by simp [pick, hk, hp]⟩

/-- A sorted list without repeats of what was picked is what the document says. -/
theorem under_of_perm (names : List Bs) (pre : Bs) (ss : List Bs) (hnd : ss.Nodup) (hm : ∀ x, x ∈ ss ↔ x ∈ picks names pre) :
    ss.mergeSort (fun x y => decide (x ≤ y)) = under names pre := by
  have tr : ∀ a b c : Bs, decide (a ≤ b) = true → decide (b ≤ c) = true → decide (a ≤ c) = true := fun a b c h1 h2 => by simp only [decide_eq_true_eq] at *; exact List.le_trans h1 h2
  have to : ∀ a b : Bs, (decide (a ≤ b) || decide (b ≤ a)) = true := fun a b => by simp only [Bool.or_eq_true, decide_eq_true_eq]; exact List.le_total a b
  have hp := List.pairwise_mergeSort tr to ss
  have hnd' : (ss.mergeSort (fun x y => decide (x ≤ y))).Nodup := (List.mergeSort_perm ss _).nodup_iff.2 hnd
  refine under_eq_of names pre _ ?_ fun x => ?_
  · unfold Rises
    refine (hp.and hnd').imp ?_
    rintro a b ⟨h1, h2⟩
    simp only [decide_eq_true_eq] at h1
    rcases tri a b with h | h | h
    · exact h
    · exact absurd h h2
    · exact absurd h (List.not_lt.2 h1)
  · rw [← hm x]
    exact (List.mergeSort_perm ss _).mem_iff

end Go.Proofs.Ytjkcoodboghmkaa.Nm
