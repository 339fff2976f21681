/- XRfAt: merged by tools/merge.py. -/
import Derived.Test.YtelgcmcnebncmaaQ02
import Derived.Test.YtelgcmcnebncmaaQ20
import Derived.Test.YtelgcmcnebncmaaQ09
namespace Go.Proofs.Ytelgcmcnebncmaa.Dr
open Go.RowKit Go.Proofs Go.Proofs.Ytelgcmcnebncmaa.Ring

abbrev tRef := 136
abbrev tEnt := 141
abbrev tBd := 139
abbrev tEnts := 133
def cE : Ents → List Value
  | [] => []
  | p :: l => encStr p.1 :: .int .i64 p.2 :: cE l
def cB : List Bd → List Value → List Value
  | b :: bd, v :: ds => v :: .int .i64 (b.safe : Int) :: cB bd ds
  | _, _ => []
theorem cE_len : ∀ l : Ents, (cE l).length = l.length * 2
  | [] => rfl
  | p :: l => by have := cE_len l; simp only [cE, List.length_cons, this]; omega
theorem cE_append : ∀ a b : Ents, cE (a ++ b) = cE a ++ cE b
  | [], b => rfl
  | p :: a, b => by simp only [List.cons_append, cE, cE_append a b]
theorem cE_at : ∀ (l : Ents) (i : Nat) (p : Bs × Int), l[i]? = some p → (cE l)[i * 2]? = some (encStr p.1) ∧ (cE l)[i * 2 + 1]? = some (.int .i64 p.2)
  | [], _, _, h => by cases h
  | q :: l, 0, p, h => by injection h with h; subst h; exact ⟨rfl, rfl⟩
  | q :: l, i + 1, p, h => by
    have := cE_at l i p h
    rw [show (i + 1) * 2 = i * 2 + 1 + 1 by omega]
    exact this
theorem cE_one : ∀ (l : Ents), ∀ u ∈ cE l, u.oneCell' = true
  | [], u, h => by cases h
  | p :: l, u, h => by
    rcases List.mem_cons.1 h with rfl | h
    · rfl
    · rcases List.mem_cons.1 h with rfl | h
      · rfl
      · exact cE_one l u h
theorem cB_len : ∀ (bd : List Bd) (ds : List Value), ds.length = bd.length → (cB bd ds).length = bd.length * 2
  | [], [], _ => rfl
  | [], _ :: _, h => by cases h
  | _ :: _, [], h => by cases h
  | b :: bd, v :: ds, h => by have := cB_len bd ds (by simpa using h); simp only [cB, List.length_cons, this]; omega
theorem cB_append : ∀ (bd : List Bd) (ds : List Value), ds.length = bd.length → ∀ b2 d2, cB (bd ++ b2) (ds ++ d2) = cB bd ds ++ cB b2 d2
  | [], [], _, _, _ => rfl
  | [], _ :: _, h, _, _ => by cases h
  | _ :: _, [], h, _, _ => by cases h
  | b :: bd, v :: ds, h, b2, d2 => by simp only [List.cons_append, cB, cB_append bd ds (by simpa using h) b2 d2]
theorem cB_at : ∀ (bd : List Bd) (ds : List Value) (i : Nat) (b : Bd) (v : Value), bd[i]? = some b → ds[i]? = some v → (cB bd ds)[i * 2]? = some v ∧ (cB bd ds)[i * 2 + 1]? = some (.int .i64 (b.safe : Int))
  | [], _, _, _, _, h, _ => by cases h
  | _ :: _, [], _, _, _, _, h => by cases h
  | a :: bd, y :: ds, 0, b, v, h1, h2 => by injection h1 with h1; injection h2 with h2; subst h1 h2; exact ⟨rfl, rfl⟩
  | a :: bd, y :: ds, i + 1, b, v, h1, h2 => by
    have := cB_at bd ds i b v h1 h2
    rw [show (i + 1) * 2 = i * 2 + 1 + 1 by omega]
    exact this
theorem cB_setData : ∀ (bd : List Bd) (ds : List Value) (i : Nat) (b b2 : Bd) (x : Value), ds.length = bd.length → bd[i]? = some b → b2.safe = b.safe → (cB bd ds).set (i * 2) x = cB (bd.set i b2) (ds.set i x)
  | [], _, _, _, _, _, _, h, _ => by cases h
  | _ :: _, [], _, _, _, _, h, _, _ => by cases h
  | a :: bd, y :: ds, 0, b, b2, x, _, h1, hs => by injection h1 with h1; subst h1; simp [cB, hs]
  | a :: bd, y :: ds, i + 1, b, b2, x, hl, h1, hs => by
    have := cB_setData bd ds i b b2 x (by simpa using hl) h1 hs
    rw [show (i + 1) * 2 = i * 2 + 1 + 1 by omega]
    simp only [cB, List.set_cons_succ, this]
theorem cB_setSafe : ∀ (bd : List Bd) (ds : List Value) (i : Nat) (b2 : Bd), ds.length = bd.length → i < bd.length → (cB bd ds).set (i * 2 + 1) (.int .i64 (b2.safe : Int)) = cB (bd.set i b2) ds
  | [], _, _, _, _, h => by simp at h
  | _ :: _, [], _, _, h, _ => by cases h
  | a :: bd, y :: ds, 0, b2, _, _ => by simp [cB]
  | a :: bd, y :: ds, i + 1, b2, hl, hi => by
    have := cB_setSafe bd ds i b2 (by simpa using hl) (by simpa using hi)
    rw [show (i + 1) * 2 + 1 = i * 2 + 1 + 1 + 1 by omega]
    simp only [cB, List.set_cons_succ, this]
/-- Entries in a row of their own. -/
def EntAt (w : World) (base : Nat) (v : Value) (l : Ents) : Prop := w.ownsRow base tEnt 2 v l.length (cE l)
theorem row_other {w w' : World} {g base size n : Nat} {e : TypeId} {v : Value} {xs : List Value} (h : w.ownsRow base e size v n xs) (hb : ∀ k, k < w.heap.size → k ≠ g → w'.heap[k]? = w.heap[k]?)
    (hg : ∀ cur, w.heap[g]? ≠ some (.cells cur e (0, 0))) : w'.ownsRow base e size v n xs := by
  refine own_same h fun k hk => ?_
  obtain ⟨cur, h1⟩ := own_lt h hk
  refine hb k (Array.getElem?_eq_some_iff.1 h1).1 ?_
  rintro rfl
  exact hg cur h1
/-- The document's drive lies at r, in blocks of S. -/
structure RefAt (w : World) (S : Nat → Prop) (r : Nat) (D : D) (vb vn vk vc : Value) (ds cs : List Value) : Prop where
  head : w.heap[r]? = some (.cells #[.int .i64 (D.room : Int), vb, vn, vk, vc] tRef (0, 0))
  bod : w.ownsRow 0 tBd 2 vb D.bd.length (cB D.bd ds)
  dl : ds.length = D.bd.length
  dat : ∀ (i : Nat) b v, D.bd[i]? = some b → ds[i]? = some v → w.ownsRow 0 tU8 1 v b.data.length (cU8 b.data)
  now : EntAt w 0 vn (dirE D.now)
  kept : EntAt w 0 vk (dirE D.kept)
  chg : w.ownsRow 0 tEnts 1 vc D.pend.length cs
  each : ∀ (j : Nat) c v, D.pend[j]? = some c → cs[j]? = some v → EntAt w 0 v (chgE c)
  inR : S r
  inB : ∀ g, vb.ownBlock = some g → S g
  inN : ∀ g, vn.ownBlock = some g → S g
  inK : ∀ g, vk.ownBlock = some g → S g
  inC : ∀ g, vc.ownBlock = some g → S g
  inD : ∀ v ∈ ds, ∀ g, v.ownBlock = some g → S g
  inE : ∀ v ∈ cs, ∀ g, v.ownBlock = some g → S g
  low : ∀ k, S k → k < w.heap.size
section
variable {w w' : World} {S : Nat → Prop} {r : Nat} {D : D} {vb vn vk vc : Value} {ds cs : List Value}
theorem RefAt.same (h : RefAt w S r D vb vn vk vc ds cs) (hw : ∀ k, S k → w'.heap[k]? = w.heap[k]?) (hs : w.heap.size ≤ w'.heap.size) : RefAt w' S r D vb vn vk vc ds cs :=
  ⟨(hw r h.inR).trans h.head, own_same h.bod fun g hg => hw g (h.inB g hg), h.dl, fun i b v hb hv => own_same (h.dat i b v hb hv) fun g hg => hw g (h.inD v (List.mem_of_getElem? hv) g hg),
    own_same h.now fun g hg => hw g (h.inN g hg), own_same h.kept fun g hg => hw g (h.inK g hg), own_same h.chg fun g hg => hw g (h.inC g hg), fun j c v hc hv => own_same (h.each j c v hc hv) fun g hg => hw g (h.inE v (List.mem_of_getElem? hv) g hg),
    h.inR, h.inB, h.inN, h.inK, h.inC, h.inD, h.inE, fun k hk => Nat.lt_of_lt_of_le (h.low k hk) hs⟩
theorem RefAt.below (h : RefAt w S r D vb vn vk vc ds cs) (hb : Below w.heap.size w w') : RefAt w' S r D vb vn vk vc ds cs := h.same (fun k hk => hb.block k (h.low k hk)) hb.size
theorem RefAt.wider (h : RefAt w S r D vb vn vk vc ds cs) {S' : Nat → Prop} (hs : ∀ k, S k → S' k) (hl : ∀ k, S' k → k < w.heap.size) : RefAt w S' r D vb vn vk vc ds cs :=
  ⟨h.head, h.bod, h.dl, h.dat, h.now, h.kept, h.chg, h.each, hs r h.inR, fun g hg => hs g (h.inB g hg), fun g hg => hs g (h.inN g hg), fun g hg => hs g (h.inK g hg), fun g hg => hs g (h.inC g hg), fun v hv g hg => hs g (h.inD v hv g hg), fun v hv g hg => hs g (h.inE v hv g hg), hl⟩
theorem RefAt.typ (h : RefAt w S r D vb vn vk vc ds cs) {e : TypeId} (he : e ≠ tRef) : ∀ cur, w.heap[r]? ≠ some (.cells cur e (0, 0)) := by
  intro cur hc
  rw [h.head] at hc
  injection hc with hc
  injection hc with _ hc _
  exact he hc.symm
theorem typ_of {g base size n : Nat} {e e' : TypeId} {v : Value} {xs : List Value} (h : w.ownsRow base e' size v n xs) (hg : v.ownBlock = some g) (he : e ≠ e') : ∀ cur, w.heap[g]? ≠ some (.cells cur e (0, 0)) := by
  intro cur hc
  obtain ⟨cur', h1⟩ := own_lt h hg
  rw [h1] at hc
  injection hc with hc
  injection hc with _ hc _
  exact he hc.symm
theorem set_block {a : Addr} {u : Value} : ∀ k, k < w.heap.size → k ≠ a.block → (w.setCell a u).heap[k]? = w.heap[k]? := fun k _ hk => Below.heap_setCell w a u k hk
/-- A field is stored. -/
theorem RefAt.field (h : RefAt w S r D vb vn vk vc ds cs) (j : Nat) (u : Value) : RefAt w S r D vb vn vk vc ds cs → (w.setCell ⟨r, j, none⟩ u).heap[r]? = some (.cells ((#[.int .i64 (D.room : Int), vb, vn, vk, vc] : Array Value).setIfInBounds j u) tRef (0, 0)) ∧
    (∀ {e base size n v xs}, w.ownsRow base e size v n xs → e ≠ tRef → (w.setCell ⟨r, j, none⟩ u).ownsRow base e size v n xs) := fun _ =>
  ⟨heap_same h.head u, fun hr he => row_other hr (g := r) (set_block (a := ⟨r, j, none⟩)) (h.typ he)⟩
theorem RefAt.setNow (h : RefAt w S r D vb vn vk vc ds cs) {v : Value} {l : Dir} (hv : EntAt w 0 v (dirE l)) (hs : ∀ g, v.ownBlock = some g → S g) : RefAt (w.setCell ⟨r, 2, none⟩ v) S r { D with now := l } vb v vk vc ds cs := by
  obtain ⟨hh, hr⟩ := h.field 2 v h
  exact ⟨hh, hr h.bod (by decide), h.dl, fun i b v hb hv => hr (h.dat i b v hb hv) (by decide), hr hv (by decide), hr h.kept (by decide), hr h.chg (by decide), fun j c v hc hv => hr (h.each j c v hc hv) (by decide), h.inR, h.inB, hs, h.inK, h.inC, h.inD, h.inE, fun k hk => by have := h.low k hk; simpa [World.setCell] using this⟩
theorem RefAt.setKept (h : RefAt w S r D vb vn vk vc ds cs) {v : Value} {l : Dir} (hv : EntAt w 0 v (dirE l)) (hs : ∀ g, v.ownBlock = some g → S g) : RefAt (w.setCell ⟨r, 3, none⟩ v) S r { D with kept := l } vb vn v vc ds cs := by
  obtain ⟨hh, hr⟩ := h.field 3 v h
  exact ⟨hh, hr h.bod (by decide), h.dl, fun i b v hb hv => hr (h.dat i b v hb hv) (by decide), hr h.now (by decide), hr hv (by decide), hr h.chg (by decide), fun j c v hc hv => hr (h.each j c v hc hv) (by decide), h.inR, h.inB, h.inN, hs, h.inC, h.inD, h.inE, fun k hk => by have := h.low k hk; simpa [World.setCell] using this⟩
theorem RefAt.setChg (h : RefAt w S r D vb vn vk vc ds cs) {v : Value} {p : List (List (Bs × Option Nat))} {cs' : List Value} (hv : w.ownsRow 0 tEnts 1 v p.length cs') (he : ∀ (j : Nat) c v, p[j]? = some c → cs'[j]? = some v → EntAt w 0 v (chgE c)) (hs : ∀ g, v.ownBlock = some g → S g) (hs2 : ∀ v ∈ cs', ∀ g, v.ownBlock = some g → S g) :
    RefAt (w.setCell ⟨r, 4, none⟩ v) S r { D with pend := p } vb vn vk v ds cs' := by
  obtain ⟨hh, hr⟩ := h.field 4 v h
  exact ⟨hh, hr h.bod (by decide), h.dl, fun i b v hb hv => hr (h.dat i b v hb hv) (by decide), hr h.now (by decide), hr h.kept (by decide), hr hv (by decide), fun j c v hc hv => hr (he j c v hc hv) (by decide), h.inR, h.inB, h.inN, h.inK, hs, h.inD, hs2, fun k hk => by have := h.low k hk; simpa [World.setCell] using this⟩
/-- The bodies' row is another; what else there is was kept. -/
theorem RefAt.putBod (h : RefAt w S r D vb vn vk vc ds cs) {S' : Nat → Prop} (hS : ∀ k, S k → S' k) (hlow : ∀ k, S' k → k < w'.heap.size) (hh : w'.heap[r]? = w.heap[r]?) (hr : ∀ {e base size n u xs}, w.ownsRow base e size u n xs → e ≠ tBd → w'.ownsRow base e size u n xs)
    {v : Value} {bd : List Bd} {ds' : List Value} (hv : w'.ownsRow 0 tBd 2 v bd.length (cB bd ds')) (hl : ds'.length = bd.length) (hd : ∀ (i : Nat) b v, bd[i]? = some b → ds'[i]? = some v → w'.ownsRow 0 tU8 1 v b.data.length (cU8 b.data))
    (hs : ∀ g, v.ownBlock = some g → S' g) (hs2 : ∀ v ∈ ds', ∀ g, v.ownBlock = some g → S' g) : RefAt (w'.setCell ⟨r, 1, none⟩ v) S' r { D with bd := bd } v vn vk vc ds' cs := by
  have hr2 : ∀ {e base size n u xs}, w'.ownsRow base e size u n xs → e ≠ tRef → (w'.setCell ⟨r, 1, none⟩ v).ownsRow base e size u n xs := fun h1 he => row_other h1 (g := r) (set_block (a := ⟨r, 1, none⟩)) (fun cur hc => by
    rw [hh, h.head] at hc
    injection hc with hc
    injection hc with _ hc _
    exact he hc.symm)
  exact ⟨heap_same (hh.trans h.head) v, hr2 hv (by decide), hl, fun i b v hb hv => hr2 (hd i b v hb hv) (by decide), hr2 (hr h.now (by decide)) (by decide), hr2 (hr h.kept (by decide)) (by decide), hr2 (hr h.chg (by decide)) (by decide), fun j c v hc hv => hr2 (hr (h.each j c v hc hv) (by decide)) (by decide), hS r h.inR, hs, fun g hg => hS g (h.inN g hg), fun g hg => hS g (h.inK g hg), fun g hg => hS g (h.inC g hg), hs2, fun v hv g hg => hS g (h.inE v hv g hg), fun k hk => by have := hlow k hk; simpa [World.setCell] using this⟩
/-- The changes' row is another. -/
theorem RefAt.putChg (h : RefAt w S r D vb vn vk vc ds cs) {S' : Nat → Prop} (hS : ∀ k, S k → S' k) (hlow : ∀ k, S' k → k < w'.heap.size) (hh : w'.heap[r]? = w.heap[r]?) (hr : ∀ {e base size n u xs}, w.ownsRow base e size u n xs → e ≠ tEnts → w'.ownsRow base e size u n xs)
    {v : Value} {p : List (List (Bs × Option Nat))} {cs' : List Value} (hv : w'.ownsRow 0 tEnts 1 v p.length cs') (he : ∀ (j : Nat) c v, p[j]? = some c → cs'[j]? = some v → EntAt w' 0 v (chgE c)) (hs : ∀ g, v.ownBlock = some g → S' g) (hs2 : ∀ v ∈ cs', ∀ g, v.ownBlock = some g → S' g) :
    RefAt (w'.setCell ⟨r, 4, none⟩ v) S' r { D with pend := p } vb vn vk v ds cs' := by
  have hr2 : ∀ {e base size n u xs}, w'.ownsRow base e size u n xs → e ≠ tRef → (w'.setCell ⟨r, 4, none⟩ v).ownsRow base e size u n xs := fun h1 he => row_other h1 (g := r) (set_block (a := ⟨r, 4, none⟩)) (fun cur hc => by
    rw [hh, h.head] at hc
    injection hc with hc
    injection hc with _ hc _
    exact he hc.symm)
  exact ⟨heap_same (hh.trans h.head) v, hr2 (hr h.bod (by decide)) (by decide), h.dl, fun i b v hb hv => hr2 (hr (h.dat i b v hb hv) (by decide)) (by decide), hr2 (hr h.now (by decide)) (by decide), hr2 (hr h.kept (by decide)) (by decide), hr2 hv (by decide), fun j c v hc hv => hr2 (he j c v hc hv) (by decide), hS r h.inR, fun g hg => hS g (h.inB g hg), fun g hg => hS g (h.inN g hg), fun g hg => hS g (h.inK g hg), hs, fun v hv g hg => hS g (h.inD v hv g hg), hs2, fun k hk => by have := hlow k hk; simpa [World.setCell] using this⟩
/-- A body's place is stored. -/
theorem RefAt.setData (h : RefAt w S r D vb vn vk vc ds cs) {gb n c i : Nat} (hvb : vb = .slice (some ⟨gb, 0, none⟩) n c) {b : Bd} (hb : D.bd[i]? = some b) {x : Bs} {v : Value} (hv : w.ownsRow 0 tU8 1 v x.length (cU8 x)) (hs : ∀ g, v.ownBlock = some g → S g) :
    RefAt (w.setCell ⟨gb, i * 2, none⟩ v) S r (D.setBody i ⟨x, b.safe⟩) vb vn vk vc (ds.set i v) cs := by
  subst hvb
  have hn : n = D.bd.length := by
    rcases h.bod.2 with ⟨h1, _⟩ | ⟨_, _, _, h1, _⟩
    · cases h1
    · injection h1 with _ h1 _
  subst hn
  obtain ⟨ho, hg⟩ := h.bod.stored (i * 2) v
  rw [cB_setData D.bd ds i b ⟨x, b.safe⟩ v h.dl hb rfl] at ho
  have hr : ∀ {e base size n u xs}, w.ownsRow base e size u n xs → e ≠ tBd → (w.setCell ⟨gb, i * 2, none⟩ v).ownsRow base e size u n xs := fun h1 he => row_other h1 (g := gb) (set_block (a := ⟨gb, i * 2, none⟩)) (typ_of h.bod rfl he)
  have hne : r ≠ gb := fun e => typ_of h.bod (show (Value.slice (some ⟨gb, 0, none⟩) D.bd.length c).ownBlock = some gb from rfl) (show tRef ≠ tBd by decide) _ (e ▸ h.head)
  refine ⟨(Below.heap_setCell _ _ _ r hne).trans h.head, ?_, by simp [Dr.D.setBody, h.dl], fun j b' v' hb' hv' => ?_, hr h.now (by decide), hr h.kept (by decide), hr h.chg (by decide), fun j c v hc hv => hr (h.each j c v hc hv) (by decide), h.inR, h.inB, h.inN, h.inK, h.inC, fun v' hv' => ?_, h.inE, fun k hk => by have := h.low k hk; simpa [World.setCell] using this⟩
  · show World.ownsRow _ 0 tBd 2 _ (D.bd.set i _).length _
    rw [List.length_set]
    exact ho
  · change (D.bd.set i ⟨x, b.safe⟩)[j]? = some b' at hb'
    rw [List.getElem?_set] at hb' hv'
    by_cases hij : i = j
    · subst hij
      rw [if_pos rfl] at hb' hv'
      split at hb'
      · split at hv'
        · injection hb' with hb'; injection hv' with hv'
          subst hb' hv'
          exact hr hv (by decide)
        · cases hv'
      · cases hb'
    · rw [if_neg hij] at hb' hv'
      exact hr (h.dat j b' v' hb' hv') (by decide)
  · rcases List.mem_or_eq_of_mem_set hv' with h1 | rfl
    · exact h.inD v' h1
    · exact hs
theorem RefAt.setSafe (h : RefAt w S r D vb vn vk vc ds cs) {gb n c i : Nat} (hvb : vb = .slice (some ⟨gb, 0, none⟩) n c) {b : Bd} (hb : D.bd[i]? = some b) (s : Nat) :
    RefAt (w.setCell ⟨gb, i * 2 + 1, none⟩ (.int .i64 (s : Int))) S r (D.setBody i ⟨b.data, s⟩) vb vn vk vc ds cs := by
  subst hvb
  have hn : n = D.bd.length := by
    rcases h.bod.2 with ⟨h1, _⟩ | ⟨_, _, _, h1, _⟩
    · cases h1
    · injection h1 with _ h1 _
  subst hn
  have hil := (List.getElem?_eq_some_iff.1 hb).1
  obtain ⟨ho, hg⟩ := h.bod.stored (i * 2 + 1) (.int .i64 (s : Int))
  rw [cB_setSafe D.bd ds i ⟨b.data, s⟩ h.dl hil] at ho
  have hr : ∀ {e base size n u xs}, w.ownsRow base e size u n xs → e ≠ tBd → (w.setCell ⟨gb, i * 2 + 1, none⟩ (.int .i64 (s : Int))).ownsRow base e size u n xs := fun h1 he => row_other h1 (g := gb) (set_block (a := ⟨gb, i * 2 + 1, none⟩)) (typ_of h.bod rfl he)
  have hne : r ≠ gb := fun e => typ_of h.bod (show (Value.slice (some ⟨gb, 0, none⟩) D.bd.length c).ownBlock = some gb from rfl) (show tRef ≠ tBd by decide) _ (e ▸ h.head)
  refine ⟨(Below.heap_setCell _ _ _ r hne).trans h.head, ?_, by simp [Dr.D.setBody, h.dl], fun j b' v' hb' hv' => ?_, hr h.now (by decide), hr h.kept (by decide), hr h.chg (by decide), fun j c v hc hv => hr (h.each j c v hc hv) (by decide), h.inR, h.inB, h.inN, h.inK, h.inC, h.inD, h.inE, fun k hk => by have := h.low k hk; simpa [World.setCell] using this⟩
  · show World.ownsRow _ 0 tBd 2 _ (D.bd.set i _).length _
    rw [List.length_set]
    exact ho
  · change (D.bd.set i ⟨b.data, s⟩)[j]? = some b' at hb'
    rw [List.getElem?_set] at hb'
    by_cases hij : i = j
    · subst hij
      rw [if_pos rfl, if_pos hil] at hb'
      injection hb' with hb'
      subst hb'
      exact hr (h.dat i b v' hb hv') (by decide)
    · rw [if_neg hij] at hb'
      exact hr (h.dat j b' v' hb' hv') (by decide)
/-- Behind an append to the bodies' row, to the changes' row: all else is as it was. -/
theorem RefAt.grown (_h : RefAt w S r D vb vn vk vc ds cs) {v : Value} {e' : TypeId} {size n : Nat} {xs : List Value} (hv : w.ownsRow 0 e' size v n xs) (hg : w.grownBy w' v.ownBlock) {e : TypeId} {base size' n' : Nat} {u : Value} {ys : List Value} (hu : w.ownsRow base e size' u n' ys) (he : e ≠ e') : w'.ownsRow base e size' u n' ys := by
  refine own_same hu fun k hk => ?_
  obtain ⟨cur, h1⟩ := own_lt hu hk
  exact hg.block k (Array.getElem?_eq_some_iff.1 h1).1 fun e2 => typ_of hv e2.symm he cur h1
/-- One more body. -/
theorem RefAt.addBod (h : RefAt w S r D vb vn vk vc ds cs) {g n2 c2 : Nat} {b : Bd} {x : Value} (hx : w.ownsRow 0 tU8 1 x b.data.length (cU8 b.data)) (hxS : ∀ g, x.ownBlock = some g → S g) (hg : w.grownBy w' vb.ownBlock)
    (ho : w'.ownsRow 0 tBd 2 (.slice (some ⟨g, 0, none⟩) n2 c2) n2 (cB D.bd ds ++ [x, .int .i64 (b.safe : Int)])) (hb : vb.ownBlock = some g ∨ w.heap.size ≤ g) (hgl : g < w'.heap.size) :
    RefAt (w'.setCell ⟨r, 1, none⟩ (.slice (some ⟨g, 0, none⟩) n2 c2)) (fun k => S k ∨ (w.heap.size ≤ k ∧ k < w'.heap.size)) r { D with bd := D.bd ++ [b] } (.slice (some ⟨g, 0, none⟩) n2 c2) vn vk vc (ds ++ [x]) cs := by
  have hn : n2 = D.bd.length + 1 := by
    have h1 := ho.1
    rw [List.length_append, cB_len _ _ h.dl] at h1
    simp at h1; omega
  subst hn
  have hr : ∀ {e base size n u xs}, w.ownsRow base e size u n xs → e ≠ tBd → w'.ownsRow base e size u n xs := fun h1 he => h.grown h.bod hg h1 he
  have hne : vb.ownBlock ≠ some r := fun e => typ_of h.bod e (show tRef ≠ tBd by decide) _ h.head
  refine h.putBod (fun k hk => .inl hk) (fun k hk => ?_) (hg.block r (h.low r h.inR) fun e => hne e.symm) hr (by rw [List.length_append, cB_append _ _ h.dl]; exact ho) (by simp [h.dl]) (fun i b' v' hb' hv' => ?_) (fun g' hg' => ?_) (fun v' hv' g' hg' => ?_)
  · rcases hk with hk | hk
    · exact Nat.lt_of_lt_of_le (h.low k hk) hg.size
    · exact hk.2
  · rcases Nat.lt_or_ge i D.bd.length with hlt | hge
    · rw [List.getElem?_append_left hlt] at hb'
      rw [List.getElem?_append_left (by rw [h.dl]; exact hlt)] at hv'
      exact hr (h.dat i b' v' hb' hv') (by decide)
    · have hil := (List.getElem?_eq_some_iff.1 hb').1
      obtain rfl : i = D.bd.length := by simp at hil; omega
      rw [List.getElem?_append_right (Nat.le_refl _)] at hb'
      rw [List.getElem?_append_right (by rw [h.dl]; exact Nat.le_refl _)] at hv'
      simp at hb'
      simp [h.dl] at hv'
      subst hb' hv'
      exact hr hx (by decide)
  · obtain rfl : g = g' := by simpa [Value.ownBlock] using hg'
    rcases hb with hb | hb
    · exact .inl (h.inB g hb)
    · exact .inr ⟨hb, hgl⟩
  · rcases List.mem_append.1 hv' with h1 | h1
    · exact .inl (h.inD v' h1 g' hg')
    · rw [List.mem_singleton.1 h1] at hg'
      exact .inl (hxS g' hg')
/-- One more change. -/
theorem RefAt.addChg (h : RefAt w S r D vb vn vk vc ds cs) {g n2 c2 : Nat} {c : List (Bs × Option Nat)} {x : Value} (hx : EntAt w 0 x (chgE c)) (hxS : ∀ g, x.ownBlock = some g → S g) (hg : w.grownBy w' vc.ownBlock)
    (ho : w'.ownsRow 0 tEnts 1 (.slice (some ⟨g, 0, none⟩) n2 c2) n2 (cs ++ [x])) (hb : vc.ownBlock = some g ∨ w.heap.size ≤ g) (hgl : g < w'.heap.size) :
    RefAt (w'.setCell ⟨r, 4, none⟩ (.slice (some ⟨g, 0, none⟩) n2 c2)) (fun k => S k ∨ (w.heap.size ≤ k ∧ k < w'.heap.size)) r { D with pend := D.pend ++ [c] } vb vn vk (.slice (some ⟨g, 0, none⟩) n2 c2) ds (cs ++ [x]) := by
  have hcl : cs.length = D.pend.length := by have := h.chg.1; omega
  have hn : n2 = D.pend.length + 1 := by
    have h1 := ho.1
    rw [List.length_append] at h1
    simp at h1; omega
  subst hn
  have hr : ∀ {e base size n u xs}, w.ownsRow base e size u n xs → e ≠ tEnts → w'.ownsRow base e size u n xs := fun h1 he => h.grown h.chg hg h1 he
  have hne : vc.ownBlock ≠ some r := fun e => typ_of h.chg e (show tRef ≠ tEnts by decide) _ h.head
  refine h.putChg (fun k hk => .inl hk) (fun k hk => ?_) (hg.block r (h.low r h.inR) fun e => hne e.symm) hr (by rw [List.length_append]; exact ho) (fun i b' v' hb' hv' => ?_) (fun g' hg' => ?_) (fun v' hv' g' hg' => ?_)
  · rcases hk with hk | hk
    · exact Nat.lt_of_lt_of_le (h.low k hk) hg.size
    · exact hk.2
  · rcases Nat.lt_or_ge i D.pend.length with hlt | hge
    · rw [List.getElem?_append_left hlt] at hb'
      rw [List.getElem?_append_left (by rw [hcl]; exact hlt)] at hv'
      exact hr (h.each i b' v' hb' hv') (by decide)
    · have hil := (List.getElem?_eq_some_iff.1 hb').1
      obtain rfl : i = D.pend.length := by simp at hil; omega
      rw [List.getElem?_append_right (Nat.le_refl _)] at hb'
      rw [List.getElem?_append_right (by rw [hcl]; exact Nat.le_refl _)] at hv'
      simp at hb'
      simp [hcl] at hv'
      subst hb' hv'
      exact hr hx (by decide)
  · obtain rfl : g = g' := by simpa [Value.ownBlock] using hg'
    rcases hb with hb | hb
    · exact .inl (h.inC g hb)
    · exact .inr ⟨hb, hgl⟩
  · rcases List.mem_append.1 hv' with h1 | h1
    · exact .inl (h.inE v' h1 g' hg')
    · rw [List.mem_singleton.1 h1] at hg'
      exact .inl (hxS g' hg')
end
/-- The document's drive in blocks S shows D. -/
def Rv (w : World) (S : Nat → Prop) (r : Nat) (D : D) (m N : Nat) : Prop := D.Ok m N ∧ D.bd.length ≤ N ∧ ∃ vb vn vk vc ds cs, RefAt w S r D vb vn vk vc ds cs
def Rturn (w w' : World) (S : Nat → Prop) (r : Nat) (D : D) (m N : Nat) : Prop := ∃ S', Rv w' S' r D m N ∧ Kept w w' S ∧ ∀ k, S' k → S k ∨ w.heap.size ≤ k
section
variable {w w' w2 : World} {S S1 : Nat → Prop} {r m N m' N' : Nat} {D D2 : Dr.D}
theorem Rv.low (h : Rv w S r D m N) : ∀ k, S k → k < w.heap.size := by
  obtain ⟨_, _, _, _, _, _, _, _, h⟩ := h
  exact h.low
theorem Rv.kept (h : Rv w S r D m N) {U : Nat → Prop} (hk : Kept w w' U) (hd : ∀ k, S k → ¬ U k) : Rv w' S r D m N := by
  obtain ⟨h0, hbn, vb, vn, vk, vc, ds, cs, h1⟩ := h
  exact ⟨h0, hbn, vb, vn, vk, vc, ds, cs, h1.same (fun k hs => hk.block k (h1.low k hs) (hd k hs)) hk.size⟩
theorem Rv.below (h : Rv w S r D m N) (hb : Below w.heap.size w w') : Rv w' S r D m N := h.kept (U := fun _ => False) (Kept.of_below _ hb) fun _ _ h => h
theorem Rv.mono (h : Rv w S r D m N) (hm : m ≤ m') (hN : N ≤ N') : Rv w S r D m' N' := ⟨h.1.mono hm hN, Nat.le_trans h.2.1 hN, h.2.2⟩
theorem Rturn.mono (h : Rturn w w' S r D m N) (hm : m ≤ m') (hN : N ≤ N') : Rturn w w' S r D m' N' := by
  obtain ⟨S', h1, h2⟩ := h
  exact ⟨S', h1.mono hm hN, h2⟩
theorem Rturn.refl (h : Rv w S r D m N) : Rturn w w S r D m N := ⟨S, h, Kept.refl _ _, fun _ hk => .inl hk⟩
theorem Rturn.of_below (h : Rv w S r D m N) (hb : Below w.heap.size w w') : Rturn w w' S r D m N := ⟨S, h.below hb, Kept.of_below _ hb, fun _ hk => .inl hk⟩
theorem Rturn.join (hk : Kept w w' S) (hs : ∀ k, S1 k → S k ∨ w.heap.size ≤ k) (h : Rturn w' w2 S1 r D m N) : Rturn w w2 S r D m N := by
  obtain ⟨S2, b1, b2, b3⟩ := h
  refine ⟨S2, b1, hk.trans b2 hs, fun k hk2 => ?_⟩
  rcases b3 k hk2 with h | h
  · exact hs k h
  · exact .inr (Nat.le_trans hk.size h)
theorem Rturn.below (h : Rturn w w' S r D m N) (hb : Below w'.heap.size w' w2) : Rturn w w2 S r D m N := by
  obtain ⟨S2, b1, b2, b3⟩ := h
  exact ⟨S2, b1.below hb, b2.below hb, b3⟩
end
theorem infoEnt : (Try.prog.info? tEnt).map (fun i => (i.zero, i.size, i.bytes)) = some (some (.agg #[.string ⟨#[]⟩, .int .i64 0]), 2, 24) := by kernel_rfl
theorem infoBd : (Try.prog.info? tBd).map (fun i => (i.zero, i.size, i.bytes)) = some (some (.agg #[.slice none 0 0, .int .i64 0]), 2, 32) := by kernel_rfl
theorem infoEnts : (Try.prog.info? tEnts).map (fun i => (i.zero, i.size, i.bytes)) = some (some (.slice none 0 0), 1, 24) := by kernel_rfl
end Go.Proofs.Ytelgcmcnebncmaa.Dr
