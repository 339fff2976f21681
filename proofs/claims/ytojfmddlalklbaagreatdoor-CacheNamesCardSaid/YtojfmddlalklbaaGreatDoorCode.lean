/- store.Code at a store's Trouble. -/
import Derived.Test.YtojfmddlalklbaaGreatDoorAs
import Derived.Test.YtojfmddlalklbaaGreatDoorRing
import Derived.Test.YtojfmddlalklbaaGreatDoorOpen
namespace Go.Proofs.YtojfmddlalklbaaGreatDoor
open Go.RowKit Go.Extern.Stop Go.Stop Go.Extern Go.Proofs Go.Proofs.YtojfmddlalklbaaGreatDoor.Ring

theorem m_assign (h : Value) (w : World) : (Go.method 553 tRt (.agg #[h]) "AssignableTo").run Tryz.prog w = .ok (293, .agg #[h]) w := by kernel_rfl
theorem m_unwrap (h : Value) (w : World) : (Go.method 553 tTr h "Unwrap").run Tryz.prog w = .ok (286, h) w := by kernel_rfl
theorem t_as (v : Value) (xT : TypeId) (w : World) : (Instr.typeAssert (.iface tTr v) xT 163 true).run Tryz.prog w = .ok (.tuple #[.nilIface, .bool false]) w := run_typeAssert_lacksB Tryz.underlying163 (by kernel_rfl) (by kernel_rfl) v xT w
theorem t_unwrap (v : Value) (xT : TypeId) (w : World) : (Instr.typeAssert (.iface tTr v) xT 166 true).run Tryz.prog w = .ok (.tuple #[.iface tTr v, .bool true]) w := run_typeAssert_hasB Tryz.underlying166 (by kernel_rfl) v xT w
set_option maxRecDepth 100000 in
theorem unwrap_any (p : Nat) (e : Int) (w : World) (hp : w.cell? ⟨p, 2, none⟩ = some (.int .i64 e)) : Calls Tryz.prog 286 #[.pointer (some ⟨p, 0, none⟩)] w fun x w' => x = .returned (.iface tE (.int .i64 e)) ∧ w = w' := by
  go_enter Tryz.func286, Tryz.ntmps286
  go_wp2
  go_ret
  exact ⟨rfl, rfl⟩
set_option maxRecDepth 100000 in
set_option maxHeartbeats 4000000 in
theorem as_any (p : Nat) (e : Int) (t a : Addr) (old : Value) (w : World) (hp : w.cell? ⟨p, 2, none⟩ = some (.int .i64 e)) (ha : w.cell? a = some (.pointer (some t))) (ht : w.cell? t = some old) (hf : w.frozen? t = false) :
    Calls Tryz.prog 47 #[.iface tTr (.pointer (some ⟨p, 0, none⟩)), .iface tPE (.pointer (some t)), .agg #[.pointer (some ⟨2, tPE, none⟩), .pointer (some a), .int .u64 150], .iface tRt (.agg #[.pointer (some ⟨2, tE, none⟩)])] w
      fun x w' => x = .returned (.bool true) ∧ w'.cell? t = some (.int .i64 e) ∧ Kept w w' (fun k => k = t.block) := by
  have hV := @run_callFunc_extern Tryz.prog 44 _ (fun args => ReflectliteValue.unpack (args.getD 0 (.tuple #[]))) Tryz.func44 (by kernel_rfl) (by kernel_rfl) (by kernel_rfl) (by kernel_rfl)
  have hT := @run_callFunc_extern Tryz.prog 64 _ ReflectliteType.typeOf Tryz.func64 (by kernel_rfl) (by kernel_rfl) (by kernel_rfl) (by kernel_rfl)
  have hA := @run_callFunc_extern Tryz.prog 293 _ (ReflectliteType.relation "AssignableTo" ReflectliteType.assignableTo) Tryz.func293 (by kernel_rfl) (by kernel_rfl) (by kernel_rfl) (by kernel_rfl)
  have hE := @run_callFunc_extern Tryz.prog 65 _ (ReflectliteValue.method (ReflectliteValue.valueError "reflectlite.Value.Elem" 0) ReflectliteValue.elem) Tryz.func65 (by kernel_rfl) (by kernel_rfl) (by kernel_rfl) (by kernel_rfl)
  have hS := @run_callFunc_extern Tryz.prog 66 _ ReflectliteValue.set Tryz.func66 (by kernel_rfl) (by kernel_rfl) (by kernel_rfl) (by kernel_rfl)
  have tO := c_typeOfTr
  have tO2 := c_typeOfE
  have a1 := c_assignTr
  have a2 := c_assignE
  have v2 := c_valueOfE
  have mA := m_assign
  have mU := m_unwrap
  have t1 := t_as
  have t2 := t_unwrap
  have hpl := block_of_cell hp
  have hal := block_of_cell ha
  have htl := block_of_cell ht
  have f1 : (w.alloc (.cells #[.pointer (some ⟨2, tPE, none⟩), .pointer (some a), .int .u64 150] tV)).cell? ⟨p, 2, none⟩ = some (.int .i64 e) := (World.cell?_alloc_lt w _ _ hpl).trans hp
  have e1 := c_elemV a t (w.alloc (.cells #[.pointer (some ⟨2, tPE, none⟩), .pointer (some a), .int .u64 150] tV)) ((World.cell?_alloc_lt w _ _ hal).trans ha)
  have st := c_set t ⟨w.heap.size + 1, 0, none⟩ e old ((w.alloc (.cells #[.pointer (some ⟨2, tPE, none⟩), .pointer (some a), .int .u64 150] tV)).alloc (.cells #[.int .i64 e] tE))
    (by rw [World.cell?_alloc_at _ _ _ _ (by simp)]; rfl)
    (by rw [World.cell?_alloc_lt _ _ t (by simp; omega), World.cell?_alloc_lt _ _ t htl]; exact ht)
    (by rw [World.frozen?_alloc_old _ _ t (by simp; omega), World.frozen?_alloc_old _ _ t (Nat.ne_of_lt htl)]; exact hf)
  go_enter Tryz.func47, Tryz.ntmps47
  go_wp2
  refine wp_loop_rounds 2 ?_
  rw [rounds_succ]
  go_wp2_with (go_at_call 286; refine (unwrap_any p e _ f1).mono ?_; rintro x w' ⟨rfl, rfl⟩)
  rw [rounds_succ]
  go_wp2
  go_ret
  have hb : Below w.heap.size w ((w.alloc (.cells #[.pointer (some ⟨2, tPE, none⟩), .pointer (some a), .int .u64 150] tV)).alloc (.cells #[.int .i64 e] tE)) := ((Below.refl _ _).alloc (Nat.le_refl _) _).alloc (by simp) _
  refine ⟨rfl, ?_, ((Kept.of_below (fun k => k = t.block) hb).set (p := t) rfl _)⟩
  have h1 : ((w.alloc (.cells #[.pointer (some ⟨2, tPE, none⟩), .pointer (some a), .int .u64 150] tV)).alloc (.cells #[.int .i64 e] tE)).cell? t = some old := (hb.cell htl).trans ht
  first | exact World.cell?_setCell_same _ h1 | exact World.cell?_setCell_same _ _ h1 | exact World.cell?_setCell_same _ _ _ h1
theorem m_kind (h : Value) (w : World) : (Go.method 553 tRt (.agg #[h]) "Kind").run Tryz.prog w = .ok (242, h) w := by kernel_rfl
theorem m_elem (h : Value) (w : World) : (Go.method 553 tRt (.agg #[h]) "Elem").run Tryz.prog w = .ok (295, .agg #[h]) w := by kernel_rfl
theorem m_impl (h : Value) (w : World) : (Go.method 553 tRt (.agg #[h]) "Implements").run Tryz.prog w = .ok (296, .agg #[h]) w := by kernel_rfl
set_option maxRecDepth 100000 in
set_option maxHeartbeats 4000000 in
/-- errors.As at a Trouble and a target of api.Errno. -/
theorem asAs_any (p : Nat) (e : Int) (t : Addr) (old : Value) (w : World) (hg : w.cell? ⟨0, 0, none⟩ = some (.iface tRt (.agg #[.pointer (some ⟨2, 56, none⟩)]))) (hp : w.cell? ⟨p, 2, none⟩ = some (.int .i64 e)) (ht : w.cell? t = some old) (hf : w.frozen? t = false) :
    Calls Tryz.prog 36 #[.iface tTr (.pointer (some ⟨p, 0, none⟩)), .iface tPE (.pointer (some t))] w
      fun x w' => x = .returned (.bool true) ∧ w'.cell? t = some (.int .i64 e) ∧ Kept w w' (fun k => k = t.block) := by
  have hV := @run_callFunc_extern Tryz.prog 44 _ (fun args => ReflectliteValue.unpack (args.getD 0 (.tuple #[]))) Tryz.func44 (by kernel_rfl) (by kernel_rfl) (by kernel_rfl) (by kernel_rfl)
  have hT := @run_callFunc_extern Tryz.prog 45 _ (ReflectliteValue.methodAny (ReflectliteValue.valueError "reflectlite.Value.Type" 0) (fun t _ _ _ => ReflectliteType.toType t)) Tryz.func45 (by kernel_rfl) (by kernel_rfl) (by kernel_rfl) (by kernel_rfl)
  have hN := @run_callFunc_extern Tryz.prog 46 _ (ReflectliteValue.method (ReflectliteValue.valueError "reflectlite.Value.IsNil" 0) ReflectliteValue.isNil) Tryz.func46 (by kernel_rfl) (by kernel_rfl) (by kernel_rfl) (by kernel_rfl)
  have hK := @run_callFunc_extern Tryz.prog 242 _ (ReflectliteType.abiMethod fun t => do pure (.int .u8 (← Rtype.kind t))) Tryz.func242 (by kernel_rfl) (by kernel_rfl) (by kernel_rfl) (by kernel_rfl)
  have hE := @run_callFunc_extern Tryz.prog 295 _ (ReflectliteType.method ReflectliteType.elem) Tryz.func295 (by kernel_rfl) (by kernel_rfl) (by kernel_rfl) (by kernel_rfl)
  have hI := @run_callFunc_extern Tryz.prog 296 _ (ReflectliteType.relation "Implements" ReflectliteType.implements_) Tryz.func296 (by kernel_rfl) (by kernel_rfl) (by kernel_rfl) (by kernel_rfl)
  have f6 := c_valueOfPE
  have f7 := c_typePE
  have mK := m_kind
  have mE := m_elem
  have mI := m_impl
  have k1 := c_kindPE
  have k2 := c_kindE
  have e1 := c_elemPE
  have i1 := c_implE
  have htl := block_of_cell ht
  have hpl := block_of_cell hp
  have hgl := block_of_cell hg
  have n8 := c_isNilPE ⟨w.heap.size, 0, none⟩ t ((w.alloc (.cells #[.pointer (some t)] tPE)).alloc (.cells #[.pointer (some ⟨2, tPE, none⟩), .pointer (some ⟨w.heap.size, 0, none⟩), .int .u64 150] tV)) (by simp)
  have hg2 : ((w.alloc (.cells #[.pointer (some t)] tPE)).alloc (.cells #[.pointer (some ⟨2, tPE, none⟩), .pointer (some ⟨w.heap.size, 0, none⟩), .int .u64 150] tV)).cell? ⟨0, 0, none⟩ = some (.iface tRt (.agg #[.pointer (some ⟨2, 56, none⟩)])) := by
    rw [World.cell?_alloc_lt _ _ ⟨0, 0, none⟩ (by simp), World.cell?_alloc_lt _ _ ⟨0, 0, none⟩ hgl]; exact hg
  have hp2 : ((w.alloc (.cells #[.pointer (some t)] tPE)).alloc (.cells #[.pointer (some ⟨2, tPE, none⟩), .pointer (some ⟨w.heap.size, 0, none⟩), .int .u64 150] tV)).cell? ⟨p, 2, none⟩ = some (.int .i64 e) := by
    rw [World.cell?_alloc_lt _ _ ⟨p, 2, none⟩ (by simp; exact Nat.lt_succ_of_lt hpl), World.cell?_alloc_lt _ _ ⟨p, 2, none⟩ hpl]; exact hp
  have ht2 : ((w.alloc (.cells #[.pointer (some t)] tPE)).alloc (.cells #[.pointer (some ⟨2, tPE, none⟩), .pointer (some ⟨w.heap.size, 0, none⟩), .int .u64 150] tV)).cell? t = some old := by
    rw [World.cell?_alloc_lt _ _ t (by simp; omega), World.cell?_alloc_lt _ _ t htl]; exact ht
  have hf2 : ((w.alloc (.cells #[.pointer (some t)] tPE)).alloc (.cells #[.pointer (some ⟨2, tPE, none⟩), .pointer (some ⟨w.heap.size, 0, none⟩), .int .u64 150] tV)).frozen? t = false := by
    rw [World.frozen?_alloc_old _ _ t (by simp; omega), World.frozen?_alloc_old _ _ t (Nat.ne_of_lt htl)]; exact hf
  have ha2 : ((w.alloc (.cells #[.pointer (some t)] tPE)).alloc (.cells #[.pointer (some ⟨2, tPE, none⟩), .pointer (some ⟨w.heap.size, 0, none⟩), .int .u64 150] tV)).cell? ⟨w.heap.size, 0, none⟩ = some (.pointer (some t)) := by
    rw [World.cell?_alloc_lt _ _ ⟨w.heap.size, 0, none⟩ (by simp)]; simp
  have hb : Below w.heap.size w ((w.alloc (.cells #[.pointer (some t)] tPE)).alloc (.cells #[.pointer (some ⟨2, tPE, none⟩), .pointer (some ⟨w.heap.size, 0, none⟩), .int .u64 150] tV)) := ((Below.refl _ _).alloc (Nat.le_refl _) _).alloc (by simp) _
  have HB := Lib.hid hb
  clear hb htl hpl hgl
  go_enter Tryz.func36, Tryz.ntmps36
  go_wp2_with (go_at_call 47; refine (as_any p e t ⟨w.heap.size, 0, none⟩ old _ hp2 ha2 ht2 hf2).mono ?_; rintro x w' ⟨rfl, hx, hk⟩; have HX := Lib.hid hx; have HK := Lib.hid hk; clear hx hk)
  go_ret
  exact ⟨rfl, HX.out, (Kept.of_below _ HB.out).trans HK.out fun k hk => .inl hk⟩
set_option maxRecDepth 100000 in
set_option maxHeartbeats 4000000 in
/-- The number in a Trouble. -/
theorem code_any (p : Nat) (e : Int) (w : World) (hg : w.cell? ⟨0, 0, none⟩ = some (.iface tRt (.agg #[.pointer (some ⟨2, 56, none⟩)]))) (hp : w.cell? ⟨p, 2, none⟩ = some (.int .i64 e)) :
    Calls Tryz.prog 19 #[.iface tTr (.pointer (some ⟨p, 0, none⟩))] w fun x w' => x = .returned (.int .i64 e) ∧ Below w.heap.size w w' := by
  have hpl := block_of_cell hp
  have hgl := block_of_cell hg
  have hb : Below w.heap.size w (w.alloc (.cells #[.int .i64 0] tE)) := (Below.refl _ _).alloc (Nat.le_refl _) _
  have g2 := (hb.cell (p := ⟨0, 0, none⟩) hgl).trans hg
  have p2 := (hb.cell (p := ⟨p, 2, none⟩) hpl).trans hp
  have t2 : (w.alloc (.cells #[.int .i64 0] tE)).cell? ⟨w.heap.size, 0, none⟩ = some (.int .i64 0) := by simp
  have f2 : (w.alloc (.cells #[.int .i64 0] tE)).frozen? ⟨w.heap.size, 0, none⟩ = false := by simp
  have HB := Lib.hid hb
  clear hb hpl hgl
  go_enter Tryz.func19, Tryz.ntmps19
  go_wp2_with (go_at_call 36; refine (asAs_any p e ⟨w.heap.size, 0, none⟩ (.int .i64 0) _ g2 p2 t2 f2).mono ?_; rintro x w' ⟨rfl, hx, hk⟩; have HK := Lib.hid hk; clear hk)
  go_ret
  exact ⟨rfl, HB.out.trans (HK.out.to_below (by simp) fun k hk => by subst hk; exact Nat.le_refl _)⟩
end Go.Proofs.YtojfmddlalklbaaGreatDoor
