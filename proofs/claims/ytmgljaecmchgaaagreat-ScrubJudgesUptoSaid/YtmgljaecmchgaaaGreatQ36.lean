/- XWo4, XFi1: merged by tools/merge.py. -/
import Derived.Test.YtmgljaecmchgaaaGreatQ35
import Derived.Test.YtmgljaecmchgaaaGreatQ32
import Derived.Test.YtmgljaecmchgaaaGreatQ13
set_option linter.unusedVariables false
set_option linter.unusedSimpArgs false
set_option linter.unusedSectionVars false
namespace Go.Proofs.YtmgljaecmchgaaaGreat.Gf
open Go.RowKit Go.Proofs
def gtC (g:Gt) (pv:Value):List Value:=[.bool g.down,.bool g.away,pv,.int .i64 g.calls,.int .i64 g.rounds,.bool g.laid,.int .i64 g.rd,.int .i64 g.call,.int .i64 g.ins]
structure DkAt (W:World) (q r:Nat) (g:Gt):Prop where
 own:∃ (Ap:Option Addr) (np cp:Nat),W.heap[q]?=some (.cells (.pointer (some ⟨r,0,none⟩)::gtC g (.slice Ap np cp)).toArray tDisk (0,0))/\W.ownsRow 0 tFault 2 (.slice Ap np cp) np (cFt g.plan)
section
variable {W W':World} {q r:Nat} {g:Gt}
theorem DkAt.below (h:DkAt W q r g) (hb:Below W.heap.size W W'):DkAt W' q r g:=by
 obtain⟨Ap,np,cp,h1,h2⟩:=h.own
 exact⟨Ap,np,cp,(hb.block q (Array.getElem?_eq_some_iff.1 h1).1).trans h1,own_below h2 hb⟩
theorem DkAt.lt (h:DkAt W q r g):q<W.heap.size:=by
 obtain⟨Ap,np,cp,h1,_⟩:=h.own
 exact (Array.getElem?_eq_some_iff.1 h1).1
end
theorem results_cell {P:Program} {fn:Func} {tmps:Array Value} {a t:Nat} {ad:Addr} {v1:Value} {w:World} (hf:fn.results=#[.cell a t]) (ha:tmps.getD a undef = .pointer (some ad)) (hl:(loadVar t ad).run P w = .ok v1 w) :
  (results fn tmps).run P w = .ok v1 w:=by
 unfold results
 rw[hf]
 simp only[List.mapM_toArray,List.mapM_cons,List.mapM_nil,ha,asAddr,bind_pure_comp,map_pure]
 simp
 exact hl
set_option maxHeartbeats 4000000 in
theorem dnew_any (w:World) (r:Nat):Calls Tryz.prog 23 #[.pointer (some ⟨r,0,none⟩)] w fun x w'=>x = .returned (.pointer (some ⟨w.heap.size,0,none⟩))/\DkAt w' w.heap.size r Gt.new/\Below w.heap.size w w':=by
 have HW:=Hd (show DkAt (w.alloc (.cells #[.pointer (some ⟨r,0,none⟩),.bool false,.bool false,.slice none 0 0,.int .i64 0,.int .i64 0,.bool false,.int .i64 0,.int .i64 0,.int .i64 0] tDisk)) w.heap.size r Gt.new from⟨none,0,0,heap_alloc_last w _,World.ownsRow_nil _ _ _ _⟩)
 have HB:=Hd ((Below.refl w.heap.size w).alloc (Nat.le_refl _) (.cells #[.pointer (some ⟨r,0,none⟩),.bool false,.bool false,.slice none 0 0,.int .i64 0,.int .i64 0,.bool false,.int .i64 0,.int .i64 0,.int .i64 0] tDisk))
 go_enter Tryz.func23,Tryz.ntmps23
 go_wp2
 go_ret
 exact⟨rfl,HW.out,HB.out⟩
set_option maxHeartbeats 4000000 in
theorem dnew_nil (w:World):Calls Tryz.prog 23 #[.pointer none] w fun x w'=>x = .returned (.pointer none)/\w=w':=by
 go_enter Tryz.func23,Tryz.ntmps23
 go_wp2
 go_ret
 exact⟨rfl,rfl⟩
set_option maxHeartbeats 4000000 in
theorem gstruck_any (w:World) (g:Gt) (pv:Value):Calls Tryz.prog 47 #[.agg (gtC g pv).toArray] w fun x w'=>x = .returned (.bool g.struck)/\Below w.heap.size w w':=by
 obtain⟨lb,hlb⟩:∃ lb,g.laid=lb:=⟨_,rfl⟩
 have HB:=Hd (fun o=>(Below.refl w.heap.size w).alloc (Nat.le_refl _) o)
 cases lb with
 | false=>
  have HG:=Hd (show g.struck=false by unfold Gt.struck;rw[hlb];rfl)
  unfold gtC
  rw[hlb]
  clear hlb
  go_enter Tryz.func47,Tryz.ntmps47
  go_wp2
  go_ret
  exact⟨by rw[HG.out];rfl,HB.out _⟩
 | true=>
  have HG:=Hd (show g.struck=(g.rd==0) by unfold Gt.struck;rw[hlb];rfl)
  unfold gtC
  rw[hlb]
  clear hlb
  cases hb:(g.rd==0) with
  | true=>
   go_enter Tryz.func47,Tryz.ntmps47
   go_wp2
   go_ret
   exact⟨by rw[HG.out,hb];rfl,HB.out _⟩
  | false=>
   go_enter Tryz.func47,Tryz.ntmps47
   go_wp2
   go_ret
   exact⟨by rw[HG.out,hb];rfl,HB.out _⟩
theorem gate_load {W:World} {t:Nat} {cs:Array Value} (h:W.heap[t]?=some (.cells cs tGate (0,0))) (hc:cs.size=9):(loadVar tGate ⟨t,0,none⟩).run Tryz.prog W = .ok (.agg cs) W:=
 run_loadVar_row _ _ tGate tGate cs (0,0) _ h Tryz.underlying118 rfl (by rw[hc];kernel_rfl)
theorem gate_two (w:World) (o:Obj) (cs:Array Value) (hc:cs.size=9):(loadVar tGate ⟨w.heap.size+1,0,none⟩).run Tryz.prog ((w.alloc o).alloc (.cells cs tGate)) = .ok (.agg cs) ((w.alloc o).alloc (.cells cs tGate)):=by
 have h:=heap_alloc_last (w.alloc o) (.cells cs tGate)
 rw[show (w.alloc o).heap.size=w.heap.size+1 by simp] at h
 exact gate_load h hc
set_option maxRecDepth 100000 in
set_option maxHeartbeats 8000000 in
theorem goff_any (w:World) (g:Gt) (A:Option Addr) (n c:Nat) (b:Bool):Calls Tryz.prog 63 #[.agg (gtC g (.slice A n c)).toArray,.bool b] w fun x w'=>x = .returned (.agg (gtC (g.offl b) (.slice A n c)).toArray)/\Below w.heap.size w w':=by
 unfold gtC
 go_enter Tryz.func63,Tryz.ntmps63
 go_wp2
 refine bodyPost_ret (v:=.agg (gtC (g.offl b) (.slice A n c)).toArray) (results_cell Tryz.results63 rfl (gate_two w _ _ rfl)) rfl ?_
 exact⟨rfl,((Below.refl _ _).alloc (Nat.le_refl _) _).alloc (by simp) _⟩
set_option maxRecDepth 100000 in
set_option maxHeartbeats 8000000 in
theorem gfuse_any (w:World) (g:Gt) (A:Option Addr) (n c:Nat) (r d i:Int):Calls Tryz.prog 65 #[.agg (gtC g (.slice A n c)).toArray,.int .i64 r,.int .i64 d,.int .i64 i] w fun x w'=>x = .returned (.agg (gtC (g.fuse r d i) (.slice A n c)).toArray)/\Below w.heap.size w w':=by
 unfold gtC
 go_enter Tryz.func65,Tryz.ntmps65
 go_wp2
 refine bodyPost_ret (v:=.agg (gtC (g.fuse r d i) (.slice A n c)).toArray) (results_cell Tryz.results65 rfl (gate_two w _ _ rfl)) rfl ?_
 exact⟨rfl,((Below.refl _ _).alloc (Nat.le_refl _) _).alloc (by simp) _⟩
set_option maxRecDepth 100000 in
set_option maxHeartbeats 8000000 in
theorem garm_any {w:World} {B n c:Nat} {A:Option Addr} (g:Gt) (A0:Option Addr) (n0 c0:Nat) {l:List (Int×Int)} (hl:Rd w B 2 A n (cFt l)) (hc:A=none->c=0) (hB:B<=w.heap.size) (hn:n<=1048576) :
  Calls Tryz.prog 61 #[.agg (gtC g (.slice A0 n0 c0)).toArray,.slice A n c] w fun x w'=>(∃ A' c',x = .returned (.agg (gtC (g.arm l) (.slice A' n c')).toArray)/\w'.ownsRow w.heap.size tFault 2 (.slice A' n c') n (cFt l))/\Below w.heap.size w w':=by
 obtain⟨i0,hi0,hz0,hz1,hz2⟩:=info_parts infoFt
 obtain⟨w1,hw1⟩:∃ w1,(w.alloc (.cells #[.bool g.down,.bool g.away,.slice A0 n0 c0,.int .i64 g.calls,.int .i64 g.rounds,.bool g.laid,.int .i64 g.rd,.int .i64 g.call,.int .i64 g.ins] tGate)).alloc (.cells #[.bool false,.bool false,.slice none 0 0,.int .i64 0,.int .i64 0,.bool false,.int .i64 0,.int .i64 0,.int .i64 0] tGate)=w1:=⟨_,rfl⟩
 have hb1:Below w.heap.size w w1:=by rw[<-hw1];exact ((Below.refl _ _).alloc (Nat.le_refl _) _).alloc (by simp) _
 have hs1:w1.heap.size=w.heap.size+2:=by rw[<-hw1];simp
 have HL:=Hd (hl.below (hb1.mono hB))
 have HC:=Hd hc
 have HN:=Hd (show w1.ownsRow (w.heap.size+2) tFault 2 (.slice none 0 0) 0 [] from World.ownsRow_nil _ _ _ _)
 have HB1:=Hd hb1
 have hg0:w1.heap[w.heap.size]?=some (.cells #[.bool g.down,.bool g.away,.slice A0 n0 c0,.int .i64 g.calls,.int .i64 g.rounds,.bool g.laid,.int .i64 g.rd,.int .i64 g.call,.int .i64 g.ins] tGate (0,0)):=by
  rw[<-hw1,Below.heap_alloc _ _ _ (by simp)]
  exact heap_alloc_last w _
 have hg1:w1.heap[w.heap.size+1]?=some (.cells #[.bool false,.bool false,.slice none 0 0,.int .i64 0,.int .i64 0,.bool false,.int .i64 0,.int .i64 0,.int .i64 0] tGate (0,0)):=by
  have h:=heap_alloc_last (w.alloc (.cells #[.bool g.down,.bool g.away,.slice A0 n0 c0,.int .i64 g.calls,.int .i64 g.rounds,.bool g.laid,.int .i64 g.rd,.int .i64 g.call,.int .i64 g.ins] tGate)) (.cells #[.bool false,.bool false,.slice none 0 0,.int .i64 0,.int .i64 0,.bool false,.int .i64 0,.int .i64 0,.int .i64 0] tGate)
  rw[hw1] at h
  rw[show w.heap.size+1=(w.alloc (.cells #[.bool g.down,.bool g.away,.slice A0 n0 c0,.int .i64 g.calls,.int .i64 g.rounds,.bool g.laid,.int .i64 g.rd,.int .i64 g.call,.int .i64 g.ins] tGate)).heap.size by simp]
  exact h
 have HG0:=Hd hg0
 have HG1:=Hd hg1
 have HW1:=Hd hw1
 have HS1:=Hd hs1
 unfold gtC
 clear hl hc hb1 hg0 hg1 hw1 hs1
 go_enter Tryz.func61,Tryz.ntmps61
 go_upto_region 3 with (at_builtin;rw[HW1.out];go_loud (refine wpList_append_rd _ rfl (.tmp 6) (.tmp 7) tFaults rfl (w.heap.size+2) tFault i0 _ 2 16 Tryz.underlying91 hi0 hz0 hz1 hz2 rfl (by decide) (.slice none 0 0) 0 [] rfl HN.out B A n c (cFt l) rfl HL.out HC.out (cFt_one l) (by unfold maxLen;omega) (by omega) (by rw[HS1.out];exact Nat.le_refl _) ?_);intro v2 w2 h2 hg2;have H2:=Hd h2;have HB2:=Hd (show Below (w.heap.size+2) w1 w2 from (Below.refl _ _).grown hg2 (by rw[HS1.out];exact Nat.le_refl _) (fun j hj=>by simp[Value.ownBlock] at hj));clear h2 hg2)
 have h2:=H2.out
 rw[List.nil_append,Nat.zero_add] at h2
 obtain⟨A2,c2,rfl,_,_⟩:=own_form H2.out
 rw[Nat.zero_add] at h2 ⊢
 have g0:w2.heap[w.heap.size]?=some (.cells #[.bool g.down,.bool g.away,.slice A0 n0 c0,.int .i64 g.calls,.int .i64 g.rounds,.bool g.laid,.int .i64 g.rd,.int .i64 g.call,.int .i64 g.ins] tGate (0,0)):=(HB2.out.block _ (by omega)).trans HG0.out
 have g1:=(HB2.out.block (w.heap.size+1) (by omega)).trans HG1.out
 obtain⟨w3,hw3⟩:∃ w3,(w2.setCell ⟨w.heap.size,2,none⟩ (.slice A2 n c2)).setCell ⟨w.heap.size,3,none⟩ (.int .i64 0)=w3:=⟨_,rfl⟩
 obtain⟨C,hC⟩:∃ C,gtC (g.arm l) (.slice A2 n c2)=C:=⟨_,rfl⟩
 have hCl:C.length=9:=by rw[<-hC];rfl
 have g3:w3.heap[w.heap.size]?=some (.cells C.toArray tGate (0,0)):=by
  rw[<-hw3,<-hC]
  exact Ring.heap_same (i:=3) (Ring.heap_same (i:=2) g0 _) _
 have g31:w3.heap[w.heap.size+1]?=some (.cells #[.bool false,.bool false,.slice none 0 0,.int .i64 0,.int .i64 0,.bool false,.int .i64 0,.int .i64 0,.int .i64 0] tGate (0,0)):=by
  rw[<-hw3]
  exact (Below.heap_setCell _ ⟨w.heap.size,3,none⟩ _ _ (by show w.heap.size+1≠w.heap.size;omega)).trans ((Below.heap_setCell _ ⟨w.heap.size,2,none⟩ _ _ (by show w.heap.size+1≠w.heap.size;omega)).trans g1)
 have hrg:w3.rangeAt w.heap.size 0 C:=fun j u hu=>by
  rw[Nat.zero_add,cell_of_row _ _ _ _ _ _ g3,List.getElem?_toArray];exact hu
 have hCo:C.toArray.all (·.oneCell')=true:=all_oneCell_toArray (by
  intro u hu
  rw[<-hC] at hu
  simp[gtC] at hu
  rcases hu with h | h | h | h | h | h | h | h | h<;>subst h<;>rfl)
 have hst:(Instr.storeAt tGate (.pointer (some ⟨w.heap.size+1,0,none⟩)) (.agg C.toArray)).run Tryz.prog w3 = .ok () (w3.setRow (w.heap.size+1) C.toArray):=by
  simp only[Instr.storeAt,Instr.sureAddr,Sem.run_bind,Sem.run_pure,Result.andThen_ok]
  exact run_storeVar_row _ _ tGate tGate _ _ g31 (by rw[List.size_toArray,hCl];kernel_rfl) (by show 9=C.length;rw[hCl]) hCo
 have hld:=gate_load (setRow_heap w3 (w.heap.size+1) _ C.toArray _ _ g31) (by rw[List.size_toArray,hCl])
 have hbk:Below w.heap.size w (w3.setRow (w.heap.size+1) C.toArray):=by
  have k1:Kept w1 w2 (fun k=>w.heap.size<=k):=Kept.of_below _ (HB2.out.mono (by rw[HS1.out];exact Nat.le_refl _))
  have k2:Kept w1 w3 (fun k=>w.heap.size<=k):=by
   rw[<-hw3]
   exact kept_set (kept_set k1 (Nat.le_refl _)) (Nat.le_refl _)
  have k3:=kept_row k2 (G:=w.heap.size+1) (.inl (Nat.le_succ _)) C.toArray
  exact HB1.out.trans (k3.to_below (by rw[HS1.out];omega) (fun k h=>h))
 have hro:(w3.setRow (w.heap.size+1) C.toArray).ownsRow w.heap.size tFault 2 (.slice A2 n c2) n (cFt l):=by
  have r1:w3.ownsRow (w.heap.size+2) tFault 2 (.slice A2 n c2) n (cFt l):=by
   rw[<-hw3]
   exact own_set (own_set h2 g0 (by decide) _) (Ring.heap_same (i:=2) g0 _) (by decide) _
  have r2:(w3.setRow (w.heap.size+1) C.toArray).ownsRow (w.heap.size+2) tFault 2 (.slice A2 n c2) n (cFt l):=
   r1.kept (row:=some (w.heap.size+1)) ⟨rfl,rfl,rfl,by simp[World.setRow],fun k _ hk=>setRow_other _ _ k _ (fun e=>hk (by rw[e]))⟩ (.inr fun e=>own_off r1 (show w.heap.size+1<w.heap.size+2 by omega) e.symm)
  exact own_lower r2 (by omega)
 have x2:w2.cell? ⟨w.heap.size,2,none⟩=some (.slice A0 n0 c0):=by rw[cell_of_row _ _ _ _ _ _ g0];rfl
 have x3:w2.cell? ⟨w.heap.size,3,none⟩=some (.int .i64 g.calls):=by rw[cell_of_row _ _ _ _ _ _ g0];rfl
 have y2:w2.frozen? ⟨w.heap.size,2,none⟩=false:=frozen_of_row _ _ _ _ _ g0
 have y3:w2.frozen? ⟨w.heap.size,3,none⟩=false:=frozen_of_row _ _ _ _ _ g0
 have HW3:=Hd hw3
 have HRG:=Hd hrg
 have HST:=Hd hst
 have HLD:=Hd hld
 have HBK:=Hd hbk
 have HRO:=Hd hro
 have HCC:=Hd hC
 have HCI:=Hd (show (Tryz.prog.info? tGate).map (fun i=>i.size)=some C.length by rw[hCl];kernel_rfl)
 clear h2 g0 g1 hw3 hC hCl g3 g31 hrg hCo hst hld hbk hro
 go_upto_region 5 with (fail)
 rw[HW3.out]
 clear x2 x3 y2 y3
 go_wp2_with (first | (refine wpList_load_mid rfl tGate (.tmp 2) rfl w.heap.size 0 rfl C _ HRG.out Tryz.underlying118 rfl HCI.out ?_) | (refine wpList_store_by rfl tGate (.tmp 4) (.tmp 12) rfl _ _ rfl rfl HST.out ?_))
 refine bodyPost_ret (v:=.agg C.toArray) (results_cell Tryz.results61 rfl HLD.out) rfl ?_
 exact⟨⟨A2,c2,by rw[<-HCC.out];rfl,HRO.out⟩,HBK.out⟩
end Go.Proofs.YtmgljaecmchgaaaGreat.Gf
namespace Go.Proofs.YtmgljaecmchgaaaGreat.Gf
open Go.RowKit Go.Proofs
theorem wp_append_rd {P:Program} {w:World} {o:Oper} {a:Act} {K:Act->World->Prop} {Q:Exit->Act->World->Prop} (s x:Operand) (t:TypeId)
  (ho:o.op = .call {callee:=.builtin .append,args:=#[s,x],argTypes:=#[t,t]})
  (base:Nat) (e:TypeId) (i:TypeInfo) (z:Value) (size bytes:Nat) (ht:P.underlying t=some (.slice e)) (hi:P.info? e=some i) (hz:i.zero=some z)
  (hsize:i.size=size) (hby:i.bytes=bytes) (hzs:z.cells.size=size) (hsz:0<size)
  (v:Value) (n:Nat) (xs:List Value) (hs:a.eval s=v) (hown:w.ownsRow base e size v n xs)
  (B:Nat) (A:Option Addr) (m c:Nat) (news:List Value) (hx:a.eval x = .slice A m c) (hr:Rd w B size A m news) (hc:A=none->c=0) (h1:∀ u∈news,u.oneCell'=true)
  (h63:n+m<=maxLen) (hbytes:(n+m)*bytes<=140737488355328) (hbase:base<=w.heap.size)
  (h:∀ v' w',w'.ownsRow base e size v' (n+m) (xs++news)->w.grownBy w' v.ownBlock->K (a.put o.dst v') w'):o.wp P a w K Q:=by
 have key:∃ v' w',(Builtin.append_ #[t,t] o.type #[v,.slice A m c]).run P w = .ok v' w'/\w'.ownsRow base e size v' (n+m) (xs++news)/\w.grownBy w' v.ownBlock:=by
  cases A with
  | none=>
   have h0:m=0:=by
    rcases Nat.eq_zero_or_pos m with h0 | h0
    ·exact h0
    ·obtain⟨ad,e,_⟩:=hr.2 h0;cases e
   subst h0
   have hn:news=[]:=List.eq_nil_of_length_eq_zero (by simpa using hr.1)
   subst hn
   have hc0:=hc rfl
   subst hc0
   exact⟨v,w,run_append_owned_none w base t o.type e i size ht hi v n xs hown,by simpa using hown,World.grownBy.refl w _⟩
  | some ad=>
   obtain⟨v',w',h2,h3,h4,_⟩:=run_append_own (P:=P) w base t o.type e i z size bytes ht hi hz hsize hby hzs hsz v n xs hown ad m c news hr.1 (fun j u hu=>by
    rcases Nat.eq_zero_or_pos m with h0 | h0
    ·subst h0
     have hn:news=[]:=List.eq_nil_of_length_eq_zero (by simpa using hr.1)
     subst hn
     cases hu
    ·obtain⟨ad',e,_,hcell⟩:=hr.2 h0
     obtain rfl:ad=ad':=by injection e
     exact hcell j u hu) h1 h63 hbytes hbase
   exact⟨v',w',h2,h3,h4⟩
 obtain⟨v',w',hr2,h2,h3⟩:=key
 unfold Oper.wp execOp
 simp only[ho,resolve,invoke,builtin,Sem.run_bind,Sem.run_pure,Result.andThen_ok,List.map_toArray,List.map_cons,List.map_nil,hs,hx,hr2]
 exact h v' w' h2 h3
set_option maxHeartbeats 4000000 in
theorem pick_at (w:World) (i n:Nat) (hi:i<n) (hn:n<=1099511627776):Calls Tryz.prog 59 #[.int .i64 (i:Int),.int .i64 (n:Int)] w fun x w'=>x = .returned (.int .i64 (i:Int))/\w=w':=by
 have h1:¬ (n:Int)<1:=by omega
 have h2:(i:Int)%(n:Int)=(i:Int):=Int.emod_eq_of_lt (by omega) (by omega)
 have h2b:Int.tmod (i:Int) (n:Int)=(i:Int):=Int.tmod_eq_of_lt (by omega) (by omega)
 have h3:¬ (i:Int)<0:=by omega
 have h4:(0:Int)<=(i:Int):=by omega
 have h5:¬ (n:Int)=0:=by omega
 go_enter Tryz.func59,Tryz.ntmps59
 go_wp2
 go_ret
 exact⟨rfl,rfl⟩
set_option maxRecDepth 100000 in
set_option maxHeartbeats 8000000 in
theorem files_any {w:World} {A:Option Addr} {n c:Nat} {fs:List (Dr.Bs×Dr.Bs)} (hf:Dr.FilesRo w A n fs) (hn:n<=1048576) (hm:∀ f∈fs,f.2.length<=1048576) :
  Calls Tryz.prog 27 #[.slice A n c] w fun x w'=>(∃ A' c' dv,x = .returned (.slice A' n c')/\Dr.FilesAt w' w.heap.size (.slice A' n c') dv fs)/\Below w.heap.size w w':=by
 obtain⟨i0,hi0,hz0,hz1,hz2⟩:=info_parts Dr.infoU8
 obtain⟨f0,hf0,hy0,hy1,hy2⟩:=info_parts Dr.infoFile
 obtain⟨V,hV⟩:∃ V,w.heap.size=V:=⟨_,rfl⟩
 have HF:=Hd hf
 have HFN:=Hd hf.1
 have HM:=Hd hm
 have HV:=Hd hV
 have HB0:=Hd (Below.refl V w)
 clear hf hm hV
 go_enter Tryz.func27,Tryz.ntmps27
 go_wp2
 go_loopw [3,4] (fun v iv wr=>∃ (i:Nat) (Ao:Option Addr) (co:Nat) (dv:List Value),iv = .int .i64 (i:Int)/\i<=n/\v = .slice Ao i co/\Dr.FilesAt wr V (.slice Ao i co) dv (fs.take i)/\Below V w wr) (fun _ iv _=>n - (intOf iv).toNat)
 case atStart=>exact⟨0,none,0,[],rfl,by omega,rfl,by rw[List.take_zero];exact Dr.FilesAt.nil _ _,HB0.out⟩
 case round=>
  obtain⟨i,Ao,co,dv,rfl,hi,rfl,hfa,hb⟩:=hrel
  by_cases hin:i<n
  ·have hin2:(i:Int)<(n:Int):=by omega
   have hi00:(0:Int)<=(i:Int):=by omega
   obtain⟨f,hff⟩:∃ f,fs[i]?=some f:=⟨_,List.getElem?_eq_getElem (by rw[HFN.out];exact hin)⟩
   obtain⟨g,o,Af,cf,rfl,hg,c0,c1,hrd,hnil⟩:=HF.out.2 i f hff
   obtain⟨m,hm⟩:∃ m,f.2.length=m:=⟨_,rfl⟩
   have hm40:m<=1048576:=by rw[<-hm];exact HM.out f (List.mem_of_getElem? hff)
   have hfl:(fs.take i).length=i:=by rw[List.length_take,HFN.out];omega
   have hVw:V<=wr.heap.size:=by have:=hb.size;have:=HV.out;omega
   rw[HV.out] at hg hrd
   rw[hm] at c1 hrd
   have HKEEP:=Hd (show ∀ wx,Below V w wx->wx.cell? ⟨g,o+i*2,none⟩=some (encStr f.1)/\wx.cell? ⟨g,o+i*2+1,none⟩=some (.slice Af m cf) from fun wx hx=>⟨(hx.cell (p:=⟨g,o+i*2,none⟩) hg).trans c0,(hx.cell (p:=⟨g,o+i*2+1,none⟩) hg).trans c1⟩)
   have HS0:=Hd (HKEEP.out wr.drew (hb.trans ⟨rfl,rfl,rfl,Nat.le_refl _,fun _ _=>rfl⟩))
   have HRD:=Hd (show Rd wr.drew V 1 Af m (cU8 f.2) from (hrd.below hb).drew)
   have HNL:=Hd hnil
   have HFA:=Hd hfa
   have HFL:=Hd hfl
   have HB:=Hd hb
   have HP:=Hd hff
   have HMM:=Hd hm
   clear hfa hb hff hfl hrd c0 c1 hnil hm
   go_upto_region 5 with (fail)
   refine wp_region_any (by kernel_rfl) ?_
   change wpAny _ _ _ _ _ _ _ (World.drew _)
   refine wpAny_of_P (S:=fun wx=>wx.cell? ⟨g,o+i*2,none⟩=some (encStr f.1)/\wx.cell? ⟨g,o+i*2+1,none⟩=some (.slice Af m cf)) (late:=[14]) _ _ _ _ ?_
   refine tT 0 HS0.out ?_
   try go_frame
   refine tT 1 HS0.out ?_
   try go_frame
   refine tT 2 HS0.out ?_
   try go_frame
   refine tT 3 HS0.out ?_
   try go_frame
   refine tT 4 HS0.out ?_
   try go_frame
   refine tP 8 5 rfl HS0.out (fun w hw=>by obtain⟨k0,k1⟩:=hw;go_simp;try with_reducible rfl) ?_
   try go_frame
   refine tT 6 HS0.out ?_
   try go_frame
   refine tT 7 HS0.out ?_
   try go_frame
   refine tT 8 HS0.out ?_
   try go_frame
   refine tT 9 HS0.out ?_
   try go_frame
   refine tP 8 10 rfl HS0.out (fun w hw=>by obtain⟨k0,k1⟩:=hw;go_simp;try with_reducible rfl) ?_
   try go_frame
   refine fP 11 fun K hK=>?_
   refine wp_append_rd (.const (.slice none 0 0)) (.tmp 21) 79 rfl wr.heap.size Dr.tU8 i0 (.int .u8 0) 1 1 Tryz.underlying79 hi0 hz0 hz1 hz2 rfl (by decide) (.slice none 0 0) 0 [] rfl (World.ownsRow_nil _ _ _ _) V Af m cf (cU8 f.2) rfl HRD.out HNL.out (cU8_one f.2) (by unfold maxLen;omega) (by omega) (Nat.le_refl _) ?_
   intro v2 w2 hrow2 hg2
   rw[Nat.zero_add,List.nil_append] at hrow2
   obtain⟨A2,c2,rfl,_,_⟩:=own_form hrow2
   have hb2:Below wr.heap.size wr w2:=(show Below wr.heap.size wr wr.drew from⟨rfl,rfl,rfl,Nat.le_refl _,fun _ _=>rfl⟩).grown hg2 (Nat.le_refl _) (fun j hj=>by simp[Value.ownBlock] at hj)
   have HROW2:=Hd hrow2
   have HB2:=Hd hb2
   have hS1:=HKEEP.out w2 (HB.out.trans (hb2.mono hVw))
   have HS1:=Hd hS1
   clear hrow2 hg2 hb2 hS1
   go_simp
   refine hK _ _ (HS1.out) ?_;clear hK K
   try go_frame
   refine tT 12 HS1.out ?_
   try go_frame
   refine fP 13 fun K hK=>?_
   go_simp
   have hS2:=HKEEP.out (w2.alloc (.cells #[.string ⟨f.1.toArray⟩,.slice A2 m c2] Dr.tFile)) ((HB.out.trans (HB2.out.mono hVw)).alloc (by have:=HB2.out.size;omega) _)
   refine hK _ _ (hS2) ?_;clear hK K
   try go_frame
   refine lP 14 fun K hK=>?_
   have HFW:=Hd ((HFA.out.below HB2.out).below ((Below.refl w2.heap.size w2).alloc (Nat.le_refl _) (.cells #[.string ⟨f.1.toArray⟩,.slice A2 m c2] Dr.tFile)))
   have hfr:=HFW.out.row
   rw[HFL.out] at hfr
   have HV9:=Hd (show V<=(w2.alloc (.cells #[.string ⟨f.1.toArray⟩,.slice A2 m c2] Dr.tFile)).heap.size by have:=HB2.out.size;simp;omega)
   refine wp_append_rd (.tmp 11) (.tmp 24) 90 rfl V Dr.tFile f0 _ 2 40 Tryz.underlying90 hf0 hy0 hy1 hy2 rfl (by decide) (.slice Ao i co) i _ rfl hfr _ (some ⟨w2.heap.size,0,none⟩) 1 1 [.string ⟨f.1.toArray⟩,.slice A2 m c2] rfl (rd_newS w2 2 [.string ⟨f.1.toArray⟩,.slice A2 m c2] rfl Dr.tFile) (fun h=>by cases h) (by simp[Value.oneCell']) (by unfold maxLen;omega) (by omega) HV9.out ?_
   intro v3 w3 hrow3 hg3
   clear hfr
   go_simp
   refine hK _ _ ?_;clear hK K
   try go_frame
   refine tL 15 ?_
   try go_frame
   refine wpAny_done (by kernel_rfl) ?_ _
   have hsn:=HFW.out.snoc (f:=f) (x:=.slice A2 m c2) (by rw[HMM.out];exact own_lower (Dr.own_alloc HROW2.out _) hVw) (fun g9 hg9=>HFA.out.fresh (Dr.own_ge HROW2.out hg9)) (by rw[HFL.out];exact hrow3) hg3
   have hb3:Below V w w3:=((HB.out.trans (HB2.out.mono hVw)).alloc (by have:=HB2.out.size;omega) (.cells #[.string ⟨f.1.toArray⟩,.slice A2 m c2] Dr.tFile)).grown hg3 HV9.out (fun j hj=>by have h:=HFW.out.row;exact Dr.own_ge h hj)
   have htk:fs.take (i+1)=fs.take i++[f]:=by rw[List.take_add_one,HP.out];rfl
   rw[<-htk] at hsn
   obtain⟨A3,c3,rfl,_,_⟩:=own_form hrow3
   have HSN:=Hd hsn
   have HB3:=Hd hb3
   clear hsn hb3 hrow3 hg3 htk HFW
   go_wp2
   go_roundw
   case rel=>exact⟨i+1,A3,c3,_,by go_num,by omega,rfl,HSN.out,HB3.out⟩
   case measure=>simp[intOf];omega
  ·obtain rfl:i=n:=by omega
   rw[List.take_of_length_le (by rw[HFN.out];exact Nat.le_refl _)] at hfa
   have HFA:=Hd hfa
   have HB:=Hd hb
   clear hfa hb
   go_wp2
   go_ret
   exact⟨⟨Ao,co,dv,rfl,by rw[HV.out];exact HFA.out⟩,by rw[HV.out];exact HB.out⟩
end Go.Proofs.YtmgljaecmchgaaaGreat.Gf
