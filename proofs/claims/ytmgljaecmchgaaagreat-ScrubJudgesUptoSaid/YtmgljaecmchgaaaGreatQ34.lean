/- XRc1, XLe1, XSd1, XWo1: merged by tools/merge.py. -/
import Derived.Test.YtmgljaecmchgaaaGreatQ33
import Derived.Test.YtmgljaecmchgaaaGreatQ23
import Derived.Test.YtmgljaecmchgaaaGreatQ25
import Derived.Test.YtmgljaecmchgaaaGreatQ12
import Derived.Laws.CopyRow
import Derived.Test.YtmgljaecmchgaaaGreatQ20
set_option linter.unusedVariables false
set_option linter.unusedSimpArgs false
set_option linter.unusedSectionVars false
namespace Go.Proofs.YtmgljaecmchgaaaGreat.Gf
open Go.RowKit Go.Proofs
structure ShowOk (w w':World) (b:Bool) (x:Ending):Prop where
 out:x = .returned (.bool b)
 back:Below w.heap.size w w'
theorem exec_load_mid {P:Program} {a:Act} {o:Oper} {w:World} (ty:TypeId) (x:Operand) (ho:o.op = .load ty x) (b off:Nat) (hx:a.eval x = .pointer (some ⟨b,off,none⟩)) (cs:List Value) (d:TypeDesc) (hc:w.rangeAt b off cs)
  (hu:P.underlying ty=some d) (hd:d.isRow=true) (hi:(P.info? ty).map (·.size)=some cs.length):(execOp a.eval o).run P w = .ok (.value (.agg cs.toArray)) w:=by
 unfold execOp
 simp only[ho,hx,Instr.loadAt,Instr.sureAddr,Sem.run_bind,Sem.run_pure,Result.andThen_ok,run_loadVar_mid w b off ty cs d hc hu hd hi]
theorem wpList_eqlg_by {P:Program} {ops:Array Oper} {rest:List Oper} {op:Oper} {a:Act} {w:World} {Q:Exit->Act->World->Prop} (hgd:Region.wanted op (yielded ops a.tmps)=true) (t t2:TypeId) (x y:Operand) (ho:op.op = .binOp .eql t x y t2) (hgt:P.eqGuardType P.depth t=false)
  (p q:Array Value) (r:Value) (hx:a.eval x = .agg p) (hy:a.eval y = .agg q) (hr:(binOp .eql t (.agg p) (.agg q)).run P w = .ok r w) (h:wpList P ops Q rest (a.put op.dst r) w):wpList P ops Q (op::rest) a w:=by
 have hg:(eqGuard .eql t x y (.agg p) (.agg q)).run P w = .ok () w:=by
  unfold eqGuard
  simp[hgt]
 unfold wpList
 rw[if_pos hgd]
 refine .inl ?_
 unfold Oper.wp execOp
 simp only[ho,hx,hy,Sem.run_bind,hg,hr,Result.andThen_ok,Sem.run_pure]
 exact h
set_option maxRecDepth 100000 in
set_option maxHeartbeats 8000000 in
theorem shows_any {v:Vd} {pl bv:Value} {s:Sn} (w:World):Calls Tryz.prog 15 #[.agg (snC s bv).toArray,.agg (vdC v pl).toArray] w fun x w'=>ShowOk w w' (own v s) x:=by
 obtain⟨C,hC⟩:∃ C,snC s bv=C:=⟨_,rfl⟩
 obtain⟨D,hD⟩:∃ D,vdC v pl=D:=⟨_,rfl⟩
 rw[hC,hD]
 obtain⟨w1,hw1⟩:∃ w1,(w.alloc (.cells C.toArray tSeen)).alloc (.cells D.toArray tVd)=w1:=⟨_,rfl⟩
 have hbk:Below w.heap.size w w1:=by rw[<-hw1];exact ((Below.refl _ _).alloc (Nat.le_refl _) _).alloc (by simp) _
 have hc:∀ j u,(snC s bv)[j]?=some u->w1.cell? ⟨w.heap.size,j,none⟩=some u:=fun j u hu=>by
  rw[hC] at hu
  have h:=new_cells w C tSeen j u hu
  rw[Addr.add_mid,Nat.zero_add] at h
  rw[<-hw1,World.cell?_alloc_lt _ _ _ (by simp)]
  exact h
 have hd:∀ j u,(vdC v pl)[j]?=some u->w1.cell? ⟨w.heap.size+1,j,none⟩=some u:=fun j u hu=>by
  rw[hD] at hu
  have h:=new_cells (w.alloc (.cells C.toArray tSeen)) D tVd j u hu
  rw[Addr.add_mid,Nat.zero_add,show (w.alloc (.cells C.toArray tSeen)).heap.size=w.heap.size+1 by simp,hw1] at h
  exact h
 have n0:=hc 0 _ rfl
 have n13:=hc 13 _ rfl
 have n15:=hc 15 _ rfl
 have n16:=hc 16 _ rfl
 have v1:=hd 1 _ rfl
 have v2:=hd 2 _ rfl
 have v3:=hd 3 _ rfl
 have HGE:=Hd (gen_eq w1 s.ep s.ct v.ep v.ct)
 have HBK:=Hd hbk
 have HW1:=Hd hw1
 clear hc hd hbk hw1 hC hD
 go_enter Tryz.func15,Tryz.ntmps15
 go_upto_region 1 with (fail)
 rw[HW1.out]
 by_cases h2:s.kind=2
 ·have k2:(s.kind==2)=true:=by simpa using h2
  have HK:=Hd h2
  clear h2
  cases hb:genB s.ep s.ct v.ep v.ct with
  | false=>
   have HO:=Hd (show own v s=false from by cases h:own v s with | false=>rfl | true=>exact absurd (own_eq.1 h) (by intro h;rw[genB_eq.2 h.2.1] at hb;cases hb))
   go_wp2_with (refine wpList_eqlg_by rfl tGen _ (.tmp 12) (.tmp 14) rfl (by kernel_rfl) _ _ _ rfl rfl HGE.out ?_)
   go_ret
   exact⟨by rw[HO.out];rfl,HBK.out⟩
  | true=>
   have HB:=Hd hb
   by_cases hz:s.size=v.size
   ·have k3:(s.size==v.size)=true:=by simpa using hz
    have HO:=Hd (show own v s=true from own_eq.2 ⟨HK.out,genB_eq.1 hb,hz⟩)
    clear hz
    go_wp2_with (refine wpList_eqlg_by rfl tGen _ (.tmp 12) (.tmp 14) rfl (by kernel_rfl) _ _ _ rfl rfl HGE.out ?_)
    go_ret
    exact⟨by rw[HO.out];rfl,HBK.out⟩
   ·have k3:(s.size==v.size)=false:=by simpa using hz
    have HO:=Hd (show own v s=false from by cases h:own v s with | false=>rfl | true=>exact absurd (own_eq.1 h).2.2 hz)
    clear hz
    go_wp2_with (refine wpList_eqlg_by rfl tGen _ (.tmp 12) (.tmp 14) rfl (by kernel_rfl) _ _ _ rfl rfl HGE.out ?_)
    go_ret
    exact⟨by rw[HO.out];rfl,HBK.out⟩
 ·have k2:(s.kind==2)=false:=by simpa using h2
  have HO:=Hd (show own v s=false from by cases h:own v s with | false=>rfl | true=>exact absurd (own_eq.1 h).1 h2)
  clear h2
  go_wp2
  go_ret
  exact⟨by rw[HO.out];rfl,HBK.out⟩
end Go.Proofs.YtmgljaecmchgaaaGreat.Gf
namespace Go.Proofs.YtmgljaecmchgaaaGreat.Gf
open Go.RowKit Go.Proofs
structure RowsIn (W:World) (B:Nat) (A:Option Addr) (n:Nat) (R:List (List UInt8)):Prop where
 len:R.length=n
 at_:∀ k r,R[k]?=some r->∃ ad Ai ci,A=some ad/\ad.block<B/\W.cell? (ad.add k)=some (.slice Ai r.length ci)/\Rd W B 1 Ai r.length (cU8 r)/\(Ai=none->ci=0)
theorem RowsIn.rd {W:World} {B:Nat} {A:Option Addr} {n:Nat} {R:List (List UInt8)} (h:RowsIn W B A n R):RowsRd W B A n R:=by
 have hc:∀ k,∃ u:Value,∀ r,R[k]?=some r->∃ ad Ai ci,A=some ad/\ad.block<B/\W.cell? (ad.add k)=some u/\u = .slice Ai r.length ci/\Rd W B 1 Ai r.length (cU8 r):=fun k=>by
  cases hr:R[k]? with
  | none=>exact⟨undef,fun r h=>by cases h⟩
  | some r=>
   obtain⟨ad,Ai,ci,h1,h2,h3,h4,_⟩:=h.at_ k r hr
   exact⟨_,fun r' e=>by injection e with e;subst e;exact⟨ad,Ai,ci,h1,h2,h3,rfl,h4⟩⟩
 obtain⟨us,hus⟩:=Classical.axiomOfChoice hc
 refine⟨h.len,fromV n us,⟨by rw[fromV_len];omega,fun hn=>?_⟩,fun i r hr=>?_⟩
 ·obtain⟨ad,_,_,h1,h2,_⟩:=hus 0 _ (List.getElem?_eq_getElem (by rw[h.len];exact hn))
  refine⟨ad,h1,h2,fun j u hu=>?_⟩
  have hj:j<n:=by
   have:=(List.getElem?_eq_some_iff.1 hu).1
   rwa [fromV_len] at this
  obtain⟨ad',_,_,e1,_,e3,_⟩:=hus j _ (List.getElem?_eq_getElem (by rw[h.len];exact hj))
  rw[h1] at e1
  injection e1 with e1
  subst e1
  rw[fromV_get hj] at hu
  injection hu with hu
  rw[<-hu]
  exact e3
 ·have hi:i<n:=by
   have:=(List.getElem?_eq_some_iff.1 hr).1
   rwa [h.len] at this
  obtain⟨_,Ai,ci,_,_,_,e4,e5⟩:=hus i r hr
  exact⟨Ai,ci,by rw[fromV_get hi,e4],e5⟩
theorem RowsIn.below {W W':World} {B:Nat} {A:Option Addr} {n:Nat} {R:List (List UInt8)} (h:RowsIn W B A n R) (hb:Below B W W'):RowsIn W' B A n R:=
 ⟨h.len,fun k r hr=>by
  obtain⟨ad,Ai,ci,h1,h2,h3,h4,h5⟩:=h.at_ k r hr
  exact⟨ad,Ai,ci,h1,h2,(hb.cell (by rw[add_block];exact h2)).trans h3,h4.below hb,h5⟩⟩
structure SnsIn (W:World) (B:Nat) (A:Option Addr) (n:Nat) (L:List Sn):Prop where
 len:L.length=n
 at_:∀ i s,L[i]?=some s->∃ g oo Ab cb,A=some (⟨g,oo,none⟩:Addr)/\g<B/\W.rangeAt g (oo+i*19) (snC s (.slice Ab s.blocks.length cb))/\RowsIn W B Ab s.blocks.length s.blocks
theorem SnsIn.rd {W:World} {B n:Nat} {A:Option Addr} {L:List Sn} (h:SnsIn W B A n L):SnsRd W B A n L:=
 ⟨h.len,fun i s hs=>by obtain⟨g,oo,Ab,cb,h1,h2,h3,h4⟩:=h.at_ i s hs;exact⟨g,oo,Ab,cb,h1,h2,h3,h4.rd⟩⟩
theorem SnsIn.below {W W':World} {B n:Nat} {A:Option Addr} {L:List Sn} (h:SnsIn W B A n L) (hb:Below B W W'):SnsIn W' B A n L:=
 ⟨h.len,fun i s hs=>by obtain⟨g,oo,Ab,cb,e,hg,hr,hrow⟩:=h.at_ i s hs;exact⟨g,oo,Ab,cb,e,hg,range_below hr hg hb,hrow.below hb⟩⟩
theorem flat_get {f:Nat->List Value} {k:Nat} (hk:∀ x,(f x).length=k) {i x j:Nat} (hx:x<i) (hj:j<k):((List.range i).flatMap f)[x*k+j]?=(f x)[j]?:=by
 induction i with
 | zero=>omega
 | succ i ih=>
  have hl:((List.range i).flatMap f).length=i*k:=by
   clear ih hx
   induction i with
   | zero=>simp
   | succ i ih2=>rw[List.range_succ,List.flatMap_append,List.length_append,ih2];simp[hk];rw[Nat.succ_mul]
  rw[List.range_succ,List.flatMap_append]
  by_cases h:x<i
  ·rw[List.getElem?_append_left]
   ·exact ih h
   ·rw[hl]
    calc x*k+j<x*k+k:=by omega
     _=(x+1)*k:=by rw[Nat.succ_mul]
     _<=i*k:=Nat.mul_le_mul_right k h
  ·obtain rfl:x=i:=by omega
   rw[List.getElem?_append_right (by rw[hl];omega),hl]
   simp
theorem flat_len {f:Nat->List Value} {k:Nat} (hk:∀ x,(f x).length=k) (i:Nat):((List.range i).flatMap f).length=i*k:=by
 induction i with
 | zero=>simp
 | succ i ih=>rw[List.range_succ,List.flatMap_append,List.length_append,ih];simp[hk];rw[Nat.succ_mul]
theorem flat_succ (f:Nat->List Value) (i:Nat):(List.range (i+1)).flatMap f=(List.range i).flatMap f++f i:=by
 rw[List.range_succ,List.flatMap_append];simp
structure EntM (W:World) (base:Nat) (R:List (List UInt8)) (gb cb:Nat):Prop where
 row:∃ (gs cs:Nat->Nat) (ge ce:Nat),W.ownsRow base tRs 1 (.slice (some ⟨gb,0,none⟩) (R.length+1) cb) (R.length+1) (fromV R.length (fun x=>.slice (some ⟨gs x,0,none⟩) (R.getD x []).length (cs x))++[.slice (some ⟨ge,0,none⟩) 1 ce])/\
  (∀ x,x<R.length->W.ownsRow base Dr.tU8 1 (.slice (some ⟨gs x,0,none⟩) ((R.getD x []).length+3) (cs x)) ((R.getD x []).length+3) (cU8 (R.getD x []++[81,82,83])))/\
  W.ownsRow base Dr.tU8 1 (.slice (some ⟨ge,0,none⟩) 1 ce) 1 (cU8 [84])
theorem own_lower {w:World} {b b':Nat} {e:TypeId} {size n:Nat} {v:Value} {xs:List Value} (h:w.ownsRow b e size v n xs) (hb:b'<=b):w.ownsRow b' e size v n xs:=by
 refine⟨h.1,?_⟩
 rcases h.2 with h2 | ⟨g,cap,cur,h1,h2,h3⟩
 ·exact .inl h2
 ·exact .inr ⟨g,cap,cur,h1,Nat.le_trans hb h2,h3⟩
section
variable {W W':World} {base gb cb:Nat} {R:List (List UInt8)}
theorem EntM.below (h:EntM W base R gb cb) (hb:Below W.heap.size W W'):EntM W' base R gb cb:=by
 obtain⟨gs,cs,ge,ce,h1,h2,h3⟩:=h.row
 exact⟨gs,cs,ge,ce,own_below h1 hb,fun x hx=>own_below (h2 x hx) hb,own_below h3 hb⟩
theorem EntM.lower (h:EntM W base R gb cb) {b:Nat} (hb:b<=base):EntM W b R gb cb:=by
 obtain⟨gs,cs,ge,ce,h1,h2,h3⟩:=h.row
 exact⟨gs,cs,ge,ce,own_lower h1 hb,fun x hx=>own_lower (h2 x hx) hb,own_lower h3 hb⟩
theorem EntM.grown (h:EntM W base R gb cb) {b n:Nat} {v:Value} {xs:List Value} (hv:W.ownsRow b tSeen 19 v n xs) (hg:W.grownBy W' v.ownBlock):EntM W' base R gb cb:=by
 obtain⟨gs,cs,ge,ce,h1,h2,h3⟩:=h.row
 exact⟨gs,cs,ge,ce,h1.kept hg (.inr (rows_ne h1 hv (by decide) rfl)),fun x hx=>(h2 x hx).kept hg (.inr (rows_ne (h2 x hx) hv (by decide) rfl)),h3.kept hg (.inr (rows_ne h3 hv (by decide) rfl))⟩
end
end Go.Proofs.YtmgljaecmchgaaaGreat.Gf
namespace Go.Proofs.YtmgljaecmchgaaaGreat.Gf
open Go.RowKit Go.Proofs
set_option maxRecDepth 100000 in
set_option maxHeartbeats 4000000 in
theorem sameInts_any {w:World} {B B':Nat} {A A':Option Addr} {n c c':Nat} {l:List Int} (h:Rd w B 1 A n (Dr.cInt l)) (h':Rd w B' 1 A' n (Dr.cInt l)) (hn:n<=17592186044416) :
  Calls Tryz.prog 10 #[.slice A n c,.slice A' n c'] w fun x w'=>x = .returned (.bool true)/\∃ k,w'=w.drewN k:=by
 have H:=Lib.hid h
 have H':=Hd h'
 clear h h'
 go_enter Tryz.func10,Tryz.ntmps10
 go_upto_region 4 with (fail)
 go_loopw [5] (fun iv wr=>∃ i:Nat,iv = .int .i64 (i:Int)/\i<=n/\∃ k,wr=w.drewN k) (fun iv _=>n - (intOf iv).toNat)
 case atStart=>exact⟨0,rfl,by omega,0,rfl⟩
 case round=>
  obtain⟨i,rfl,hi,k,rfl⟩:=hrel
  by_cases hlt:i<n
  ·have hl:l.length=n:=by simpa using H.out.1
   obtain⟨z,hz⟩:∃ z,(Dr.cInt l)[i]?=some (.int .i64 z):=⟨l[i]'(by omega),by rw[List.getElem?_map,List.getElem?_eq_getElem (by omega)];rfl⟩
   obtain⟨ad,rfl,_,a0⟩:=rd_get H.out hlt hz
   obtain⟨bd,rfl,_,b0⟩:=rd_get H'.out hlt hz
   have hi00:(0:Int)<=(i:Int):=by omega
   have hlt2:(i:Int)<(n:Int):=by omega
   clear hz hl
   go_upto_region 6 with (fail)
   go_quiet (fail)
   go_wp2
   go_roundw
   case rel=>exact⟨i+1,by go_num,by omega,_,rfl⟩
   case measure=>simp[intOf];omega
  ·obtain rfl:n=i:=by omega
   go_wp2
   go_ret
   exact⟨rfl,_,rfl⟩
end Go.Proofs.YtmgljaecmchgaaaGreat.Gf
namespace Go.Proofs.YtmgljaecmchgaaaGreat.Gf
open Go.RowKit Go.Proofs
structure Gt where
 down:Bool
 away:Bool
 plan:List (Int×Int)
 calls:Int
 rounds:Int
 laid:Bool
 rd:Int
 call:Int
 ins:Int
def Gt.new:Gt:=⟨false,false,[],0,0,false,0,0,0⟩
def Gt.arm (g:Gt) (l:List (Int×Int)):Gt:={g with plan:=l,calls:=0}
def Gt.offl (g:Gt) (b:Bool):Gt:={g with away:=b}
def Gt.fuse (g:Gt) (r c i:Int):Gt:={g with laid:=decide (0<=r),rd:=r,call:=c,ins:=i}
def Gt.struck (g:Gt):Bool:=g.laid&&(g.rd==0)
abbrev tFault:TypeId:=288
abbrev tFaults:TypeId:=91
abbrev tWound:TypeId:=125
abbrev tGate:TypeId:=118
abbrev tDisk:TypeId:=120
abbrev tFuse:TypeId:=188
theorem infoFt:(Tryz.prog.info? tFault).map (fun i=>(i.zero,i.size,i.bytes))=some (some (.agg #[.int .i64 0,.int .i64 0]),2,16):=by kernel_rfl
def cFt (l:List (Int×Int)):List Value:=l.flatMap fun f=>[.int .i64 f.1,.int .i64 f.2]
theorem cFt_one (l:List (Int×Int)):∀ u∈cFt l,u.oneCell'=true:=by
 intro u hu
 obtain⟨f,_,hf⟩:=List.mem_flatMap.1 hu
 simp at hf
 rcases hf with rfl | rfl<;>rfl
theorem run_copy_whole {P:Program} {w:World} (dT sT ty elem:TypeId) (g n k c B:Nat) (A:Option Addr) (cur:Array Value) (t:TypeId) (cs:List Value) (hu:P.underlying dT=some (.slice elem)) (hs:(P.info? elem).map (·.size)=some k)
  (hg:w.heap[g]?=some (.cells cur t (0,0))) (hcur:cur.size=n*k) (hr:Rd w B k A n cs) (h1:∀ v∈cs,v.oneCell'=true) :
  ∃ w',(Builtin.copy_ #[dT,sT] ty #[.slice (some ⟨g,0,none⟩) n n,.slice A n c]).run P w = .ok (goInt n) w'/\w'.heap[g]?=some (.cells cs.toArray t (0,0))/\w.grownBy w' (some g):=by
 cases hq:P.info? elem with
 | none=>simp[hq] at hs
 | some i=>
  have hi:i.size=k:=by simpa [hq] using hs
  cases A with
  | none=>
   have h0:n=0:=by
    rcases Nat.eq_zero_or_pos n with h0 | h0
    ·exact h0
    ·obtain⟨ad,e,_⟩:=hr.2 h0;cases e
   subst h0
   have hcs:cs=[]:=List.eq_nil_of_length_eq_zero (by simpa using hr.1)
   subst hcs
   have hcu:cur=#[]:=Array.eq_empty_of_size_eq_zero (by simpa using hcur)
   subst hcu
   refine⟨w,?_,hg,World.grownBy.refl w _⟩
   simp[Builtin.copy_,run_underlying hu,Builtin.lenOf,Builtin.firstCells,sizeOf,typeInfo,hq,storeCells,goInt]
  | some ad=>
   have hsrc:∀ j v,cs[j]?=some v->w.cell? (ad.add j)=some v:=fun j v hv=>by
    have hn:0<n:=by
     rcases Nat.eq_zero_or_pos n with h0 | h0
     ·subst h0
      have hcs:cs=[]:=List.eq_nil_of_length_eq_zero (by simpa using hr.1)
      subst hcs
      cases hv
     ·exact h0
    obtain⟨ad',e,_,hc⟩:=hr.2 hn
    injection e with e
    subst e
    exact hc j v hv
   have hl:=run_loadCells_list (P:=P) w ad cs hsrc
   have hst:(storeCells ⟨g,0,none⟩ cs 0).run P w = .ok () (w.setRow g cs.toArray):=by
    have h:=run_storeCells_at P g 0 t cs 0 cur w hg (by rw[hr.1];omega) h1
    have e:(cur.toList.drop cs.length)=[]:=List.drop_eq_nil_of_le (by rw[hr.1];simp;omega)
    simpa [e] using h
   refine⟨w.setRow g cs.toArray,?_,setRow_heap w g _ _ _ _ hg,⟨rfl,rfl,rfl,by simp[World.setRow],fun k _ hk=>setRow_other w g k _ (fun e=>hk (by rw[e]))⟩⟩
   rw[hr.1] at hl
   simp[Builtin.copy_,run_underlying hu,Builtin.lenOf,Builtin.firstCells,sizeOf,typeInfo,hq,hi,hl,hst,goInt]
end Go.Proofs.YtmgljaecmchgaaaGreat.Gf
