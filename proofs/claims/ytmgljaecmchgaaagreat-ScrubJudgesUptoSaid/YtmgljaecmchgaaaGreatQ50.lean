/- XWj1, XOp2, XSf1: merged by tools/merge.py. -/
import Derived.Test.YtmgljaecmchgaaaGreatQ39
import Derived.Test.YtmgljaecmchgaaaGreatQ46
import Derived.Test.YtmgljaecmchgaaaGreatQ49
import Derived.Test.YtmgljaecmchgaaaGreatQ47
import Derived.Test.YtmgljaecmchgaaaGreatQ38
set_option linter.unusedVariables false
set_option linter.unusedSimpArgs false
set_option linter.unusedSectionVars false
namespace Go.Proofs.YtmgljaecmchgaaaGreat.Gf
open Go.RowKit Go.Proofs
def tlC (nn:Bool) (key:List UInt8) (v:Vd) (pl sn:Value):List Value:=[.bool nn,.string ⟨key.toArray⟩,.int .i64 v.kind,.int .i64 v.ep,.int .i64 v.ct,.int .i64 v.size,pl,sn]
structure LentM (w:World) (g c n:Nat) (L:List Sn):Prop where
 out:∃ (base:Nat) (gbs cbs:Nat->Nat),n+2<=c/\
  w.ownsRow base tSeen 19 (.slice (some ⟨g,0,none⟩) (n+2) c) (n+2) (((List.range n).flatMap fun x=>snC (L.getD x default) (.slice (some ⟨gbs x,0,none⟩) (L.getD x default).blocks.length (cbs x)))++([.int .i64 77,.int .u8 0,.int .u8 0,.int .u8 0,.int .u8 0,.int .u8 0,.int .u8 0,.int .u8 0,.int .u8 0,.int .i64 0,.int .i64 0,.int .i64 0,.string ⟨#[]⟩,.int .i64 0,.int .i64 0,.int .i64 0,.int .i64 0,.slice none 0 0,.int .i64 0]++[.int .i64 78,.int .u8 0,.int .u8 0,.int .u8 0,.int .u8 0,.int .u8 0,.int .u8 0,.int .u8 0,.int .u8 0,.int .i64 0,.int .i64 0,.int .i64 0,.string ⟨#[]⟩,.int .i64 0,.int .i64 0,.int .i64 0,.int .i64 0,.slice none 0 0,.int .i64 0]))/\
  ∀ x,x<n->EntM w base (L.getD x default).blocks (gbs x) (cbs x)
section
variable {w w':World} {g c n:Nat} {L:List Sn}
theorem LentM.below (h:LentM w g c n L) (hb:Below w.heap.size w w'):LentM w' g c n L:=by
 obtain⟨base,gbs,cbs,h1,h2,h3⟩:=h.out
 exact⟨base,gbs,cbs,h1,own_below h2 hb,fun x hx=>(h3 x hx).below hb⟩
theorem LentM.sns (h:LentM w g c n L) (hl:L.length=n):SnsRd w w.heap.size (some ⟨g,0,none⟩) n L:=
 ⟨hl,fun i s hs=>by
  obtain⟨base,gbs,cbs,_,h1,h2⟩:=h.out
  have hi:i<n:=by have:=(List.getElem?_eq_some_iff.1 hs).1;omega
  have hd:L.getD i default=s:=by rw[List.getD_eq_getElem?_getD,hs];rfl
  have hr:=LentRow.range h1 hi
  have he:=h2 i hi
  rw[hd] at hr he
  obtain⟨cur,hc⟩:=Dr.own_lt h1 (g:=g) rfl
  exact⟨g,0,some ⟨gbs i,0,none⟩,cbs i,rfl,(Array.getElem?_eq_some_iff.1 hc).1,by rw[Nat.zero_add];exact hr,he.rows⟩⟩
theorem lent_m {B c0:Nat} {A:Option Addr} (hL:SnsIn w B A n L) (hB:B<=w.heap.size) (hn:n<=1048576) (hbn:∀ s∈L,s.blocks.length<=1048576) (hlen:∀ s∈L,∀ b∈s.blocks,b.length<=1048576) :
  Calls Tryz.prog 6 #[.slice A n c0] w fun x w'=>∃ g c,x = .returned (.slice (some ⟨g,0,none⟩) n c)/\LentM w' g c n L/\Below w.heap.size w w':=
 (lent_any hL hB hn hbn hlen).mono fun x w' h=>by
  obtain⟨g,c,gbs,cbs,rfl,h1,h2,h3⟩:=h.out
  exact⟨g,c,rfl,⟨_,gbs,cbs,h1,h2,h3⟩,h.back⟩
theorem kept_m {B c0:Nat} {A:Option Addr} (h:LentM w g c n L) (hL:SnsRd w B A n L) (hB:B<=w.heap.size) (hn:n<=1048576) (hbn:∀ s∈L,s.blocks.length<=1048576) (hlen:∀ s∈L,∀ b∈s.blocks,b.length<=1048576) :
  Calls Tryz.prog 9 #[.slice (some ⟨g,0,none⟩) n c,.slice A n c0] w fun x w'=>ShowOk w w' true x:=by
 obtain⟨base,gbs,cbs,_,h1,h2⟩:=h.out
 exact kept_lent hL hB hn hbn hlen h1 h2
end
section
variable {w:World} {fs:Nat->List (Dr.Bs×Dr.Bs)} {o:Nat->Option (Dr.D×Gt)} {n p q:Nat} {K M Bk ep ct:Int} {b:List UInt8} {vd vw vm:Value}
theorem setAt_of {x nd:Nat} {t:TypeId} {A:Option Addr} {c:Nat} (h:w.heap[x]?=some (.cells (setC (.slice A nd c) K M Bk b ep ct).toArray t (0,0))):SetAt w x nd K M Bk ep ct:=by
 refine⟨(Array.getElem?_eq_some_iff.1 h).1,⟨A,c,?_⟩,?_,?_,?_,?_,?_⟩<;>(rw[cell_of_row _ _ _ _ _ _ h];rfl)
theorem SetsAt.progAt (h:SetsAt w fs o n p q K M Bk b ep ct vd vw vm):SetAt w p n K M Bk ep ct:=by
 obtain⟨V,G,d,e,f,hr⟩:=h.rows
 obtain⟨A,c,rfl,_,_⟩:=own_form hr.rd
 exact setAt_of h.prog
theorem SetsAt.docAt (h:SetsAt w fs o n p q K M Bk b ep ct vd vw vm):SetAt w q n K M Bk ep ct:=by
 obtain⟨V,G,d,e,f,hr⟩:=h.rows
 obtain⟨A,c,rfl,_,_⟩:=own_form hr.rm
 exact setAt_of h.doc
noncomputable def toldB (nn:Bool) (K M Bk:Int) (n:Nat) (ep ct:Int) (ns:Nat) (v:Vd) (L:List Sn):List Fd:=if nn then [] else judged (askB K M Bk n ep ct ns) K v L
theorem judge_o {B ns c:Nat} {A:Option Addr} {nn:Bool} {key:List UInt8} {v:Vd} {pl v6:Value} {L:List Sn} (h:SetsAt w fs o n p q K M Bk b ep ct vd vw vm) (hv:v6=if nn then .pointer none else .pointer (some ⟨p,0,none⟩)) (hn:n<=1048576)
  (hL:SnsRd w B A ns L) (hB:B<=w.heap.size) (hpl:pl.oneCell'=true) (hbn:∀ s∈L,s.blocks.length<=1048576) (hlen:∀ s∈L,∀ b∈s.blocks,b.length<=1048576) :
  Calls Tryz.prog 7 #[v6,.string ⟨key.toArray⟩,.agg #[.int .i64 v.kind,.int .i64 v.ep,.int .i64 v.ct,.int .i64 v.size,pl],.slice A ns c] w fun x w'=>JudgeOk w w' key (toldB nn K M Bk n ep ct ns v L) x:=by
 subst hv
 cases nn with
 | true=>exact judge_nil
 | false=>exact judge_any hL hB hpl h.progAt (by omega) (fun s hs=>by have:=hbn s hs;omega) (fun s hs b hb=>by have:=hlen s hs b hb;omega)
theorem judgeR_o {B ns c:Nat} {A:Option Addr} {nn:Bool} {key:List UInt8} {v:Vd} {pl v5:Value} {L:List Sn} (h:SetsAt w fs o n p q K M Bk b ep ct vd vw vm) (hv:v5=if nn then .pointer none else .pointer (some ⟨q,0,none⟩)) (hn:n<=1048576)
  (hL:SnsRd w B A ns L) (hB:B<=w.heap.size) (hbn:∀ s∈L,s.blocks.length<=1048576) (hlen:∀ s∈L,∀ b∈s.blocks,b.length<=1048576) :
  Calls Tryz.prog 5 #[v5,.string ⟨key.toArray⟩,.agg #[.int .i64 v.kind,.int .i64 v.ep,.int .i64 v.ct,.int .i64 v.size,pl],.slice A ns c] w fun x w'=>JudgeOk w w' key (toldB nn K M Bk n ep ct ns v L) x:=by
 subst hv
 cases nn with
 | true=>exact judgeR_nil
 | false=>exact judgeR_any hL hB h.docAt (by omega) (fun s hs=>by have:=hbn s hs;omega) (fun s hs b hb=>by have:=hlen s hs b hb;omega)
end
theorem sets_storeAt (w:World) (a b c d e:Value) (h:(#[a,b,c,d,e]:Array Value).all (·.oneCell')=true):(Instr.storeAt tSets (.pointer (some ⟨w.heap.size,0,none⟩)) (.agg #[a,b,c,d,e])).run Tryz.prog (w.alloc (.cells #[.slice none 0 0,.slice none 0 0,.slice none 0 0,.pointer none,.pointer none] tSets)) = .ok () (w.alloc (.cells #[a,b,c,d,e] tSets)):=by
 have h:=run_storeVar_new (P:=Tryz.prog) w tSets #[.slice none 0 0,.slice none 0 0,.slice none 0 0,.pointer none,.pointer none] #[a,b,c,d,e] (by kernel_rfl) rfl h
 simp only[Instr.storeAt,Instr.sureAddr,Sem.run_bind,Sem.run_pure,Result.andThen_ok]
 exact h
theorem vd_storeAt (w:World) (a b c d e:Value) (h:(#[a,b,c,d,e]:Array Value).all (·.oneCell')=true):(Instr.storeAt tVd (.pointer (some ⟨w.heap.size,0,none⟩)) (.agg #[a,b,c,d,e])).run Tryz.prog (w.alloc (.cells #[.int .i64 0,.int .i64 0,.int .i64 0,.int .i64 0,.slice none 0 0] tVd)) = .ok () (w.alloc (.cells #[a,b,c,d,e] tVd)):=by
 have h:=run_storeVar_new (P:=Tryz.prog) w tVd #[.int .i64 0,.int .i64 0,.int .i64 0,.int .i64 0,.slice none 0 0] #[a,b,c,d,e] (by kernel_rfl) rfl h
 simp only[Instr.storeAt,Instr.sureAddr,Sem.run_bind,Sem.run_pure,Result.andThen_ok]
 exact h
theorem infoIn:(Tryz.prog.info? 3).map (fun i=>(i.zero,i.size,i.bytes))=some (some (.int .i64 0),1,8):=by kernel_rfl
end Go.Proofs.YtmgljaecmchgaaaGreat.Gf
namespace Go.Proofs.YtmgljaecmchgaaaGreat.Gf
open Go.RowKit Go.Proofs
theorem flatMap_get {α:Type} {cells:α->List Value} {k:Nat} (hk:∀ x,(cells x).length=k):∀ (l:List α) (j:Nat) (u:Value),(l.flatMap cells)[j]?=some u->∃ i x r,l[i]?=some x/\j=i*k+r/\(cells x)[r]?=some u
 | [],j,u,h=>by simp at h
 | a::l,j,u,h=>by
  rw[List.flatMap_cons] at h
  rcases Nat.lt_or_ge j k with hj | hj
  ·rw[List.getElem?_append_left (by rw[hk];exact hj)] at h
   exact⟨0,a,j,rfl,by omega,h⟩
  ·rw[List.getElem?_append_right (by rw[hk];exact hj),hk] at h
   obtain⟨i,x,r,h1,h2,h3⟩:=flatMap_get hk l (j - k) u h
   exact⟨i+1,x,r,h1,by rw[Nat.add_mul];omega,h3⟩
theorem row_rd {α:Type} {cells:α->List Value} {k n B:Nat} {w:World} {A:Option Addr} {l:List α} (h:Dr.Row k cells w B A n l) (hk:∀ x,(cells x).length=k):Rd w B k A n (l.flatMap cells):=by
 refine⟨?_,fun hn=>?_⟩
 ·have hl:=h.1
  clear h
  induction l generalizing n with
  | nil=>simp at hl;subst hl;simp
  | cons a l ih=>rw[List.flatMap_cons,List.length_append,hk,ih (n:=l.length) rfl,<-hl,List.length_cons,Nat.add_mul];omega
 ·obtain⟨b,o,rfl,hb,hc⟩:=h.2 hn
  refine⟨_,rfl,hb,fun j u hu=>?_⟩
  obtain⟨i,x,r,h1,rfl,h3⟩:=flatMap_get hk l j u hu
  rw[Addr.add_mid,<-Nat.add_assoc]
  exact hc i x h1 r u h3
section
variable {H:Type} {enc:TypeId×Value->H} {W:World}
set_option maxRecDepth 100000 in
theorem open_faults {fuel:Nat} {cs:List Value} {x:DataW H×List MemPlace} (h:DataW.trod enc Tryz.prog W 0 (fun _=>true) true fuel tFaults cs=some x) (hb:Rows.uptoBulk x.1<=1048576) :
  ∃ A n c plan,cs=[.slice A n c]/\Rd W W.heap.size 2 A n (cFt plan)/\(A=none->c=0)/\n=plan.length/\n<=1048576:=by
 obtain⟨A,n,c,l,hcs,hl,_,_,hz,hbk,h0,hi⟩:=Dr.open_row (α:=Int×Int) (R:=fun u cs _=>cs=[.int .i64 u.1,.int .i64 u.2]) Tryz.underlying91 (by kernel_rfl:_=2) (by omega) (fun fuel cs y p hy=>by
  obtain⟨xs,n,_,hx,hlen,hxl,hf⟩:=DataW.trod_struct Tryz.underlying288 hy
  rw[show Tryz.prog.cellsOf 288=2 by kernel_rfl] at hlen
  obtain⟨c0,c1,rfl⟩:∃ a b,cs=[a,b]:=by
   match cs,hlen with
   | [a,b],_=>exact⟨a,b,rfl⟩
  obtain⟨_,_,t0⟩:=Dr.field hxl hf (i:=0) rfl (t:=3) (k:=1) (o:=0) rfl rfl (by kernel_rfl)
  obtain⟨_,_,t1⟩:=Dr.field hxl hf (i:=1) rfl (t:=3) (k:=1) (o:=1) rfl rfl (by kernel_rfl)
  obtain⟨a,rfl,_⟩:=open_int Tryz.underlying3 t0
  obtain⟨b,rfl,_⟩:=open_int Tryz.underlying3 t1
  exact⟨(a,b),rfl⟩) h
 exact⟨A,n,c,l,hcs,row_rd (Dr.row_of (cells:=fun u:Int×Int=>[.int .i64 u.1,.int .i64 u.2]) hl h0 hi fun _ _ _ e=>e) (fun _=>rfl),hz,hl.symm,by omega⟩
theorem files_ro {A:Option Addr} {n:Nat} {l:List Dr.Fl} (h:Dr.Files W W.heap.size A n l):Dr.FilesRo W A n (l.map fun x=>(x.name,x.data)):=by
 refine⟨by simp[h.1.1],fun i f hf=>?_⟩
 rw[List.getElem?_map] at hf
 cases hk:l[i]? with
 | none=>rw[hk] at hf;cases hf
 | some u=>
  rw[hk] at hf
  injection hf with hf
  subst hf
  have hin:=(List.getElem?_eq_some_iff.1 hk).1
  have hn:=h.1.1
  obtain⟨b,o,rfl,hb,hc⟩:=h.1.2 (by omega)
  have h2:=h.2.1 u (List.mem_of_getElem? hk)
  have hd:u.data.length=u.n:=by have:=h2.data.1;simpa using this
  have hr:=hc i u hk
  refine⟨b,o,u.A,u.c,rfl,hb,hr 0 _ rfl,?_,?_,h2.nil⟩
  ·show W.cell? ⟨b,o+i*2+1,none⟩=some (.slice u.A u.data.length u.c)
   rw[hd]
   exact hr 1 _ rfl
  ·show Rd W W.heap.size 1 u.A u.data.length (cU8 u.data)
   rw[hd]
   exact h2.data
structure PlE where
 P:Plm
 Af:Option Addr
 nf:Nat
 cf:Nat
 Ap:Option Addr
 np:Nat
 cp:Nat
def PlE.In (W:World) (u:PlE):Prop:=Dr.FilesRo W u.Af u.nf u.P.fs/\Rd W W.heap.size 2 u.Ap u.np (cFt u.P.plan)/\(u.Ap=none->u.cp=0)/\u.np=u.P.plan.length/\u.P.Small
instance:Inhabited PlE:=⟨⟨⟨false,0,[],[],false,false,0,0,0⟩,none,0,0,none,0,0⟩⟩
set_option maxRecDepth 100000 in
set_option maxHeartbeats 1000000 in
theorem open_place {fuel:Nat} {cs:List Value} {x:DataW H×List MemPlace} (h:DataW.trod enc Tryz.prog W 0 (fun _=>true) true fuel tPlc cs=some x) (hb:Rows.uptoBulk x.1<=1048576) :
  ∃ u:PlE,cs=plC u.P (.slice u.Af u.nf u.cf) (.slice u.Ap u.np u.cp)/\u.In W:=by
 obtain⟨xs,n,_,hx,hlen,hxl,hf⟩:=DataW.trod_struct Tryz.underlying93 h
 rw[show Tryz.prog.cellsOf 93=9 by kernel_rfl] at hlen
 obtain⟨c0,c1,c2,c3,c4,c5,c6,c7,c8,rfl⟩:∃ c0 c1 c2 c3 c4 c5 c6 c7 c8,cs=[c0,c1,c2,c3,c4,c5,c6,c7,c8]:=by
  match cs,hlen with
  | [c0,c1,c2,c3,c4,c5,c6,c7,c8],_=>exact⟨c0,c1,c2,c3,c4,c5,c6,c7,c8,rfl⟩
 rw[hx] at hb
 dsimp only at hb
 obtain⟨_,_,t0⟩:=Dr.field hxl hf (i:=0) rfl (t:=4) (k:=1) (o:=0) rfl rfl (by kernel_rfl)
 obtain⟨_,_,t1⟩:=Dr.field hxl hf (i:=1) rfl (t:=3) (k:=1) (o:=1) rfl rfl (by kernel_rfl)
 obtain⟨y2,e2,t2⟩:=Dr.field hxl hf (i:=2) rfl (t:=90) (k:=1) (o:=2) rfl rfl (by kernel_rfl)
 obtain⟨y3,e3,t3⟩:=Dr.field hxl hf (i:=3) rfl (t:=tFaults) (k:=1) (o:=3) rfl rfl (by kernel_rfl)
 obtain⟨_,_,t4⟩:=Dr.field hxl hf (i:=4) rfl (t:=4) (k:=1) (o:=4) rfl rfl (by kernel_rfl)
 obtain⟨_,_,t5⟩:=Dr.field hxl hf (i:=5) rfl (t:=4) (k:=1) (o:=5) rfl rfl (by kernel_rfl)
 obtain⟨_,_,t6⟩:=Dr.field hxl hf (i:=6) rfl (t:=3) (k:=1) (o:=6) rfl rfl (by kernel_rfl)
 obtain⟨_,_,t7⟩:=Dr.field hxl hf (i:=7) rfl (t:=3) (k:=1) (o:=7) rfl rfl (by kernel_rfl)
 obtain⟨_,_,t8⟩:=Dr.field hxl hf (i:=8) rfl (t:=3) (k:=1) (o:=8) rfl rfl (by kernel_rfl)
 have b2:=Dr.part_bulk e2
 have b3:=Dr.part_bulk e3
 obtain⟨has,rfl⟩:=open_flag Tryz.underlying4 t0
 obtain⟨room,rfl,_⟩:=open_int Tryz.underlying3 t1
 obtain⟨Af,nf,cf,l,v2,hfl⟩:=Dr.open_files t2 (by omega)
 obtain⟨Ap,np,cp,plan,v3,hpl,hpc,hpn,hpm⟩:=open_faults t3 (by omega)
 obtain⟨off,rfl⟩:=open_flag Tryz.underlying4 t4
 obtain⟨laid,rfl⟩:=open_flag Tryz.underlying4 t5
 obtain⟨rd,rfl,_⟩:=open_int Tryz.underlying3 t6
 obtain⟨call,rfl,_⟩:=open_int Tryz.underlying3 t7
 obtain⟨ins,rfl,_⟩:=open_int Tryz.underlying3 t8
 injection v2 with v2 _
 injection v3 with v3 _
 subst v2 v3
 refine⟨⟨⟨has,room,l.map fun x=>(x.name,x.data),plan,off,laid,rd,call,ins⟩,Af,nf,cf,Ap,np,cp⟩,rfl,files_ro hfl,hpl,hpc,hpn,⟨?_,fun f hf=>?_,by show plan.length<=_;omega⟩⟩
 ·show (l.map fun x=>(x.name,x.data)).length<=_
  rw[List.length_map,hfl.1.1]
  exact hfl.2.2
 ·obtain⟨u,hu,rfl⟩:=List.mem_map.1 hf
  have h2:=hfl.2.1 u hu
  have hd:u.data.length=u.n:=by have:=h2.data.1;simpa using this
  exact⟨h2.name,by show u.data.length<=_;rw[hd];exact h2.n_le⟩
set_option maxRecDepth 100000 in
theorem open_places {fuel:Nat} {cs:List Value} {x:DataW H×List MemPlace} (h:DataW.trod enc Tryz.prog W 0 (fun _=>true) true fuel 22 cs=some x) (hb:Rows.uptoBulk x.1<=1048576) :
  ∃ (A:Option Addr) (n c:Nat) (Ps:List Plm) (g o:Nat),cs=[.slice A n c]/\Ps.length=n/\n<=1048576/\(∀ P∈Ps,P.Small)/\(0<n->A=some ⟨g,o,none⟩/\g<W.heap.size)/\∀ (i:Nat) (P:Plm),Ps[i]?=some P->PlmAt W W.heap.size ⟨g,o+i*9,none⟩ P:=by
 obtain⟨A,n,c,l,hcs,hl,_,_,hz,hbk,h0,hi⟩:=Dr.open_row (α:=PlE) (R:=fun u cs y=>Rows.uptoBulk y<=1048576->cs=plC u.P (.slice u.Af u.nf u.cf) (.slice u.Ap u.np u.cp)/\u.In W) Tryz.underlying22 (by kernel_rfl:_=9) (by omega) (fun fuel cs y p hy=>by
  by_cases hq:Rows.uptoBulk y<=1048576
  ·obtain⟨u,hu⟩:=open_place hy hq
   exact⟨u,fun _=>hu⟩
  ·exact⟨default,fun h=>absurd h hq⟩) h
 obtain⟨g,o,hg⟩:∃ g o,0<n->A=some ⟨g,o,none⟩/\g<W.heap.size:=by
  rcases Nat.eq_zero_or_pos n with hn | hn
  ·exact⟨0,0,fun h=>by omega⟩
  ·obtain⟨g,o,h1,h2⟩:=h0 hn
   exact⟨g,o,fun _=>⟨h1,h2⟩⟩
 refine⟨A,n,c,l.map (·.P),g,o,hcs,by simp[hl],by omega,fun P hP=>?_,hg,fun i P hP=>?_⟩
 ·obtain⟨u,hu,rfl⟩:=List.mem_map.1 hP
  obtain⟨k,hk,rfl⟩:=List.getElem_of_mem hu
  obtain⟨cs',y,h1,_,h3,_⟩:=hi k _ (List.getElem?_eq_getElem hk)
  exact (h1 (by omega)).2.2.2.2.2
 ·rw[List.getElem?_map] at hP
  cases hk:l[i]? with
  | none=>rw[hk] at hP;cases hP
  | some u=>
   rw[hk] at hP
   injection hP with hP
   subst hP
   have hin:=(List.getElem?_eq_some_iff.1 hk).1
   obtain⟨cs',y,h1,_,h3,h4⟩:=hi i u hk
   obtain⟨rfl,h5,h6,h7,h8,_⟩:=h1 (by omega)
   exact⟨u.Af,u.nf,u.cf,u.Ap,u.np,u.cp,h4 g o (hg (by omega)).1,h5,h6,h7,h8⟩
set_option maxRecDepth 100000 in
set_option maxHeartbeats 1000000 in
theorem open_shown {fuel:Nat} {cs:List Value} {x:DataW H×List MemPlace} (h:DataW.trod enc Tryz.prog W 0 (fun _=>true) true fuel 35 cs=some x) (hb:Rows.uptoBulk x.1<=1048576) :
  ∃ (A:Option Addr) (n c:Nat) (Ps:List Plm) (g o:Nat) (K M Bk ep ct:Int) (b:List UInt8) (nn:Bool) (key:Dr.Bs) (v:Vd) (Av:Option Addr) (nv cv:Nat) (pl:List Int) (As:Option Addr) (ns ca:Nat) (L:List Sn),
   cs=setC (.slice A n c) K M Bk b ep ct++tlC nn key v (.slice Av nv cv) (.slice As ns ca)/\
   (Ps.length=n/\n<=1048576/\(∀ P∈Ps,P.Small)/\(0<n->A=some ⟨g,o,none⟩/\g<W.heap.size)/\∀ (i:Nat) (P:Plm),Ps[i]?=some P->PlmAt W W.heap.size ⟨g,o+i*9,none⟩ P)/\
   (Rd W W.heap.size 1 Av nv (Dr.cInt pl)/\(Av=none->cv=0)/\nv<=1048576)/\
   SnsIn W W.heap.size As ns L/\ns<=1048576/\(∀ s∈L,s.blocks.length<=1048576)/\∀ s∈L,∀ b∈s.blocks,b.length<=1048576:=by
 obtain⟨xs,n,_,hx,hlen,hxl,hf⟩:=DataW.trod_struct Tryz.underlying35 h
 rw[show Tryz.prog.cellsOf 35=22 by kernel_rfl] at hlen
 obtain⟨c0,c1,c2,c3,c4,c5,c6,c7,c8,c9,c10,c11,c12,c13,c14,c15,c16,c17,c18,c19,c20,c21,rfl⟩:∃ c0 c1 c2 c3 c4 c5 c6 c7 c8 c9 c10 c11 c12 c13 c14 c15 c16 c17 c18 c19 c20 c21,cs=[c0,c1,c2,c3,c4,c5,c6,c7,c8,c9,c10,c11,c12,c13,c14,c15,c16,c17,c18,c19,c20,c21]:=by
  match cs,hlen with
  | [c0,c1,c2,c3,c4,c5,c6,c7,c8,c9,c10,c11,c12,c13,c14,c15,c16,c17,c18,c19,c20,c21],_=>exact⟨c0,c1,c2,c3,c4,c5,c6,c7,c8,c9,c10,c11,c12,c13,c14,c15,c16,c17,c18,c19,c20,c21,rfl⟩
 rw[hx] at hb
 dsimp only at hb
 obtain⟨y0,e0,t0⟩:=Dr.field hxl hf (i:=0) rfl (t:=29) (k:=14) (o:=0) rfl rfl (by kernel_rfl)
 obtain⟨_,_,t1⟩:=Dr.field hxl hf (i:=1) rfl (t:=4) (k:=1) (o:=14) rfl rfl (by kernel_rfl)
 obtain⟨y2,e2,t2⟩:=Dr.field hxl hf (i:=2) rfl (t:=9) (k:=1) (o:=15) rfl rfl (by kernel_rfl)
 obtain⟨y3,e3,t3⟩:=Dr.field hxl hf (i:=3) rfl (t:=32) (k:=5) (o:=16) rfl rfl (by kernel_rfl)
 obtain⟨y4,e4,t4⟩:=Dr.field hxl hf (i:=4) rfl (t:=33) (k:=1) (o:=21) rfl rfl (by kernel_rfl)
 have b0:=Dr.part_bulk e0
 have b2:=Dr.part_bulk e2
 have b3:=Dr.part_bulk e3
 have b4:=Dr.part_bulk e4
 obtain⟨nn,rfl⟩:=open_flag Tryz.underlying4 t1
 obtain⟨key,v2,_⟩:=Dr.open_text Tryz.underlying9 t2 (by omega)
 obtain⟨As,ns,ca,L,v4,hL,hns,hL1,hL2⟩:=open_sns t4 (by omega)
 obtain⟨zs,n2,_,hz,_,hzl,hzf⟩:=DataW.trod_struct Tryz.underlying29 t0
 rw[hz] at b0
 dsimp only at b0
 obtain⟨y5,e5,t5⟩:=Dr.field hzl hzf (i:=0) rfl (t:=22) (k:=1) (o:=0) rfl rfl (by kernel_rfl)
 obtain⟨_,_,t6⟩:=Dr.field hzl hzf (i:=1) rfl (t:=24) (k:=3) (o:=1) rfl rfl (by kernel_rfl)
 obtain⟨_,_,t7⟩:=Dr.field hzl hzf (i:=2) rfl (t:=25) (k:=8) (o:=4) rfl rfl (by kernel_rfl)
 obtain⟨_,_,t8⟩:=Dr.field hzl hzf (i:=3) rfl (t:=27) (k:=2) (o:=12) rfl rfl (by kernel_rfl)
 have b5:=Dr.part_bulk e5
 obtain⟨A,np,c,Ps,g,o,v5,hP⟩:=open_places t5 (by omega)
 obtain⟨b,rfl,rfl,rfl,rfl,rfl,rfl,rfl,rfl⟩:=open_store t7
 obtain⟨ss,n4,_,_,_,hsl,hsf⟩:=DataW.trod_struct Tryz.underlying24 t6
 obtain⟨_,_,s0⟩:=Dr.field hsl hsf (i:=0) rfl (t:=3) (k:=1) (o:=0) rfl rfl (by kernel_rfl)
 obtain⟨_,_,s1⟩:=Dr.field hsl hsf (i:=1) rfl (t:=3) (k:=1) (o:=1) rfl rfl (by kernel_rfl)
 obtain⟨_,_,s2⟩:=Dr.field hsl hsf (i:=2) rfl (t:=3) (k:=1) (o:=2) rfl rfl (by kernel_rfl)
 obtain⟨K,rfl,_⟩:=open_int Tryz.underlying3 s0
 obtain⟨M,rfl,_⟩:=open_int Tryz.underlying3 s1
 obtain⟨Bk,rfl,_⟩:=open_int Tryz.underlying3 s2
 obtain⟨gs,n5,_,_,_,hgl,hgf⟩:=DataW.trod_struct Tryz.underlying27 t8
 obtain⟨_,_,g0⟩:=Dr.field hgl hgf (i:=0) rfl (t:=3) (k:=1) (o:=0) rfl rfl (by kernel_rfl)
 obtain⟨_,_,g1⟩:=Dr.field hgl hgf (i:=1) rfl (t:=3) (k:=1) (o:=1) rfl rfl (by kernel_rfl)
 obtain⟨ep,rfl,_⟩:=open_int Tryz.underlying3 g0
 obtain⟨ct,rfl,_⟩:=open_int Tryz.underlying3 g1
 obtain⟨qs,n3,_,hq,_,hql,hqf⟩:=DataW.trod_struct Tryz.underlying32 t3
 rw[hq] at b3
 dsimp only at b3
 obtain⟨_,_,u0⟩:=Dr.field hql hqf (i:=0) rfl (t:=3) (k:=1) (o:=0) rfl rfl (by kernel_rfl)
 obtain⟨_,_,u1⟩:=Dr.field hql hqf (i:=1) rfl (t:=27) (k:=2) (o:=1) rfl rfl (by kernel_rfl)
 obtain⟨_,_,u2⟩:=Dr.field hql hqf (i:=2) rfl (t:=3) (k:=1) (o:=3) rfl rfl (by kernel_rfl)
 obtain⟨y9,e9,u3⟩:=Dr.field hql hqf (i:=3) rfl (t:=30) (k:=1) (o:=4) rfl rfl (by kernel_rfl)
 have b9:=Dr.part_bulk e9
 obtain⟨kind,rfl,_⟩:=open_int Tryz.underlying3 u0
 obtain⟨size,rfl,_⟩:=open_int Tryz.underlying3 u2
 obtain⟨Av,nv,cv,pl,v9,hpl,_,hpz,hpn⟩:=Dr.open_nums Tryz.underlying30 u3 (by omega)
 obtain⟨hs2,n6,_,_,_,hhl,hhf⟩:=DataW.trod_struct Tryz.underlying27 u1
 obtain⟨_,_,g2⟩:=Dr.field hhl hhf (i:=0) rfl (t:=3) (k:=1) (o:=0) rfl rfl (by kernel_rfl)
 obtain⟨_,_,g3⟩:=Dr.field hhl hhf (i:=1) rfl (t:=3) (k:=1) (o:=1) rfl rfl (by kernel_rfl)
 obtain⟨vep,rfl,_⟩:=open_int Tryz.underlying3 g2
 obtain⟨vct,rfl,_⟩:=open_int Tryz.underlying3 g3
 injection v2 with v2 _
 injection v4 with v4 _
 injection v5 with v5 _
 injection v9 with v9 _
 subst v2 v4 v5 v9
 exact⟨A,np,c,Ps,g,o,K,M,Bk,ep,ct,b,nn,key,⟨kind,vep,vct,size⟩,Av,nv,cv,pl,As,ns,ca,L,rfl,hP,⟨hpl,hpz,hpn⟩,hL,hns,hL1,hL2⟩
end
end Go.Proofs.YtmgljaecmchgaaaGreat.Gf
namespace Go.Proofs.YtmgljaecmchgaaaGreat.Dr
open Go.RowKit Go.Proofs
theorem FilesRd.below {w w':World} {A:Option Addr} {n:Nat} {fs:List (Bs×Bs)} (h:FilesRd w A n fs) (hb:Below w.heap.size w w'):FilesRd w' A n fs:=by
 refine⟨h.1,fun i f hf=>?_⟩
 obtain⟨g,Af,cf,e,hg,h1,h2,h3⟩:=h.2 i f hf
 exact⟨g,Af,cf,e,Nat.lt_of_lt_of_le hg hb.size,(hb.cell (p:=⟨g,i*2,none⟩) hg).trans h1,(hb.cell (p:=⟨g,i*2+1,none⟩) hg).trans h2,h3.next hb⟩
set_option maxRecDepth 100000 in
set_option maxHeartbeats 4000000 in
theorem sameFiles_any {w:World} {A A':Option Addr} {n c c':Nat} {fs:List (Bs×Bs)} (h:FilesRd w A n fs) (h':FilesRd w A' n fs) (hn:n<=17592186044416) :
  Calls Tryz.prog 38 #[.slice A n c,.slice A' n c'] w fun x w'=>x = .returned (.bool true)/\Below w.heap.size w w':=by
 have H:=Lib.hid h
 have H':=Hd h'
 clear h h'
 go_enter Tryz.func38,Tryz.ntmps38
 go_upto_region 4 with (fail)
 go_loopw [5] (fun iv wr=>∃ i:Nat,iv = .int .i64 (i:Int)/\i<=n/\Below w.heap.size w wr) (fun iv _=>n - (intOf iv).toNat)
 case atStart=>exact⟨0,rfl,by omega,Below.refl _ _⟩
 case round=>
  obtain⟨i,rfl,hi,hb⟩:=hrel
  by_cases hlt:i<n
  ·obtain⟨f,hf⟩:∃ f,fs[i]?=some f:=⟨_,List.getElem?_eq_getElem (by have:=H.out.1;omega)⟩
   obtain⟨g,Af,cf,rfl,hg,a0,a1,ar⟩:=(H.out.below hb).2 i f hf
   obtain⟨g',Af',cf',rfl,hg',b0,b1,br⟩:=(H'.out.below hb).2 i f hf
   have t1:=run_text (P:=Tryz.prog) wr.drew 79 9 5 Tryz.underlying79 Tryz.underlying5 Tryz.underlying9 cf ar.drew
   have t2:=run_text (P:=Tryz.prog) wr.drew 79 9 5 Tryz.underlying79 Tryz.underlying5 Tryz.underlying9 cf' br.drew
   have d1:wr.drew.cell? ⟨g,i*2,none⟩=_:=a0
   have d2:wr.drew.cell? ⟨g,i*2+1,none⟩=_:=a1
   have d3:wr.drew.cell? ⟨g',i*2,none⟩=_:=b0
   have d4:wr.drew.cell? ⟨g',i*2+1,none⟩=_:=b1
   have hlt2:(i:Int)<(n:Int):=by omega
   have HB:=Hd hb
   clear hb hf hg hg' ar br
   go_upto_region 6 with (fail)
   go_region
   go_wp2
   have hb2:Below w.heap.size w wr.drew:=HB.out.trans ⟨rfl,rfl,rfl,Nat.le_refl _,fun _ _=>rfl⟩
   have HB2:=Hd hb2
   clear hb2 a0 a1 b0 b1 d1 d2 d3 d4 t1 t2
   go_roundw
   case rel=>exact⟨i+1,by go_num,by omega,HB2.out⟩
   case measure=>simp[intOf];omega
  ·obtain rfl:n=i:=by omega
   have HB:=Hd hb
   clear hb
   go_wp2
   go_ret
   exact⟨rfl,HB.out⟩
end Go.Proofs.YtmgljaecmchgaaaGreat.Dr
