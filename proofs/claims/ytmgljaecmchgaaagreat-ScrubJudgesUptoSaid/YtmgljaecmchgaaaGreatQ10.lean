/- XK06: merged by tools/merge.py. -/
import Derived.ProofKit
import Derived.OpenShut
import Derived.ShutString
import Derived.ChangeOld
import Derived.SizedLaws
import Derived.SliceStrings
import Derived.Test.YtmgljaecmchgaaaGreatQ05
import Derived.Deep.Slices
import Derived.Deep.MidRow
import Derived.DataReads
import Derived.ChangeArms
import Derived.Deep.CutRange
import Derived.Deep.CutBlock
import Derived.Test.YtmgljaecmchgaaaGreatQ09
import Derived.Deep.RegionHeld3
import Derived.Deep.AppendLies
import Derived.Test.YtmgljaecmchgaaaGreatQ07
import Derived.Test.YtmgljaecmchgaaaGreatQ01
set_option linter.unusedVariables false
set_option linter.unusedSimpArgs false
set_option linter.unusedSectionVars false
namespace Go.Proofs.YtmgljaecmchgaaaGreat
open Go.ChangeShapes Go.WideShapes Go.ChangeAt Go.RowKit Go.Proofs
open Go.ChangeMaps (open_string shut_string)
theorem block_of_cell {w:World} {a:Addr} {v:Value} (h:w.cell? a=some v):a.block<w.heap.size:=by
 unfold World.cell? at h
 rcases Nat.lt_or_ge a.block w.heap.size with hlt | hge
 ·exact hlt
 ·rw[Array.getElem?_eq_none hge] at h;cases h
theorem shut_true {H:Type} {enc:TypeId×Value->H} {P:Program} {f:Func} {s:ChangeSpec} {W W':World} {args:Array Value} {ds:List (DataW H)} {p:List MemPlace}
  (tb:TypeId) (hb:P.underlying tb=some .bool) (hres:f.resultTypes=#[tb])
  (hW:DataW.Whole enc P f.params.toList s.vars false W args.toList ds [] (p++[]))
  (hs:(s.fn H ds).results=[.lit (.bool true)]/\(s.fn H ds).args=ds/\(s.fn H ds).vars=[]) (hv:s.vars=[])
  (hargs:DataW.TrodAll enc P W' 0 (fun b=>decide (b<W.heap.size)) true f.params.toList args.toList ds p)
  (bel:Below W.heap.size W W'):s.post enc P f false true false false W args (.bool true) W':=by
 refine⟨_,_,_,[],p,[],hW,?_,?_,?_,bel.frame _,fun h=>by cases h⟩
 ·rw[List.append_nil,hs.1,hres]
  exact trodAll_mk1 (shut_bool hb _)
 ·rw[List.append_nil,hs.2.1];exact hargs
 ·rw[List.append_nil,hs.2.2,hv];rfl
end Go.Proofs.YtmgljaecmchgaaaGreat
namespace Go.Proofs.YtmgljaecmchgaaaGreat.Dr
open Go.ChangeShapes Go.WideShapes Go.ChangeAt Go.RowKit Go.Proofs Go.Deep Go.Proofs.YtmgljaecmchgaaaGreat.Ring
def Row {α:Type} (k:Nat) (cells:α->List Value) (w:World) (B:Nat) (A:Option Addr) (n:Nat) (l:List α):Prop:=
 l.length=n/\(0<n->∃ b o,A=some ⟨b,o,none⟩/\b<B/\∀ i x,l[i]?=some x->w.rangeAt b (o+i*k) (cells x))
section
variable {α:Type} {k:Nat} {cells:α->List Value} {w w':World} {B n:Nat} {A:Option Addr} {l:List α}
theorem Row.rd {f:α->Value} (h:Row 1 (fun x=>[f x]) w B A n l):Rd w B 1 A n (l.map f):=by
 refine⟨by simp[h.1],fun hn=>?_⟩
 obtain⟨b,o,e,hb,hc⟩:=h.2 hn
 refine⟨_,e,hb,fun j u hu=>?_⟩
 rw[List.getElem?_map] at hu
 cases hl:l[j]? with
 | none=>rw[hl] at hu;cases hu
 | some x=>
  rw[hl] at hu
  cases hu
  have:=hc j x hl 0 (f x) rfl
  unfold Addr.add
  rw[Nat.mul_one,Nat.add_zero] at this
  by_cases hj:j=0
  ·subst hj;simpa using this
  ·simpa [hj] using this
end
section
variable {H:Type} {enc:TypeId×Value->H} {P:Program} {W:World}
set_option maxRecDepth 100000 in
theorem open_row {α:Type} [Inhabited α] {t e:TypeId} {k:Nat} {R:α->List Value->DataW H->Prop} (ht:P.underlying t=some (.slice e)) (hk:P.cellsOf e=k) (hk0:0<k)
  (hv:∀ fuel cs y p,DataW.trod enc P W 0 (fun _=>true) true fuel e cs=some (y,p)->∃ x,R x cs y) {fuel:Nat} {cs:List Value} {x:DataW H×List MemPlace}
  (h:DataW.trod enc P W 0 (fun _=>true) true fuel t cs=some x) :
  ∃ (A:Option Addr) (n c:Nat) (l:List α),cs=[.slice A n c]/\l.length=n/\n<=c/\c<=maxLen/\(A=none->c=0)/\n+1<=Rows.uptoBulk x.1/\(0<n->∃ b o,A=some ⟨b,o,none⟩/\b<W.heap.size)/\
   ∀ i u,l[i]?=some u->∃ cs' y,R u cs' y/\cs'.length=k/\Rows.uptoBulk y+1<=Rows.uptoBulk x.1/\∀ b o,A=some ⟨b,o,none⟩->W.rangeAt b (o+i*k) cs':=by
 subst hk
 rcases open_slice ht h with ⟨hcs,hx⟩ | ⟨a,len,cap,m,n,D,Pl,hcs,_,hl,hm,hz,hx,hi⟩
 ·subst hx
  exact⟨none,0,0,[],hcs,rfl,Nat.le_refl _,Nat.zero_le _,fun _=>rfl,by simp[Rows.uptoBulk],fun h=>absurd h (by omega),fun i u hu=>by cases hu⟩
 ·simp only[if_true] at hz
  subst hz
  have spot0:0<len->a.spot=none:=by
   intro h0
   obtain⟨cs',h1,h2⟩:=hi 0 (by omega)
   obtain⟨_,hcl,hat⟩:=World.cells?_some h1
   have h0:=hat 0 hk0
   rw[List.getElem?_eq_getElem (by omega),Deep.add_add,Nat.zero_mul] at h0
   have:=World.cell?_spot h0
   simpa [Addr.add] using this
  have each:∀ i,i<len->∃ u:α,∃ cs' y,R u cs' y/\y=D i/\cs'.length=P.cellsOf e/\a.spot=none/\a.block<W.heap.size/\∀ b o,a=⟨b,o,none⟩->W.rangeAt b (o+i*P.cellsOf e) cs':=by
   intro i hin
   obtain⟨cs',h1,h2⟩:=hi i (by omega)
   obtain⟨u,hu⟩:=hv n cs' _ _ h2
   obtain⟨_,hcl,hat⟩:=World.cells?_some h1
   have h0:=hat 0 hk0
   rw[List.getElem?_eq_getElem (by omega)] at h0
   have hsp:=spot0 (by omega)
   refine⟨u,cs',_,hu,rfl,hcl,hsp,by have:=block_of_cell h0;rwa [add_block,add_block] at this,?_⟩
   intro b o e' j v hvj
   have hj:j<P.cellsOf e:=by have:=(List.getElem?_eq_some_iff.1 hvj).1;omega
   have h3:=hat j hj
   rw[hvj,Deep.add_add,e',Addr.add_mid] at h3
   rw[<-h3]
   congr 2
   omega
  obtain⟨g,hg⟩:=choose_lt each
  refine⟨some a,len,m,(List.range len).map g,hcs,by simp,hl,hm,fun h=>(by cases h),?_,?_,?_⟩
  ·have:=bulk_slice ((List.range len).map D) ((List.range (m - len)).map fun j=>D (len+j))
   rw[hx]
   simp at this ⊢
   omega
  ·intro h0
   obtain⟨_,_,_,_,_,hsp,hb,_⟩:=hg 0 h0
   obtain⟨b,o,s⟩:=a
   obtain rfl:s=none:=hsp
   exact⟨b,o,rfl,hb⟩
  ·intro i u hu
   rw[List.getElem?_map] at hu
   have hi':i<len:=by
    rcases Nat.lt_or_ge i len with h | h
    ·exact h
    ·rw[List.getElem?_eq_none (by simpa using h)] at hu;cases hu
   rw[List.getElem?_range hi'] at hu
   cases hu
   obtain⟨cs',y,h1,h2,h3,_,_,h5⟩:=hg i hi'
   refine⟨cs',y,h1,h3,?_,fun b o e=>h5 b o (by injection e)⟩
   rw[hx,h2]
   have hb:=bulk_part (l:=(List.range len).map D) (i:=i) (d:=D i) (by simp[List.getElem?_range hi'])
   simp only[Rows.uptoBulk]
   omega
theorem part_bulk {xs:List (DataW H×List MemPlace)} {i:Nat} {y:DataW H×List MemPlace} (h:xs[i]?=some y):Rows.uptoBulk y.1+1<=Rows.uptoBulk (.agg (xs.map (·.1)):DataW H):=by
 have:=bulk_part (l:=xs.map (·.1)) (i:=i) (d:=y.1) (by rw[List.getElem?_map,h];rfl)
 simp only[Rows.uptoBulk]
 omega
end
theorem row_of {H:Type} {W:World} {α:Type} {k n:Nat} {A:Option Addr} {l:List α} {R:α->List Value->DataW H->Prop} {cells:α->List Value} {q:Nat} (hl:l.length=n) (h0:0<n->∃ b o,A=some ⟨b,o,none⟩/\b<W.heap.size)
  (h:∀ i u,l[i]?=some u->∃ cs' y,R u cs' y/\cs'.length=k/\Rows.uptoBulk y+1<=q/\∀ b o,A=some ⟨b,o,none⟩->W.rangeAt b (o+i*k) cs') (hR:∀ u cs y,R u cs y->cs=cells u):Row k cells W W.heap.size A n l:=by
 refine⟨hl,fun hn=>?_⟩
 obtain⟨b,o,e,hb⟩:=h0 hn
 refine⟨b,o,e,hb,fun i u hu=>?_⟩
 obtain⟨cs',y,h1,_,_,h2⟩:=h i u hu
 rw[<-hR _ _ _ h1]
 exact h2 b o e
theorem row_all {H:Type} {W:World} {α:Type} {k:Nat} {A:Option Addr} {l:List α} {R:α->List Value->DataW H->Prop} {q:Nat} {G:α->Prop}
  (h:∀ i u,l[i]?=some u->∃ cs' y,R u cs' y/\cs'.length=k/\Rows.uptoBulk y+1<=q/\∀ b o,A=some ⟨b,o,none⟩->W.rangeAt b (o+i*k) cs') (hR:∀ u cs y,R u cs y->Rows.uptoBulk y+1<=q->G u):∀ u∈l,G u:=by
 intro u hu
 obtain⟨i,hi,rfl⟩:=List.getElem_of_mem hu
 obtain⟨cs',y,h1,_,h2,_⟩:=h i _ (List.getElem?_eq_getElem hi)
 exact hR _ _ _ h1 h2
section
variable {H:Type} {enc:TypeId×Value->H} {W:World}
theorem field {fs:Array Field} {n:Nat} {cs:List Value} {xs:List (DataW H×List MemPlace)} (hl:xs.length=fs.size)
  (hf:∀ (i:Nat) (f:Field),fs[i]?=some f->DataW.trod enc Tryz.prog W 0 (fun _=>true) true n f.type ((cs.drop f.offset).take (Tryz.prog.cellsOf f.type))=xs[i]?)
  {i:Nat} {f:Field} (hi:fs[i]?=some f) {t:TypeId} {k o:Nat} (ht:f.type=t) (ho:f.offset=o) (hk:Tryz.prog.cellsOf t=k) :
  ∃ y,xs[i]?=some y/\DataW.trod enc Tryz.prog W 0 (fun _=>true) true n t ((cs.drop o).take k)=some y:=by
 subst ht ho hk
 have h:=hf i f hi
 have hlt:i<xs.length:=by rw[hl];exact (Array.getElem?_eq_some_iff.1 hi).1
 exact⟨_,List.getElem?_eq_getElem hlt,h.trans (List.getElem?_eq_getElem hlt)⟩
set_option maxRecDepth 100000 in
theorem open_bytes {t:TypeId} {fuel:Nat} {cs:List Value} {x:DataW H×List MemPlace} (ht:Tryz.prog.underlying t=some (.slice 5)) (h:DataW.trod enc Tryz.prog W 0 (fun _=>true) true fuel t cs=some x) (hb:Rows.uptoBulk x.1<=1048576) :
  ∃ A n c b,cs=[.slice A n c]/\Rd W W.heap.size 1 A n (cU8 b)/\(A=none->c=0)/\n<=1048576:=by
 obtain⟨A,n,c,l,hcs,hl,_,_,hz,hbk,h0,hi⟩:=open_row (α:=UInt8) (R:=fun u cs _=>cs=[.int .u8 (u.toNat:Int)]) ht (by kernel_rfl:_=1) (by omega) (fun fuel cs y p hy=>by
  obtain⟨n,e,_,hw⟩:=DataW.trod_int Tryz.underlying5 hy
  simp[Lit.wf,IntKind.min,IntKind.max,IntKind.signed,IntKind.bits,Bool.and_eq_true] at hw
  refine⟨UInt8.ofNat n.toNat,?_⟩
  rw[e,UInt8.toNat_ofNat']
  congr 2
  omega) h
 exact⟨A,n,c,l,hcs,(row_of (cells:=fun u=>[.int .u8 (u.toNat:Int)]) hl h0 hi fun _ _ _ e=>e).rd,hz,by omega⟩
set_option maxRecDepth 100000 in
theorem open_nums {t:TypeId} {fuel:Nat} {cs:List Value} {x:DataW H×List MemPlace} (ht:Tryz.prog.underlying t=some (.slice 3)) (h:DataW.trod enc Tryz.prog W 0 (fun _=>true) true fuel t cs=some x) (hb:Rows.uptoBulk x.1<=1048576) :
  ∃ A n c b,cs=[.slice A n c]/\Rd W W.heap.size 1 A n (cInt b)/\(∀ x∈b,-9223372036854775808<=x/\x<=9223372036854775807)/\(A=none->c=0)/\n<=1048576:=by
 obtain⟨A,n,c,l,hcs,hl,_,_,hz,hbk,h0,hi⟩:=open_row (α:=Int) (R:=fun u cs _=>cs=[.int .i64 u]/\-9223372036854775808<=u/\u<=9223372036854775807) ht (by kernel_rfl:_=1) (by omega) (fun fuel cs y p hy=>by
  obtain⟨n,e,_,hw⟩:=DataW.trod_int Tryz.underlying3 hy
  simp[Lit.wf,IntKind.min,IntKind.max,IntKind.signed,IntKind.bits,Bool.and_eq_true] at hw
  exact⟨n,e,hw⟩) h
 exact⟨A,n,c,l,hcs,(row_of (cells:=fun u=>[.int .i64 u]) hl h0 hi fun _ _ _ e=>e.1).rd,row_all hi fun _ _ _ e _=>e.2,hz,by omega⟩
set_option maxRecDepth 100000 in
theorem open_text {t:TypeId} {fuel:Nat} {cs:List Value} {x:DataW H×List MemPlace} (ht:Tryz.prog.underlying t=some .string) (h:DataW.trod enc Tryz.prog W 0 (fun _=>true) true fuel t cs=some x) (hb:Rows.uptoBulk x.1<=1048576) :
  ∃ s:Bs,cs=[encStr s]/\s.length<=1048576:=by
 obtain⟨s,e,hx,_⟩:=DataW.trod_string ht h
 refine⟨s.data.toList,e,?_⟩
 rw[hx] at hb
 dsimp only at hb
 simp only[Rows.uptoBulk] at hb
 omega
structure Fl where
 name:Bs
 data:Bs
 A:Option Addr
 n:Nat
 c:Nat
 deriving Inhabited
def Fl.cells (x:Fl):List Value:=[encStr x.name,.slice x.A x.n x.c]
structure Fl.In (w:World) (B:Nat) (x:Fl):Prop where
 data:Rd w B 1 x.A x.n (cU8 x.data)
 nil:x.A=none->x.c=0
 n_le:x.n<=1048576
 name:x.name.length<=1048576
def Files (w:World) (B:Nat) (A:Option Addr) (n:Nat) (l:List Fl):Prop:=Row 2 Fl.cells w B A n l/\(∀ x∈l,x.In w B)/\n<=1048576
set_option maxRecDepth 100000 in
theorem open_file {fuel:Nat} {cs:List Value} {x:DataW H×List MemPlace} (h:DataW.trod enc Tryz.prog W 0 (fun _=>true) true fuel 130 cs=some x) (hb:Rows.uptoBulk x.1<=1048576) :
  ∃ f:Fl,cs=f.cells/\f.In W W.heap.size:=by
 obtain⟨xs,n,_,hx,hlen,hxl,hf⟩:=DataW.trod_struct Tryz.underlying130 h
 rw[show Tryz.prog.cellsOf 130=2 by kernel_rfl] at hlen
 obtain⟨c0,c1,rfl⟩:∃ a b,cs=[a,b]:=by
  match cs,hlen with
  | [a,b],_=>exact⟨a,b,rfl⟩
 rw[hx] at hb
 dsimp only at hb
 obtain⟨y0,e0,t0⟩:=field hxl hf (i:=0) rfl (t:=9) (k:=1) (o:=0) rfl rfl (by kernel_rfl)
 obtain⟨y1,e1,t1⟩:=field hxl hf (i:=1) rfl (t:=79) (k:=1) (o:=1) rfl rfl (by kernel_rfl)
 have b0:=part_bulk e0
 have b1:=part_bulk e1
 obtain⟨nm,v0,l0⟩:=open_text Tryz.underlying9 t0 (by omega)
 obtain⟨A,n,c,b,v1,r1,z1,l1⟩:=open_bytes Tryz.underlying79 t1 (by omega)
 simp at v0 v1
 subst v0 v1
 exact⟨⟨nm,b,A,n,c⟩,rfl,r1,z1,l1,l0⟩
set_option maxRecDepth 100000 in
theorem open_files {fuel:Nat} {cs:List Value} {x:DataW H×List MemPlace} (h:DataW.trod enc Tryz.prog W 0 (fun _=>true) true fuel 90 cs=some x) (hb:Rows.uptoBulk x.1<=1048576) :
  ∃ A n c l,cs=[.slice A n c]/\Files W W.heap.size A n l:=by
 obtain⟨A,n,c,l,hcs,hl,_,_,hz,hbk,h0,hi⟩:=open_row (α:=Fl) (R:=fun u cs y=>Rows.uptoBulk y<=1048576->cs=u.cells/\u.In W W.heap.size) Tryz.underlying90 (by kernel_rfl:_=2) (by omega) (fun fuel cs y p hy=>by
  by_cases hq:Rows.uptoBulk y<=1048576
  ·obtain⟨f,hf⟩:=open_file hy hq
   exact⟨f,fun _=>hf⟩
  ·exact⟨default,fun h=>absurd h hq⟩) h
 have hi2:∀ i u,l[i]?=some u->∃ cs' y,(cs'=u.cells/\u.In W W.heap.size)/\cs'.length=2/\Rows.uptoBulk (y:DataW H)+1<=Rows.uptoBulk x.1/\∀ b o,A=some ⟨b,o,none⟩->W.rangeAt b (o+i*2) cs':=by
  intro i u hu
  obtain⟨cs',y,h1,h2,h3,h4⟩:=hi i u hu
  exact⟨cs',y,h1 (by omega),h2,h3,h4⟩
 exact⟨A,n,c,l,hcs,row_of (cells:=Fl.cells) (R:=fun u cs' _=>cs'=u.cells/\u.In W W.heap.size) hl h0 hi2 (fun _ _ _ e=>e.1),row_all (R:=fun u cs' _=>cs'=u.cells/\u.In W W.heap.size) hi2 (fun _ _ _ e _=>e.2),by omega⟩
structure Av where
 a:Ac
 A:Option Addr
 n:Nat
 c:Nat
 Ad:Option Addr
 nd:Nat
 cd:Nat
 Au:Option Addr
 nu:Nat
 cu:Nat
instance:Inhabited Av:=⟨⟨⟨0,[],[],0,[],[],[]⟩,none,0,0,none,0,0,none,0,0⟩⟩
end
end Go.Proofs.YtmgljaecmchgaaaGreat.Dr
namespace Go.Proofs.YtmgljaecmchgaaaGreat.Dr
open Go.RowKit Go.Proofs Go.Proofs.YtmgljaecmchgaaaGreat.Ring
theorem own_cellS {w:World} {B g cap n k size:Nat} {e:TypeId} {xs:List Value} {u:Value} (h:w.ownsRow B e size (.slice (some ⟨g,0,none⟩) n cap) n xs) (hu:xs[k]?=some u):w.cell? ⟨g,k,none⟩=some u:=by
 rcases h.2 with ⟨e1,_⟩ | ⟨g',cap',cur,e1,_,h2,_,_,_,h6⟩
 ·cases e1
 ·injection e1 with e1 e2 e3
  injection e1 with e1
  injection e1 with e1 _ _
  subst e1
  rw[cell_of_row w g k _ _ _ h2,<-Array.getElem?_toList]
  rw[<-h6,List.getElem?_take] at hu
  split at hu
  ·exact hu
  ·cases hu
end Go.Proofs.YtmgljaecmchgaaaGreat.Dr
namespace Go.Proofs.YtmgljaecmchgaaaGreat.Dr
open Go.RowKit Go.Proofs Go.Proofs.YtmgljaecmchgaaaGreat.Ring
abbrev tRef:=141
abbrev tEnt:=136
abbrev tBd:=145
abbrev tEnts:=138
def cE:Ents->List Value
 | []=>[]
 | p::l=>encStr p.1::.int .i64 p.2::cE l
def cB:List Bd->List Value->List Value
 | b::bd,v::ds=>v::.int .i64 (b.safe:Int)::cB bd ds
 | _,_=>[]
theorem cE_append:∀ a b:Ents,cE (a++b)=cE a++cE b
 | [],b=>rfl
 | p::a,b=>by simp only[List.cons_append,cE,cE_append a b]
theorem cE_at:∀ (l:Ents) (i:Nat) (p:Bs×Int),l[i]?=some p->(cE l)[i*2]?=some (encStr p.1)/\(cE l)[i*2+1]?=some (.int .i64 p.2)
 | [],_,_,h=>by cases h
 | q::l,0,p,h=>by injection h with h;subst h;exact⟨rfl,rfl⟩
 | q::l,i+1,p,h=>by
  have:=cE_at l i p h
  rw[show (i+1)*2=i*2+1+1 by omega]
  exact this
theorem cB_len:∀ (bd:List Bd) (ds:List Value),ds.length=bd.length->(cB bd ds).length=bd.length*2
 | [],[],_=>rfl
 | [],_::_,h=>by cases h
 | _::_,[],h=>by cases h
 | b::bd,v::ds,h=>by have:=cB_len bd ds (by simpa using h);simp only[cB,List.length_cons,this];omega
theorem cB_append:∀ (bd:List Bd) (ds:List Value),ds.length=bd.length->∀ b2 d2,cB (bd++b2) (ds++d2)=cB bd ds++cB b2 d2
 | [],[],_,_,_=>rfl
 | [],_::_,h,_,_=>by cases h
 | _::_,[],h,_,_=>by cases h
 | b::bd,v::ds,h,b2,d2=>by simp only[List.cons_append,cB,cB_append bd ds (by simpa using h) b2 d2]
theorem cB_at:∀ (bd:List Bd) (ds:List Value) (i:Nat) (b:Bd) (v:Value),bd[i]?=some b->ds[i]?=some v->(cB bd ds)[i*2]?=some v/\(cB bd ds)[i*2+1]?=some (.int .i64 (b.safe:Int))
 | [],_,_,_,_,h,_=>by cases h
 | _::_,[],_,_,_,_,h=>by cases h
 | a::bd,y::ds,0,b,v,h1,h2=>by injection h1 with h1;injection h2 with h2;subst h1 h2;exact⟨rfl,rfl⟩
 | a::bd,y::ds,i+1,b,v,h1,h2=>by
  have:=cB_at bd ds i b v h1 h2
  rw[show (i+1)*2=i*2+1+1 by omega]
  exact this
def EntAt (w:World) (base:Nat) (v:Value) (l:Ents):Prop:=w.ownsRow base tEnt 2 v l.length (cE l)
theorem row_other {w w':World} {g base size n:Nat} {e:TypeId} {v:Value} {xs:List Value} (h:w.ownsRow base e size v n xs) (hb:∀ k,k<w.heap.size->k≠g->w'.heap[k]?=w.heap[k]?)
  (hg:∀ cur,w.heap[g]?≠some (.cells cur e (0,0))):w'.ownsRow base e size v n xs:=by
 refine own_same h fun k hk=>?_
 obtain⟨cur,h1⟩:=own_lt h hk
 refine hb k (Array.getElem?_eq_some_iff.1 h1).1 ?_
 rintro rfl
 exact hg cur h1
structure RefAt (w:World) (S:Nat->Prop) (r:Nat) (D:D) (vb vn vk vc:Value) (ds cs:List Value):Prop where
 head:w.heap[r]?=some (.cells #[.int .i64 (D.room:Int),vb,vn,vk,vc] tRef (0,0))
 bod:w.ownsRow 0 tBd 2 vb D.bd.length (cB D.bd ds)
 dl:ds.length=D.bd.length
 dat:∀ (i:Nat) b v,D.bd[i]?=some b->ds[i]?=some v->w.ownsRow 0 tU8 1 v b.data.length (cU8 b.data)
 now:EntAt w 0 vn (dirE D.now)
 kept:EntAt w 0 vk (dirE D.kept)
 chg:w.ownsRow 0 tEnts 1 vc D.pend.length cs
 each:∀ (j:Nat) c v,D.pend[j]?=some c->cs[j]?=some v->EntAt w 0 v (chgE c)
 inR:S r
 inB:∀ g,vb.ownBlock=some g->S g
 inN:∀ g,vn.ownBlock=some g->S g
 inK:∀ g,vk.ownBlock=some g->S g
 inC:∀ g,vc.ownBlock=some g->S g
 inD:∀ v∈ds,∀ g,v.ownBlock=some g->S g
 inE:∀ v∈cs,∀ g,v.ownBlock=some g->S g
 low:∀ k,S k->k<w.heap.size
section
variable {w w':World} {S:Nat->Prop} {r:Nat} {D:D} {vb vn vk vc:Value} {ds cs:List Value}
theorem RefAt.same (h:RefAt w S r D vb vn vk vc ds cs) (hw:∀ k,S k->w'.heap[k]?=w.heap[k]?) (hs:w.heap.size<=w'.heap.size):RefAt w' S r D vb vn vk vc ds cs:=
 ⟨(hw r h.inR).trans h.head,own_same h.bod fun g hg=>hw g (h.inB g hg),h.dl,fun i b v hb hv=>own_same (h.dat i b v hb hv) fun g hg=>hw g (h.inD v (List.mem_of_getElem? hv) g hg),
  own_same h.now fun g hg=>hw g (h.inN g hg),own_same h.kept fun g hg=>hw g (h.inK g hg),own_same h.chg fun g hg=>hw g (h.inC g hg),fun j c v hc hv=>own_same (h.each j c v hc hv) fun g hg=>hw g (h.inE v (List.mem_of_getElem? hv) g hg),
  h.inR,h.inB,h.inN,h.inK,h.inC,h.inD,h.inE,fun k hk=>Nat.lt_of_lt_of_le (h.low k hk) hs⟩
theorem RefAt.below (h:RefAt w S r D vb vn vk vc ds cs) (hb:Below w.heap.size w w'):RefAt w' S r D vb vn vk vc ds cs:=h.same (fun k hk=>hb.block k (h.low k hk)) hb.size
theorem RefAt.wider (h:RefAt w S r D vb vn vk vc ds cs) {S':Nat->Prop} (hs:∀ k,S k->S' k) (hl:∀ k,S' k->k<w.heap.size):RefAt w S' r D vb vn vk vc ds cs:=
 ⟨h.head,h.bod,h.dl,h.dat,h.now,h.kept,h.chg,h.each,hs r h.inR,fun g hg=>hs g (h.inB g hg),fun g hg=>hs g (h.inN g hg),fun g hg=>hs g (h.inK g hg),fun g hg=>hs g (h.inC g hg),fun v hv g hg=>hs g (h.inD v hv g hg),fun v hv g hg=>hs g (h.inE v hv g hg),hl⟩
theorem RefAt.typ (h:RefAt w S r D vb vn vk vc ds cs) {e:TypeId} (he:e≠tRef):∀ cur,w.heap[r]?≠some (.cells cur e (0,0)):=by
 intro cur hc
 rw[h.head] at hc
 injection hc with hc
 injection hc with _ hc _
 exact he hc.symm
theorem typ_of {g base size n:Nat} {e e':TypeId} {v:Value} {xs:List Value} (h:w.ownsRow base e' size v n xs) (hg:v.ownBlock=some g) (he:e≠e'):∀ cur,w.heap[g]?≠some (.cells cur e (0,0)):=by
 intro cur hc
 obtain⟨cur',h1⟩:=own_lt h hg
 rw[h1] at hc
 injection hc with hc
 injection hc with _ hc _
 exact he hc.symm
theorem set_block {a:Addr} {u:Value}:∀ k,k<w.heap.size->k≠a.block->(w.setCell a u).heap[k]?=w.heap[k]?:=fun k _ hk=>Below.heap_setCell w a u k hk
theorem RefAt.field (h:RefAt w S r D vb vn vk vc ds cs) (j:Nat) (u:Value):RefAt w S r D vb vn vk vc ds cs->(w.setCell ⟨r,j,none⟩ u).heap[r]?=some (.cells ((#[.int .i64 (D.room:Int),vb,vn,vk,vc]:Array Value).setIfInBounds j u) tRef (0,0))/\
  (∀ {e base size n v xs},w.ownsRow base e size v n xs->e≠tRef->(w.setCell ⟨r,j,none⟩ u).ownsRow base e size v n xs):=fun _=>
 ⟨heap_same h.head u,fun hr he=>row_other hr (g:=r) (set_block (a:=⟨r,j,none⟩)) (h.typ he)⟩
theorem RefAt.setNow (h:RefAt w S r D vb vn vk vc ds cs) {v:Value} {l:Dir} (hv:EntAt w 0 v (dirE l)) (hs:∀ g,v.ownBlock=some g->S g):RefAt (w.setCell ⟨r,2,none⟩ v) S r {D with now:=l} vb v vk vc ds cs:=by
 obtain⟨hh,hr⟩:=h.field 2 v h
 exact⟨hh,hr h.bod (by decide),h.dl,fun i b v hb hv=>hr (h.dat i b v hb hv) (by decide),hr hv (by decide),hr h.kept (by decide),hr h.chg (by decide),fun j c v hc hv=>hr (h.each j c v hc hv) (by decide),h.inR,h.inB,hs,h.inK,h.inC,h.inD,h.inE,fun k hk=>by have:=h.low k hk;simpa [World.setCell] using this⟩
theorem RefAt.setKept (h:RefAt w S r D vb vn vk vc ds cs) {v:Value} {l:Dir} (hv:EntAt w 0 v (dirE l)) (hs:∀ g,v.ownBlock=some g->S g):RefAt (w.setCell ⟨r,3,none⟩ v) S r {D with kept:=l} vb vn v vc ds cs:=by
 obtain⟨hh,hr⟩:=h.field 3 v h
 exact⟨hh,hr h.bod (by decide),h.dl,fun i b v hb hv=>hr (h.dat i b v hb hv) (by decide),hr h.now (by decide),hr hv (by decide),hr h.chg (by decide),fun j c v hc hv=>hr (h.each j c v hc hv) (by decide),h.inR,h.inB,h.inN,hs,h.inC,h.inD,h.inE,fun k hk=>by have:=h.low k hk;simpa [World.setCell] using this⟩
theorem RefAt.putBod (h:RefAt w S r D vb vn vk vc ds cs) {S':Nat->Prop} (hS:∀ k,S k->S' k) (hlow:∀ k,S' k->k<w'.heap.size) (hh:w'.heap[r]?=w.heap[r]?) (hr:∀ {e base size n u xs},w.ownsRow base e size u n xs->e≠tBd->w'.ownsRow base e size u n xs)
  {v:Value} {bd:List Bd} {ds':List Value} (hv:w'.ownsRow 0 tBd 2 v bd.length (cB bd ds')) (hl:ds'.length=bd.length) (hd:∀ (i:Nat) b v,bd[i]?=some b->ds'[i]?=some v->w'.ownsRow 0 tU8 1 v b.data.length (cU8 b.data))
  (hs:∀ g,v.ownBlock=some g->S' g) (hs2:∀ v∈ds',∀ g,v.ownBlock=some g->S' g):RefAt (w'.setCell ⟨r,1,none⟩ v) S' r {D with bd:=bd} v vn vk vc ds' cs:=by
 have hr2:∀ {e base size n u xs},w'.ownsRow base e size u n xs->e≠tRef->(w'.setCell ⟨r,1,none⟩ v).ownsRow base e size u n xs:=fun h1 he=>row_other h1 (g:=r) (set_block (a:=⟨r,1,none⟩)) (fun cur hc=>by
  rw[hh,h.head] at hc
  injection hc with hc
  injection hc with _ hc _
  exact he hc.symm)
 exact⟨heap_same (hh.trans h.head) v,hr2 hv (by decide),hl,fun i b v hb hv=>hr2 (hd i b v hb hv) (by decide),hr2 (hr h.now (by decide)) (by decide),hr2 (hr h.kept (by decide)) (by decide),hr2 (hr h.chg (by decide)) (by decide),fun j c v hc hv=>hr2 (hr (h.each j c v hc hv) (by decide)) (by decide),hS r h.inR,hs,fun g hg=>hS g (h.inN g hg),fun g hg=>hS g (h.inK g hg),fun g hg=>hS g (h.inC g hg),hs2,fun v hv g hg=>hS g (h.inE v hv g hg),fun k hk=>by have:=hlow k hk;simpa [World.setCell] using this⟩
theorem RefAt.grown (_h:RefAt w S r D vb vn vk vc ds cs) {v:Value} {e':TypeId} {size n:Nat} {xs:List Value} (hv:w.ownsRow 0 e' size v n xs) (hg:w.grownBy w' v.ownBlock) {e:TypeId} {base size' n':Nat} {u:Value} {ys:List Value} (hu:w.ownsRow base e size' u n' ys) (he:e≠e'):w'.ownsRow base e size' u n' ys:=by
 refine own_same hu fun k hk=>?_
 obtain⟨cur,h1⟩:=own_lt hu hk
 exact hg.block k (Array.getElem?_eq_some_iff.1 h1).1 fun e2=>typ_of hv e2.symm he cur h1
theorem RefAt.addBod (h:RefAt w S r D vb vn vk vc ds cs) {g n2 c2:Nat} {b:Bd} {x:Value} (hx:w.ownsRow 0 tU8 1 x b.data.length (cU8 b.data)) (hxS:∀ g,x.ownBlock=some g->S g) (hg:w.grownBy w' vb.ownBlock)
  (ho:w'.ownsRow 0 tBd 2 (.slice (some ⟨g,0,none⟩) n2 c2) n2 (cB D.bd ds++[x,.int .i64 (b.safe:Int)])) (hb:vb.ownBlock=some g\/w.heap.size<=g) (hgl:g<w'.heap.size) :
  RefAt (w'.setCell ⟨r,1,none⟩ (.slice (some ⟨g,0,none⟩) n2 c2)) (fun k=>S k\/(w.heap.size<=k/\k<w'.heap.size)) r {D with bd:=D.bd++[b]} (.slice (some ⟨g,0,none⟩) n2 c2) vn vk vc (ds++[x]) cs:=by
 have hn:n2=D.bd.length+1:=by
  have h1:=ho.1
  rw[List.length_append,cB_len _ _ h.dl] at h1
  simp at h1;omega
 subst hn
 have hr:∀ {e base size n u xs},w.ownsRow base e size u n xs->e≠tBd->w'.ownsRow base e size u n xs:=fun h1 he=>h.grown h.bod hg h1 he
 have hne:vb.ownBlock≠some r:=fun e=>typ_of h.bod e (show tRef≠tBd by decide) _ h.head
 refine h.putBod (fun k hk=>.inl hk) (fun k hk=>?_) (hg.block r (h.low r h.inR) fun e=>hne e.symm) hr (by rw[List.length_append,cB_append _ _ h.dl];exact ho) (by simp[h.dl]) (fun i b' v' hb' hv'=>?_) (fun g' hg'=>?_) (fun v' hv' g' hg'=>?_)
 ·rcases hk with hk | hk
  ·exact Nat.lt_of_lt_of_le (h.low k hk) hg.size
  ·exact hk.2
 ·rcases Nat.lt_or_ge i D.bd.length with hlt | hge
  ·rw[List.getElem?_append_left hlt] at hb'
   rw[List.getElem?_append_left (by rw[h.dl];exact hlt)] at hv'
   exact hr (h.dat i b' v' hb' hv') (by decide)
  ·have hil:=(List.getElem?_eq_some_iff.1 hb').1
   obtain rfl:i=D.bd.length:=by simp at hil;omega
   rw[List.getElem?_append_right (Nat.le_refl _)] at hb'
   rw[List.getElem?_append_right (by rw[h.dl];exact Nat.le_refl _)] at hv'
   simp at hb'
   simp[h.dl] at hv'
   subst hb' hv'
   exact hr hx (by decide)
 ·obtain rfl:g=g':=by simpa [Value.ownBlock] using hg'
  rcases hb with hb | hb
  ·exact .inl (h.inB g hb)
  ·exact .inr ⟨hb,hgl⟩
 ·rcases List.mem_append.1 hv' with h1 | h1
  ·exact .inl (h.inD v' h1 g' hg')
  ·rw[List.mem_singleton.1 h1] at hg'
   exact .inl (hxS g' hg')
end
def Rv (w:World) (S:Nat->Prop) (r:Nat) (D:D) (m N:Nat):Prop:=D.Ok m N/\D.bd.length<=N/\∃ vb vn vk vc ds cs,RefAt w S r D vb vn vk vc ds cs
section
variable {w w' w2:World} {S S1:Nat->Prop} {r m N m' N':Nat} {D D2:Dr.D}
theorem Rv.kept (h:Rv w S r D m N) {U:Nat->Prop} (hk:Kept w w' U) (hd:∀ k,S k->¬ U k):Rv w' S r D m N:=by
 obtain⟨h0,hbn,vb,vn,vk,vc,ds,cs,h1⟩:=h
 exact⟨h0,hbn,vb,vn,vk,vc,ds,cs,h1.same (fun k hs=>hk.block k (h1.low k hs) (hd k hs)) hk.size⟩
theorem Rv.below (h:Rv w S r D m N) (hb:Below w.heap.size w w'):Rv w' S r D m N:=h.kept (U:=fun _=>False) (Kept.of_below _ hb) fun _ _ h=>h
end
theorem infoEnt:(Tryz.prog.info? tEnt).map (fun i=>(i.zero,i.size,i.bytes))=some (some (.agg #[.string ⟨#[]⟩,.int .i64 0]),2,24):=by kernel_rfl
theorem infoBd:(Tryz.prog.info? tBd).map (fun i=>(i.zero,i.size,i.bytes))=some (some (.agg #[.slice none 0 0,.int .i64 0]),2,32):=by kernel_rfl
end Go.Proofs.YtmgljaecmchgaaaGreat.Dr
