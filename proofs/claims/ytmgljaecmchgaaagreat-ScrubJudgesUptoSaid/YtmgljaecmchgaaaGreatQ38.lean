/- XMk1, XOp1, XMk2, XMka: merged by tools/merge.py. -/
import Derived.Test.YtmgljaecmchgaaaGreatQ37
import Derived.Test.YtmgljaecmchgaaaGreatQ34
import Derived.Test.YtmgljaecmchgaaaGreatQ10
import Derived.DataReads
set_option linter.unusedVariables false
set_option linter.unusedSimpArgs false
set_option linter.unusedSectionVars false
namespace Go.Proofs.YtmgljaecmchgaaaGreat.Dr
open Go.RowKit Go.Proofs
theorem cF_at:∀ (fs:List (Bs×Bs)) (dv:List Value) (i:Nat) (f:Bs×Bs) (x:Value),fs[i]?=some f->dv[i]?=some x->(cF fs dv)[i*2]?=some (encStr f.1)/\(cF fs dv)[i*2+1]?=some x
 | [],_,_,_,_,h,_=>by cases h
 | _::_,[],_,_,_,_,h=>by cases h
 | a::fs,y::dv,0,f,x,h1,h2=>by injection h1 with h1;injection h2 with h2;subst h1 h2;exact⟨rfl,rfl⟩
 | a::fs,y::dv,i+1,f,x,h1,h2=>by
  have:=cF_at fs dv i f x h1 h2
  rw[show (i+1)*2=i*2+1+1 by omega]
  exact this
theorem FilesAt.rd {w:World} {base n c:Nat} {A:Option Addr} {dv:List Value} {fs:List (Bs×Bs)} (h:FilesAt w base (.slice A n c) dv fs) (hn:fs.length=n):FilesRd w A n fs:=by
 refine⟨hn,fun i f hf=>?_⟩
 have hi:=(List.getElem?_eq_some_iff.1 hf).1
 have hr:=h.row
 rw[hn] at hr
 obtain⟨g,rfl⟩:=own_some hr (by omega)
 obtain⟨x,hx⟩:∃ x,dv[i]?=some x:=⟨_,List.getElem?_eq_getElem (by have:=h.len;omega)⟩
 obtain⟨c0,c1⟩:=cF_at fs dv i f x hf hx
 have hd:=h.data i f x hf hx
 obtain⟨Af,cf,rfl,_,_⟩:=own_form hd
 obtain⟨cur,hcur⟩:=own_lt hr (g:=g) rfl
 exact⟨g,Af,cf,rfl,(Array.getElem?_eq_some_iff.1 hcur).1,own_cellS hr c0,own_cellS hr c1,Rd.of_own hd⟩
end Go.Proofs.YtmgljaecmchgaaaGreat.Dr
namespace Go.Proofs.YtmgljaecmchgaaaGreat.Gf
open Go.RowKit Go.Proofs
theorem dv_kept {w w':World} {S U:Nat->Prop} {d m N:Nat} {D:Dr.D} (h:Dr.Dv w S d D m N) (hk:Kept w w' U) (hd:∀ k,S k->¬ U k):Dr.Dv w' S d D m N:=by
 obtain⟨h0,β,vs,nv,kv,pv,ss,h1⟩:=h
 exact⟨h0,β,vs,nv,kv,pv,ss,h1.same (fun k hs=>hk.block k (h1.low k hs) (hd k hs)) hk.size⟩
def Alien (w:World) (U:Nat->Prop):Prop:=
 ∀ k,U k->∃ cs t,w.heap[k]?=some (.cells cs t (0,0))/\t≠tWound/\t≠tDisk/\t≠tFault/\t≠tFuse
theorem alien_not {w:World} {U:Nat->Prop} (h:Alien w U) {k:Nat} {cs:Array Value} {t:TypeId} (hk:w.heap[k]?=some (.cells cs t (0,0))) (ht:t=tWound\/t=tDisk\/t=tFault\/t=tFuse):¬ U k:=fun hu=>by
 obtain⟨cs',t',h1,a,b,c,e⟩:=h k hu
 rw[hk] at h1
 injection h1 with h1
 injection h1 with _ h1
 subst h1
 rcases ht with ht | ht | ht | ht
 ·exact a ht
 ·exact b ht
 ·exact c ht
 ·exact e ht
theorem own_alien {w w':World} {U:Nat->Prop} (hU:Alien w U) (hk:Kept w w' U) {base n:Nat} {v:Value} {xs:List Value} (h:w.ownsRow base tFault 2 v n xs):w'.ownsRow base tFault 2 v n xs:=
 Dr.own_same h fun k hv=>by
  obtain⟨c,hc⟩:=Dr.own_lt h hv
  exact hk.block k (Array.getElem?_eq_some_iff.1 hc).1 (alien_not hU hc (.inr (.inr (.inl rfl))))
theorem wd_alien {w w':World} {U:Nat->Prop} {p d:Nat} {g:Gt} (h:WdAt w p d g) (hk:Kept w w' U) (hU:Alien w U):WdAt w' p d g:=by
 obtain⟨Ap,np,cp,fz,h1,h2,h3⟩:=h.own
 refine⟨Ap,np,cp,fz,(hk.block p (Array.getElem?_eq_some_iff.1 h1).1 (alien_not hU h1 (.inl rfl))).trans h1,own_alien hU hk h2,?_⟩
 rcases h3 with ⟨a,f,b,c⟩ | h3
 ·exact .inl ⟨a,f,b,(hk.block f (Array.getElem?_eq_some_iff.1 c).1 (alien_not hU c (.inr (.inr (.inr rfl))))).trans c⟩
 ·exact .inr h3
theorem dk_alien {w w':World} {U:Nat->Prop} {q r:Nat} {g:Gt} (h:DkAt w q r g) (hk:Kept w w' U) (hU:Alien w U):DkAt w' q r g:=by
 obtain⟨Ap,np,cp,h1,h2⟩:=h.own
 exact⟨Ap,np,cp,(hk.block q (Array.getElem?_eq_some_iff.1 h1).1 (alien_not hU h1 (.inr (.inl rfl)))).trans h1,own_alien hU hk h2⟩
structure Two (w:World) (S:Nat->Prop) (p d q r:Nat) (D:Dr.D) (m N:Nat) (g:Gt):Prop where
 wd:WdAt w p d g
 dk:DkAt w q r g
 dv:∃ S1,Dr.Dv w S1 d D m N/\∀ k,S1 k->S k
 rv:∃ S2,Dr.Rv w S2 r D m N/\∀ k,S2 k->S k
 low:∀ k,S k->k<w.heap.size
section
variable {w w':World} {S:Nat->Prop} {p d q r m N:Nat} {D:Dr.D} {g g':Gt}
theorem Two.kept (h:Two w S p d q r D m N g) {U:Nat->Prop} (hk:Kept w w' U) (hU:Alien w U) (hd:∀ k,S k->¬ U k):Two w' S p d q r D m N g:=by
 obtain⟨S1,a1,a2⟩:=h.dv
 obtain⟨S2,b1,b2⟩:=h.rv
 exact⟨wd_alien h.wd hk hU,dk_alien h.dk hk hU,⟨S1,dv_kept a1 hk (fun k hs=>hd k (a2 k hs)),a2⟩,⟨S2,b1.kept hk (fun k hs=>hd k (b2 k hs)),b2⟩,fun k hs=>Nat.lt_of_lt_of_le (h.low k hs) hk.size⟩
theorem Two.below (h:Two w S p d q r D m N g) (hb:Below w.heap.size w w'):Two w' S p d q r D m N g:=
 h.kept (U:=fun _=>False) (Kept.of_below _ hb) (fun _ hu=>hu.elim) (fun _ _ hu=>hu)
theorem Two.gate (h:Two w S p d q r D m N g) (hk:Kept w w' (fun b=>b=p\/b=q)) (hp:¬ S p) (hq:¬ S q) (h1:WdAt w' p d g') (h2:DkAt w' q r g'):Two w' S p d q r D m N g':=by
 have hd:∀ k,S k->¬ (k=p\/k=q):=fun k hs e=>by
  rcases e with e | e
  ·exact hp (e▸hs)
  ·exact hq (e▸hs)
 obtain⟨S1,a1,a2⟩:=h.dv
 obtain⟨S2,b1,b2⟩:=h.rv
 exact⟨h1,h2,⟨S1,dv_kept a1 hk (fun k hs=>hd k (a2 k hs)),a2⟩,⟨S2,b1.kept hk (fun k hs=>hd k (b2 k hs)),b2⟩,fun k hs=>Nat.lt_of_lt_of_le (h.low k hs) hk.size⟩
end
structure Plm where
 has:Bool
 room:Int
 fs:List (Dr.Bs×Dr.Bs)
 plan:List (Int×Int)
 off:Bool
 laid:Bool
 rd:Int
 call:Int
 ins:Int
def Plm.gate (P:Plm):Gt:=
 let g:=if 0<P.plan.length then Gt.new.arm P.plan else Gt.new
 let g:=if P.off then g.offl true else g
 if P.laid then g.fuse P.rd P.call P.ins else g
def Plm.made (P:Plm):Option (Dr.D×Gt):=if P.has then (Dr.D.load P.room P.fs).map fun D=>(D,P.gate) else none
structure Plm.Small (P:Plm):Prop where
 fs:P.fs.length<=1048576
 bytes:∀ f∈P.fs,f.1.length<=1048576/\f.2.length<=1048576
 plan:P.plan.length<=1048576
structure PlmAt (w:World) (B:Nat) (ad:Addr) (P:Plm):Prop where
 cells:∃ (Af:Option Addr) (nf cf:Nat) (Ap:Option Addr) (np cp:Nat),w.rangeAt ad.block ad.off [.bool P.has,.int .i64 P.room,.slice Af nf cf,.slice Ap np cp,.bool P.off,.bool P.laid,.int .i64 P.rd,.int .i64 P.call,.int .i64 P.ins]/\
  Dr.FilesRo w Af nf P.fs/\Rd w B 2 Ap np (cFt P.plan)/\(Ap=none->cp=0)/\np=P.plan.length
def MadeAt (w:World) (R:Nat->Prop) (a b c:Value) (fs:List (Dr.Bs×Dr.Bs)):Option (Dr.D×Gt)->Prop
 | none=>a = .nilIface/\b = .pointer none/\c = .pointer none
 | some (D,g)=>∃ (S:Nat->Prop) (p d q r:Nat),a = .iface 89 (.pointer (some ⟨p,0,none⟩))/\b = .pointer (some ⟨p,0,none⟩)/\c = .pointer (some ⟨q,0,none⟩)/\
  Two w S p d q r D 1048576 fs.length g/\(∀ k,S k->¬ R k)/\¬ S p/\¬ S q
theorem MadeAt.kept {w w':World} {U R R':Nat->Prop} {a b c:Value} {fs:List (Dr.Bs×Dr.Bs)} {o:Option (Dr.D×Gt)} (h:MadeAt w R a b c fs o) (hk:Kept w w' U) (hU:Alien w U) (hUR:∀ k,U k->R k) (hn:∀ k,k<w.heap.size->R' k->R k):MadeAt w' R' a b c fs o:=by
 cases o with
 | none=>exact h
 | some Dg=>
  obtain⟨S,p,d,q,r,e1,e2,e3,h1,h2,h3,h4⟩:=h
  exact⟨S,p,d,q,r,e1,e2,e3,h1.kept hk hU (fun k hs hu=>h2 k hs (hUR k hu)),fun k hs hr=>h2 k hs (hn k (h1.low k hs) hr),h3,h4⟩
end Go.Proofs.YtmgljaecmchgaaaGreat.Gf
namespace Go.Proofs.YtmgljaecmchgaaaGreat.Gf
open Go.RowKit Go.Proofs
section
variable {H:Type} {enc:TypeId×Value->H} {W:World}
theorem trod_array {P:Program} {w:World} {t e:TypeId} {m fuel:Nat} {cs:List Value} {x:DataW H×List MemPlace} (ht:P.underlying t=some (.array m e)) (h:DataW.trod enc P w 0 (fun _=>true) true fuel t cs=some x) :
  ∃ (xs:List (DataW H×List MemPlace)) (n:Nat),cs.length=P.cellsOf t/\xs.length=m/\
   ∀ i,i<m->DataW.trod enc P w 0 (fun _=>true) true n e ((cs.drop (i*P.cellsOf e)).take (P.cellsOf e))=xs[i]?:=by
 cases fuel with
 | zero=>simp[DataW.trod] at h
 | succ n=>
  unfold DataW.trod at h
  rw[ht] at h
  split at h<;>simp_all
  obtain⟨hl,xs,hp,hd⟩:=h
  exact⟨xs,by simpa using mapM_some_length hp,n,fun i hi=>mapM_some_get hp i i (by simp[hi])⟩
theorem open_int {k:IntKind} {t:TypeId} {fuel:Nat} {c:Value} {x:DataW H×List MemPlace} (ht:Tryz.prog.underlying t=some (.int k)) (h:DataW.trod enc Tryz.prog W 0 (fun _=>true) true fuel t [c]=some x):∃ n,c = .int k n/\(Lit.int k n).wf=true:=by
 obtain⟨n,e,_,hw⟩:=DataW.trod_int ht h
 injection e with e _
 exact⟨n,e,hw⟩
theorem open_flag {t:TypeId} {fuel:Nat} {c:Value} {x:DataW H×List MemPlace} (ht:Tryz.prog.underlying t=some .bool) (h:DataW.trod enc Tryz.prog W 0 (fun _=>true) true fuel t [c]=some x):∃ b,c = .bool b:=by
 obtain⟨n,e,_⟩:=DataW.trod_bool ht h
 injection e with e _
 exact⟨n,e⟩
theorem open_byte {fuel:Nat} {c:Value} {x:DataW H×List MemPlace} (h:DataW.trod enc Tryz.prog W 0 (fun _=>true) true fuel 5 [c]=some x):∃ u:UInt8,c = .int .u8 (u.toNat:Int):=by
 obtain⟨n,rfl,hw⟩:=open_int Tryz.underlying5 h
 simp[Lit.wf,IntKind.min,IntKind.max,IntKind.signed,IntKind.bits,Bool.and_eq_true] at hw
 refine⟨UInt8.ofNat n.toNat,?_⟩
 rw[UInt8.toNat_ofNat']
 congr 1
 omega
set_option maxRecDepth 100000 in
theorem open_store {fuel:Nat} {c0 c1 c2 c3 c4 c5 c6 c7:Value} {x:DataW H×List MemPlace} (h:DataW.trod enc Tryz.prog W 0 (fun _=>true) true fuel 25 [c0,c1,c2,c3,c4,c5,c6,c7]=some x) :
  ∃ b:List UInt8,c0 = .int .u8 ((b.getD 0 0).toNat:Int)/\c1 = .int .u8 ((b.getD 1 0).toNat:Int)/\c2 = .int .u8 ((b.getD 2 0).toNat:Int)/\c3 = .int .u8 ((b.getD 3 0).toNat:Int)/\c4 = .int .u8 ((b.getD 4 0).toNat:Int)/\c5 = .int .u8 ((b.getD 5 0).toNat:Int)/\c6 = .int .u8 ((b.getD 6 0).toNat:Int)/\c7 = .int .u8 ((b.getD 7 0).toNat:Int):=by
 obtain⟨xs,n,_,hl,hi⟩:=trod_array Tryz.underlying25 h
 rw[show Tryz.prog.cellsOf 5=1 by kernel_rfl] at hi
 have key:∀ i,i<8->∃ y,DataW.trod enc Tryz.prog W 0 (fun _=>true) true n 5 (([c0,c1,c2,c3,c4,c5,c6,c7].drop (i*1)).take 1)=some y:=fun i h=>⟨_,(hi i h).trans (List.getElem?_eq_getElem (by omega))⟩
 obtain⟨_,h0⟩:=key 0 (by omega)
 obtain⟨_,h1⟩:=key 1 (by omega)
 obtain⟨_,h2⟩:=key 2 (by omega)
 obtain⟨_,h3⟩:=key 3 (by omega)
 obtain⟨_,h4⟩:=key 4 (by omega)
 obtain⟨_,h5⟩:=key 5 (by omega)
 obtain⟨_,h6⟩:=key 6 (by omega)
 obtain⟨_,h7⟩:=key 7 (by omega)
 obtain⟨u0,rfl⟩:=open_byte h0
 obtain⟨u1,rfl⟩:=open_byte h1
 obtain⟨u2,rfl⟩:=open_byte h2
 obtain⟨u3,rfl⟩:=open_byte h3
 obtain⟨u4,rfl⟩:=open_byte h4
 obtain⟨u5,rfl⟩:=open_byte h5
 obtain⟨u6,rfl⟩:=open_byte h6
 obtain⟨u7,rfl⟩:=open_byte h7
 exact⟨[u0,u1,u2,u3,u4,u5,u6,u7],rfl,rfl,rfl,rfl,rfl,rfl,rfl,rfl⟩
structure RwE where
 r:List UInt8
 A:Option Addr
 c:Nat
 deriving Inhabited
set_option maxRecDepth 100000 in
theorem open_rows {fuel:Nat} {cs:List Value} {x:DataW H×List MemPlace} (h:DataW.trod enc Tryz.prog W 0 (fun _=>true) true fuel 67 cs=some x) (hb:Rows.uptoBulk x.1<=1048576) :
  ∃ A n c R,cs=[.slice A n c]/\RowsIn W W.heap.size A n R/\n<=1048576/\∀ r∈R,r.length<=1048576:=by
 obtain⟨A,n,c,l,hcs,hl,_,_,hz,hbk,h0,hi⟩:=Dr.open_row (α:=RwE) (R:=fun u cs y=>Rows.uptoBulk y<=1048576->cs=[.slice u.A u.r.length u.c]/\Rd W W.heap.size 1 u.A u.r.length (cU8 u.r)/\(u.A=none->u.c=0)/\u.r.length<=1048576) Tryz.underlying67 (by kernel_rfl:_=1) (by omega) (fun fuel cs y p hy=>by
  by_cases hq:Rows.uptoBulk y<=1048576
  ·obtain⟨A,n,c,b,h1,h2,h3,h4⟩:=Dr.open_bytes Tryz.underlying79 hy hq
   have hn:b.length=n:=by have:=h2.1;simpa using this
   subst hn
   exact⟨⟨b,A,c⟩,fun _=>⟨h1,h2,h3,h4⟩⟩
  ·exact⟨default,fun h=>absurd h hq⟩) h
 refine⟨A,n,c,l.map (·.r),hcs,⟨by simp[hl],fun k r hr=>?_⟩,by omega,fun r hr=>?_⟩
 ·rw[List.getElem?_map] at hr
  cases hk:l[k]? with
  | none=>rw[hk] at hr;cases hr
  | some u=>
   rw[hk] at hr
   injection hr with hr
   subst hr
   have hkn:=(List.getElem?_eq_some_iff.1 hk).1
   obtain⟨b,o,rfl,hbl⟩:=h0 (by omega)
   obtain⟨cs',y,h1,_,h3,h4⟩:=hi k u hk
   obtain⟨rfl,h5,h6,_⟩:=h1 (by omega)
   refine⟨_,u.A,u.c,rfl,hbl,?_,h5,h6⟩
   have:=h4 b o rfl 0 _ rfl
   rw[Addr.add_mid]
   rw[show o+k=o+k*1+0 by omega]
   exact this
 ·obtain⟨u,hu,rfl⟩:=List.mem_map.1 hr
  obtain⟨k,hk,rfl⟩:=List.getElem_of_mem hu
  obtain⟨cs',y,h1,_,h3,_⟩:=hi k _ (List.getElem?_eq_getElem hk)
  exact (h1 (by omega)).2.2.2
structure SnE where
 s:Sn
 A:Option Addr
 c:Nat
 deriving Inhabited
set_option maxRecDepth 100000 in
set_option maxHeartbeats 1000000 in
theorem open_sn {fuel:Nat} {cs:List Value} {x:DataW H×List MemPlace} (h:DataW.trod enc Tryz.prog W 0 (fun _=>true) true fuel 72 cs=some x) (hb:Rows.uptoBulk x.1<=1048576) :
  ∃ u:SnE,cs=snC u.s (.slice u.A u.s.blocks.length u.c)/\RowsIn W W.heap.size u.A u.s.blocks.length u.s.blocks/\u.s.blocks.length<=1048576/\∀ b∈u.s.blocks,b.length<=1048576:=by
 obtain⟨xs,n,_,hx,hlen,hxl,hf⟩:=DataW.trod_struct Tryz.underlying72 h
 rw[show Tryz.prog.cellsOf 72=19 by kernel_rfl] at hlen
 obtain⟨c0,c1,c2,c3,c4,c5,c6,c7,c8,c9,c10,c11,c12,c13,c14,c15,c16,c17,c18,rfl⟩:∃ c0 c1 c2 c3 c4 c5 c6 c7 c8 c9 c10 c11 c12 c13 c14 c15 c16 c17 c18,cs=[c0,c1,c2,c3,c4,c5,c6,c7,c8,c9,c10,c11,c12,c13,c14,c15,c16,c17,c18]:=by
  match cs,hlen with
  | [c0,c1,c2,c3,c4,c5,c6,c7,c8,c9,c10,c11,c12,c13,c14,c15,c16,c17,c18],_=>exact⟨c0,c1,c2,c3,c4,c5,c6,c7,c8,c9,c10,c11,c12,c13,c14,c15,c16,c17,c18,rfl⟩
 rw[hx] at hb
 dsimp only at hb
 obtain⟨y0,e0,t0⟩:=Dr.field hxl hf (i:=0) rfl (t:=3) (k:=1) (o:=0) rfl rfl (by kernel_rfl)
 obtain⟨y1,e1,t1⟩:=Dr.field hxl hf (i:=1) rfl (t:=69) (k:=17) (o:=1) rfl rfl (by kernel_rfl)
 obtain⟨y2,e2,t2⟩:=Dr.field hxl hf (i:=2) rfl (t:=70) (k:=1) (o:=18) rfl rfl (by kernel_rfl)
 have b1:=Dr.part_bulk e1
 obtain⟨kind,rfl,_⟩:=open_int Tryz.underlying3 t0
 obtain⟨err,rfl,_⟩:=open_int Tryz.underlying70 t2
 obtain⟨zs,n2,_,hz,_,hzl,hzf⟩:=DataW.trod_struct Tryz.underlying69 t1
 rw[hz] at b1
 dsimp only at b1
 obtain⟨y3,e3,t3⟩:=Dr.field hzl hzf (i:=0) rfl (t:=66) (k:=16) (o:=0) rfl rfl (by kernel_rfl)
 obtain⟨y4,e4,t4⟩:=Dr.field hzl hzf (i:=1) rfl (t:=67) (k:=1) (o:=16) rfl rfl (by kernel_rfl)
 have b4:=Dr.part_bulk e4
 have b3:=Dr.part_bulk e3
 obtain⟨A,nb,cb,R,v4,r4,l4,m4⟩:=open_rows t4 (by omega)
 obtain⟨qs,n3,_,hq,_,hql,hqf⟩:=DataW.trod_struct Tryz.underlying66 t3
 rw[hq] at b3
 dsimp only at b3
 obtain⟨y5,e5,t5⟩:=Dr.field hql hqf (i:=0) rfl (t:=25) (k:=8) (o:=0) rfl rfl (by kernel_rfl)
 obtain⟨y6,e6,t6⟩:=Dr.field hql hqf (i:=1) rfl (t:=24) (k:=3) (o:=8) rfl rfl (by kernel_rfl)
 obtain⟨y7,e7,t7⟩:=Dr.field hql hqf (i:=2) rfl (t:=9) (k:=1) (o:=11) rfl rfl (by kernel_rfl)
 obtain⟨y8,e8,t8⟩:=Dr.field hql hqf (i:=3) rfl (t:=3) (k:=1) (o:=12) rfl rfl (by kernel_rfl)
 obtain⟨y9,e9,t9⟩:=Dr.field hql hqf (i:=4) rfl (t:=3) (k:=1) (o:=13) rfl rfl (by kernel_rfl)
 obtain⟨y10,e10,t10⟩:=Dr.field hql hqf (i:=5) rfl (t:=27) (k:=2) (o:=14) rfl rfl (by kernel_rfl)
 have b7:=Dr.part_bulk e7
 obtain⟨st,rfl,rfl,rfl,rfl,rfl,rfl,rfl,rfl⟩:=open_store t5
 obtain⟨key,v7,_⟩:=Dr.open_text Tryz.underlying9 t7 (by omega)
 obtain⟨size,rfl,_⟩:=open_int Tryz.underlying3 t8
 obtain⟨idx,rfl,_⟩:=open_int Tryz.underlying3 t9
 obtain⟨ss,n4,_,_,_,hsl,hsf⟩:=DataW.trod_struct Tryz.underlying24 t6
 obtain⟨_,_,s0⟩:=Dr.field hsl hsf (i:=0) rfl (t:=3) (k:=1) (o:=0) rfl rfl (by kernel_rfl)
 obtain⟨_,_,s1⟩:=Dr.field hsl hsf (i:=1) rfl (t:=3) (k:=1) (o:=1) rfl rfl (by kernel_rfl)
 obtain⟨_,_,s2⟩:=Dr.field hsl hsf (i:=2) rfl (t:=3) (k:=1) (o:=2) rfl rfl (by kernel_rfl)
 obtain⟨sk,rfl,_⟩:=open_int Tryz.underlying3 s0
 obtain⟨sm,rfl,_⟩:=open_int Tryz.underlying3 s1
 obtain⟨sb,rfl,_⟩:=open_int Tryz.underlying3 s2
 obtain⟨gs,n5,_,_,_,hgl,hgf⟩:=DataW.trod_struct Tryz.underlying27 t10
 obtain⟨_,_,g0⟩:=Dr.field hgl hgf (i:=0) rfl (t:=3) (k:=1) (o:=0) rfl rfl (by kernel_rfl)
 obtain⟨_,_,g1⟩:=Dr.field hgl hgf (i:=1) rfl (t:=3) (k:=1) (o:=1) rfl rfl (by kernel_rfl)
 obtain⟨ep,rfl,_⟩:=open_int Tryz.underlying3 g0
 obtain⟨ct,rfl,_⟩:=open_int Tryz.underlying3 g1
 injection v4 with v4 _
 injection v7 with v7 _
 subst v4 v7
 have hR:R.length=nb:=r4.len
 subst hR
 exact⟨⟨⟨kind,st,sk,sm,sb,key,size,idx,ep,ct,R,err⟩,A,cb⟩,rfl,r4,l4,m4⟩
set_option maxRecDepth 100000 in
theorem open_sns {fuel:Nat} {cs:List Value} {x:DataW H×List MemPlace} (h:DataW.trod enc Tryz.prog W 0 (fun _=>true) true fuel 33 cs=some x) (hb:Rows.uptoBulk x.1<=1048576) :
  ∃ A n c L,cs=[.slice A n c]/\SnsIn W W.heap.size A n L/\n<=1048576/\(∀ s∈L,s.blocks.length<=1048576)/\∀ s∈L,∀ b∈s.blocks,b.length<=1048576:=by
 obtain⟨A,n,c,l,hcs,hl,_,_,hz,hbk,h0,hi⟩:=Dr.open_row (α:=SnE) (R:=fun u cs y=>Rows.uptoBulk y<=1048576->cs=snC u.s (.slice u.A u.s.blocks.length u.c)/\RowsIn W W.heap.size u.A u.s.blocks.length u.s.blocks/\u.s.blocks.length<=1048576/\∀ b∈u.s.blocks,b.length<=1048576) Tryz.underlying33 (by kernel_rfl:_=19) (by omega) (fun fuel cs y p hy=>by
  by_cases hq:Rows.uptoBulk y<=1048576
  ·obtain⟨u,hu⟩:=open_sn hy hq
   exact⟨u,fun _=>hu⟩
  ·exact⟨default,fun h=>absurd h hq⟩) h
 have each:∀ u∈l,u.s.blocks.length<=1048576/\∀ b∈u.s.blocks,b.length<=1048576:=fun u hu=>by
  obtain⟨k,hk,rfl⟩:=List.getElem_of_mem hu
  obtain⟨cs',y,h1,_,h3,_⟩:=hi k _ (List.getElem?_eq_getElem hk)
  exact (h1 (by omega)).2.2
 refine⟨A,n,c,l.map (·.s),hcs,⟨by simp[hl],fun k s hs=>?_⟩,by omega,fun s hs=>?_,fun s hs=>?_⟩
 ·rw[List.getElem?_map] at hs
  cases hk:l[k]? with
  | none=>rw[hk] at hs;cases hs
  | some u=>
   rw[hk] at hs
   injection hs with hs
   subst hs
   have hkn:=(List.getElem?_eq_some_iff.1 hk).1
   obtain⟨b,o,rfl,hbl⟩:=h0 (by omega)
   obtain⟨cs',y,h1,_,h3,h4⟩:=hi k u hk
   obtain⟨rfl,h5,_⟩:=h1 (by omega)
   exact⟨b,o,u.A,u.c,rfl,hbl,h4 b o rfl,h5⟩
 ·obtain⟨u,hu,rfl⟩:=List.mem_map.1 hs
  exact (each u hu).1
 ·obtain⟨u,hu,rfl⟩:=List.mem_map.1 hs
  exact (each u hu).2
end
end Go.Proofs.YtmgljaecmchgaaaGreat.Gf
namespace Go.Proofs.YtmgljaecmchgaaaGreat.Gf
open Go.RowKit Go.Proofs
abbrev tWp:TypeId:=89
abbrev tDp:TypeId:=94
abbrev tFace:TypeId:=88
structure RowsOf (w:World) (V G:Nat) (fs:Nat->List (Dr.Bs×Dr.Bs)) (o:Nat->Option (Dr.D×Gt)) (i:Nat) (vd vw vm:Value) (d e f:List Value):Prop where
 res:∃ cs:Array Value,cs.size=3/\w.heap[V]?=some (.cells cs tBoth (0,0))
 ne:V≠G
 box:w.heap[G]?=some (.cells #[vd,vw,vm] tBoth (0,0))
 rd:w.ownsRow V tFace 1 vd i d
 rw_:w.ownsRow V tWp 1 vw i e
 rm:w.ownsRow V tDp 1 vm i f
 made:∀ j,j<i->MadeAt w (fun k=>k<=V\/k=G\/vd.ownBlock=some k\/vw.ownBlock=some k\/vm.ownBlock=some k) (d.getD j undef) (e.getD j undef) (f.getD j undef) (fs j) (o j)
section
variable {w w':World} {V G i:Nat} {fs:Nat->List (Dr.Bs×Dr.Bs)} {o:Nat->Option (Dr.D×Gt)} {vd vw vm:Value} {d e f:List Value}
theorem RowsOf.alien (h:RowsOf w V G fs o i vd vw vm d e f):Alien w (fun k=>k=V\/k=G\/vd.ownBlock=some k\/vw.ownBlock=some k\/vm.ownBlock=some k):=by
 intro k hk
 rcases hk with rfl | rfl | hk | hk | hk
 ·obtain⟨cs,_,hc⟩:=h.res
  exact⟨_,_,hc,by decide,by decide,by decide,by decide⟩
 ·exact⟨_,_,h.box,by decide,by decide,by decide,by decide⟩
 ·obtain⟨c,hc⟩:=Dr.own_lt h.rd hk
  exact⟨_,_,hc,by decide,by decide,by decide,by decide⟩
 ·obtain⟨c,hc⟩:=Dr.own_lt h.rw_ hk
  exact⟨_,_,hc,by decide,by decide,by decide,by decide⟩
 ·obtain⟨c,hc⟩:=Dr.own_lt h.rm hk
  exact⟨_,_,hc,by decide,by decide,by decide,by decide⟩
theorem RowsOf.below (h:RowsOf w V G fs o i vd vw vm d e f) (hb:Below w.heap.size w w'):RowsOf w' V G fs o i vd vw vm d e f:=
 ⟨by obtain⟨cs,hz,hc⟩:=h.res;exact⟨cs,hz,(hb.block V (Array.getElem?_eq_some_iff.1 hc).1).trans hc⟩,h.ne,(hb.block G (Array.getElem?_eq_some_iff.1 h.box).1).trans h.box,own_below h.rd hb,own_below h.rw_ hb,own_below h.rm hb,
  fun j hj=>(h.made j hj).kept (U:=fun _=>False) (Kept.of_below _ hb) (fun _ hu=>hu.elim) (fun _ hu=>hu.elim) (fun _ _ h=>h)⟩
theorem RowsOf.nil {cs:Array Value} (hz:cs.size=3) (hr:w.heap[V]?=some (.cells cs tBoth (0,0))) (hne:V≠G) (hb:w.heap[G]?=some (.cells #[.slice none 0 0,.slice none 0 0,.slice none 0 0] tBoth (0,0))):RowsOf w V G fs o 0 (.slice none 0 0) (.slice none 0 0) (.slice none 0 0) [] [] []:=
 ⟨⟨cs,hz,hr⟩,hne,hb,World.ownsRow_nil _ _ _ _,World.ownsRow_nil _ _ _ _,World.ownsRow_nil _ _ _ _,fun j hj=>absurd hj (by omega)⟩
theorem RowsOf.notV (h:RowsOf w V G fs o i vd vw vm d e f):¬ (V=G\/vd.ownBlock=some V\/vw.ownBlock=some V\/vm.ownBlock=some V):=by
 obtain⟨cs,_,hc⟩:=h.res
 have key:∀ {t:TypeId} {n:Nat} {v:Value} {xs:List Value},t≠tBoth->w.ownsRow V t 1 v n xs->v.ownBlock≠some V:=fun {t n v xs} ht hr e=>by
  obtain⟨c,h1⟩:=Dr.own_lt hr e
  rw[hc] at h1;injection h1 with h1;injection h1 with _ h1;exact ht h1.symm
 rintro (h1 | h1 | h1 | h1)
 ·exact h.ne h1
 ·exact key (by decide) h.rd h1
 ·exact key (by decide) h.rw_ h1
 ·exact key (by decide) h.rm h1
theorem RowsOf.setV (h:RowsOf w V G fs o i vd vw vm d e f) (cs:Array Value) (hz:cs.size=3):RowsOf (w.setRow V cs) V G fs o i vd vw vm d e f:=by
 have hk:Kept w (w.setRow V cs) (fun k=>k=V):=⟨rfl,rfl,rfl,by simp[World.setRow],fun k _ hk=>setRow_other w V k _ hk⟩
 have hV:=h.notV
 obtain⟨cs0,_,hc⟩:=h.res
 have key:∀ {t:TypeId} {n:Nat} {v:Value} {xs:List Value},v.ownBlock≠some V->w.ownsRow V t 1 v n xs->(w.setRow V cs).ownsRow V t 1 v n xs:=fun {t n v xs} ht hr=>
  Dr.own_same hr fun k hv=>setRow_other w V k _ (fun e=>ht (e▸hv))
 exact⟨⟨_,hz,setRow_heap w V _ _ _ _ hc⟩,h.ne,(setRow_other w V G _ (fun e=>h.ne e.symm)).trans h.box,key (fun e=>hV (.inr (.inl e))) h.rd,key (fun e=>hV (.inr (.inr (.inl e)))) h.rw_,key (fun e=>hV (.inr (.inr (.inr e)))) h.rm,
  fun j hj=>(h.made j hj).kept hk (fun k e=>h.alien k (.inl e)) (fun k e=>.inl (Nat.le_of_eq e)) (fun _ _ h=>h)⟩
theorem own_ge {B n size:Nat} {t:TypeId} {v:Value} {xs:List Value} (h:w.ownsRow B t size v n xs) {k:Nat} (hk:v.ownBlock=some k):B<=k:=by
 rcases h.2 with ⟨rfl,_⟩ | ⟨g',cap',cur,rfl,h2,_⟩
 ·cases hk
 ·obtain rfl:g'=k:=by simpa [Value.ownBlock] using hk
  exact h2
theorem RowsOf.elder (h:RowsOf w V G fs o i vd vw vm d e f) {x:Nat} {cs:Array Value} {t:TypeId} (hk:Kept w w' (fun k=>k=x)) (hx:x<V) (hc:w.heap[x]?=some (.cells cs t (0,0))) (ht:t≠tBoth/\t≠tWound/\t≠tDisk/\t≠tFault/\t≠tFuse):RowsOf w' V G fs o i vd vw vm d e f:=by
 obtain⟨cs0,hz,hr⟩:=h.res
 have key:∀ {t:TypeId} {n:Nat} {v:Value} {xs:List Value},w.ownsRow V t 1 v n xs->w'.ownsRow V t 1 v n xs:=fun {t n v xs} hr=>
  Dr.own_same hr fun k hv=>by
   obtain⟨c,h1⟩:=Dr.own_lt hr hv
   exact hk.block k (Array.getElem?_eq_some_iff.1 h1).1 (fun e=>by have:=own_ge hr hv;omega)
 exact⟨⟨cs0,hz,(hk.block V (Array.getElem?_eq_some_iff.1 hr).1 (fun e=>by omega)).trans hr⟩,h.ne,(hk.block G (Array.getElem?_eq_some_iff.1 h.box).1 (fun e=>by
   have h1:=h.box
   rw[e,hc] at h1;injection h1 with h1;injection h1 with _ h1;exact ht.1 h1)).trans h.box,key h.rd,key h.rw_,key h.rm,
  fun j hj=>(h.made j hj).kept hk (fun k e=>by rw[e];exact⟨_,_,hc,ht.2⟩) (fun k e=>.inl (by omega)) (fun _ _ h=>h)⟩
theorem RowsOf.snoc (h:RowsOf w V G fs o i vd vw vm d e f) {vd' vw' vm' a b c:Value} (hk:Kept w w' (fun k=>k=G\/vd.ownBlock=some k\/vw.ownBlock=some k\/vm.ownBlock=some k))
  (hnew:∀ k,k<w.heap.size->(k=G\/vd'.ownBlock=some k\/vw'.ownBlock=some k\/vm'.ownBlock=some k)->(k=G\/vd.ownBlock=some k\/vw.ownBlock=some k\/vm.ownBlock=some k))
  (hbox:w'.heap[G]?=some (.cells #[vd',vw',vm'] tBoth (0,0))) (h1:w'.ownsRow V tFace 1 vd' (i+1) (d++[a])) (h2:w'.ownsRow V tWp 1 vw' (i+1) (e++[b])) (h3:w'.ownsRow V tDp 1 vm' (i+1) (f++[c]))
  (hl:MadeAt w' (fun k=>k<=V\/k=G\/vd'.ownBlock=some k\/vw'.ownBlock=some k\/vm'.ownBlock=some k) a b c (fs i) (o i)):RowsOf w' V G fs o (i+1) vd' vw' vm' (d++[a]) (e++[b]) (f++[c]):=by
 have hd:d.length=i:=by simpa using h.rd.1
 have he:e.length=i:=by simpa using h.rw_.1
 have hf:f.length=i:=by simpa using h.rm.1
 have hV:¬ (V=G\/vd.ownBlock=some V\/vw.ownBlock=some V\/vm.ownBlock=some V):=h.notV
 refine⟨by obtain⟨cs,hz,hc⟩:=h.res;exact⟨cs,hz,(hk.block V (Array.getElem?_eq_some_iff.1 hc).1 hV).trans hc⟩,h.ne,hbox,h1,h2,h3,fun j hj=>?_⟩
 have hlt:∀ (l:List Value) (x:Value),l.length=i->(l++[x]).getD j undef=if j<i then l.getD j undef else x:=by
  intro l x hll
  by_cases hji:j<i
  ·rw[if_pos hji,List.getD_eq_getElem?_getD,List.getElem?_append_left (by omega),<-List.getD_eq_getElem?_getD]
  ·have hji2:j=l.length:=by omega
   rw[if_neg hji,hji2,List.getD_eq_getElem?_getD,List.getElem?_append_right (by omega)]
   simp
 rw[hlt d a hd,hlt e b he,hlt f c hf]
 by_cases hji:j<i
 ·rw[if_pos hji,if_pos hji,if_pos hji]
  exact (h.made j hji).kept hk (fun k hu=>h.alien k (.inr hu)) (fun k hu=>.inr hu) (fun k h1 h2=>h2.imp id (fun h3=>hnew k h1 h3))
 ·have hji2:j=i:=by omega
  subst hji2
  rw[if_neg hji,if_neg hji,if_neg hji]
  exact hl
end
end Go.Proofs.YtmgljaecmchgaaaGreat.Gf
namespace Go.Proofs.YtmgljaecmchgaaaGreat.Gf
open Go.RowKit Go.Proofs
theorem keptS {w w':World} {S:Nat->Prop} (h:Kept w w' S) {p:Addr} (hp:S p.block) (v:Value):Kept w (w'.setCell p v) S:=
 ⟨h.os,h.tape,h.output,by have:=h.size;simpa [World.setCell] using this,fun k hk hs=>(Below.heap_setCell w' p v k (fun e=>hs (e▸hp))).trans (h.block k hk hs)⟩
structure Tbx (w0 w:World) (U:Nat->Prop) (V G:Nat) (vd vw vm:Value) (nd nw nm:Nat) (d e f:List Value):Prop where
 box:w.heap[G]?=some (.cells #[vd,vw,vm] tBoth (0,0))
 rd:w.ownsRow V tFace 1 vd nd d
 rw_:w.ownsRow V tWp 1 vw nw e
 rm:w.ownsRow V tDp 1 vm nm f
 kept:Kept w0 w U
 inG:U G
 own:∀ k,(vd.ownBlock=some k\/vw.ownBlock=some k\/vm.ownBlock=some k)->U k\/w0.heap.size<=k
section
variable {w0 w w1:World} {U:Nat->Prop} {V G nd nw nm:Nat} {vd vw vm:Value} {d e f:List Value}
theorem RowsOf.tri {fs:Nat->List (Dr.Bs×Dr.Bs)} {o:Nat->Option (Dr.D×Gt)} {i:Nat} (h:RowsOf w V G fs o i vd vw vm d e f) :
  Tbx w w (fun k=>k=G\/vd.ownBlock=some k\/vw.ownBlock=some k\/vm.ownBlock=some k) V G vd vw vm i i i d e f:=
 ⟨h.box,h.rd,h.rw_,h.rm,Kept.refl _ _,.inl rfl,fun k hk=>.inl (.inr hk)⟩
theorem Tbx.from_ {w00:World} (h:Tbx w0 w U V G vd vw vm nd nw nm d e f) (hb:Below w00.heap.size w00 w0):Tbx w00 w U V G vd vw vm nd nw nm d e f:=
 ⟨h.box,h.rd,h.rw_,h.rm,(Kept.of_below U hb).trans h.kept (fun _ h=>.inl h),h.inG,fun k hk=>(h.own k hk).imp id (fun h1=>Nat.le_trans hb.size h1)⟩
theorem Tbx.gate {p q:Nat} {cs cs':Array Value} (h:Tbx w0 w U V G vd vw vm nd nw nm d e f) (hk:Kept w w1 (fun b=>b=p\/b=q)) (hp:w.heap[p]?=some (.cells cs tWound (0,0))) (hq:w.heap[q]?=some (.cells cs' tDisk (0,0)))
  (hp0:w0.heap.size<=p) (hq0:w0.heap.size<=q):Tbx w0 w1 U V G vd vw vm nd nw nm d e f:=by
 have hne:∀ {k:Nat} {cs2:Array Value} {t:TypeId},w.heap[k]?=some (.cells cs2 t (0,0))->t≠tWound->t≠tDisk->w1.heap[k]?=w.heap[k]?:=fun {k cs2 t} h1 h2 h3=>
  hk.block k (Array.getElem?_eq_some_iff.1 h1).1 (fun e=>by
   rcases e with rfl | rfl
   ·rw[hp] at h1;injection h1 with h1;injection h1 with _ h1;exact h2 h1.symm
   ·rw[hq] at h1;injection h1 with h1;injection h1 with _ h1;exact h3 h1.symm)
 have hrow:∀ {t:TypeId} {n:Nat} {v:Value} {xs:List Value},t≠tWound->t≠tDisk->w.ownsRow V t 1 v n xs->w1.ownsRow V t 1 v n xs:=fun {t n v xs} h2 h3 hr=>
  Dr.own_same hr fun k hv=>by obtain⟨c,hc⟩:=Dr.own_lt hr hv;exact hne hc h2 h3
 exact⟨(hne h.box (by decide) (by decide)).trans h.box,hrow (by decide) (by decide) h.rd,hrow (by decide) (by decide) h.rw_,hrow (by decide) (by decide) h.rm,
  h.kept.trans hk (fun k e=>by rcases e with rfl | rfl;exact .inr hp0;exact .inr hq0),h.inG,h.own⟩
theorem row_grown {n n2:Nat} {t t2:TypeId} {v v2:Value} {xs xs2:List Value} {o:Obj} {cs:Array Value} (h:w.ownsRow V t 1 v n xs) (h2:w.ownsRow V t2 1 v2 n2 xs2) (hne:t≠t2) (hg:(w.alloc o).grownBy w1 v2.ownBlock)
  (hG:w.heap[G]?=some (.cells cs tBoth (0,0))) (ht:t≠tBoth) (j:Nat) (x:Value):(w1.setCell ⟨G,j,none⟩ x).ownsRow V t 1 v n xs:=
 Dr.own_same h fun k hk=>by
  obtain⟨c,hc⟩:=Dr.own_lt h hk
  have hlt:=(Array.getElem?_eq_some_iff.1 hc).1
  have hkG:k≠G:=by rintro rfl;rw[hG] at hc;injection hc with hc;injection hc with _ hc;exact ht hc.symm
  have hk2:some k≠v2.ownBlock:=fun e=>by
   obtain⟨c2,hc2⟩:=Dr.own_lt h2 e.symm
   rw[hc] at hc2;injection hc2 with a;injection a with _ a;exact hne a
  exact (Below.heap_setCell _ _ _ k hkG).trans ((hg.block k (by simp;omega) hk2).trans (heap_alloc_old _ _ hlt))
theorem box_grown {n2:Nat} {t2:TypeId} {v2:Value} {xs2:List Value} {o:Obj} {cs:Array Value} (h2:w.ownsRow V t2 1 v2 n2 xs2) (ht:t2≠tBoth) (hg:(w.alloc o).grownBy w1 v2.ownBlock)
  (hG:w.heap[G]?=some (.cells cs tBoth (0,0))):w1.heap[G]?=some (.cells cs tBoth (0,0)):=by
 have hlt:=(Array.getElem?_eq_some_iff.1 hG).1
 have hk2:some G≠v2.ownBlock:=fun e=>by
  obtain⟨c2,hc2⟩:=Dr.own_lt h2 e.symm
  rw[hG] at hc2;injection hc2 with a;injection a with _ a;exact ht a.symm
 exact (hg.block G (by simp;omega) hk2).trans ((heap_alloc_old _ _ hlt).trans hG)
theorem row_set {t:TypeId} {g c n:Nat} {xs:List Value} {cs:Array Value} (h:w1.ownsRow V t 1 (.slice (some ⟨g,0,none⟩) n c) n xs) (ht:t≠tBoth) (hG:w1.heap[G]?=some (.cells cs tBoth (0,0))) (j:Nat) (x:Value) :
  (w1.setCell ⟨G,j,none⟩ x).ownsRow V t 1 (.slice (some ⟨g,0,none⟩) n c) n xs:=
 Dr.own_same h fun k hk=>by
  obtain⟨c2,hc⟩:=Dr.own_lt h hk
  have hkG:k≠G:=by rintro rfl;rw[hG] at hc;injection hc with hc;injection hc with _ hc;exact ht hc.symm
  exact Below.heap_setCell _ _ _ k hkG
theorem own_new {v:Value} {g c n:Nat} {o:Obj} (hw:w0.heap.size<=w.heap.size) (h:∀ k,v.ownBlock=some k->U k\/w0.heap.size<=k) (hat:v.ownBlock=some g\/g=(w.alloc o).heap.size) :
  ∀ k,(Value.slice (some ⟨g,0,none⟩) n c).ownBlock=some k->U k\/w0.heap.size<=k:=by
 intro k hk
 obtain rfl:g=k:=by simpa [Value.ownBlock] using hk
 rcases hat with h1 | rfl
 ·exact h _ h1
 ·exact .inr (by simp;omega)
theorem Tbx.app_m (h:Tbx w0 w U V G vd vw vm nd nw nm d e f) {o:Obj} {g c:Nat} {x:Value} (hr:w1.ownsRow V tDp 1 (.slice (some ⟨g,0,none⟩) (nm+1) c) (nm+1) (f++[x])) (hg:(w.alloc o).grownBy w1 vm.ownBlock) (hat:vm.ownBlock=some g\/g=(w.alloc o).heap.size) :
  Tbx w0 (w1.setCell ⟨G,2,none⟩ (.slice (some ⟨g,0,none⟩) (nm+1) c)) U V G vd vw (.slice (some ⟨g,0,none⟩) (nm+1) c) nd nw (nm+1) d e (f++[x]):=
 ⟨Ring.heap_same (box_grown h.rm (by decide) hg h.box) _,row_grown h.rd h.rm (by decide) hg h.box (by decide) _ _,row_grown h.rw_ h.rm (by decide) hg h.box (by decide) _ _,row_set hr (by decide) (box_grown h.rm (by decide) hg h.box) _ _,
  keptS ((h.kept.below ((Below.refl _ _).alloc (Nat.le_refl _) o)).grown hg (fun b hb=>h.own b (.inr (.inr hb)))) h.inG _,h.inG,
  fun k hk=>by
   rcases hk with hk | hk | hk
   ·exact h.own k (.inl hk)
   ·exact h.own k (.inr (.inl hk))
   ·exact own_new h.kept.size (fun k hk=>h.own k (.inr (.inr hk))) hat k hk⟩
theorem Tbx.app_w (h:Tbx w0 w U V G vd vw vm nd nw nm d e f) {o:Obj} {g c:Nat} {x:Value} (hr:w1.ownsRow V tWp 1 (.slice (some ⟨g,0,none⟩) (nw+1) c) (nw+1) (e++[x])) (hg:(w.alloc o).grownBy w1 vw.ownBlock) (hat:vw.ownBlock=some g\/g=(w.alloc o).heap.size) :
  Tbx w0 (w1.setCell ⟨G,1,none⟩ (.slice (some ⟨g,0,none⟩) (nw+1) c)) U V G vd (.slice (some ⟨g,0,none⟩) (nw+1) c) vm nd (nw+1) nm d (e++[x]) f:=
 ⟨Ring.heap_same (box_grown h.rw_ (by decide) hg h.box) _,row_grown h.rd h.rw_ (by decide) hg h.box (by decide) _ _,row_set hr (by decide) (box_grown h.rw_ (by decide) hg h.box) _ _,row_grown h.rm h.rw_ (by decide) hg h.box (by decide) _ _,
  keptS ((h.kept.below ((Below.refl _ _).alloc (Nat.le_refl _) o)).grown hg (fun b hb=>h.own b (.inr (.inl hb)))) h.inG _,h.inG,
  fun k hk=>by
   rcases hk with hk | hk | hk
   ·exact h.own k (.inl hk)
   ·exact own_new h.kept.size (fun k hk=>h.own k (.inr (.inl hk))) hat k hk
   ·exact h.own k (.inr (.inr hk))⟩
theorem Tbx.app_d (h:Tbx w0 w U V G vd vw vm nd nw nm d e f) {o:Obj} {g c:Nat} {x:Value} (hr:w1.ownsRow V tFace 1 (.slice (some ⟨g,0,none⟩) (nd+1) c) (nd+1) (d++[x])) (hg:(w.alloc o).grownBy w1 vd.ownBlock) (hat:vd.ownBlock=some g\/g=(w.alloc o).heap.size) :
  Tbx w0 (w1.setCell ⟨G,0,none⟩ (.slice (some ⟨g,0,none⟩) (nd+1) c)) U V G (.slice (some ⟨g,0,none⟩) (nd+1) c) vw vm (nd+1) nw nm (d++[x]) e f:=
 ⟨Ring.heap_same (box_grown h.rd (by decide) hg h.box) _,row_set hr (by decide) (box_grown h.rd (by decide) hg h.box) _ _,row_grown h.rw_ h.rd (by decide) hg h.box (by decide) _ _,row_grown h.rm h.rd (by decide) hg h.box (by decide) _ _,
  keptS ((h.kept.below ((Below.refl _ _).alloc (Nat.le_refl _) o)).grown hg (fun b hb=>h.own b (.inl hb))) h.inG _,h.inG,
  fun k hk=>by
   rcases hk with hk | hk | hk
   ·exact own_new h.kept.size (fun k hk=>h.own k (.inl hk)) hat k hk
   ·exact h.own k (.inr (.inl hk))
   ·exact h.own k (.inr (.inr hk))⟩
theorem infoDp:(Tryz.prog.info? tDp).map (fun i=>(i.zero,i.size,i.bytes))=some (some (.pointer none),1,8):=by kernel_rfl
theorem infoWp:(Tryz.prog.info? tWp).map (fun i=>(i.zero,i.size,i.bytes))=some (some (.pointer none),1,8):=by kernel_rfl
theorem infoFace:(Tryz.prog.info? tFace).map (fun i=>(i.zero,i.size,i.bytes))=some (some .nilIface,1,16):=by kernel_rfl
theorem Tbx.cells (h:Tbx w0 w U V G vd vw vm nd nw nm d e f):w.cell? ⟨G,0,none⟩=some vd/\w.cell? ⟨G,1,none⟩=some vw/\w.cell? ⟨G,2,none⟩=some vm:=by
 refine⟨?_,?_,?_⟩<;>(rw[cell_of_row _ _ _ _ _ _ h.box];rfl)
theorem Tbx.cell (h:Tbx w0 w U V G vd vw vm nd nw nm d e f) {p:Addr} (hp:p.block<w0.heap.size) (hn:¬ U p.block):w.cell? p=w0.cell? p:=World.cell?_of_block (w:=w0) (h.kept.block p.block hp hn)
theorem Tbx.snoc {fs:Nat->List (Dr.Bs×Dr.Bs)} {o:Nat->Option (Dr.D×Gt)} {i:Nat} {vd' vw' vm' a b c:Value} (h0:RowsOf w0 V G fs o i vd vw vm d e f)
  (h:Tbx w0 w (fun k=>k=G\/vd.ownBlock=some k\/vw.ownBlock=some k\/vm.ownBlock=some k) V G vd' vw' vm' (i+1) (i+1) (i+1) (d++[a]) (e++[b]) (f++[c]))
  (hl:MadeAt w (fun k=>k<=V\/k=G\/vd'.ownBlock=some k\/vw'.ownBlock=some k\/vm'.ownBlock=some k) a b c (fs i) (o i)):RowsOf w V G fs o (i+1) vd' vw' vm' (d++[a]) (e++[b]) (f++[c]):=
 h0.snoc h.kept (fun k hk hn=>by
  rcases hn with rfl | hn
  ·exact .inl rfl
  ·rcases h.own k hn with h1 | h1
   ·exact h1
   ·omega) h.box h.rd h.rw_ h.rm hl
theorem Tbx.snoc_none {fs:Nat->List (Dr.Bs×Dr.Bs)} {o:Nat->Option (Dr.D×Gt)} {i:Nat} {vd' vw' vm':Value} (h0:RowsOf w0 V G fs o i vd vw vm d e f) (ho:o i=none)
  (h:Tbx w0 w (fun k=>k=G\/vd.ownBlock=some k\/vw.ownBlock=some k\/vm.ownBlock=some k) V G vd' vw' vm' (i+1) (i+1) (i+1) (d++[.nilIface]) (e++[.pointer none]) (f++[.pointer none])):RowsOf w V G fs o (i+1) vd' vw' vm' (d++[.nilIface]) (e++[.pointer none]) (f++[.pointer none]):=
 h.snoc h0 (by rw[ho];exact⟨rfl,rfl,rfl⟩)
end
theorem made_gate {P:Plm} {D:Dr.D} {g:Gt} (h:P.made=some (D,g)):g=P.gate:=by
 unfold Plm.made at h
 split at h
 ·cases hl:Dr.D.load P.room P.fs with
  | none=>rw[hl] at h;cases h
  | some D2=>rw[hl] at h;injection h with h;injection h with _ h;exact h.symm
 ·cases h
abbrev sl (g i c:Nat):Value:=.slice (some ⟨g,0,none⟩) (i+1) c
structure Lay (wS w:World) (U:Nat->Prop) (V G i gd cd gw cw gm cm:Nat) (d e f:List Value) (S:Nat->Prop) (p dd q r:Nat) (D:Dr.D) (m nf:Nat) (g:Gt):Prop where
 tri:Tbx wS w U V G (sl gd i cd) (sl gw i cw) (sl gm i cm) (i+1) (i+1) (i+1) (d++[.iface 89 (.pointer (some ⟨p,0,none⟩))]) (e++[.pointer (some ⟨p,0,none⟩)]) (f++[.pointer (some ⟨q,0,none⟩)])
 two:Two w S p dd q r D m nf g
 hp:wS.heap.size<=p
 hq:wS.heap.size<=q
 np:¬ S p
 nq:¬ S q
 sep:∀ k,S k->¬ (k<=V\/k=G\/(sl gd i cd).ownBlock=some k\/(sl gw i cw).ownBlock=some k\/(sl gm i cm).ownBlock=some k)
section
variable {wS wc w w1:World} {U S:Nat->Prop} {V G i gd cd gw cw gm cm p dd q r m nf:Nat} {d e f:List Value} {D:Dr.D} {g g':Gt}
theorem Lay.start (hb:Below wS.heap.size wS wc) (h:Tbx wc w U V G (sl gd i cd) (sl gw i cw) (sl gm i cm) (i+1) (i+1) (i+1) (d++[.iface 89 (.pointer (some ⟨p,0,none⟩))]) (e++[.pointer (some ⟨p,0,none⟩)]) (f++[.pointer (some ⟨q,0,none⟩)]))
  (ht:Two wc S p dd q r D m nf g) (hU:∀ k,U k->k<wS.heap.size) (hal:Alien wc U) (hS:∀ k,S k->wS.heap.size<=k) (hp:wS.heap.size<=p) (hq:wS.heap.size<=q) (np:¬ S p) (nq:¬ S q) (hV:V<wS.heap.size) :
  Lay wS w U V G i gd cd gw cw gm cm d e f S p dd q r D m nf g:=
 ⟨h.from_ hb,ht.kept h.kept hal (fun k hk hu=>by have:=hS k hk;have:=hU k hu;omega),hp,hq,np,nq,fun k hk hn=>by
  have h1:=hS k hk
  have h2:=ht.low k hk
  rcases hn with hle | rfl | hn
  ·omega
  ·have:=hU _ h.inG;omega
  ·rcases h.own k hn with h3 | h3
   ·have:=hU k h3;omega
   ·omega⟩
theorem Lay.turn (h:Lay wS w U V G i gd cd gw cw gm cm d e f S p dd q r D m nf g) (h1:WdAt w1 p dd g') (h2:DkAt w1 q r g') (hk:Kept w w1 (fun b=>b=p\/b=q)):Lay wS w1 U V G i gd cd gw cw gm cm d e f S p dd q r D m nf g':=by
 obtain⟨_,_,_,_,hp,_⟩:=h.two.wd.own
 obtain⟨_,_,_,hq,_⟩:=h.two.dk.own
 exact⟨h.tri.gate hk hp hq h.hp h.hq,h.two.gate hk h.np h.nq h1 h2,h.hp,h.hq,h.np,h.nq,h.sep⟩
theorem snoc_at {w:World} {B g i c:Nat} {t:TypeId} {e:List Value} {x:Value} (h:w.ownsRow B t 1 (sl g i c) (i+1) (e++[x])):w.cell? ⟨g,i,none⟩=some x:=by
 have hl:e.length=i:=by have:=h.1;simp at this;omega
 exact Dr.own_cellS h (by rw[<-hl];simp)
theorem Lay.args (h:Lay wS w U V G i gd cd gw cw gm cm d e f S p dd q r D m nf g):gw<w.heap.size/\gm<w.heap.size/\w.cell? ⟨gw,i,none⟩=some (.pointer (some ⟨p,0,none⟩))/\w.cell? ⟨gm,i,none⟩=some (.pointer (some ⟨q,0,none⟩)):=by
 obtain⟨_,h1⟩:=Dr.own_lt h.tri.rw_ (g:=gw) rfl
 obtain⟨_,h2⟩:=Dr.own_lt h.tri.rm (g:=gm) rfl
 exact⟨(Array.getElem?_eq_some_iff.1 h1).1,(Array.getElem?_eq_some_iff.1 h2).1,snoc_at h.tri.rw_,snoc_at h.tri.rm⟩
theorem Lay.done {fs:Nat->List (Dr.Bs×Dr.Bs)} {o:Nat->Option (Dr.D×Gt)} {vd vw vm:Value} (h0:RowsOf wS V G fs o i vd vw vm d e f) (hnf:(fs i).length=nf) (ho:o i=some (D,g))
  (h:Lay wS w (fun k=>k=G\/vd.ownBlock=some k\/vw.ownBlock=some k\/vm.ownBlock=some k) V G i gd cd gw cw gm cm d e f S p dd q r D 1048576 nf g) :
  RowsOf w V G fs o (i+1) (sl gd i cd) (sl gw i cw) (sl gm i cm) (d++[.iface 89 (.pointer (some ⟨p,0,none⟩))]) (e++[.pointer (some ⟨p,0,none⟩)]) (f++[.pointer (some ⟨q,0,none⟩)]):=
 h.tri.snoc h0 (by rw[ho];exact⟨S,p,dd,q,r,rfl,rfl,rfl,by rw[hnf];exact h.two,h.sep,h.np,h.nq⟩)
end
end Go.Proofs.YtmgljaecmchgaaaGreat.Gf
