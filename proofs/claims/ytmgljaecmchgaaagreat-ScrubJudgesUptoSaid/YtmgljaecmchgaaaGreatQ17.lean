/- XPo8: merged by tools/merge.py. -/
import Derived.Test.YtmgljaecmchgaaaGreatQ16
set_option linter.unusedVariables false
set_option linter.unusedSimpArgs false
set_option linter.unusedSectionVars false
namespace Go.Proofs.YtmgljaecmchgaaaGreat.Gf
open Go.RowKit Go.Proofs Go.Shelf
attribute [local go_sem] Oper.semAt_some
structure DivM (w W:World) (G D R L:Nat) (qv rv:Value) (ld:E) (r s:Nat->E):Prop where
 bq:Boxed W w.heap.size 181 qv
 bd:Boxed W (w.heap.size+1) 3 (.int .i64 (D:Int))
 bl:Boxed W (w.heap.size+2) tEl (.int .u8 ((unE ld).toNat:Int))
 br:Boxed W G 181 rv
 bs:Boxed W (G+2) 181 (.slice (some ⟨G+1,0,none⟩) L L)
 rr:W.ownsRow (w.heap.size+3) tEl 1 rv R (cE (fromN R r))
 rs:W.ownsRow (G+1) tEl 1 (.slice (some ⟨G+1,0,none⟩) L L) L (cE (fromN L s))
 low:∀ g,rv.ownBlock=some g->g<G
 big:w.heap.size+3<=G
 back:Below w.heap.size w W
theorem unE_id (c:UInt8):unE c=c:=rfl
theorem inv_unE (a:UInt8) (h:a≠0):pow254 a=unE (Fld.inv (F:=E) a):=(inv_unique (F:=E) (m_inv a h)).trans (unE_id _).symm
theorem box_below {B b:Nat} {w w':World} {t:TypeId} {v:Value} (hb:Below B w w') (h:Boxed w b t v) (hlt:b<B):Boxed w' b t v:=(hb.block b hlt).trans h
theorem divM_begin {w w3 w4:World} {D R L:Nat} {Ar:Option Addr} {cr:Nat} {qv:Value} {ld:E} {rl:List E} {Z:List Value}
  (hx:Boxed w3 w.heap.size 181 qv/\Boxed w3 (w.heap.size+1) 3 (.int .i64 (D:Int))/\Boxed w3 (w.heap.size+2) tEl (.int .u8 ((unE ld).toNat:Int)))
  (hb3:Below w.heap.size w w3) (hs3:w3.heap.size=w.heap.size+3) (hown:w4.ownsRow w3.heap.size tEl 1 (.slice Ar R cr) R (cE rl)) (hb4:Below w3.heap.size w3 w4) (hZ:cE (fromN L fun _=>0)=Z) (hL:L<=65536) :
  ∃ w5 w6 w7 G,w4.alloc (.cells #[.slice Ar R cr] 181)=w5/\w5.alloc (.cells Z.toArray tEl)=w6/\w6.alloc (.cells #[.slice (some ⟨G+1,0,none⟩) L L] 181)=w7/\w4.heap.size=G/\w5.heap.size=G+1/\w6.heap.size=G+2/\w7.heap.size=G+3/\
   w5.cell? ⟨G,0,none⟩=some (.slice Ar R cr)/\w5.cell? ⟨w.heap.size+1,0,none⟩=some (.int .i64 (D:Int))/\w7.cell? ⟨G+2,0,none⟩=some (.slice (some ⟨G+1,0,none⟩) L L)/\Hid (DivM w w7 G D R L qv (.slice Ar R cr) ld (co rl) fun _=>0):=by
 have hs4:=hb4.size
 obtain⟨h1,h2,h3⟩:=hx
 have k1:Boxed w4 w.heap.size 181 qv:=box_below hb4 h1 (by omega)
 have k2:Boxed w4 (w.heap.size+1) 3 (.int .i64 (D:Int)):=box_below hb4 h2 (by omega)
 have k3:Boxed w4 (w.heap.size+2) tEl (.int .u8 ((unE ld).toNat:Int)):=box_below hb4 h3 (by omega)
 have n5:=Boxed.new w4 181 (.slice Ar R cr)
 have n7:=Boxed.new ((w4.alloc (.cells #[.slice Ar R cr] 181)).alloc (.cells Z.toArray tEl)) 181 (.slice (some ⟨w4.heap.size+1,0,none⟩) L L)
 have hZr:((w4.alloc (.cells #[.slice Ar R cr] 181)).alloc (.cells Z.toArray tEl)).ownsRow (w4.heap.size+1) tEl 1 (.slice (some ⟨w4.heap.size+1,0,none⟩) L L) L (cE (fromN L fun _=>0)):=by
  have:=Dr.own_new (w4.alloc (.cells #[.slice Ar R cr] 181)) (base:=w4.heap.size+1) (by simp) tEl 1 L Z (by rw[<-hZ];simp[fromN]) (by unfold maxLen;omega)
  rw[World.size_alloc] at this
  rw[hZ]
  exact this
 simp only[World.size_alloc] at n7
 refine⟨_,_,_,w4.heap.size,rfl,rfl,rfl,rfl,by simp,by simp,by simp,n5.cell,(k2.alloc _).cell,n7.cell,?_⟩
 refine show Hid _ from (show _ from⟨((k1.alloc _).alloc _).alloc _,((k2.alloc _).alloc _).alloc _,((k3.alloc _).alloc _).alloc _,(n5.alloc _).alloc _,n7,?_,Dr.own_alloc hZr _,?_,by omega,?_⟩)
 ·have hro:w4.ownsRow (w.heap.size+3) tEl 1 (.slice Ar R cr) R (cE (fromN R (co rl))):=by
   have hl:rl.length=R:=by simpa using hown.1
   rw[<-hl,fromN_co,hl,<-hs3]
   exact hown
  exact Dr.own_alloc (Dr.own_alloc (Dr.own_alloc hro _) _) _
 ·intro g hg
  obtain⟨cur,h5⟩:=Dr.own_lt hown hg
  exact (Array.getElem?_eq_some_iff.1 h5).1
 ·exact (((hb3.trans (hb4.mono (by omega))).alloc (by omega) _).alloc (by simp;omega) _).alloc (by simp;omega) _
theorem grown_set (W:World) (b i:Nat) (v:Value):W.grownBy (W.setCell ⟨b,i,none⟩ v) (some b):=
 ⟨rfl,rfl,rfl,(KeepsWalks.setCell W _ v).size,fun k _ hk=>Below.heap_setCell _ _ _ k (fun e=>hk (by rw[e]))⟩
theorem row_kept {W W':World} {row:Option Nat} {base:Nat} {e:TypeId} {size:Nat} {v:Value} {k:Nat} {xs:List Value} (h:W.ownsRow base e size v k xs) (hg:W.grownBy W' row) (hrow:∀ r,row=some r->∃ o:Obj,W.heap[r]?=some o/\o.isCells=false):W'.ownsRow base e size v k xs:=by
 refine h.kept hg ?_
 rcases h.2 with ⟨rfl,_⟩ | ⟨g,cap,cur,rfl,_,hgb,_⟩
 ·exact .inl rfl
 ·refine .inr fun e'=>?_
  obtain⟨o,ho,hc⟩:=hrow g (by simpa [Value.ownBlock] using e'.symm)
  rw[hgb] at ho;cases ho;cases hc
theorem row_other {W:World} {base b i:Nat} {e:TypeId} {size:Nat} {v u:Value} {k:Nat} {xs:List Value} (h:W.ownsRow base e size v k xs) (hb:v.ownBlock≠some b):(W.setCell ⟨b,i,none⟩ u).ownsRow base e size v k xs:=
 h.kept (grown_set W b i u) (.inr hb)
theorem box_other {W:World} {B b i:Nat} {t:TypeId} {v u:Value} (h:Boxed W B t v) (hb:B≠b):Boxed (W.setCell ⟨b,i,none⟩ u) B t v:=
 h.kept (grown_set W b i u) (fun e=>hb (by cases e;rfl))
theorem polV_part {W:World} {base n c k:Nat} {A:Option Addr} {l:List E} (h:W.ownsRow base tEl 1 (.slice A n c) n (cE l)) (hk:k<=n) (hnc:n<=c) (ht:tl l=k):PolV W (.slice A k c) (trimP l):=by
 have hl:l.length=n:=by simpa using h.1
 have e:trimP l=l.take k:=by rw[take_tl l,ht]
 have e2:(trimP l).length=k:=ht
 refine⟨A,c,by rw[e2],?_,by omega,own_none h⟩
 rw[e2,e]
 exact rd_take (Rd.of_own h) hk
section
variable {w W:World} {G D R L:Nat} {qv rv:Value} {ld:E} {r s:Nat->E}
theorem DivM.drew (h:DivM w W G D R L qv rv ld r s):DivM w W.drew G D R L qv rv ld r s:=
 ⟨h.bq,h.bd,h.bl,h.br,h.bs,h.rr,h.rs,h.low,h.big,h.back.os,h.back.tape,h.back.output,h.back.size,h.back.block⟩
theorem DivM.alloc (h:DivM w W G D R L qv rv ld r s) (o:Obj):DivM w (W.alloc o) G D R L qv rv ld r s:=
 ⟨h.bq.alloc o,h.bd.alloc o,h.bl.alloc o,h.br.alloc o,h.bs.alloc o,Dr.own_alloc h.rr o,Dr.own_alloc h.rs o,h.low,h.big,h.back.alloc h.back.size o⟩
theorem DivM.kept (h:DivM w W G D R L qv rv ld r s) {W':World} {row:Option Nat} (hg:W.grownBy W' row) (hr:∀ r,row=some r->G+4<=r/\∃ o:Obj,W.heap[r]?=some o/\o.isCells=false):DivM w W' G D R L qv rv ld r s:=by
 have hne:∀ b,b<G+4->some b≠row:=fun b hb e=>by have:=(hr b e.symm).1;omega
 have hbig:=h.big
 exact⟨h.bq.kept hg (hne _ (by omega)),h.bd.kept hg (hne _ (by omega)),h.bl.kept hg (hne _ (by omega)),h.br.kept hg (hne _ (by omega)),h.bs.kept hg (hne _ (by omega)),row_kept h.rr hg (fun r e=>(hr r e).2),row_kept h.rs hg (fun r e=>(hr r e).2),h.low,h.big,
  h.back.grown hg h.back.size (fun k e=>by have:=(hr k e).1;omega)⟩
theorem DivM.front (h:DivM w W G D R L qv rv ld r s) (hR:0<R):∃ g c,rv = .slice (some ⟨g,0,none⟩) R c/\w.heap.size+3<=g/\g<G:=by
 obtain⟨g,c,h1,h2,_⟩:=h.rr.form hR
 exact⟨g,c,h1,h2,h.low g (by rw[h1];rfl)⟩
theorem DivM.setR {g c:Nat} (h:DivM w W G D R L qv (.slice (some ⟨g,0,none⟩) R c) ld r s) (i:Nat) (x:E):DivM w (W.setCell ⟨g,i,none⟩ (.int .u8 ((unE x).toNat:Int))) G D R L qv (.slice (some ⟨g,0,none⟩) R c) ld (fun j=>if j=i then x else r j) s:=by
 have h1:=ow_lt h.rr
 have h2:=h.low g rfl
 refine⟨box_other h.bq (by omega),box_other h.bd (by omega),box_other h.bl (by omega),box_other h.br (by omega),box_other h.bs (by omega),?_,row_other h.rs (by simp[Value.ownBlock];omega),h.low,h.big,h.back.setCell (p:=⟨g,i,none⟩) (by show w.heap.size<=g;omega) _⟩
 rw[<-cE_set]
 exact ow_store h.rr _
theorem DivM.setS (h:DivM w W G D R L qv rv ld r s) (i:Nat) (x:E):DivM w (W.setCell ⟨G+1,i,none⟩ (.int .u8 ((unE x).toNat:Int))) G D R L qv rv ld r (fun j=>if j=i then x else s j):=by
 have h2:=h.big
 refine⟨box_other h.bq (by omega),box_other h.bd (by omega),box_other h.bl (by omega),box_other h.br (by omega),box_other h.bs (by omega),row_other h.rr ?_,?_,h.low,h.big,h.back.setCell (p:=⟨G+1,i,none⟩) (by show w.heap.size<=G+1;omega) _⟩
 ·intro e
  have:=h.low _ e
  omega
 ·rw[<-cE_set]
  exact ow_store h.rs _
theorem kc_setR {g i:Nat} {v:Value} {n₀:Nat} (hn:n₀<=g) (hg:g<G):KC n₀ (G+3) (G+1) L W (W.setCell ⟨g,i,none⟩ v):=
 ⟨(Below.refl n₀ W).setCell (p:=⟨g,i,none⟩) hn _,fun _ hv=>(World.cell?_setCell_other _ _ _ _ (by intro h;injection h with h;omega)).trans hv,fun j hj ⟨v,hv⟩=>⟨v,(World.cell?_setCell_other _ _ _ _ (by intro h;injection h with h;omega)).trans hv⟩⟩
theorem kc_setS {i:Nat} {x:E} {n₀:Nat} (hn:n₀<=G+1):KC n₀ (G+3) (G+1) L W (W.setCell ⟨G+1,i,none⟩ (.int .u8 ((unE x).toNat:Int))):=by
 refine⟨(Below.refl n₀ W).setCell (p:=⟨G+1,i,none⟩) hn _,fun _ hv=>(World.cell?_setCell_other _ _ _ _ (by intro h;injection h with h;omega)).trans hv,fun j hj ⟨v,hv⟩=>?_⟩
 by_cases e:i=j
 ·subst e
  exact⟨x,World.cell?_setCell_same' _ _ _ (by rw[hv];rfl)⟩
 ·exact⟨v,(World.cell?_setCell_other _ _ _ _ (by intro h;injection h with _ h;omega)).trans hv⟩
theorem kc_drew {n₀ Bx gs:Nat}:KC n₀ Bx gs L W W.drew:=⟨⟨rfl,rfl,rfl,Nat.le_refl _,fun _ _=>rfl⟩,fun _ h=>h,fun _ _ h=>h⟩
end
def ixs {L:Nat} (pre:List (Plc L)):List Nat:=(pre.map (·.1.val)).reverse
theorem ixs_snoc {L:Nat} (pre:List (Plc L)) (x:Plc L):ixs (pre++[x])=x.1.val::ixs pre:=by simp[ixs]
theorem dvF_cons {q:List E} {D:Nat} (hq:q.length=D+1) {r0:Nat->E} {t:Nat} {ts:List Nat} {r s:Nat->E} (h:dvF q r0 ts=(r,s)) {k:Nat} (hk:t+D=k) {x ld c z:E} (hx:co q D=x) (hld:Fld.inv x=ld) (hz:r k=z) (hc:z*ld=c):dvF q r0 (t::ts)=(dvR q c t (D+1) r,fun j=>if j=t then c else s j):=by
 rw[dvF,h]
 simp only[hq,Nat.add_sub_cancel,hk,hx,hld,hz,hc]
 rfl
set_option maxRecDepth 100000 in
set_option maxHeartbeats 8000000 in
theorem divide_in (N:Nat) (hN:9<=N) {w:World} {B n m c d:Nat} {A1 A2:Option Addr} {p q:List E} (hp:Rd w B 1 A1 n (cE p)) (hq:Rd w B 1 A2 m (cE q)) (hB:B<=w.heap.size) (hn:n<=65536) (hm:m<=65536) (hnc:n<=c) (hA1:A1=none->c=0) (hqt:Trd q) (hq0:0<m) :
  CallsIn Fence.wide N Tryz.prog 110 #[.slice A1 n c,.slice A2 m d] w fun e w'=>∃ sv rv s r,e = .returned (.tuple #[sv,rv,.int .i64 0])/\PolV w' sv s/\PolV w' rv r/\DivOk p q s r/\Below w.heap.size w w':=by
 have h1:1<=N:=by omega
 have hpl:=rd_len hp
 have hql:=rd_len hq
 have htl:tl q=m:=by
  have:=(tl_eq (p:=q) (k:=m) (by omega) (fun i hi=>co_ge (by omega)) (.inr (by have:=hqt (by omega);rwa [hql] at this))).1
  exact this
 obtain⟨D,hD⟩:∃ D,m=D+1:=⟨m - 1,by omega⟩
 subst hD
 obtain⟨ad,hA2,had,hcd⟩:=rd_at hq (show D<D+1 by omega)
 subst hA2
 obtain⟨x,hx⟩:∃ x,co q D=x:=⟨_,rfl⟩
 rw[hx] at hcd
 have hx0:unE x≠0:=by
  have:=hqt (by omega)
  rw[hql,Nat.add_sub_cancel,hx] at this
  exact this
 obtain⟨ld,hld⟩:∃ ld:E,Fld.inv x=ld:=⟨_,rfl⟩
 have hsub:((D+1:Nat):Int) - 1=(D:Int):=by omega
 refine callsIn_of_wp_marks Tryz.func110 rfl trivial ?_ rfl
 simp only[Tryz.ntmps110,List.size_toArray,List.length_cons,List.length_nil,Nat.reduceAdd,Nat.reduceSub,Array.replicate_succ,Array.replicate_zero,List.push_toArray,List.append_toArray,List.nil_append,List.cons_append]
 have HP:=Hd hp
 have HQ:=Hd hq
 have HTL:=Hd htl
 have HX0:=Hd hx0
 have HLD:=Hd hld
 have HCD:=Hd hcd
 have HA1:=Hd hA1
 have HSUB:=Hd hsub
 have HX:=Hd hx
 have HQL:=Hd hql
 clear hp hq htl hx0 hld hcd hA1 hx hpl hsub
 obtain⟨w1,hw1⟩:∃ w1,w.alloc (.cells #[.slice (some ad) (D+1) d] 181)=w1:=⟨_,rfl⟩
 have hb1:Below w.heap.size w w1:=by rw[<-hw1];exact (Below.refl _ _).alloc (Nat.le_refl _) _
 have x1:Boxed w1 w.heap.size 181 (.slice (some ad) (D+1) d):=by rw[<-hw1];exact Boxed.new _ _ _
 have hs1:w1.heap.size=w.heap.size+1:=by rw[<-hw1];simp
 have hq1:Rd w1 B 1 (some ad) (D+1) (cE q):=HQ.out.below (hb1.mono hB)
 have c1:=x1.cell
 obtain⟨w2,hw2⟩:∃ w2,w1.alloc (.cells #[.int .i64 (D:Int)] 3)=w2:=⟨_,rfl⟩
 have hb2:Below w.heap.size w w2:=by rw[<-hw2];exact hb1.alloc (by omega) _
 have hs2:w2.heap.size=w.heap.size+2:=by rw[<-hw2];simp[hs1]
 have x2q:Boxed w2 w.heap.size 181 (.slice (some ad) (D+1) d):=by rw[<-hw2];exact x1.alloc _
 have x2d:Boxed w2 (w.heap.size+1) 3 (.int .i64 (D:Int)):=by rw[<-hw2,<-hs1];exact Boxed.new _ _ _
 have c2q:=x2q.cell
 have c2d:=x2d.cell
 have c2x:w2.cell? (ad.add D)=some (.int .u8 ((unE x).toNat:Int)):=(hb2.cell (by rw[add_block];omega)).trans HCD.out
 obtain⟨w3,hw3⟩:∃ w3,w2.alloc (.cells #[.int .u8 ((unE ld).toNat:Int)] tEl)=w3:=⟨_,rfl⟩
 have hb3:Below w.heap.size w w3:=by rw[<-hw3];exact hb2.alloc (by omega) _
 have hs3:w3.heap.size=w.heap.size+3:=by rw[<-hw3];simp[hs2]
 have x3q:Boxed w3 w.heap.size 181 (.slice (some ad) (D+1) d):=by rw[<-hw3];exact x2q.alloc _
 have x3d:Boxed w3 (w.heap.size+1) 3 (.int .i64 (D:Int)):=by rw[<-hw3];exact x2d.alloc _
 have x3l:Boxed w3 (w.heap.size+2) tEl (.int .u8 ((unE ld).toNat:Int)):=by rw[<-hw3,<-hs2];exact Boxed.new _ _ _
 have hp3:Rd w3 B 1 A1 n (cE p):=HP.out.below (hb3.mono hB)
 have hDnn:¬ (D:Int)<0:=by omega
 have hDlt:(D:Int)<((D+1:Nat):Int):=by omega
 have hD0:(0:Int)<=(D:Int):=by omega
 have hinv:((pow254 (unE x)).toNat:Int)=((unE ld).toNat:Int):=by rw[inv_unE (unE x) HX0.out,<-HLD.out];rfl
 have HX3:=Hd (And.intro x3q (And.intro x3d x3l))
 have HB3:=Hd hb3
 have HS3:=Hd hs3
 have HP3:=Hd hp3
 have HS2:=Hd hs2
 have HS1:=Hd hs1
 clear x1 x2q x2d x3q x3d x3l hb1 hb2 hb3 hs1 hs2 hs3 hp3
 obtain⟨R,hR⟩:∃ R,tl p=R:=⟨_,rfl⟩
 have hRn:R<=65536:=by have:=tl_le p;have:=HP.out;have:=rd_len this;omega
 obtain⟨L,hL⟩:∃ L,L=R - D:=⟨_,rfl⟩
 have hmax:max 0 ((R:Int) - (D:Int))=(L:Int):=by omega
 have hmk:=fun W=>run_makeE W L (by omega)
 obtain⟨Z,hZ⟩:∃ Z:List Value,cE (fromN L fun _=>0)=Z:=⟨_,rfl⟩
 rw[hZ] at hmk
 have HR:=Hd hR
 have HL:=Hd hL
 have HZ:=Hd hZ
 clear hR hL hZ
 gi_wp2_with (first
  | (refine⟨trivial,?_⟩;gi_at_call 123;refine (callsIn_wide.2 (degree_any hq1 (by omega))).mono ?_;rintro e w2 ⟨rfl,rfl⟩;rw[HTL.out,HSUB.out];have hs1:=HS1.out)
  | (refine⟨trivial,?_⟩;gi_at_call 106;refine (callsIn_wide.2 (inverse_any (unE x) HX0.out _)).mono ?_;rintro e w2 ⟨rfl,rfl⟩;rw[hinv];have hs2:=HS2.out)
  | (refine⟨trivial,?_⟩;gi_at_call 121;refine (callsIn_wide.2 (trim_any HP3.out (by have:=HB3.out.size;omega) (by omega) hnc HA1.out)).mono ?_;rintro e w4 ⟨rv,rfl,hown,hb4⟩;obtain⟨Ar,cr,rfl,hcr,_⟩:=own_form hown;rw[HR.out] at hown hcr ⊢;obtain⟨w5,w6,w7,G,hw5,hw6,hw7,hG,hG5,hG6,hG7,c5,c5d,c7,HM⟩:=divM_begin HX3.out HB3.out HS3.out hown hb4 HZ.out (show L<=65536 by omega);clear hown hb4;have HG:=Hd hG)
  | (refine⟨trivial,?_⟩;gi_at_call 111;refine (backward_in Fence.wide (N - 1) trivial rfl _ _ _ _).mono ?_;rintro e w' ⟨rfl,rfl⟩;rw[hG7]))
 obtain⟨w8,hw8⟩:∃ w8,w7.alloc (.cells #[.slice (some ⟨G+1,0,none⟩) L L] 181)=w8:=⟨_,rfl⟩
 have hM8:DivM w w8 G D R L (.slice (some ad) (D+1) d) (.slice Ar R cr) ld (co (trimP p)) fun _=>0:=by rw[<-hw8];exact HM.out.alloc _
 have hs8:w8.heap.size=G+4:=by rw[<-hw8];simp[hG7]
 have c8:w8.cell? ⟨G+3,0,none⟩=some (.slice (some ⟨G+1,0,none⟩) L L):=by
  have:=(Boxed.new w7 181 (.slice (some ⟨G+1,0,none⟩) L L)).cell
  rw[hw8,hG7] at this
  exact this
 rw[hw8]
 clear hw8 hw7 hw6 hw5 c7 c5d c5 hG7 hG6 hG5 hG hmk
 have hLle:L<=65536:=by have:=HL.out;omega
 refine wpIn_rangeFunc_ownG rfl h1 (gf:=124) (lb:=#[.pointer (some ⟨G+3,0,none⟩)]) rfl trivial (enters_of Tryz.func124 (by kernel_rfl) rfl)
  (backward2_stops Fence.wide (N - 1) trivial rfl (by omega) (G+3) w.heap.size (G+1) L (by omega) w8 (by omega) (by omega) c8 (fun j hj=>⟨0,ow_cell hM8.rs hj (cE_get (fromN_get hj))⟩)) KC.trans (KC.put (by have:=hM8.back.size;exact this)) (Below.refl _ _) (fun _=>rfl)
  (fun pre W=>DivM w W G D R L (.slice (some ad) (D+1) d) (.slice Ar R cr) ld (dvF q (co (trimP p)) (ixs pre)).1 (dvF q (co (trimP p)) (ixs pre)).2)
  (fun _ _ _=>False) ?hI
  (fun _ _ _ _ _ hs _ _=>hs)
  hM8
  (fun x'=>{tmps:=#[.slice A1 n c,.slice (some ad) (D+1) d,undef,.pointer (some ⟨w.heap.size,0,none⟩),.slice none 0 0,.slice none 0 0,.int .i64 0,.pointer (some ⟨w.heap.size+1,0,none⟩),.pointer (some ⟨w.heap.size+2,0,none⟩),.bool true,.pointer (some ⟨G,0,none⟩),.pointer (some ⟨G+2,0,none⟩),.int .i64 (x'.1.val:Int),undef,undef,.slice (some ad) (D+1) d,.int .i64 (D:Int),.int .i64 (D:Int),.bool (decide ((D:Int)<0)),.tuple #[.int .u8 ((unE ld).toNat:Int),.bool true],.slice (some ad) (D+1) d,.int .i64 (D:Int),.pointer (some (ad.add D)),.int .u8 ((unE x).toNat:Int),.tuple #[.int .u8 ((unE ld).toNat:Int),.bool true],.int .u8 ((unE ld).toNat:Int),.bool true,.slice A1 n c,.slice Ar R cr,.slice Ar R cr,.int .i64 (R:Int),.int .i64 (D:Int),.int .i64 ((R:Int) - (D:Int)),.int .i64 (L:Int),.slice (some ⟨G+1,0,none⟩) L L,.slice (some ⟨G+1,0,none⟩) L L,.func (.func 124) #[] #[.pointer (some ⟨G+3,0,none⟩)],.int .i64 (x'.1.val:Int),.int .u8 ((unE x'.2).toNat:Int),undef,undef,undef,undef,undef,undef,undef,undef,undef,undef,undef,undef,undef,undef,undef,undef,undef,undef,undef,undef,undef,undef,undef,undef,undef,undef,undef,undef,undef,undef,undef,undef,undef,undef,undef,undef,undef,undef,undef,undef,undef,undef,undef,undef,undef,undef],defers:=[]}) ?assign ?body ?done ?stop
 case hI=>
  intro pre X Y row hs hg hr
  exact hs.kept hg (fun r e=>⟨by have:=(hr r e).1;omega,(hr r e).2⟩)
 case assign=>
  intro l x W K hK
  dsimp only [plEnc]
  gi_wp2
  exact hK
 case body=>
  rintro l pre x' W hM _
  obtain⟨r,s,hrs⟩:∃ r s,dvF q (co (trimP p)) (ixs pre)=(r,s):=⟨_,_,rfl⟩
  rw[hrs] at hM
  obtain⟨⟨t,ht⟩,xv⟩:=x'
  obtain⟨k,hk⟩:∃ k,t+D=k:=⟨_,rfl⟩
  have hkR:k<R:=by have:=HL.out;omega
  obtain⟨gr,cr',hrv,hgr1,hgr2⟩:=hM.front (by omega)
  injection hrv with hAr _ hcr'
  subst hAr hcr'
  obtain⟨z,hz⟩:∃ z,r k=z:=⟨_,rfl⟩
  obtain⟨cc,hcc⟩:∃ cc,z*ld=cc:=⟨_,rfl⟩
  have hstep:=dvF_cons HQL.out hrs hk HX.out HLD.out hz hcc
  dsimp only at hM ⊢
  have HSTEP:=Hd hstep
  have e1:W.cell? ⟨G,0,none⟩=some (.slice (some ⟨gr,0,none⟩) R cr):=hM.br.cell
  have e2:W.cell? ⟨w.heap.size+1,0,none⟩=some (.int .i64 (D:Int)):=hM.bd.cell
  have e3:W.cell? ⟨gr,k,none⟩=some (.int .u8 ((unE z).toNat:Int)):=ow_cell hM.rr hkR (cE_get (by rw[fromN_get hkR,hz]))
  have e4:W.cell? ⟨w.heap.size+2,0,none⟩=some (.int .u8 ((unE ld).toNat:Int)):=hM.bl.cell
  have hki:(t:Int)+(D:Int)=(k:Int):=by omega
  have hkw:IntKind.i64.wrap (k:Int)=(k:Int):=by rw[IntKind.wrap_i64];omega
  have hk0:(0:Int)<=(k:Int):=by omega
  have hkRi:(k:Int)<(R:Int):=by omega
  have HM1:=Hd hM
  have HCC:=Hd hcc
  clear hM hstep hz hcc hk
  have E1:=Hd e1
  have E2:=Hd e2
  have E3:=Hd e3
  have E4:=Hd e4
  clear e1 e2 e3 e4
  gi_wp2
  refine wpIn_region_of (by kernel_rfl) ?_ ?_ ?_
  ·rfl
  ·rintro⟨_,_,h⟩;exact h
  change wpAny _ _ _ _ _ _ _ (World.drew _)
  refine wpAny_of_P (S:=fun w'=>w'.cell? ⟨G,0,none⟩=some (.slice (some ⟨gr,0,none⟩) R cr)/\w'.cell? ⟨w.heap.size+1,0,none⟩=some (.int .i64 (D:Int))/\w'.cell? ⟨gr,k,none⟩=some (.int .u8 ((unE z).toNat:Int))/\w'.cell? ⟨w.heap.size+2,0,none⟩=some (.int .u8 ((unE ld).toNat:Int))) (late:=[7]) _ _ _ _ ?_
  refine tP 8 0 rfl ⟨E1.out,E2.out,E3.out,E4.out⟩ (fun w hw=>by obtain⟨y1,y2,y3,y4⟩:=hw;go_simp;try with_reducible rfl) ?_
  try go_frame
  refine tT 1 ⟨E1.out,E2.out,E3.out,E4.out⟩ ?_
  try go_frame
  refine tP 8 2 rfl ⟨E1.out,E2.out,E3.out,E4.out⟩ (fun w hw=>by obtain⟨y1,y2,y3,y4⟩:=hw;go_simp;try with_reducible rfl) ?_
  try go_frame
  refine tT 3 ⟨E1.out,E2.out,E3.out,E4.out⟩ ?_
  try go_frame
  refine tT 4 ⟨E1.out,E2.out,E3.out,E4.out⟩ ?_
  try go_frame
  refine tP 8 5 rfl ⟨E1.out,E2.out,E3.out,E4.out⟩ (fun w hw=>by obtain⟨y1,y2,y3,y4⟩:=hw;go_simp;try with_reducible rfl) ?_
  try go_frame
  refine tP 8 6 rfl ⟨E1.out,E2.out,E3.out,E4.out⟩ (fun w hw=>by obtain⟨y1,y2,y3,y4⟩:=hw;go_simp;try with_reducible rfl) ?_
  try go_frame
  refine lP 7 fun K hK=>?_
  go_simp
  refine (times_any (unE z) (unE ld) _).mono ?_;rintro e w5 ⟨rfl,rfl⟩;rw[show mul8 (unE z) (unE ld)=unE cc from HCC.out]
  refine hK _ _ ?_;clear hK K
  try go_frame
  refine tL 8 ?_
  try go_frame
  refine wpAny_done (by kernel_rfl) ?_ _
  have hM:=HM1.out.drew
  have f1:(World.drew W).cell? ⟨G+2,0,none⟩=some (.slice (some ⟨G+1,0,none⟩) L L):=hM.bs.cell
  have f2:(World.drew W).frozen? ⟨G+1,t,none⟩=false:=ow_free hM.rs
  have f3:(World.drew W).cell? ⟨G+1,t,none⟩=some (.int .u8 ((unE (s t)).toNat:Int)):=ow_cell hM.rs ht (cE_get (fromN_get ht))
  have ht0:(0:Int)<=(t:Int):=by omega
  have htL:(t:Int)<(L:Int):=by omega
  have hM2:=(HM1.out.setS t cc).drew
  have hk2:KC w.heap.size (G+3) (G+1) L W (World.drew (W.setCell ⟨G+1,t,none⟩ (.int .u8 ((unE cc).toNat:Int)))):=(kc_setS (by omega)).trans kc_drew
  have ho2:KeepsOthers W (World.drew (W.setCell ⟨G+1,t,none⟩ (.int .u8 ((unE cc).toNat:Int)))):=(KeepsOthers.setCell _ _ _).trans (KeepsOthers.drew _)
  have f4:(W.setCell ⟨G+1,t,none⟩ (.int .u8 ((unE cc).toNat:Int))).cell? ⟨w.heap.size+1,0,none⟩=some (.int .i64 (D:Int)):=hM2.bd.cell
  have HM2:=Hd hM2
  have HK2:=Hd hk2
  have HO2:=Hd ho2
  clear hM hM2 hk2 ho2
  gi_wp2
  gi_loopw [53] (fun jv wq=>∃ j:Nat,jv = .int .i64 (j:Int)/\j<=D+1/\DivM w wq G D R L (.slice (some ad) (D+1) d) (.slice (some ⟨gr,0,none⟩) R cr) ld (dvR q cc t j r) (fun j=>if j=t then cc else s j)/\KC w.heap.size (G+3) (G+1) L W wq/\KeepsOthers W wq) (fun jv _=>D+1 - (intOf jv).toNat)
  case atStart=>exact⟨0,rfl,Nat.zero_le _,by rw[dvR_zero];exact HM2.out,HK2.out,HO2.out⟩
  case round=>
   obtain⟨j,rfl,hj,hM,hkc,hko⟩:=hrel
   by_cases hlj:j<D+1
   ·have hlj2:(j:Int)<(D:Int)+1:=by omega
    obtain⟨tj,htj⟩:∃ tj,t+j=tj:=⟨_,rfl⟩
    have htR:tj<R:=by have:=HL.out;omega
    obtain⟨y,hy⟩:∃ y,co q j=y:=⟨_,rfl⟩
    obtain⟨z2,hz2⟩:∃ z2,dvR q cc t j r tj=z2:=⟨_,rfl⟩
    have g1:wr.cell? ⟨G,0,none⟩=some (.slice (some ⟨gr,0,none⟩) R cr):=hM.br.cell
    have g2:wr.cell? ⟨w.heap.size,0,none⟩=some (.slice (some ad) (D+1) d):=hM.bq.cell
    have g3:wr.cell? ⟨gr,tj,none⟩=some (.int .u8 ((unE z2).toNat:Int)):=ow_cell hM.rr htR (cE_get (by rw[fromN_get htR,hz2]))
    have g4:wr.frozen? ⟨gr,tj,none⟩=false:=ow_free hM.rr
    have g5:wr.cell? (ad.add j)=some (.int .u8 ((unE y).toNat:Int)):=by
     obtain⟨a2,h1,h2,h3⟩:=rd_at HQ.out hlj
     injection h1 with h1
     subst h1
     rw[hy] at h3
     exact (hM.back.cell (by rw[add_block];omega)).trans h3
    have hnew:=(hM.setR tj (z2+cc*y)).drew
    have hst:=dvR_step (q:=q) (c:=cc) (z:=z2) (y:=y) (t:=t) (i:=j) (r:=r) (by rw[htj];exact hz2) hy
    rw[htj] at hst
    rw[hst] at hnew
    have hij:(t:Int)+(j:Int)=(tj:Int):=by omega
    have hijR:(tj:Int)<(R:Int):=by omega
    have hwr:IntKind.i64.wrap (tj:Int)=(tj:Int):=by rw[IntKind.wrap_i64];omega
    have htj0:(0:Int)<=(tj:Int):=by omega
    have hj0:(0:Int)<=(j:Int):=by omega
    have hjq:(j:Int)<((D+1:Nat):Int):=by omega
    have HS:=Hd (And.intro g1 (And.intro g2 (And.intro g3 (And.intro g4 g5))))
    have HNW:=Hd hnew
    have HK3:=Hd (hkc.trans ((kc_setR (W:=wr) (L:=L) (i:=tj) (v:=.int .u8 ((unE (z2+cc*y)).toNat:Int)) (show w.heap.size<=gr by omega) hgr2).trans kc_drew))
    have HO3:=Hd (hko.trans ((KeepsOthers.setCell wr ⟨gr,tj,none⟩ (.int .u8 ((unE (z2+cc*y)).toNat:Int))).trans (KeepsOthers.drew _)))
    clear g1 g2 g3 g4 g5 hM hkc hko hnew hst hz2 hy htj htR
    gi_wp2
    refine wpIn_region_of (by kernel_rfl) ?_ ?_ ?_
    ·rfl
    ·rintro⟨_,_,h⟩;exact h
    change wpAny _ _ _ _ _ _ _ (World.drew _)
    refine wpAny_of_P (S:=fun w'=>w'.cell? ⟨G,0,none⟩=some (.slice (some ⟨gr,0,none⟩) R cr)/\w'.cell? ⟨w.heap.size,0,none⟩=some (.slice (some ad) (D+1) d)/\w'.cell? ⟨gr,tj,none⟩=some (.int .u8 ((unE z2).toNat:Int))/\w'.frozen? ⟨gr,tj,none⟩=false/\w'.cell? (ad.add j)=some (.int .u8 ((unE y).toNat:Int))) (late:=[18]) _ _ _ _ ?_
    refine tP 8 0 rfl HS.out (fun w hw=>by obtain⟨y1,y2,y3,y4,y5⟩:=hw;go_simp;try with_reducible rfl) ?_
    try go_frame
    refine tT 1 HS.out ?_
    try go_frame
    refine tT 2 HS.out ?_
    try go_frame
    refine tT 3 HS.out ?_
    try go_frame
    refine tP 8 4 rfl HS.out (fun w hw=>by obtain⟨y1,y2,y3,y4,y5⟩:=hw;go_simp;try with_reducible rfl) ?_
    try go_frame
    refine tT 5 HS.out ?_
    try go_frame
    refine tT 6 HS.out ?_
    try go_frame
    refine tT 7 HS.out ?_
    try go_frame
    refine tT 8 HS.out ?_
    try go_frame
    refine tP 8 9 rfl HS.out (fun w hw=>by obtain⟨y1,y2,y3,y4,y5⟩:=hw;go_simp;try with_reducible rfl) ?_
    try go_frame
    refine tT 10 HS.out ?_
    try go_frame
    refine tP 8 11 rfl HS.out (fun w hw=>by obtain⟨y1,y2,y3,y4,y5⟩:=hw;go_simp;try with_reducible rfl) ?_
    try go_frame
    refine tT 12 HS.out ?_
    try go_frame
    refine tT 13 HS.out ?_
    try go_frame
    refine tP 8 14 rfl HS.out (fun w hw=>by obtain⟨y1,y2,y3,y4,y5⟩:=hw;go_simp;try with_reducible rfl) ?_
    try go_frame
    refine fP 15 fun K hK=>?_
    go_simp
    refine (times_any (unE cc) (unE y) _).mono ?_;rintro e w5 ⟨rfl,rfl⟩
    refine hK _ _ (HS.out) ?_;clear hK K
    try go_frame
    refine fP 16 fun K hK=>?_
    go_simp
    refine (plus_any (unE z2) (mul8 (unE cc) (unE y)) _).mono ?_;rintro e w5 ⟨rfl,rfl⟩
    refine hK _ _ (HS.out) ?_;clear hK K
    try go_frame
    refine tT 17 HS.out ?_
    try go_frame
    refine lP 18 fun K hK=>?_
    obtain⟨y1,y2,y3,y4,y5⟩:(World.drew wr).cell? ⟨G,0,none⟩=some (.slice (some ⟨gr,0,none⟩) R cr)/\(World.drew wr).cell? ⟨w.heap.size,0,none⟩=some (.slice (some ad) (D+1) d)/\(World.drew wr).cell? ⟨gr,tj,none⟩=some (.int .u8 ((unE z2).toNat:Int))/\(World.drew wr).frozen? ⟨gr,tj,none⟩=false/\(World.drew wr).cell? (ad.add j)=some (.int .u8 ((unE y).toNat:Int)):=HS.out
    go_simp
    refine hK _ _ ?_;clear hK K
    try go_frame
    refine wpAny_done (by kernel_rfl) ?_ _
    gi_wp2
    go_roundw
    case rel=>exact⟨j+1,by go_num,by omega,HNW.out,HK3.out,HO3.out⟩
    case measure=>simp[intOf];omega
   ·obtain rfl:j=D+1:=by omega
    have hall:dvR q cc t (D+1) r=dvR q cc t (D+1) r:=rfl
    have HMX:=Hd hM
    have HKX:=Hd hkc
    have HOX:=Hd hko
    clear hM hkc hko hall
    gi_wp2
    refine⟨HOX.out.from _,HKX.out,?_⟩
    show DivM _ _ _ _ _ _ _ _ _ _ _
    rw[ixs_snoc,HSTEP.out]
    exact HMX.out
 case done=>
  rintro D' ys W hD hS hM hK
  have hix:ixs ys=List.range L:=hS
  rw[hix] at hM
  obtain⟨r,s,hrs⟩:∃ r s,dvF q (co (trimP p)) (List.range L)=(r,s):=⟨_,_,rfl⟩
  have hok:=dv_done (p:=p) (q:=q) (R:=R) (L:=L) hqt (by rw[HQL.out];omega) HR.out (by rw[HQL.out];exact HL.out) rfl
  rw[hrs] at hM hok
  dsimp only at hM hok
  obtain⟨sl,hsl⟩:∃ sl,fromN L s=sl:=⟨_,rfl⟩
  obtain⟨rl,hrl⟩:∃ rl,fromN R r=rl:=⟨_,rfl⟩
  have hsL:sl.length=L:=by rw[<-hsl,length_fromN]
  have hrL:rl.length=R:=by rw[<-hrl,length_fromN]
  have hrs':=hM.rs
  have hrr':=hM.rr
  rw[hsl] at hok hrs'
  rw[hrl] at hok hrr'
  obtain⟨ts,hts⟩:∃ ts,tl sl=ts:=⟨_,rfl⟩
  obtain⟨tr,htr⟩:∃ tr,tl rl=tr:=⟨_,rfl⟩
  have htsL:ts<=L:=by rw[<-hts,<-hsL];exact tl_le sl
  have htrR:tr<=R:=by rw[<-htr,<-hrL];exact tl_le rl
  obtain⟨_,_,e0,hRc,_⟩:=own_form hrr'
  injection e0 with e0 _ e1
  subst e0 e1
  have k1:W.cell? ⟨G+2,0,none⟩=some (.slice (some ⟨G+1,0,none⟩) L L):=hM.bs.cell
  have k2:W.cell? ⟨G,0,none⟩=some (.slice Ar R cr):=hM.br.cell
  have k3:Rd (World.drew W) W.heap.size 1 (some ⟨G+1,0,none⟩) L (cE sl):=Rd.of_own hrs'
  have k4:Rd (World.drew W) W.heap.size 1 Ar R (cE rl):=Rd.of_own hrr'
  have a1:(ts:Int) - 1+1=ts:=by omega
  have a2:(tr:Int) - 1+1=tr:=by omega
  have a3:IntKind.i64.wrap (ts:Int)=ts:=by rw[IntKind.wrap_i64];omega
  have a4:IntKind.i64.wrap (tr:Int)=tr:=by rw[IntKind.wrap_i64];omega
  have s1:∀ wx:World,(Instr.slice 181 (.slice (some ⟨G+1,0,none⟩) L L) none (some (.int .i64 (ts:Int))) none).run Tryz.prog wx = .ok (.slice (some ⟨G+1,0,none⟩) ts L) wx:=fun wx=>slice_to wx htsL
  have s2:∀ wx:World,(Instr.slice 181 (.slice Ar R cr) none (some (.int .i64 (tr:Int))) none).run Tryz.prog wx = .ok (.slice Ar tr cr) wx:=fun wx=>slice_to wx (by omega)
  have p1:PolV ((World.drew W).putObj D' (.deferred none)) (.slice (some ⟨G+1,0,none⟩) ts L) (trimP sl):=polV_part (ownsRow_putObj (W:=World.drew W) hrs' _ hK rfl) htsL (Nat.le_refl _) hts
  have p2:PolV ((World.drew W).putObj D' (.deferred none)) (.slice Ar tr cr) (trimP rl):=polV_part (ownsRow_putObj (W:=World.drew W) hrr' _ hK rfl) htrR hRc htr
  have b1:Below w.heap.size w ((World.drew W).putObj D' (.deferred none)):=hM.drew.back.trans (belowK_b (w:=w) (Nat.le_refl _) (World.drew W) D' _ _ (by have:=HM.out.big;omega) hK rfl rfl)
  have K12:=Hd (And.intro k1 k2)
  have K3:=Hd k3
  have K4:=Hd k4
  have P1:=Hd p1
  have P2:=Hd p2
  have B1:=Hd b1
  have HOK:=Hd hok
  have HTS:=Hd hts
  have HTR:=Hd htr
  clear k1 k2 k3 k4 p1 p2 b1 hM hok hrs' hrr' hts htr hsL hrL hsl hrl hrs hix hS
  gi_wp2
  refine wpIn_region_wideK (by kernel_rfl) ?_ ?_
  ·rfl
  change wpAny _ _ _ _ _ _ _ (World.drew _)
  refine wpAny_of_P (S:=fun w'=>w'.cell? ⟨G+2,0,none⟩=some (.slice (some ⟨G+1,0,none⟩) L L)/\w'.cell? ⟨G,0,none⟩=some (.slice Ar R cr)) (late:=[12]) _ _ _ _ ?_
  refine tP 8 0 rfl K12.out (fun w hw=>by obtain⟨y1,y2⟩:=hw;go_simp;try with_reducible rfl) ?_
  try go_frame
  refine tP 8 1 rfl K12.out (fun w hw=>by obtain⟨y1,y2⟩:=hw;go_simp;try with_reducible rfl) ?_
  try go_frame
  refine tP 8 5 rfl K12.out (fun w hw=>by obtain⟨y1,y2⟩:=hw;go_simp;try with_reducible rfl) ?_
  try go_frame
  refine tP 8 6 rfl K12.out (fun w hw=>by obtain⟨y1,y2⟩:=hw;go_simp;try with_reducible rfl) ?_
  try go_frame
  refine fP 2 fun K hK=>?_
  go_simp
  refine (degree_any K3.out (by omega)).mono ?_;rintro e w2 ⟨rfl,rfl⟩;rw[HTS.out]
  refine hK _ _ (K12.out) ?_;clear hK K
  try go_frame
  refine tT 3 K12.out ?_
  try go_frame
  refine tT 4 K12.out ?_
  try go_frame
  refine fP 7 fun K hK=>?_
  go_simp
  refine (degree_any K4.out (by omega)).mono ?_;rintro e w2 ⟨rfl,rfl⟩;rw[HTR.out]
  refine hK _ _ (K12.out) ?_;clear hK K
  try go_frame
  refine tT 8 K12.out ?_
  try go_frame
  refine tT 9 K12.out ?_
  try go_frame
  refine tT 10 K12.out ?_
  try go_frame
  refine tT 11 K12.out ?_
  try go_frame
  refine lP 12 fun K hK=>?_
  go_simp
  refine hK _ _ ?_;clear hK K
  try go_frame
  refine wpAny_done (by kernel_rfl) ?_ _
  dsimp only [onlyN]
  go_at_K
  gi_wp2
  refine⟨by simp,.inl ⟨_,_,rfl,run_takeDeferred hK,?_⟩⟩
  exact⟨.tuple #[.slice (some ⟨G+1,0,none⟩) ts L,.slice Ar tr cr,.int .i64 0],by simp[results,Tryz.results110,go_sem],⟨_,_,_,_,rfl,P1.out,P2.out,HOK.out,B1.out⟩⟩
 case stop=>
  rintro D' c' pre W _ _ h _
  exact h.elim
end Go.Proofs.YtmgljaecmchgaaaGreat.Gf
