/- XRb2, XRb3: merged by tools/merge.py. -/
import Derived.Test.YtmgljaecmchgaaaGreatQ25
import Derived.Test.YtmgljaecmchgaaaGreatQ03
set_option linter.unusedVariables false
set_option linter.unusedSimpArgs false
set_option linter.unusedSectionVars false
namespace Go.Proofs.YtmgljaecmchgaaaGreat.Gf
open Go.RowKit Go.Proofs
def nx (Q:List E) (x:E) (m:Nat):Nat->E:=fun t=>(if t<m then x*co Q t else 0)+(if 0<t/\t - 1<m then co Q (t - 1) else 0)
theorem nx_zero (Q:List E) (x:E):nx Q x 0=fun _=>0:=by
 funext t
 unfold nx
 rw[if_neg (by omega),if_neg (by omega),Fld.add_zero]
theorem nx_lt {Q:List E} {x:E} {m t:Nat} (h:t<m):nx Q x m t=x*co Q t+(if 0<t then co Q (t - 1) else 0):=by
 unfold nx
 rw[if_pos h]
 congr 1
 by_cases h0:0<t
 ·rw[if_pos ⟨h0,by omega⟩,if_pos h0]
 ·rw[if_neg (fun h2=>h0 h2.1),if_neg h0]
theorem nx_eq {Q:List E} {x:E} {t:Nat}:nx Q x t t=if 0<t then co Q (t - 1) else 0:=by
 unfold nx
 rw[if_neg (by omega),zero_add]
 by_cases h0:0<t
 ·rw[if_pos ⟨h0,by omega⟩,if_pos h0]
 ·rw[if_neg (fun h2=>h0 h2.1),if_neg h0]
theorem nx_gt {Q:List E} {x:E} {m t:Nat} (h:m<t):nx Q x m t=0:=by
 unfold nx
 rw[if_neg (by omega),if_neg (by omega),Fld.add_zero]
theorem nx_step {Q:List E} {x z1 z2 q:E} {m:Nat} (h1:nx Q x m m=z1) (h2:nx Q x m (m+1)=z2) (hq:co Q m=q):(fun t=>if t=m+1 then z2+q else (if t=m then z1+q*x else nx Q x m t))=nx Q x (m+1):=by
 funext t
 by_cases e1:t=m+1
 ·subst e1
  rw[if_pos rfl,<-h2,nx_gt (by omega),nx_eq,if_pos (by omega),Nat.add_sub_cancel,hq,zero_add]
 ·rw[if_neg e1]
  by_cases e2:t=m
  ·subst e2
   rw[if_pos rfl,<-h1,nx_eq,nx_lt (by omega),hq,Fld.add_comm,Fld.mul_comm q x]
  ·rw[if_neg e2]
   by_cases h:t<m
   ·rw[nx_lt h,nx_lt (by omega)]
   ·rw[nx_gt (by omega),nx_gt (by omega)]
theorem co_ext {p q:List E} (hl:p.length=q.length) (h:∀ i,i<p.length->co p i=co q i):p=q:=by
 apply List.ext_getElem hl
 intro i h1 h2
 have:=h i h1
 rwa [co_get h1,co_get h2] at this
theorem nx_all {Q:List E} {x:E} {i:Nat} (hQ:Q.length=i+1):fromN (i+2) (nx Q x (i+1))=mulP [x,1] Q:=by
 have hl:(mulP [x,1] Q).length=i+2:=by simp[mulP,length_addP,length_scP,hQ]
 refine co_ext (by rw[length_fromN,hl]) fun t ht=>?_
 rw[length_fromN] at ht
 rw[co_fromN,if_pos ht]
 unfold nx
 cases t with
 | zero=>rw[if_pos (by omega),if_neg (by omega),Fld.add_zero,co_lin0]
 | succ t=>
  rw[co_lin,if_pos (show 0<t+1/\t+1 - 1<i+1 by omega),Nat.add_sub_cancel]
  congr 1
  by_cases h:t+1<i+1
  ·rw[if_pos h]
  ·rw[if_neg h,co_ge (by omega),mul_zero]
theorem rev_take {P:List E} {i:Nat} (hi:i<P.length) {x:E} (hx:co P i=x):(P.take (i+1)).reverse=x::(P.take i).reverse:=by
 rw[take_one hi,List.reverse_append,hx];rfl
theorem co_sd (a:E):∀ (p:List E) (i:Nat),co (sd a p) i=ev (p.drop (i+1)) a
 | [],i=>by simp[sd];rfl
 | [_],i=>by simp[sd];rfl
 | _::b::p,0=>rfl
 | _::b::p,i+1=>co_sd a (b::p) i
theorem ev_drop {p:List E} {i:Nat} (x:E) (hi:i<p.length):ev (p.drop i) x=co p i+x*ev (p.drop (i+1)) x:=by
 rw[List.drop_eq_getElem_cons hi,co_get hi];rfl
theorem one_at {P:List E} (hn:P.Nodup) {a:E} (ha:a∈P):(∀ b∈P,b≠a->ev (sd a (van P.reverse)) b=0)/\ev (sd a (van P.reverse)) a≠0:=by
 have h:=sd_van (A:=P.reverse) ((List.reverse_perm P).nodup_iff.2 hn) (Peq.refl _) (a:=a) (List.mem_reverse.2 ha)
 refine⟨fun b hb hba=>?_,?_⟩
 ·rw[ev_congr h]
  exact (ev_van _ _).2 (mem_oth.2 ⟨List.mem_reverse.2 hb,hba⟩)
 ·rw[ev_congr h]
  exact van_oth_ne
theorem co_inj {P:List E} (hn:P.Nodup) {i j:Nat} (hi:i<P.length) (hj:j<P.length) (h:co P i=co P j):i=j:=by
 rw[co_get hi,co_get hj] at h
 rcases Nat.lt_trichotomy i j with h1 | h1 | h1
 ·exact absurd h ((List.pairwise_iff_getElem.1 hn) i j hi hj h1)
 ·exact h1
 ·exact absurd h.symm ((List.pairwise_iff_getElem.1 hn) j i hj hi h1)
theorem co_mem {P:List E} {i:Nat} (hi:i<P.length):co P i∈P:=by rw[co_get hi];exact List.getElem_mem hi
theorem lag_step {P V:List E} {n j:Nat} (hn:P.Nodup) (hP:P.length=n) (hj:j<n) {f o:Nat->E} {x y iv c:E} (hx:co P j=x) (hy:co V j=y) (ho:fromN n o=sd x (van P.reverse)) (hiv:Fld.inv (ev (sd x (van P.reverse)) x)=iv) (hc:y*iv=c)
  (hf:∀ b,b<n->ev (fromN n f) (co P b)=if b<j then co V b else 0):∀ b,b<n->ev (fromN n fun m=>f m+c*o m) (co P b)=if b<j+1 then co V b else 0:=by
 intro b hb
 have hev:∀ z,ev (fromN n fun m=>f m+c*o m) z=ev (fromN n f) z+c*ev (fromN n o) z:=fun z=>by
  rw[<-ev_scP,<-ev_addP]
  refine ev_congr (fun i=>?_) z
  rw[co_addP,co_scP,co_fromN,co_fromN,co_fromN]
  split
  ·rfl
  ·rw[mul_zero,Fld.add_zero]
 have hxm:x∈P:=by rw[<-hx];exact co_mem (by omega)
 obtain⟨h1,h2⟩:=one_at hn hxm
 rw[hev,hf b hb,ho]
 by_cases e:b=j
 ·subst e
  rw[if_neg (by omega),if_pos (by omega),hx,zero_add,<-hc,<-hiv,Fld.mul_assoc,Fld.mul_comm (Fld.inv _),Fld.mul_inv _ h2,Fld.mul_one,hy]
 ·have hne:co P b≠x:=fun h=>e (co_inj hn (by omega) (by omega) (by rw[h,hx]))
  rw[h1 _ (co_mem (by omega)) hne,mul_zero,Fld.add_zero]
  by_cases h:b<j
  ·rw[if_pos h,if_pos (by omega)]
  ·rw[if_neg h,if_neg (by omega)]
theorem van_rev_len (P:List E) (i:Nat) (hi:i<=P.length):(van (P.take i).reverse).length=i+1:=by
 rw[length_van,List.length_reverse,List.length_take,Nat.min_eq_left hi]
structure ThrOk (w w':World) (P V:List E) (n:Nat) (x:Ending):Prop where
 out:∃ v p,x = .returned v/\PolV w' v p/\p.length=n/\(∀ j,j<n->ev p (co P j)=co V j)
 back:Below w.heap.size w w'
set_option maxRecDepth 100000 in
set_option maxHeartbeats 16000000 in
theorem thrT_any {w:World} {B n c1 c2 ct:Nat} {At A1 A2:Option Addr} {P V:List E} (hT:Tbl w B At) (hP:Rd w B 1 A1 n (cE P)) (hV:Rd w B 1 A2 n (cE V)) (hB:B<=w.heap.size) (hn:n<=255) (hnd:P.Nodup) :
  Calls Tryz.prog 100 #[.slice At 256 ct,.slice A1 n c1,.slice A2 n c2] w fun x w'=>ThrOk w w' P V n x:=by
 have hpl:=rd_len hP
 have hmk:=fun (W:World) (q:Nat) (hq:q<=1024)=>run_makeV W 79 Dr.tU8 (.int .u8 0) 1 Tryz.underlying79 Dr.infoU8 rfl (by decide) q (by omega)
 have hzq:∀ q,(fromV q fun _=>Value.int .u8 0)=cE (fromN q fun _=>0):=fun q=>by
  apply List.ext_getElem?
  intro j
  by_cases hj:j<q
  ·rw[fromV_get hj,List.getElem?_map,fromN_get hj];rfl
  ·rw[List.getElem?_eq_none (by rw[fromV_len];omega),List.getElem?_eq_none (by rw[List.length_map,length_fromN];omega)]
 have hl1:=run_litV w 79 Dr.tU8 (.int .u8 0) (.int .u8 1) 1 Tryz.underlying79 Dr.infoU8 rfl
 have hv0:PolV (w.alloc (.cells #[.int .u8 1] Dr.tU8)) (.slice (some ⟨w.heap.size,0,none⟩) 1 1) (van (P.take 0).reverse):=⟨_,_,rfl,rd_new w (.int .u8 1) Dr.tU8,Nat.le_refl _,fun h=>by cases h⟩
 have hb0:Below w.heap.size w (w.alloc (.cells #[.int .u8 1] Dr.tU8)):=(Below.refl _ w).alloc (Nat.le_refl _) _
 have HT:=Hd hT
 have HP:=Hd hP
 have HV:=Hd hV
 have HND:=Hd hnd
 have HPL:=Hd hpl
 have HMK:=Hd hmk
 have HZQ:=Hd hzq
 have HV0:=Hd hv0
 have HB0:=Hd hb0
 have u8i:=Hd (show ∀ a:E,((unE a).toNat:Int)<256/\(0:Int)<=((unE a).toNat:Int) from fun a=>by have h:=UInt8.toNat_lt (unE a);omega)
 obtain⟨at0,_,_,hat0,_⟩:=hT.get 0 0
 clear hT hP hV hnd hpl hmk hzq hv0 hb0
 subst hat0
 go_enter Tryz.func100,Tryz.ntmps100
 go_wp2
 clear hl1
 go_loopw [7,8] (fun v iv wr=>∃ i:Nat,iv = .int .i64 (i:Int)/\i<=n/\PolV wr v (van (P.take i).reverse)/\Below w.heap.size w wr) (fun _ iv _=>n - (intOf iv).toNat)
 case atStart=>exact⟨0,rfl,Nat.zero_le _,HV0.out,HB0.out⟩
 case round=>
  obtain⟨i,rfl,hi,hall,hb⟩:=hrel
  obtain⟨Aa,ca,rfl,ra,qa,za⟩:=hall.form
  have hws:=hb.size
  by_cases hin:i<n
  ·have hin2:(i:Int)<(n:Int):=by omega
   have hi00:(0:Int)<=(i:Int):=by omega
   obtain⟨Q,hQ⟩:∃ Q,van (P.take i).reverse=Q:=⟨_,rfl⟩
   have hQl:Q.length=i+1:=by rw[<-hQ];exact van_rev_len P i (by rw[HPL.out];exact hi)
   rw[hQ] at hall ra ⊢
   obtain⟨k1,hk1⟩:∃ k1,i+1=k1:=⟨_,rfl⟩
   obtain⟨L,hL⟩:∃ L,i+2=L:=⟨_,rfl⟩
   rw[hk1] at hQl
   rw[hQl] at ra ⊢
   obtain⟨x,hx⟩:∃ x,co P i=x:=⟨_,rfl⟩
   have hnext:van (P.take (i+1)).reverse=mulP [x,1] Q:=by rw[rev_take (by rw[HPL.out];exact hin) hx,van,hQ]
   obtain⟨b,hbs⟩:∃ b,wr.heap.size=b:=⟨_,rfl⟩
   have hmk:=HMK.out wr L (by omega)
   obtain⟨Z,hZ⟩:∃ Z,(fromV L fun _=>Value.int .u8 0)=Z:=⟨_,rfl⟩
   rw[hZ] at hmk
   obtain⟨w1,hw1⟩:∃ w1,wr.alloc (.cells Z.toArray Dr.tU8)=w1:=⟨_,rfl⟩
   have hrow:w1.ownsRow b Dr.tU8 1 (slE b L) L (cE (fromN L (nx Q x 0))):=by
    rw[nx_zero,<-HZQ.out,hZ,<-hw1,<-hbs]
    exact Dr.own_new wr (Nat.le_refl _) Dr.tU8 1 L Z (by rw[<-hZ];simp[fromV]) (by unfold maxLen;omega)
   have hb1:Below b wr w1:=by rw[<-hw1,<-hbs];exact (Below.refl _ wr).alloc (Nat.le_refl _) _
   have hadd:(k1:Int)+1=(L:Int):=by omega
   have hbi:B<=b:=by omega
   have HROW:=Hd hrow
   have HB1:=Hd hb1
   have HX:=Hd hx
   have HNX:=Hd hnext
   have HRA:=Hd ra
   have HBB:=Hd hb
   have HBS:=Hd hbs
   have HQL:=Hd hQl
   clear hrow hb1 hx hnext ra hb hall hQl hQ hZ
   go_wp2
   clear hmk hw1 hbs
   obtain⟨wo,rfl⟩:∃ wo,wo=wr:=⟨_,rfl⟩
   go_loopw [10] (fun mv wr=>∃ m:Nat,mv = .int .i64 (m:Int)/\m<=k1/\wr.ownsRow b Dr.tU8 1 (slE b L) L (cE (fromN L (nx Q x m)))/\Below b wo wr) (fun mv _=>k1 - (intOf mv).toNat)
   case atStart=>exact⟨0,rfl,Nat.zero_le _,HROW.out,HB1.out⟩
   case round=>
    obtain⟨m,rfl,hm,hrow,hb⟩:=hrel
    by_cases hmi:m<k1
    ·have hmi2:(m:Int)<(k1:Int):=by omega
     have hmi3:(m:Int)<(k1:Int):=by omega
     have hm00:(0:Int)<=(m:Int):=by omega
     have hmi4:(m:Int)<(L:Int):=by omega
     obtain⟨m1,hm1⟩:∃ m1,m+1=m1:=⟨_,rfl⟩
     have hm1i:(m:Int)+1=(m1:Int):=by omega
     have hm10:(0:Int)<=(m1:Int):=by omega
     have hm12:(m1:Int)<(L:Int):=by omega
     obtain⟨aa,rfl,haa,hca⟩:=rd_at (HRA.out.below (by rw[HBS.out];exact hb)) hmi
     obtain⟨q,hq⟩:∃ q,co Q m=q:=⟨_,rfl⟩
     rw[hq] at hca
     have hPx:=(HP.out.below (HBB.out.mono hB)).below (hb.mono hbi)
     obtain⟨ap,rfl,hap,hcp⟩:=rd_at hPx hin
     rw[HX.out] at hcp
     have hTx:=(HT.out.below (HBB.out.mono hB)).below (hb.mono hbi)
     obtain⟨ad2,Ar,cr,e,hadb,e1,hArb,e2⟩:=hTx.get q x
     injection e with e
     subst e
     obtain⟨z1,hz1⟩:∃ z1,nx Q x m m=z1:=⟨_,rfl⟩
     obtain⟨z2,hz2⟩:∃ z2,nx Q x m m1=z2:=⟨_,rfl⟩
     have c1':=ow_cell hrow (show m<L by omega) (cE_get (by rw[fromN_get (by omega),hz1]))
     have f1:=ow_free (i:=m) hrow
     have hxo1:=bxE z1 (q*x)
     have hn1:=ow_store (i:=m) hrow (.int .u8 ((unE (z1+q*x)).toNat:Int))
     rw[cE_set] at hn1
     have hb2:=hb.setCell (p:=⟨b,m,none⟩) (Nat.le_refl _) (.int .u8 ((unE (z1+q*x)).toNat:Int))
     obtain⟨w2,hw2⟩:∃ w2,World.drew (wr.setCell ⟨b,m,none⟩ (.int .u8 ((unE (z1+q*x)).toNat:Int)))=w2:=⟨_,rfl⟩
     have hn1d:w2.ownsRow b Dr.tU8 1 (slE b L) L (cE (fromN L fun t=>if t=m then z1+q*x else nx Q x m t)):=by rw[<-hw2];exact hn1
     have hb2d:Below b wo w2:=by rw[<-hw2];exact hb2.drew
     have c2':=ow_cell hn1d (show m1<L by omega) (cE_get (by rw[fromN_get (by omega),if_neg (by omega),hz2]))
     have f2:=ow_free (i:=m1) hn1d
     have hxo2:=bxE z2 q
     have hca2:w2.cell? (aa.add m)=some (.int .u8 ((unE q).toNat:Int)):=by
      have h:=rd_at (HRA.out.below (by rw[HBS.out];exact hb2d)) hmi
      obtain⟨aa2,h1,_,h2⟩:=h
      injection h1 with h1
      subst h1
      rw[hq] at h2
      exact h2
     have hn2:=ow_store (i:=m1) hn1d (.int .u8 ((unE (z2+q)).toNat:Int))
     rw[cE_set,<-hm1,nx_step hz1 (by rw[hm1];exact hz2) hq,hm1] at hn2
     have hb3:=hb2d.setCell (p:=⟨b,m1,none⟩) (Nat.le_refl _) (.int .u8 ((unE (z2+q)).toNat:Int))
     have t1:=u8i.out q
     have t2:=u8i.out x
     obtain⟨t1a,t1b⟩:=t1
     obtain⟨t2a,t2b⟩:=t2
     have HN2:=Hd (show (World.drew (w2.setCell ⟨b,m1,none⟩ (.int .u8 ((unE (z2+q)).toNat:Int)))).ownsRow b Dr.tU8 1 (slE b L) L (cE (fromN L (nx Q x m1))) from hn2)
     have HB3:=Hd hb3.drew
     have HW2:=Hd hw2
     have HC2:=Hd (And.intro c2' (And.intro f2 hca2))
     clear hrow hb hPx hTx hn1 hn1d hb2 hb2d hn2 hb3 hq hz1 hz2 hw2 c2' f2 hca2 hm1
     go_upto_region 9 with (fail)
     go_region
     rw[HW2.out]
     obtain⟨c2',f2,hca2⟩:=HC2.out
     clear c1' f1 hca hcp e1 e2
     go_upto_region 10 with (fail)
     go_region
     go_wp2
     go_roundw
     case rel=>exact⟨m1,rfl,by omega,HN2.out,HB3.out⟩
     case measure=>simp[intOf];omega
    ·obtain rfl:m=k1:=by omega
     have hfin:fromN L (nx Q x m)=van (P.take (i+1)).reverse:=by rw[HNX.out,<-hL,<-hk1];exact nx_all (by rw[HQL.out,hk1])
     rw[hfin] at hrow
     have hlen:=van_rev_len P (i+1) (by rw[HPL.out];exact hin)
     have hpv:PolV wr (slE b L) (van (P.take (i+1)).reverse):=⟨some ⟨b,0,none⟩,L,by rw[hlen,<-hL],by rw[hlen,show i+1+1=L by omega];exact Rd.of_own hrow,by omega,fun h=>by cases h⟩
     have hbx:=HBB.out.trans (hb.mono (by rw[<-HBS.out];exact HBB.out.size))
     have HPV:=Hd hpv
     have HBX:=Hd hbx
     clear hrow hb hpv hbx hlen hfin
     go_wp2
     go_roundw
     case rel=>exact⟨i+1,by go_num,by omega,HPV.out,HBX.out⟩
     case measure=>simp[intOf];omega
  ·obtain rfl:i=n:=by omega
   obtain⟨n,rfl⟩:∃ n,n=i:=⟨_,rfl⟩
   have hPt:P.take n=P:=List.take_of_length_le (by rw[HPL.out];exact Nat.le_refl _)
   obtain⟨N,hN⟩:∃ N,van P.reverse=N:=⟨_,rfl⟩
   rw[hPt,hN] at hall ra
   rw[hPt,hN]
   have hNl:N.length=n+1:=by rw[<-hN,length_van,List.length_reverse,HPL.out]
   obtain⟨k1,hk1⟩:∃ k1,n+1=k1:=⟨_,rfl⟩
   rw[hk1] at hNl
   rw[hNl] at ra ⊢
   obtain⟨sb,hsb⟩:∃ sb,wr.heap.size=sb:=⟨_,rfl⟩
   have hmkn:=fun W=>HMK.out W n (by omega)
   obtain⟨Z,hZ⟩:∃ Z,(fromV n fun _=>Value.int .u8 0)=Z:=⟨_,rfl⟩
   rw[hZ] at hmkn
   have hZc:Z=cE (fromN n fun _=>0):=by rw[<-HZQ.out,hZ]
   have hZl:Z.length=n:=by rw[<-hZ];simp[fromV]
   obtain⟨w4,hw4⟩:∃ w4,wr.alloc (.cells Z.toArray Dr.tU8)=w4:=⟨_,rfl⟩
   have hsum:w4.ownsRow sb Dr.tU8 1 (slE sb n) n (cE (fromN n fun _=>0)):=by
    rw[<-hZc,<-hw4,<-hsb]
    exact Dr.own_new wr (Nat.le_refl _) Dr.tU8 1 n Z (by rw[hZl];omega) (by unfold maxLen;omega)
   have hb4:Below sb wr w4:=by rw[<-hw4,<-hsb];exact (Below.refl _ wr).alloc (Nat.le_refl _) _
   have hf0:∀ b,b<n->ev (fromN n fun _=>(0:E)) (co P b)=if b<0 then co V b else 0:=fun b hb=>by
    rw[if_neg (by omega)]
    exact ev_zero (fun i=>by rw[co_fromN];split<;>rfl) _
   have hBs:B<=sb:=by omega
   have HSUM:=Hd hsum
   have HB4:=Hd hb4
   have HF0:=Hd hf0
   have HRN:=Hd (show Rd wr sb 1 Aa k1 (cE N) by rw[<-hsb];exact ra)
   have HTW:=Hd ((HT.out.below (hb.mono hB)).more hBs)
   have HPW:=Hd ((HP.out.below (hb.mono hB)).more hBs)
   have HVW:=Hd ((HV.out.below (hb.mono hB)).more hBs)
   have HBW:=Hd hb
   have HSB:=Hd hsb
   have HN:=Hd hN
   have HNL:=Hd hNl
   have HMKN:=Hd hmkn
   have HZC:=Hd hZc
   have HZL:=Hd hZl
   clear hsum hb4 hf0 ra hall hb hN hNl hZ hZc hZl hPt
   go_wp2
   clear hmkn hw4 hsb
   obtain⟨wo,rfl⟩:∃ wo,wo=wr:=⟨_,rfl⟩
   go_loopw [12] (fun jv wr=>∃ (j:Nat) (f:Nat->E),jv = .int .i64 (j:Int)/\j<=n/\wr.ownsRow sb Dr.tU8 1 (slE sb n) n (cE (fromN n f))/\(∀ b,b<n->ev (fromN n f) (co P b)=if b<j then co V b else 0)/\Below sb wo wr) (fun jv _=>n - (intOf jv).toNat)
   case atStart=>exact⟨0,_,rfl,Nat.zero_le _,HSUM.out,HF0.out,HB4.out⟩
   case round=>
    obtain⟨j,f,rfl,hj,hsum,hf,hb⟩:=hrel
    have hss:sb<=wr.heap.size:=by have:=hb.size;have:=HSB.out;omega
    by_cases hjn:j<n
    ·have hjn2:(j:Int)<(n:Int):=by omega
     have hj00:(0:Int)<=(j:Int):=by omega
     obtain⟨x,hx⟩:∃ x,co P j=x:=⟨_,rfl⟩
     obtain⟨ob,hob⟩:∃ ob,wr.heap.size=ob:=⟨_,rfl⟩
     obtain⟨w5,hw5⟩:∃ w5,wr.alloc (.cells Z.toArray Dr.tU8)=w5:=⟨_,rfl⟩
     have hone:w5.ownsRow ob Dr.tU8 1 (slE ob n) n (cE (fromN n fun m=>if n<=m then co (sd x N) m else 0)):=by
      have e:fromN n (fun m=>if n<=m then co (sd x N) m else 0)=fromN n fun _=>0:=fromN_congr fun m hm=>by rw[if_neg (by omega)]
      rw[e,<-HZC.out,<-hw5,<-hob]
      exact Dr.own_new wr (Nat.le_refl _) Dr.tU8 1 n Z (by rw[HZL.out];omega) (by unfold maxLen;omega)
     have hsum5:w5.ownsRow sb Dr.tU8 1 (slE sb n) n (cE (fromN n f)):=by rw[<-hw5];exact Dr.own_alloc hsum _
     have hb5:Below sb wo w5:=by rw[<-hw5];exact hb.alloc hss _
     have hso:sb<ob:=by rw[<-hob];exact (ow_lt hsum).2
     have hrest0:unE (ev (N.drop (n+1)) x)=0:=by
      rw[List.drop_of_length_le (by rw[HNL.out];omega)];rfl
     have hmkn:=HMKN.out
     have HONE:=Hd hone
     have HSUM5:=Hd hsum5
     have HB5:=Hd hb5
     have HR0:=Hd hrest0
     have HX:=Hd hx
     have HFF:=Hd hf
     clear hone hsum5 hb5 hrest0 hx hf hsum hb
     go_wp2
     clear hmkn hw5 hob
     go_loopw [14,15] (fun rv iv wr=>∃ q:Nat,iv = .int .i64 (q:Int)/\q<=n/\rv = .int .u8 ((unE (ev (N.drop (q+1)) x)).toNat:Int)/\wr.ownsRow ob Dr.tU8 1 (slE ob n) n (cE (fromN n fun m=>if q<=m then co (sd x N) m else 0))/\wr.ownsRow sb Dr.tU8 1 (slE sb n) n (cE (fromN n f))/\Below sb wo wr) (fun _ iv _=>(intOf iv).toNat)
     case atStart=>exact⟨n,rfl,Nat.le_refl _,by rw[HR0.out];rfl,HONE.out,HSUM5.out,HB5.out⟩
     case round=>
      obtain⟨q,rfl,hq,rfl,hone,hsum,hb⟩:=hrel
      rcases Nat.eq_zero_or_pos q with h0 | h0
      ·subst h0
       have hz:¬ (0:Int)<0:=by omega
       obtain⟨o,ho⟩:∃ o,sd x N=o:=⟨_,rfl⟩
       have hol:o.length=n:=by
        rw[<-ho]
        have hl:=HNL.out
        cases hNc:N with
        | nil=>rw[hNc] at hl;simp at hl;omega
        | cons c p=>rw[length_sd];rw[hNc] at hl;simp at hl;omega
       have e0:fromN n (fun m=>if 0<=m then co (sd x N) m else 0)=o:=by
        refine co_ext (by rw[length_fromN,hol]) fun t ht=>?_
        rw[length_fromN] at ht
        rw[co_fromN,if_pos ht,if_pos (Nat.zero_le _),ho]
       rw[e0] at hone
       have hPx:=HPW.out.below hb
       have hVx:=HVW.out.below hb
       have hTx:=HTW.out.below hb
       obtain⟨ap,rfl,hap,hcp⟩:=rd_at hPx hjn
       rw[HX.out] at hcp
       obtain⟨av,rfl,hav,hcv⟩:=rd_at hVx hjn
       obtain⟨y,hy⟩:∃ y,co V j=y:=⟨_,rfl⟩
       rw[hy] at hcv
       obtain⟨ox,hox⟩:∃ ox,ev o x=ox:=⟨_,rfl⟩
       obtain⟨iv,hiv⟩:∃ iv:E,Fld.inv ox=iv:=⟨_,rfl⟩
       obtain⟨cc,hcc⟩:∃ cc,y*iv=cc:=⟨_,rfl⟩
       have hne:ox≠0:=by
        have h:=(one_at HND.out (a:=x) (by rw[<-HX.out];exact co_mem (by rw[HPL.out];exact hjn))).2
        rw[HN.out,ho,hox] at h
        exact h
       obtain⟨ad2,Ar,cr,e,_,e1,_,e2⟩:=hTx.get y iv
       injection e with e
       subst e
       rw[hcc] at e2
       have hlag:=lag_step HND.out HPL.out hjn (f:=f) (o:=co o) HX.out hy (by rw[HN.out,ho,<-hol];exact fromN_co o) (by rw[HN.out,ho,hox];exact hiv) hcc HFF.out
       have t1:=u8i.out y
       have t2:=u8i.out iv
       have t3:=u8i.out cc
       obtain⟨t1a,t1b⟩:=t1
       obtain⟨t2a,t2b⟩:=t2
       obtain⟨t3a,t3b⟩:=t3
       have HS0:=Hd (And.intro hcv (And.intro e1 (And.intro hcp e2)))
       have HTX:=Hd (hTx.below (W':=World.drew wr) (Below.refl _ _).drew)
       have HONX:=Hd (Rd.of_own hone)
       have HON:=Hd hone
       have HSU:=Hd hsum
       have HBX:=Hd hb
       have HNE:=Hd hne
       have HIV:=Hd hiv
       have HOX:=Hd hox
       have HLAG:=Hd hlag
       have HOL:=Hd hol
       have HSOB:=Hd hso
       clear hcv hcp e1 e2 hTx hone hsum hb hne hiv hox hlag hol hPx hVx hy hcc ho e0
       go_upto_region 23 with (fail)
       refine wp_region_any (by kernel_rfl) ?_
       change wpAny _ _ _ _ _ _ _ (World.drew _)
       refine wpAny_of_P (S:=fun w'=>w'.cell? (av.add j)=some (.int .u8 ((unE y).toNat:Int))/\w'.cell? (at0.add (unE y).toNat)=some (.slice (some Ar) 256 cr)/\w'.cell? (ap.add j)=some (.int .u8 ((unE x).toNat:Int))/\w'.cell? (Ar.add (unE iv).toNat)=some (.int .u8 ((unE cc).toNat:Int))) (late:=[18]) _ _ _ _ ?_
       refine tT 0 HS0.out ?_
       try go_frame
       refine tT 1 HS0.out ?_
       try go_frame
       refine tT 2 HS0.out ?_
       try go_frame
       refine tT 3 HS0.out ?_
       try go_frame
       refine tP 8 4 rfl HS0.out (fun w hw=>by obtain⟨y1,y2,y3,y4⟩:=hw;go_simp;try with_reducible rfl) ?_
       try go_frame
       refine tT 5 HS0.out ?_
       try go_frame
       refine tP 8 6 rfl HS0.out (fun w hw=>by obtain⟨y1,y2,y3,y4⟩:=hw;go_simp;try with_reducible rfl) ?_
       try go_frame
       refine tT 7 HS0.out ?_
       try go_frame
       refine tT 8 HS0.out ?_
       try go_frame
       refine tT 9 HS0.out ?_
       try go_frame
       refine tT 10 HS0.out ?_
       try go_frame
       refine tT 11 HS0.out ?_
       try go_frame
       refine tT 12 HS0.out ?_
       try go_frame
       refine tP 8 13 rfl HS0.out (fun w hw=>by obtain⟨y1,y2,y3,y4⟩:=hw;go_simp;try with_reducible rfl) ?_
       try go_frame
       refine fP 14 fun K hK=>?_
       go_simp
       refine (atT_any (w:=World.drew wr) HTX.out HONX.out (by omega) x).mono ?_;rw[HOX.out];rintro e w5 ⟨rfl,rfl⟩
       refine hK _ _ (HS0.out) ?_;clear hK K
       try go_frame
       refine fP 15 fun K hK=>?_
       go_simp
       refine (inverseT_any (w:=World.drew wr) HTX.out ox HNE.out).mono ?_;rw[HIV.out];rintro e w5 ⟨rfl,rfl⟩
       refine hK _ _ (HS0.out) ?_;clear hK K
       try go_frame
       refine tT 16 HS0.out ?_
       try go_frame
       refine tP 8 17 rfl HS0.out (fun w hw=>by obtain⟨y1,y2,y3,y4⟩:=hw;go_simp;try with_reducible rfl) ?_
       try go_frame
       refine lP 18 fun K hK=>?_
       go_simp
       refine hK _ _ ?_;clear hK K
       try go_frame
       refine wpAny_done (by kernel_rfl) ?_ _
       go_wp2
       go_loopw [17] (fun mv wr=>∃ m:Nat,mv = .int .i64 (m:Int)/\m<=n/\wr.ownsRow sb Dr.tU8 1 (slE sb n) n (cE (fromN n fun t=>if t<m then f t+cc*co o t else f t))/\wr.ownsRow ob Dr.tU8 1 (slE ob n) n (cE o)/\Below sb wo wr) (fun mv _=>n - (intOf mv).toNat)
       case atStart=>
        refine⟨0,rfl,Nat.zero_le _,?_,HON.out,HBX.out.drew⟩
        have e:fromN n (fun t=>if t<0 then f t+cc*co o t else f t)=fromN n f:=fromN_congr fun t _=>by rw[if_neg (by omega)]
        rw[e]
        exact HSU.out
       case round=>
        obtain⟨m,rfl,hm,hsum,hone,hb⟩:=hrel
        by_cases hmn:m<n
        ·have hmn2:(m:Int)<(n:Int):=by omega
         have hm00:(0:Int)<=(m:Int):=by omega
         obtain⟨om,hom⟩:∃ om,co o m=om:=⟨_,rfl⟩
         obtain⟨fm,hfm⟩:∃ fm,f m=fm:=⟨_,rfl⟩
         have hol:=HOL.out
         have c1':=ow_cell hsum hmn (cE_get (by rw[fromN_get hmn,if_neg (by omega),hfm]))
         have f1:=ow_free (i:=m) hsum
         have c2':=ow_cell hone hmn (cE_get (x:=om) (by rw[List.getElem?_eq_getElem (by omega),<-hom,co_get (by omega)]))
         have hTx:=HTW.out.below hb
         obtain⟨ad2,Ar2,cr2,e,_,e1,_,e2⟩:=hTx.get cc om
         injection e with e
         subst e
         have hxo:=bxE fm (cc*om)
         have hnew:=ow_store (i:=m) hsum (.int .u8 ((unE (fm+cc*om)).toNat:Int))
         rw[cE_set] at hnew
         have hfun:(fun t=>if t=m then fm+cc*om else if t<m then f t+cc*co o t else f t)=fun t=>if t<m+1 then f t+cc*co o t else f t:=by
          funext t
          by_cases h:t=m
          ·subst h;rw[if_pos rfl,if_pos (by omega),hfm,hom]
          ·rw[if_neg h]
           by_cases h2:t<m
           ·rw[if_pos h2,if_pos (by omega)]
           ·rw[if_neg h2,if_neg (by omega)]
         rw[hfun] at hnew
         have t4:=u8i.out om
         obtain⟨t4a,t4b⟩:=t4
         have HNEW:=Hd (show (World.drew (wr.setCell ⟨sb,m,none⟩ (.int .u8 ((unE (fm+cc*om)).toNat:Int)))).ownsRow sb Dr.tU8 1 (slE sb n) n (cE (fromN n fun t=>if t<m+1 then f t+cc*co o t else f t)) from hnew)
         have HON2:=Hd (show (World.drew (wr.setCell ⟨sb,m,none⟩ (.int .u8 ((unE (fm+cc*om)).toNat:Int)))).ownsRow ob Dr.tU8 1 (slE ob n) n (cE o) from ow_other hone (Nat.ne_of_gt HSOB.out) _)
         have HB2:=Hd (hb.setCell (p:=⟨sb,m,none⟩) (Nat.le_refl _) (.int .u8 ((unE (fm+cc*om)).toNat:Int))).drew
         clear hsum hone hb hnew hfun hTx hfm hom
         go_upto_region 27 with (fail)
         go_region
         go_wp2
         go_roundw
         case rel=>exact⟨m+1,by go_num,by omega,HNEW.out,HON2.out,HB2.out⟩
         case measure=>simp[intOf];omega
        ·obtain rfl:m=n:=by omega
         have hfun:fromN m (fun t=>if t<m then f t+cc*co o t else f t)=fromN m fun t=>f t+cc*co o t:=fromN_congr fun t ht=>by rw[if_pos ht]
         rw[hfun] at hsum
         have HS2:=Hd hsum
         have HB2:=Hd hb
         clear hsum hone hb hfun
         go_wp2
         go_roundw
         case rel=>exact⟨j+1,_,by go_num,by omega,HS2.out,HLAG.out,HB2.out⟩
         case measure=>simp[intOf];omega
      ·obtain⟨r,hr⟩:∃ r,q=r+1:=⟨q - 1,by omega⟩
       subst hr
       obtain⟨q,hqr⟩:∃ q,r+1=q:=⟨_,rfl⟩
       rw[hqr] at hq hone ⊢
       have hq0:(0:Int)<(q:Int):=by omega
       have hq00:(0:Int)<=(q:Int):=by omega
       have hqk:(q:Int)<(k1:Int):=by omega
       have hqs:(q:Int) - 1=(r:Int):=by omega
       have hr00:(0:Int)<=(r:Int):=by omega
       have hrn:r<n:=by omega
       have hrn2:(r:Int)<(n:Int):=by omega
       have hRN:=HRN.out.below hb
       obtain⟨aa,rfl,haa,hca⟩:=rd_at hRN (show q<k1 by omega)
       obtain⟨y,hy⟩:∃ y,co N q=y:=⟨_,rfl⟩
       rw[hy] at hca
       obtain⟨rs,hrs⟩:∃ rs,ev (N.drop (q+1)) x=rs:=⟨_,rfl⟩
       rw[hrs]
       have hPx:=HPW.out.below hb
       have hTx:=HTW.out.below hb
       obtain⟨ap,rfl,hap,hcp⟩:=rd_at hPx hjn
       rw[HX.out] at hcp
       obtain⟨ad2,Ar,cr,e,_,e1,_,e2⟩:=hTx.get rs x
       injection e with e
       subst e
       have hstep:ev (N.drop (r+1)) x=y+rs*x:=by
        rw[hqr,ev_drop x (by rw[HNL.out];omega),hy,hrs,Fld.mul_comm]
       have hxo:=bxE y (rs*x)
       have c1':=ow_cell hone hrn (cE_get (fromN_get hrn))
       have f1:=ow_free (i:=r) hone
       have hnew:=ow_store (i:=r) hone (.int .u8 ((unE (y+rs*x)).toNat:Int))
       rw[cE_set] at hnew
       have hfun:(fun t=>if t=r then y+rs*x else if q<=t then co (sd x N) t else 0)=fun t=>if r<=t then co (sd x N) t else 0:=by
        funext t
        by_cases h:t=r
        ·subst h;rw[if_pos rfl,if_pos (Nat.le_refl _),co_sd,hstep]
        ·rw[if_neg h]
         by_cases h2:q<=t
         ·rw[if_pos h2,if_pos (by omega)]
         ·rw[if_neg h2,if_neg (by omega)]
       rw[hfun] at hnew
       obtain⟨t1a,t1b⟩:=u8i.out rs
       obtain⟨t2a,t2b⟩:=u8i.out x
       have HNEW:=Hd (show (World.setCell (World.drew wr) ⟨ob,r,none⟩ (.int .u8 ((unE (y+rs*x)).toNat:Int))).ownsRow ob Dr.tU8 1 (slE ob n) n (cE (fromN n fun t=>if r<=t then co (sd x N) t else 0)) from hnew)
       have HSU2:=Hd (show (World.setCell (World.drew wr) ⟨ob,r,none⟩ (.int .u8 ((unE (y+rs*x)).toNat:Int))).ownsRow sb Dr.tU8 1 (slE sb n) n (cE (fromN n f)) from ow_other hsum (Nat.ne_of_lt hso) _)
       have HB2:=Hd (hb.setCell (p:=⟨ob,r,none⟩) (by show sb<=ob;omega) (.int .u8 ((unE (y+rs*x)).toNat:Int))).drew
       have HSTEP:=Hd hstep
       clear hone hsum hb hnew hfun hPx hTx hRN hy hrs hstep
       go_upto_region 21 with (fail)
       go_region
       go_wp2
       go_roundw
       case rel=>exact⟨r,rfl,by omega,by rw[HSTEP.out],HNEW.out,HSU2.out,HB2.out⟩
       case measure=>simp[intOf];omega
    ·obtain rfl:j=n:=by omega
     have hpv:PolV wr (slE sb j) (fromN j f):=⟨some ⟨sb,0,none⟩,j,by rw[length_fromN],by rw[length_fromN];exact Rd.of_own hsum,by rw[length_fromN];exact Nat.le_refl _,fun h=>by cases h⟩
     have hall:∀ b,b<j->ev (fromN j f) (co P b)=co V b:=fun b hb'=>by rw[hf b hb',if_pos hb']
     have hbx:=HBW.out.trans (hb.mono (by rw[<-HSB.out];exact HBW.out.size))
     have HPV:=Hd hpv
     have HALL:=Hd hall
     have HBX:=Hd hbx
     clear hpv hall hbx hsum hf hb
     go_wp2
     go_ret
     exact⟨⟨_,fromN j f,rfl,HPV.out,length_fromN _ _,HALL.out⟩,HBX.out⟩
end Go.Proofs.YtmgljaecmchgaaaGreat.Gf
namespace Go.Proofs.YtmgljaecmchgaaaGreat.Gf
open Go.RowKit Go.Proofs
structure MatM (W:World) (base rb m cM u:Nat) (g:Nat->Nat) (M:Nat->Nat->E):Prop where
 out:W.ownsRow base tRs 1 (.slice (some ⟨rb,0,none⟩) m cM) m (fromV m fun r=>slE (g r) u)
 rows:∀ r,r<m->W.ownsRow base Dr.tU8 1 (slE (g r) u) u (cE (fromN u (M r)))
 inj:∀ r s,r<m->s<m->g r=g s->r=s
section
variable {W W':World} {base rb m cM u:Nat} {g:Nat->Nat} {M:Nat->Nat->E}
theorem MatM.drew (h:MatM W base rb m cM u g M):MatM W.drew base rb m cM u g M:=⟨h.out,h.rows,h.inj⟩
theorem MatM.below (h:MatM W base rb m cM u g M) (hb:Below W.heap.size W W'):MatM W' base rb m cM u g M:=⟨own_below h.out hb,fun r hr=>own_below (h.rows r hr) hb,h.inj⟩
theorem MatM.other (h:MatM W base rb m cM u g M) {b i:Nat} {v:Value} (h1:b≠rb) (h2:∀ r,r<m->g r≠b):MatM (W.setCell ⟨b,i,none⟩ v) base rb m cM u g M:=
 ⟨row_other h.out (by simp[Value.ownBlock];omega),fun r hr=>ow_other (h.rows r hr) (h2 r hr) v,h.inj⟩
theorem MatM.ne (h:MatM W base rb m cM u g M) {r:Nat} (hr:r<m):g r≠rb:=fun e=>rows_ne (h.rows r hr) h.out (by decide) rfl (by rw[show (slE (g r) u).ownBlock=some (g r) from rfl,e];rfl)
theorem MatM.congr {M':Nat->Nat->E} (h:MatM W base rb m cM u g M) (hM:∀ r i,r<m->i<u->M r i=M' r i):MatM W base rb m cM u g M':=
 ⟨h.out,fun r hr=>by rw[<-fromN_congr (fun i hi=>hM r i hr hi)];exact h.rows r hr,h.inj⟩
theorem MatM.cell (h:MatM W base rb m cM u g M) {r:Nat} (hr:r<m):W.cell? ⟨rb,r,none⟩=some (slE (g r) u):=ow_cell h.out hr (fromV_get hr)
theorem MatM.free (h:MatM W base rb m cM u g M) {r:Nat}:W.frozen? ⟨rb,r,none⟩=false:=ow_free h.out
theorem MatM.val (h:MatM W base rb m cM u g M) {r i:Nat} (hr:r<m) (hi:i<u):W.cell? ⟨g r,i,none⟩=some (.int .u8 ((unE (M r i)).toNat:Int)):=ow_cell (h.rows r hr) hi (cE_get (fromN_get hi))
theorem MatM.vfree (h:MatM W base rb m cM u g M) {r i:Nat} (hr:r<m):W.frozen? ⟨g r,i,none⟩=false:=ow_free (h.rows r hr)
theorem MatM.low (h:MatM W base rb m cM u g M) {r:Nat} (hr:r<m):base<=g r:=(ow_lt (h.rows r hr)).1
theorem MatM.swap (h:MatM W base rb m cM u g M) {p t:Nat} (hp:p<m) (ht:t<m):MatM ((W.setCell ⟨rb,p,none⟩ (slE (g t) u)).setCell ⟨rb,t,none⟩ (slE (g p) u)) base rb m cM u (fun r=>if r=p then g t else if r=t then g p else g r) (swapM p t M):=by
 have h1:=ow_store (i:=t) (ow_store (i:=p) h.out (slE (g t) u)) (slE (g p) u)
 rw[fromV_set,fromV_set] at h1
 have e:fromV m (fun j=>if j=t then slE (g p) u else if j=p then slE (g t) u else slE (g j) u)=fromV m fun r=>slE (if r=p then g t else if r=t then g p else g r) u:=fromV_congr fun j _=>by
  by_cases e1:j=t
  ·rw[if_pos e1]
   by_cases e2:j=p
   ·rw[if_pos e2,<-e1,<-e2]
   ·rw[if_neg e2,if_pos e1]
  ·rw[if_neg e1]
   by_cases e2:j=p
   ·rw[if_pos e2,if_pos e2]
   ·rw[if_neg e2,if_neg e2,if_neg e1]
 rw[e] at h1
 refine⟨h1,fun r hr=>?_,fun r s hr hs hrs=>?_⟩
 ·unfold swapM
  by_cases e2:r=p
  ·rw[if_pos e2,if_pos e2]
   exact ow_other (ow_other (h.rows t ht) (h.ne ht) _) (h.ne ht) _
  ·rw[if_neg e2,if_neg e2]
   by_cases e1:r=t
   ·rw[if_pos e1,if_pos e1]
    exact ow_other (ow_other (h.rows p hp) (h.ne hp) _) (h.ne hp) _
   ·rw[if_neg e1,if_neg e1]
    exact ow_other (ow_other (h.rows r hr) (h.ne hr) _) (h.ne hr) _
 ·have hs1:∀ r,(if r=p then g t else if r=t then g p else g r)=g (if r=p then t else if r=t then p else r):=fun r=>by
   split
   ·rfl
   ·split<;>rfl
  have hs2:∀ r,r<m->(if r=p then t else if r=t then p else r)<m:=fun r hr=>by
   split
   ·exact ht
   ·split
    ·exact hp
    ·exact hr
  rw[hs1,hs1] at hrs
  have h5:=h.inj _ _ (hs2 r hr) (hs2 s hs) hrs
  split at h5<;>split at h5<;>(try split at h5)<;>(try split at h5)<;>omega
theorem MatM.setv (h:MatM W base rb m cM u g M) {r:Nat} (hr:r<m) (i:Nat) (x:E):MatM (W.setCell ⟨g r,i,none⟩ (.int .u8 ((unE x).toNat:Int))) base rb m cM u g (fun r' i'=>if r'=r/\i'=i then x else M r' i'):=by
 refine⟨row_other h.out (by have:=h.ne hr;simp[Value.ownBlock];omega),fun s hs=>?_,h.inj⟩
 by_cases e:s=r
 ·subst e
  have h1:=ow_store (i:=i) (h.rows s hs) (.int .u8 ((unE x).toNat:Int))
  rw[cE_set] at h1
  have e2:fromN u (fun j=>if j=i then x else M s j)=fromN u fun i'=>if s=s/\i'=i then x else M s i':=fromN_congr fun j _=>by
   by_cases h2:j=i
   ·rw[if_pos h2,if_pos ⟨rfl,h2⟩]
   ·rw[if_neg h2,if_neg (fun h3=>h2 h3.2)]
  rw[e2] at h1
  exact h1
 ·have e2:fromN u (fun i'=>if s=r/\i'=i then x else M s i')=fromN u (M s):=fromN_congr fun j _=>by rw[if_neg (fun h3=>e h3.1)]
  rw[e2]
  exact ow_other (h.rows s hs) (fun h3=>e (h.inj s r hs hr h3)) _
end
end Go.Proofs.YtmgljaecmchgaaaGreat.Gf
