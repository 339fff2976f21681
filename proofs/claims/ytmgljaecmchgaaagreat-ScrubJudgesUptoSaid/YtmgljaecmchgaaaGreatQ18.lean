/- XPo9: merged by tools/merge.py. -/
import Derived.Test.YtmgljaecmchgaaaGreatQ17
set_option linter.unusedVariables false
set_option linter.unusedSimpArgs false
set_option linter.unusedSectionVars false
namespace Go.Proofs.YtmgljaecmchgaaaGreat.Gf
open Go.RowKit Go.Proofs
theorem mul_unE (a b:E):mul8 (unE a) (unE b)=unE (a*b):=by rw[e_mul];exact (unE_id _).symm
theorem add_unE (a b:E):unE a ^^^ unE b=unE (a+b):=by rw[e_add];exact (unE_id _).symm
theorem below_undrew {B:Nat} {w w':World} (h:Below B w.drew w'):Below B w w':=⟨h.os,h.tape,h.output,h.size,h.block⟩
structure Thr (P V:List E) (i:Nat) (p:List E):Prop where
 trd:Trd p
 len:p.length<=i
 at_:∀ j,j<i->ev p (co P j)=co V j
theorem Thr.zero (P V:List E):Thr P V 0 []:=⟨Trd.nil,Nat.le_refl _,fun j hj=>by omega⟩
theorem vn_ne {P:List E} (hn:P.Nodup) {i:Nat} (hi:i<P.length):ev (vn P i) (co P i)≠0:=by
 intro h
 have:=(vn_zero P i (by omega) _).1 h
 rw[co_get hi] at this
 obtain⟨j,hj,e⟩:=List.getElem_of_mem this
 rw[List.getElem_take] at e
 have hji:j<i:=by simp at hj;omega
 exact (List.pairwise_iff_getElem.1 hn) j i (by omega) hi hji e
theorem Thr.step {P V p:List E} {i:Nat} (h:Thr P V i p) (hn:P.Nodup) (hi:i<P.length) {x y px vx c:E} (hx:co P i=x) (hy:co V i=y) (hp:ev p x=px) (hv:ev (vn P i) x=vx) (hc:(y+px)*Fld.inv vx=c) :
  Thr P V (i+1) (trimP (addP p (trimP (scP c (vn P i))))):=by
 have hne:vx≠0:=by have:=vn_ne hn hi;rwa [hx,hv] at this
 refine⟨trimP_trd _,?_,fun j hj=>?_⟩
 ·refine Nat.le_trans (trimP_le _) ?_
  rw[length_addP]
  have h1:=trimP_le (scP c (vn P i))
  rw[length_scP,vn_len] at h1
  have:=h.len
  omega
 ·rw[ev_trimP,ev_addP,ev_trimP,ev_scP]
  rcases Nat.lt_or_ge j i with h1 | h1
  ·have hz:ev (vn P i) (co P j)=0:=by
    refine (vn_zero P i (by omega) _).2 ?_
    rw[co_get (by omega)]
    exact List.mem_take_iff_getElem.2 ⟨j,by omega,rfl⟩
   rw[hz,mul_zero,Fld.add_zero]
   exact h.at_ j h1
  ·obtain rfl:j=i:=by omega
   rw[hx,hp,hv,hy,<-hc,Fld.mul_assoc,Fld.mul_comm (Fld.inv vx),Fld.mul_inv _ hne,Fld.mul_one,Fld.add_comm y,add_add_self]
set_option maxRecDepth 100000 in
set_option maxHeartbeats 4000000 in
theorem through_poly {w:World} {B n c d:Nat} {A1 A2:Option Addr} {P V:List E} (hp:Rd w B 1 A1 n (cE P)) (hv:Rd w B 1 A2 n (cE V)) (hB:B<=w.heap.size) (hn:n<=1024) (hnd:P.Nodup) :
  Calls Tryz.prog 107 #[.slice A1 n c,.slice A2 n d] w fun e w'=>∃ v p,e = .returned (.tuple #[v,.int .i64 0])/\PolV w' v p/\Thr P V n p/\Below w.heap.size w w':=by
 have hpl:=rd_len hp
 have hl1:=run_lit1
 have hv0:=polV_new w [1]
 have hb0:Below w.heap.size w (w.alloc (.cells #[.int .u8 1] tEl)):=(Below.refl _ w).alloc (Nat.le_refl _) _
 have hnil:PolV (w.alloc (.cells #[.int .u8 1] tEl)) (.slice none 0 0) []:=⟨none,0,rfl,Rd.none_,Nat.le_refl _,fun _=>rfl⟩
 have HP:=Hd hp
 have HV:=Hd hv
 have HPL:=Hd hpl
 have HND:=Hd hnd
 have HV0:=Hd hv0
 have HB0:=Hd hb0
 have HNIL:=Hd hnil
 clear hp hv hpl hv0 hb0 hnil hnd
 go_enter Tryz.func107,Tryz.ntmps107
 go_wp2
 go_loopw [6,7,20] (fun pv vv iv wr=>∃ (i:Nat) (p:List E),iv = .int .i64 (i:Int)/\i<=n/\PolV wr pv p/\PolV wr vv (vn P i)/\Thr P V i p/\Below w.heap.size w wr) (fun _ _ iv _=>n - (intOf iv).toNat)
 case atStart=>exact⟨0,[],rfl,Nat.zero_le _,HNIL.out,HV0.out,Thr.zero _ _,HB0.out⟩
 case round=>
  obtain⟨i,p,rfl,hi,hpv,hvv,hthr,hb⟩:=hrel
  by_cases hlt:i<n
  ·have hlt2:(i:Int)<(n:Int):=by omega
   obtain⟨a1,rfl,ha1,hc1⟩:=rd_at HP.out hlt
   obtain⟨a2,rfl,ha2,hc2⟩:=rd_at HV.out hlt
   obtain⟨x,hx⟩:∃ x,co P i=x:=⟨_,rfl⟩
   obtain⟨y,hy⟩:∃ y,co V i=y:=⟨_,rfl⟩
   rw[hx] at hc1
   rw[hy] at hc2
   have hws:=hb.size
   have hd1:wr.cell? (a1.add i)=some (.int .u8 ((unE x).toNat:Int)):=(hb.cell (by rw[add_block];omega)).trans hc1
   have hd2:wr.cell? (a2.add i)=some (.int .u8 ((unE y).toNat:Int)):=(hb.cell (by rw[add_block];omega)).trans hc2
   have hlow:(a2.add i).block<wr.heap.size:=by rw[add_block];omega
   obtain⟨px,hpx⟩:∃ px,ev p x=px:=⟨_,rfl⟩
   obtain⟨vx,hvx⟩:∃ vx,ev (vn P i) x=vx:=⟨_,rfl⟩
   obtain⟨cc,hcc⟩:∃ cc,(y+px)*Fld.inv vx=cc:=⟨_,rfl⟩
   have hne:unE vx≠0:=by have:=vn_ne HND.out (show i<P.length by rw[HPL.out];exact hlt);rw[hx,hvx] at this;exact this
   have hmul:mul8 (unE y ^^^ unE px) (pow254 (unE vx))=unE cc:=by rw[inv_unE _ hne,add_unE,mul_unE,<-hcc];rfl
   have hstep:=hthr.step HND.out (show i<P.length by rw[HPL.out];exact hlt) hx hy hpx hvx hcc
   have hple:=hthr.len
   obtain⟨Ap,cp,rfl,hrp,hcp,hnp⟩:=hpv.form
   obtain⟨Av,cv,rfl,hrv,hcv,hnv⟩:=hvv.form
   have hvl:=vn_len P i
   have hvt:vn P (i+1)=trimP (mulP (vn P i) [x,1]):=by rw[vn,hx]
   rw[hvl] at hrv ⊢
   obtain⟨m,hm⟩:∃ m,p.length=m:=⟨_,rfl⟩
   rw[hm] at hrp hple ⊢
   have HRP:=Hd hrp
   have HRV:=Hd hrv
   have HD2:=Hd hd2
   have HB:=Hd hb
   have HST:=Hd hstep
   have HPX:=Hd hpx
   have HVX:=Hd hvx
   have HNE:=Hd hne
   have HMUL:=Hd hmul
   have HVT:=Hd hvt
   clear hpv hvv hthr hb hc1 hc2 hrp hrv hd2 hstep hpx hvx hne hmul hvt hx hy hcc hvl hm hcp hnp hcv hnv
   go_upto_region 8 with (fail)
   refine wp_region_any (by kernel_rfl) ?_
   change wpAny _ _ _ _ _ _ _ (World.drew _)
   refine wpAny_of_P (S:=fun w'=>w'.cell? (a2.add i)=some (.int .u8 ((unE y).toNat:Int))) (late:=[16]) _ _ _ _ ?_
   refine tT 0 HD2.out ?_
   try go_frame
   refine tT 1 HD2.out ?_
   try go_frame
   refine tT 2 HD2.out ?_
   try go_frame
   refine tP 8 3 rfl HD2.out (fun w hw=>by have y1:=hw;go_simp;try with_reducible rfl) ?_
   try go_frame
   refine tT 4 HD2.out ?_
   try go_frame
   refine tT 5 HD2.out ?_
   try go_frame
   refine tT 8 HD2.out ?_
   try go_frame
   refine tT 9 HD2.out ?_
   try go_frame
   refine fP 6 fun K hK=>?_
   go_simp
   refine (atP_any (w:=World.drew wr) HRP.out (Nat.le_refl _) (by omega) x).mono ?_;rintro e w5 ⟨rfl,hb5⟩;rw[HPX.out];have HB5:=Hd hb5;have HD5:=Hd ((hb5.cell hlow).trans HD2.out);clear hb5
   refine hK _ _ (HD5.out) ?_;clear hK K
   try go_frame
   refine fP 7 fun K hK=>?_
   go_simp
   refine (plus_any (unE y) (unE px) _).mono ?_;rintro e w5x ⟨rfl,rfl⟩
   refine hK _ _ (HD5.out) ?_;clear hK K
   try go_frame
   refine fP 10 fun K hK=>?_
   go_simp
   refine (atP_any (HRV.out.next (below_undrew HB5.out)) (Nat.le_refl _) (by omega) x).mono ?_;rintro e w6 ⟨rfl,hb6⟩;rw[HVX.out];have HB6:=Hd hb6;have HD6:=Hd ((hb6.cell (Nat.lt_of_lt_of_le hlow (below_undrew HB5.out).size)).trans HD5.out);clear hb6
   refine hK _ _ (HD6.out) ?_;clear hK K
   try go_frame
   refine fP 11 fun K hK=>?_
   go_simp
   refine (over_any (unE y ^^^ unE px) (unE vx) HNE.out _).mono ?_;rintro e w6x ⟨rfl,rfl⟩;rw[HMUL.out]
   refine hK _ _ (HD6.out) ?_;clear hK K
   try go_frame
   refine tT 12 HD6.out ?_
   try go_frame
   refine tT 13 HD6.out ?_
   try go_frame
   refine tT 14 HD6.out ?_
   try go_frame
   refine tT 15 HD6.out ?_
   try go_frame
   refine lP 16 fun K hK=>?_
   go_simp
   refine hK _ _ ?_;clear hK K
   try go_frame
   refine wpAny_done (by kernel_rfl) ?_ _
   obtain⟨wq,hwq⟩:∃ wq,w6=wq:=⟨_,rfl⟩
   have hb6:Below wr.heap.size wr wq:=by
    rw[<-hwq]
    exact (below_undrew HB5.out).trans (HB6.out.mono (below_undrew HB5.out).size)
   rw[hwq]
   have HB7:=Hd hb6
   clear hb6 HB5 HB6 hwq
   have hl2:=fun W=>run_lit2 W (.int .u8 ((unE x).toNat:Int)) rfl
   go_wp2_with (first
    | (go_at_call 119;refine (scaleP_any (HRV.out.next HB7.out) cc (Nat.le_refl _) (by omega)).mono ?_;rintro e w7 ⟨v7,rfl,h7⟩;obtain⟨h7v,h7b⟩:=h7.val;obtain⟨A7,c7,rfl,r7,_,_⟩:=h7v.form;have HR7:=Hd r7;have HB8:=Hd h7b;clear h7 h7v h7b r7)
    | (go_at_call 118;refine (plusP_any ((HRP.out.next HB7.out).next HB8.out) HR7.out (Nat.le_refl _) (by omega) (by have:=trimP_le (scP cc (vn P i));rw[length_scP,vn_len] at this;omega)).mono ?_;rintro e w8 ⟨v8,rfl,h8⟩;obtain⟨h8v,h8b⟩:=h8.val;have HV8:=Hd h8v;have HB9:=Hd h8b;clear h8 h8v h8b HR7)
    | (go_at_call 120;refine (timesP_any (((((HRV.out.next HB7.out).next HB8.out).next HB9.out).alloc (Nat.le_refl _) _).more (by simp)) (Rd.of_own (Dr.own_new w8 (Nat.le_refl _) tEl 1 2 (cE [x,1]) rfl (by unfold maxLen;omega))) (Nat.le_refl _) (by omega) (by omega)).mono ?_;rintro e w9 ⟨v9,rfl,h9⟩;obtain⟨h9v,h9b⟩:=h9.val;have HV9:=Hd h9v;have HB10:=Hd h9b;clear h9 h9v h9b))
   have hb10:Below w8.heap.size w8 w9:=((Below.refl _ w8).alloc (Nat.le_refl _) _).trans (HB10.out.mono (by simp))
   have hbx:Below w.heap.size w w9:=HB.out.trans ((bch (bch (bch HB7.out HB8.out) HB9.out) hb10).mono hws)
   have hfin8:=HV8.out.below hb10
   have hfin9:=HV9.out
   rw[<-HVT.out] at hfin9
   obtain⟨A8,c8,rfl,r8,q8,z8⟩:=hfin8.form
   obtain⟨A9,c9,rfl,r9,q9,z9⟩:=hfin9.form
   go_roundw
   case rel=>exact⟨i+1,_,by go_num,by omega,⟨A8,c8,rfl,r8,q8,z8⟩,⟨A9,c9,rfl,r9,q9,z9⟩,HST.out,hbx⟩
   case measure=>simp[intOf];omega
  ·obtain rfl:i=n:=by omega
   have HVX:=Hd hpv
   have HBX:=Hd hb
   have HTX:=Hd hthr
   obtain⟨Av,cv,rfl,_,_,_⟩:=hpv.form
   clear hpv hb hvv hthr
   go_wp2
   refine bodyPost_ret (v:=.tuple #[.slice Av p.length cv,.int .i64 0]) (by simp[results,Tryz.results107,go_sem]) rfl ?_
   exact⟨_,_,rfl,HVX.out,HTX.out,HBX.out⟩
end Go.Proofs.YtmgljaecmchgaaaGreat.Gf
