/- XRb4, XRb5: merged by tools/merge.py. -/
import Derived.Test.YtmgljaecmchgaaaGreatQ26
set_option linter.unusedVariables false
set_option linter.unusedSimpArgs false
set_option linter.unusedSectionVars false
namespace Go.Proofs.YtmgljaecmchgaaaGreat.Gf
open Go.RowKit Go.Proofs
structure KerOk (w w':World) (base m u:Nat) (M0:Nat->Nat->E) (x:Ending):Prop where
 out:(x = .returned (.slice none 0 0)/\∀ y:Nat->E,Sol m u M0 y->∀ i,i<u->y i=0)\/
  (∃ b l,x = .returned (slE b u)/\w'.ownsRow base Dr.tU8 1 (slE b u) u (cE l)/\Sol m u M0 (co l)/\∃ i,co l i≠0)
 back:Below base w w'
structure KerM (W:World) (base rb pb m cM u:Nat) (g:Nat->Nat) (M:Nat->Nat->E) (place:Nat->Nat):Prop where
 mat:MatM W base rb m cM u g M
 pl:W.ownsRow base tInt 1 (slE pb u) u (fromV u fun i=>.int .i64 (place i:Int))
theorem KerM.ne {W:World} {base rb pb m cM u:Nat} {g:Nat->Nat} {M:Nat->Nat->E} {place:Nat->Nat} (h:KerM W base rb pb m cM u g M place):pb≠rb/\∀ r,r<m->g r≠pb:=by
 refine⟨fun e=>?_,fun r hr e=>?_⟩
 ·exact rows_ne h.pl h.mat.out (by decide) rfl (by rw[show (slE pb u).ownBlock=some pb from rfl,e];rfl)
 ·exact rows_ne (h.mat.rows r hr) h.pl (by decide) rfl (by rw[show (slE (g r) u).ownBlock=some (g r) from rfl,e];rfl)
theorem KerM.drew {W:World} {base rb pb m cM u:Nat} {g:Nat->Nat} {M:Nat->Nat->E} {place:Nat->Nat} (h:KerM W base rb pb m cM u g M place):KerM W.drew base rb pb m cM u g M place:=⟨h.mat.drew,h.pl⟩
theorem KerM.congr {W:World} {base rb pb m cM u:Nat} {g:Nat->Nat} {M M':Nat->Nat->E} {place:Nat->Nat} (h:KerM W base rb pb m cM u g M place) (hM:∀ r i,r<m->i<u->M r i=M' r i):KerM W base rb pb m cM u g M' place:=⟨h.mat.congr hM,h.pl⟩
theorem KerM.setv {W:World} {base rb pb m cM u:Nat} {g:Nat->Nat} {M:Nat->Nat->E} {place:Nat->Nat} (h:KerM W base rb pb m cM u g M place) {r:Nat} (hr:r<m) (i:Nat) (x:E):KerM (W.setCell ⟨g r,i,none⟩ (.int .u8 ((unE x).toNat:Int))) base rb pb m cM u g (fun r' i'=>if r'=r/\i'=i then x else M r' i') place:=
 ⟨h.mat.setv hr i x,ow_other h.pl (fun e=>h.ne.2 r hr e.symm) _⟩
theorem KerM.swap {W:World} {base rb pb m cM u:Nat} {g:Nat->Nat} {M:Nat->Nat->E} {place:Nat->Nat} (h:KerM W base rb pb m cM u g M place) {p t:Nat} (hp:p<m) (ht:t<m):KerM ((W.setCell ⟨rb,p,none⟩ (slE (g t) u)).setCell ⟨rb,t,none⟩ (slE (g p) u)) base rb pb m cM u (fun r=>if r=p then g t else if r=t then g p else g r) (swapM p t M) place:=
 ⟨h.mat.swap hp ht,ow_other (ow_other h.pl h.ne.1 _) h.ne.1 _⟩
theorem KerM.setp {W:World} {base rb pb m cM u:Nat} {g:Nat->Nat} {M:Nat->Nat->E} {place:Nat->Nat} (h:KerM W base rb pb m cM u g M place) (c t:Nat):KerM (W.setCell ⟨pb,c,none⟩ (.int .i64 (t:Int))) base rb pb m cM u g M (fun i=>if i=c then t else place i):=by
 refine⟨h.mat.other h.ne.1 h.ne.2,?_⟩
 have h1:=ow_store (i:=c) h.pl (.int .i64 (t:Int))
 rw[fromV_set] at h1
 have e:fromV u (fun j=>if j=c then Value.int .i64 (t:Int) else .int .i64 (place j:Int))=fromV u fun i=>.int .i64 ((if i=c then t else place i:Nat):Int):=fromV_congr fun j _=>by split<;>rfl
 rw[e] at h1
 exact h1
set_option maxRecDepth 100000 in
set_option maxHeartbeats 40000000 in
theorem kernel_any {w:World} {B base rb m cM u ct:Nat} {At:Option Addr} {g0:Nat->Nat} {M0:Nat->Nat->E} (hT:Tbl w B At) (hBb:B<=base) (hM:MatM w base rb m cM u g0 M0) (hbs:base<=w.heap.size) (hm:m<=255) (hu:u<=1024) :
  Calls Tryz.prog 90 #[.slice At 256 ct,.slice (some ⟨rb,0,none⟩) m cM,.int .i64 (u:Int)] w fun x w'=>KerOk w w' base m u M0 x:=by
 have hmk:=run_makeV w 30 tInt (.int .i64 0) 8 Tryz.underlying30 infoInt rfl (by decide) u (by omega)
 obtain⟨pb,hpb⟩:∃ pb,w.heap.size=pb:=⟨_,rfl⟩
 obtain⟨Z,hZ⟩:∃ Z,(fromV u fun _=>Value.int .i64 0)=Z:=⟨_,rfl⟩
 rw[hZ] at hmk
 have hK0:KerM (w.alloc (.cells Z.toArray tInt)) base rb pb m cM u g0 M0 (fun _=>0):=by
  refine⟨hM.below ((Below.refl _ w).alloc (Nat.le_refl _) _),?_⟩
  rw[<-hpb]
  show (w.alloc (.cells Z.toArray tInt)).ownsRow base tInt 1 (slE w.heap.size u) u (fromV u fun _=>.int .i64 0)
  rw[hZ]
  exact Dr.own_new w hbs tInt 1 u Z (by rw[<-hZ];simp[fromV]) (by unfold maxLen;omega)
 have hb0:Below base w (w.alloc (.cells Z.toArray tInt)):=(Below.refl _ w).alloc hbs _
 have HT:=Hd hT
 have HK0:=Hd hK0
 have HB0:=Hd hb0
 have HU8:=Hd (show ∀ a:E,((unE a).toNat:Int)<256/\(0:Int)<=((unE a).toNat:Int) from fun a=>by have h:=UInt8.toNat_lt (unE a);omega)
 have HI0:=Hd (KInv.begin m u M0)
 obtain⟨at0,_,_,hat0,_⟩:=hT.get 0 0
 subst hat0
 have HBB:=Hd hBb
 clear hT hM hK0 hb0 hZ
 go_enter Tryz.func90,Tryz.ntmps90
 go_wp2
 clear hmk hpb hbs
 go_loopw [8,9] (fun tv cv wr=>∃ (c t:Nat) (place:Nat->Nat) (g:Nat->Nat) (M:Nat->Nat->E),tv = .int .i64 (t:Int)/\cv = .int .i64 (c:Int)/\c<=u/\KInv m u c t place M0 M/\KerM wr base rb pb m cM u g M place/\Below base w wr) (fun _ cv _=>u - (intOf cv).toNat)
 case atStart=>exact⟨0,0,_,_,_,rfl,rfl,Nat.zero_le _,HI0.out,HK0.out,HB0.out⟩
 case round=>
  obtain⟨c,t,place,g,M,rfl,rfl,hc,hI,hK,hb⟩:=hrel
  have htm:=hI.t_le
  by_cases hgo:c<u/\t<m
  ·obtain⟨hcu,htm1⟩:=hgo
   have hcu2:(c:Int)<(u:Int):=by omega
   have htm2:(t:Int)<(m:Int):=by omega
   have hc00:(0:Int)<=(c:Int):=by omega
   have ht00:(0:Int)<=(t:Int):=by omega
   have HI:=Hd hI
   have HK:=Hd hK
   have HB:=Hd hb
   clear hI hK hb
   go_wp2
   go_loop [10] (fun pv=>∃ p:Nat,pv = .int .i64 (p:Int)/\t<=p/\p<=m/\∀ r,t<=r->r<p->M r c=0) (fun pv=>m - (intOf pv).toNat)
   case atStart=>exact⟨t,rfl,Nat.le_refl _,htm,fun r h1 h2=>by omega⟩
   case round=>
    obtain⟨p,rfl,htp,hpm,hz⟩:=hrel
    rcases Nat.lt_or_ge p m with hlt | hge
    ·have hpm2:(p:Int)<(m:Int):=by omega
     have hp00:(0:Int)<=(p:Int):=by omega
     obtain⟨x,hx⟩:∃ x,M p c=x:=⟨_,rfl⟩
     have e1:=HK.out.mat.cell hlt
     have e2:=HK.out.mat.val hlt hcu
     rw[hx] at e2
     by_cases hx0:x=0
     ·have hxi:((unE x).toNat:Int)=0:=by rw[hx0];rfl
      have hxb:(((unE x).toNat:Int)==0)=true:=by simp[hxi]
      have HZ:=Hd (show ∀ r,t<=r->r<p+1->M r c=0 from fun r h1 h2=>by
       by_cases h:r=p
       ·subst h;rw[hx,hx0]
       ·exact hz r h1 (by omega))
      clear hz hx hx0
      go_wp2
      go_round
      case rel=>exact⟨p+1,by go_num,by omega,by omega,HZ.out⟩
      case measure=>simp[intOf];omega
     ·have hxi:¬ ((unE x).toNat:Int)=0:=fun h=>hx0 (UInt8.toNat_inj.1 (show (unE x).toNat=0 by omega))
      have hxb:(((unE x).toNat:Int)==0)=false:=by simpa using hxi
      have hpm3:¬ (p:Int)=(m:Int):=by omega
      have hpm4:((p:Int)==(m:Int))=false:=by simpa using hpm3
      obtain⟨iv,hiv⟩:∃ iv:E,Fld.inv x=iv:=⟨_,rfl⟩
      have hpiv:=HI.out.pivot htp hlt (by rw[hx];exact hx0)
      rw[hx,hiv] at hpiv
      have k1:=HK.out.mat.cell htm1
      have k2:=HK.out.mat.free (r:=p)
      have hsw:=HK.out.swap hlt htm1
      obtain⟨w1,hw1⟩:∃ w1,wr.setCell ⟨rb,p,none⟩ (slE (g t) u)=w1:=⟨_,rfl⟩
      have k3:w1.frozen? ⟨rb,t,none⟩=false:=by rw[<-hw1,World.frozen?_setCell];exact HK.out.mat.free
      have k4:∃ v,w1.cell? ⟨rb,t,none⟩=some v:=by
       rw[<-hw1]
       by_cases h:p=t
       ·subst h;exact⟨_,World.cell?_setCell_same' _ _ _ (by rw[e1];rfl)⟩
       ·exact⟨_,(World.cell?_setCell_other _ _ _ _ (by intro h2;injection h2 with _ h2;omega)).trans k1⟩
      obtain⟨v4,k4⟩:=k4
      rw[hw1] at hsw
      obtain⟨w2,hw2⟩:∃ w2,w1.setCell ⟨rb,t,none⟩ (slE (g p) u)=w2:=⟨_,rfl⟩
      rw[hw2] at hsw
      obtain⟨g2,hg2⟩:∃ g2:Nat->Nat,(fun r=>if r=p then g t else if r=t then g p else g r)=g2:=⟨_,rfl⟩
      rw[hg2] at hsw
      have hSt:swapM p t M t c=x:=by
       unfold swapM
       by_cases h:t=p
       ·rw[if_pos h,<-hx,h]
       ·rw[if_neg h,if_pos rfl,hx]
      have k5:=hsw.mat.cell htm1
      have k6:=hsw.mat.val htm1 hcu
      rw[hSt] at k6
      have hrb:base<=rb:=(ow_lt HK.out.mat.out).1
      have hb2:Below base w w2:=by
       rw[<-hw2,<-hw1]
       exact (HB.out.setCell (p:=⟨rb,p,none⟩) hrb _).setCell (p:=⟨rb,t,none⟩) hrb _
      have hTx:Tbl w2 B (some at0):=HT.out.below (hb2.mono HBB.out)
      obtain⟨S,hS⟩:∃ S,swapM p t M=S:=⟨_,rfl⟩
      rw[hS] at hsw hpiv hSt
      have HSW:=Hd hsw
      have HPIV:=Hd hpiv
      have HB2:=Hd hb2
      have HTX:=Hd hTx
      have HIV:=Hd hiv
      have HXN:=Hd (show x≠0 from hx0)
      have HW2:=Hd hw2
      clear hsw hpiv hb2 hTx hiv hx0 hz hx hS hg2 hSt
      go_wp2_with (go_at_call 101;refine (inverseT_any HTX.out x HXN.out).mono ?_;rw[HIV.out];rintro e w5 ⟨rfl,rfl⟩)
      clear e1 e2 k1 k2 k3 k4 k5 k6 hw1 hw2
      go_loopw [13] (fun iv' wr=>∃ i:Nat,iv' = .int .i64 (i:Int)/\i<=u/\KerM wr base rb pb m cM u g2 (fun r q=>if r=t/\q<i then iv*S r q else S r q) place/\Below base w wr) (fun iv' _=>u - (intOf iv').toNat)
      case atStart=>exact⟨0,rfl,Nat.zero_le _,HSW.out.congr (fun r i _ _=>by rw[if_neg (fun h=>by omega)]),HB2.out⟩
      case round=>
       obtain⟨i,rfl,hi,hK,hb⟩:=hrel
       by_cases hiu:i<u
       ·have hiu2:(i:Int)<(u:Int):=by omega
        have hi00:(0:Int)<=(i:Int):=by omega
        obtain⟨s,hs⟩:∃ s,S t i=s:=⟨_,rfl⟩
        have k1:=hK.mat.cell htm1
        have k2:=hK.mat.val htm1 hiu
        rw[if_neg (fun h=>by omega),hs] at k2
        have k3:=hK.mat.vfree (i:=i) htm1
        have hTx:Tbl wr B (some at0):=HT.out.below (hb.mono HBB.out)
        obtain⟨ad2,Ar,cr,e,_,e1,_,e2⟩:=hTx.get iv s
        injection e with e
        subst e
        obtain⟨t1a,t1b⟩:=HU8.out iv
        obtain⟨t2a,t2b⟩:=HU8.out s
        have hset:=(hK.setv htm1 i (iv*s)).congr (M':=fun r q=>if r=t/\q<i+1 then iv*S r q else S r q) (fun r q _ _=>by
         by_cases h1:r=t/\q=i
         ·rw[if_pos h1,if_pos ⟨h1.1,by omega⟩,h1.1,h1.2,hs]
         ·rw[if_neg h1]
          by_cases h2:r=t/\q<i
          ·rw[if_pos h2,if_pos ⟨h2.1,by omega⟩]
          ·rw[if_neg h2,if_neg (fun h3=>by omega)])
        have hlow:=hK.mat.low htm1
        have HSET:=Hd hset.drew
        have HBX:=Hd (hb.setCell (p:=⟨g2 t,i,none⟩) hlow (.int .u8 ((unE (iv*s)).toNat:Int))).drew
        clear hK hb hset hTx hs
        go_upto_region 17 with (fail)
        go_region
        go_wp2
        go_roundw
        case rel=>exact⟨i+1,by go_num,by omega,HSET.out,HBX.out⟩
        case measure=>simp[intOf];omega
       ·obtain rfl:i=u:=by omega
        obtain⟨T,hTT⟩:∃ T,scaleM t iv S=T:=⟨_,rfl⟩
        have HKT:=Hd (show KerM wr base rb pb m cM i g2 T place from hK.congr (fun r q _ hq=>by
         rw[<-hTT];unfold scaleM
         by_cases h:r=t
         ·rw[if_pos ⟨h,hq⟩,if_pos h]
         ·rw[if_neg (fun h2=>h h2.1),if_neg h]))
        have HPT:=Hd (show KInv m i (c+1) (t+1) (fun j=>if j=c then t+1 else place j) M0 (elimM t c T) by rw[<-hTT];exact HPIV.out)
        have HBT:=Hd hb
        clear hK hb hTT
        go_wp2
        go_loopw [14] (fun rv wr=>∃ r:Nat,rv = .int .i64 (r:Int)/\r<=m/\KerM wr base rb pb m cM i g2 (fun r' q=>if r'<r/\r'≠t then T r' q+T r' c*T t q else T r' q) place/\Below base w wr) (fun rv _=>m - (intOf rv).toNat)
        case atStart=>exact⟨0,rfl,Nat.zero_le _,HKT.out.congr (fun r q _ _=>by rw[if_neg (fun h=>by omega)]),HBT.out⟩
        case round=>
         obtain⟨r,rfl,hr,hK,hb⟩:=hrel
         by_cases hrm:r<m
         ·have hrm2:(r:Int)<(m:Int):=by omega
          have hr00:(0:Int)<=(r:Int):=by omega
          obtain⟨f,hf⟩:∃ f,T r c=f:=⟨_,rfl⟩
          have k1:=hK.mat.cell hrm
          have k2:=hK.mat.val hrm hcu
          rw[if_neg (fun h=>by omega),hf] at k2
          by_cases hrt:r=t
          ·subst hrt
           have hrtb:((r:Int)==(r:Int))=true:=by simp
           have HKX:=Hd (hK.congr (M':=fun r' q=>if r'<r+1/\r'≠r then T r' q+T r' c*T r q else T r' q) (fun r' q _ _=>by
            by_cases h:r'<r/\r'≠r
            ·rw[if_pos h,if_pos ⟨by omega,h.2⟩]
            ·rw[if_neg h,if_neg (fun h2=>h ⟨by omega,h2.2⟩)]))
           have HBX:=Hd hb
           clear hK hb hf
           go_wp2
           go_roundw
           case rel=>exact⟨r+1,by go_num,by omega,HKX.out,HBX.out⟩
           case measure=>simp[intOf];omega
          ·have hrt2:¬ (r:Int)=(t:Int):=by omega
           have hrt3:((r:Int)==(t:Int))=false:=by simpa using hrt2
           by_cases hf0:f=0
           ·have hfi:((unE f).toNat:Int)=0:=by rw[hf0];rfl
            have hfb:(((unE f).toNat:Int)==0)=true:=by simp[hfi]
            have HKX:=Hd (hK.congr (M':=fun r' q=>if r'<r+1/\r'≠t then T r' q+T r' c*T t q else T r' q) (fun r' q _ _=>by
             by_cases h:r'<r/\r'≠t
             ·rw[if_pos h,if_pos ⟨by omega,h.2⟩]
             ·rw[if_neg h]
              by_cases h2:r'=r
              ·subst h2
               rw[if_pos ⟨by omega,hrt⟩,hf,hf0,zero_mul,Fld.add_zero]
              ·rw[if_neg (fun h3=>h ⟨by omega,h3.2⟩)]))
            have HBX:=Hd hb
            clear hK hb hf hf0
            go_wp2
            go_roundw
            case rel=>exact⟨r+1,by go_num,by omega,HKX.out,HBX.out⟩
            case measure=>simp[intOf];omega
           ·have hfi:¬ ((unE f).toNat:Int)=0:=fun h=>hf0 (UInt8.toNat_inj.1 (show (unE f).toNat=0 by omega))
            have hfb:(((unE f).toNat:Int)==0)=false:=by simpa using hfi
            have HKX:=Hd hK
            have HBX:=Hd hb
            have HF:=Hd hf
            clear hK hb hf hf0
            go_wp2
            clear k1 k2
            go_loopw [16] (fun qv wr=>∃ q:Nat,qv = .int .i64 (q:Int)/\q<=i/\KerM wr base rb pb m cM i g2 (fun r' q'=>if r'<r/\r'≠t then T r' q'+T r' c*T t q' else if r'=r/\q'<q then T r q'+f*T t q' else T r' q') place/\Below base w wr) (fun qv _=>i - (intOf qv).toNat)
            case atStart=>exact⟨0,rfl,Nat.zero_le _,HKX.out.congr (fun r' q' _ _=>by
             by_cases h:r'<r/\r'≠t
             ·rw[if_pos h,if_pos h]
             ·rw[if_neg h,if_neg h,if_neg (fun h2=>by omega)]),HBX.out⟩
            case round=>
             obtain⟨q,rfl,hq,hK,hb⟩:=hrel
             by_cases hqi:q<i
             ·have hqi2:(q:Int)<(i:Int):=by omega
              have hq00:(0:Int)<=(q:Int):=by omega
              obtain⟨s,hs⟩:∃ s,T t q=s:=⟨_,rfl⟩
              obtain⟨z,hz⟩:∃ z,T r q=z:=⟨_,rfl⟩
              have k1:=hK.mat.cell hrm
              have k2:=hK.mat.val hrm hqi
              rw[if_neg (fun h=>by omega),if_neg (fun h=>by omega),hz] at k2
              have k3:=hK.mat.vfree (i:=q) hrm
              have k4:=hK.mat.cell htm1
              have k5:=hK.mat.val htm1 hqi
              rw[if_neg (fun h=>h.2 rfl),if_neg (fun h=>hrt h.1.symm),hs] at k5
              have hTx:Tbl wr B (some at0):=HT.out.below (hb.mono HBB.out)
              obtain⟨ad2,Ar,cr,e,_,e1,_,e2⟩:=hTx.get f s
              injection e with e
              subst e
              obtain⟨t1a,t1b⟩:=HU8.out f
              obtain⟨t2a,t2b⟩:=HU8.out s
              have hxo:=bxE z (f*s)
              have hset:=(hK.setv hrm q (z+f*s)).congr (M':=fun r' q'=>if r'<r/\r'≠t then T r' q'+T r' c*T t q' else if r'=r/\q'<q+1 then T r q'+f*T t q' else T r' q') (fun r' q' _ _=>by
               by_cases h1:r'=r/\q'=q
               ·rw[if_pos h1,if_neg (fun h=>by omega),if_pos ⟨h1.1,by omega⟩,h1.2,hs,hz]
               ·rw[if_neg h1]
                by_cases h2:r'<r/\r'≠t
                ·rw[if_pos h2,if_pos h2]
                ·rw[if_neg h2,if_neg h2]
                 by_cases h3:r'=r/\q'<q
                 ·rw[if_pos h3,if_pos ⟨h3.1,by omega⟩]
                 ·rw[if_neg h3,if_neg (fun h4=>by omega)])
              have hlow:=hK.mat.low hrm
              have HSET:=Hd hset.drew
              have HBX2:=Hd (hb.setCell (p:=⟨g2 r,q,none⟩) hlow (.int .u8 ((unE (z+f*s)).toNat:Int))).drew
              clear hK hb hset hTx hs hz
              go_upto_region 26 with (fail)
              go_region
              go_wp2
              go_roundw
              case rel=>exact⟨q+1,by go_num,by omega,HSET.out,HBX2.out⟩
              case measure=>simp[intOf];omega
             ·obtain rfl:q=i:=by omega
              have HKY:=Hd (hK.congr (M':=fun r' q'=>if r'<r+1/\r'≠t then T r' q'+T r' c*T t q' else T r' q') (fun r' q' _ hq'=>by
               by_cases h2:r'<r/\r'≠t
               ·rw[if_pos h2,if_pos ⟨by omega,h2.2⟩]
               ·rw[if_neg h2]
                by_cases h3:r'=r
                ·subst h3
                 rw[if_pos ⟨rfl,hq'⟩,if_pos ⟨by omega,hrt⟩,HF.out]
                ·rw[if_neg (fun h4=>h3 h4.1),if_neg (fun h4=>h2 ⟨by omega,h4.2⟩)]))
              have HBY:=Hd hb
              clear hK hb
              go_wp2
              go_roundw
              case rel=>exact⟨r+1,by go_num,by omega,HKY.out,HBY.out⟩
              case measure=>simp[intOf];omega
         ·obtain rfl:r=m:=by omega
          have hKE:=hK.congr (M':=elimM t c T) (fun r' q hr' _=>by
           unfold elimM
           by_cases h:r'=t
           ·rw[if_neg (fun h2=>h2.2 h),if_pos h]
           ·rw[if_pos ⟨hr',h⟩,if_neg h])
          have k1:=ow_cell hKE.pl hcu (fromV_get hcu)
          have k2:=ow_free (i:=c) hKE.pl
          have hpb:=(ow_lt hKE.pl).1
          have hset:=hKE.setp c (t+1)
          have hcast:((t+1:Nat):Int)=(t:Int)+1:=by omega
          have hb2:=hb.setCell (p:=⟨pb,c,none⟩) hpb (.int .i64 ((t:Int)+1))
          rw[hcast] at hset
          have HSET:=Hd hset
          have HBX:=Hd hb2
          clear hK hb hKE hset hb2 hcast
          go_wp2
          go_roundw
          case rel=>exact⟨c+1,t+1,_,g2,_,by go_num,by go_num,by omega,HPT.out,HSET.out,HBX.out⟩
          case measure=>simp[intOf];omega
    ·obtain rfl:p=m:=by omega
     have hpb:((p:Int)==(p:Int))=true:=by simp
     have HI2:=Hd (HI.out.skip (fun r h1 h2=>hz r h1 h2))
     clear hz
     go_wp2
     go_roundw
     case rel=>exact⟨c+1,t,place,g,M,rfl,by go_num,by omega,HI2.out,HK.out,HB.out⟩
     case measure=>simp[intOf];omega
  ·have hend:c=u\/t=m:=by omega
   have hu8:=HU8.out
   have HI:=Hd hI
   have HEND:=Hd hend
   obtain⟨wo,rfl⟩:∃ wo,wo=wr:=⟨_,rfl⟩
   have HK:=Hd hK
   have HB:=Hd hb
   have hwb:base<=wo.heap.size:=by have h:=(ow_lt hK.pl);omega
   have hsz0:∀ i,i<u->(place i:Int)<=255:=fun i _=>by
    by_cases h:place i=0
    ·omega
    ·have:=(hI.one i h).2.1;omega
   have HSZ:=Hd hsz0
   have hmk2:=run_makeV wo 79 Dr.tU8 (.int .u8 0) 1 Tryz.underlying79 Dr.infoU8 rfl (by decide) u (by omega)
   obtain⟨Z2,hZ2⟩:∃ Z,(fromV u fun _=>Value.int .u8 0)=Z:=⟨_,rfl⟩
   rw[hZ2] at hmk2
   have hZc:Z2=cE (fromN u fun _=>0):=by
    rw[<-hZ2]
    apply List.ext_getElem?
    intro j
    by_cases hj:j<u
    ·rw[fromV_get hj,List.getElem?_map,fromN_get hj];rfl
    ·rw[List.getElem?_eq_none (by rw[fromV_len];omega),List.getElem?_eq_none (by rw[List.length_map,length_fromN];omega)]
   have hZl:Z2.length=u:=by rw[<-hZ2];simp[fromV]
   have HMK2:=Hd hmk2
   have HZC:=Hd hZc
   have HZL:=Hd hZl
   clear hI hend hK hb hsz0 hmk2 hZ2 hZc hZl hu8
   by_cases hcu:c<u
   ·have hcu2:(c:Int)<(u:Int):=by omega
    have htm2:¬ (t:Int)<(m:Int):=by omega
    go_wp2
    go_loopw [17] (fun ev' wr=>∃ c0:Nat,ev' = .int .i64 (c0:Int)/\c0<=u/\wr=wo/\∀ i,i<c0->place i≠0) (fun ev' _=>u - (intOf ev').toNat)
    case atStart=>exact⟨0,rfl,Nat.zero_le _,rfl,fun i hi=>by omega⟩
    case round=>
     obtain⟨c0,rfl,hc0,rfl,hpl⟩:=hrel
     by_cases hc0u:c0<u
     ·have hc0u2:(c0:Int)<(u:Int):=by omega
      have hc00:(0:Int)<=(c0:Int):=by omega
      have k1:=ow_cell HK.out.pl hc0u (fromV_get hc0u)
      by_cases hp0:place c0=0
      ·have hp0i:(place c0:Int)=0:=by omega
       have hp0b:((place c0:Int) != 0)=false:=by simp[hp0]
       rw[hp0i] at k1
       have hsol:=HI.out.free HEND.out hc0u hp0 hc
       obtain⟨xb,hxb⟩:∃ xb,wr.heap.size=xb:=⟨_,rfl⟩
       have hmk2:=HMK2.out
       obtain⟨w1,hw1⟩:∃ w1,wr.alloc (.cells Z2.toArray Dr.tU8)=w1:=⟨_,rfl⟩
       have hrow0:w1.ownsRow base Dr.tU8 1 (slE xb u) u (cE (fromN u fun _=>0)):=by
        rw[<-HZC.out,<-hw1,<-hxb]
        exact Dr.own_new wr hwb Dr.tU8 1 u Z2 (by rw[HZL.out];omega) (by unfold maxLen;omega)
       have k2:=ow_cell hrow0 hc0u (cE_get (fromN_get hc0u))
       have k3:=ow_free (i:=c0) hrow0
       have hrow1:=ow_store (i:=c0) hrow0 (.int .u8 ((unE (1:E)).toNat:Int))
       rw[cE_set] at hrow1
       have hone:((unE (1:E)).toNat:Int)=1:=rfl
       rw[hone] at hrow1
       have hxne:∀ (b:Nat) (e:TypeId) (v:Value) (n:Nat) (xs:List Value),wr.ownsRow base e 1 v n xs->v.ownBlock=some b->b≠xb:=fun b e v n xs h hb'=>by
        obtain⟨cur,h1⟩:=Dr.own_lt h hb'
        have:=(Array.getElem?_eq_some_iff.1 h1).1
        omega
       obtain⟨w2,hw2⟩:∃ w2,w1.setCell ⟨xb,c0,none⟩ (.int .u8 1)=w2:=⟨_,rfl⟩
       have hK2:KerM w2 base rb pb m cM u g M place:=by
        have h1:KerM w1 base rb pb m cM u g M place:=by rw[<-hw1];exact⟨HK.out.mat.below ((Below.refl _ wr).alloc (Nat.le_refl _) _),Dr.own_alloc HK.out.pl _⟩
        rw[<-hw2]
        exact⟨h1.mat.other (fun e=>hxne rb _ _ _ _ HK.out.mat.out rfl e.symm) (fun r hr=>hxne _ _ _ _ _ (HK.out.mat.rows r hr) rfl),ow_other h1.pl (hxne _ _ _ _ _ HK.out.pl rfl) _⟩
       rw[hw2] at hrow1
       have hb2:Below base w w2:=by rw[<-hw2,<-hw1];exact (HB.out.alloc hwb _).setCell (p:=⟨xb,c0,none⟩) (by show base<=xb;omega) _
       have HSOL:=Hd hsol
       have HROW:=Hd (show w2.ownsRow base Dr.tU8 1 (slE xb u) u (cE (fromN u fun i=>if i<0 then freeX place M c0 i else if i=c0 then 1 else 0)) by
        have e:fromN u (fun i=>if i<0 then freeX place M c0 i else if i=c0 then 1 else 0)=fromN u fun j=>if j=c0 then 1 else 0:=fromN_congr fun i _=>by rw[if_neg (by omega)]
        rw[e];exact hrow1)
       have HK2:=Hd hK2
       have HB2:=Hd hb2
       have HPZ:=Hd hp0
       have hxbb:base<=xb:=by omega
       have HXNE:=Hd hxne
       have HXB:=Hd hxb
       clear hsol hrow0 hrow1 hK2 hb2 hp0 hxne
       go_wp2
       clear hmk2 hw1 hw2 k1 k2 k3 hxb hp0b hp0i
       go_loopw [19] (fun iv' wr=>∃ i:Nat,iv' = .int .i64 (i:Int)/\i<=u/\wr.ownsRow base Dr.tU8 1 (slE xb u) u (cE (fromN u fun j=>if j<i then freeX place M c0 j else if j=c0 then 1 else 0))/\KerM wr base rb pb m cM u g M place/\Below base w wr) (fun iv' _=>u - (intOf iv').toNat)
       case atStart=>exact⟨0,rfl,Nat.zero_le _,HROW.out,HK2.out,HB2.out⟩
       case round=>
        obtain⟨i,rfl,hi,hrow,hK,hb⟩:=hrel
        by_cases hiu:i<u
        ·have hiu2:(i:Int)<(u:Int):=by omega
         have hi00:(0:Int)<=(i:Int):=by omega
         have k1:=ow_cell hK.pl hiu (fromV_get hiu)
         have hfree:freeX place M c0 i=if place i≠0 then M (place i - 1) c0 else if i=c0 then 1 else 0:=rfl
         by_cases hpi:place i=0
         ·have hpii:(place i:Int)=0:=by omega
          rw[hpii] at k1
          rw[if_neg (fun h=>h hpi)] at hfree
          have HROW2:=Hd (show wr.ownsRow base Dr.tU8 1 (slE xb u) u (cE (fromN u fun j=>if j<i+1 then freeX place M c0 j else if j=c0 then 1 else 0)) by
           have e:fromN u (fun j=>if j<i+1 then freeX place M c0 j else if j=c0 then 1 else 0)=fromN u (fun j=>if j<i then freeX place M c0 j else if j=c0 then 1 else 0):=fromN_congr fun j _=>by
            by_cases h:j=i
            ·subst h;rw[if_pos (Nat.lt_succ_self _),if_neg (Nat.lt_irrefl _),hfree]
            ·by_cases h2:j<i
             ·rw[if_pos h2,if_pos (by omega)]
             ·rw[if_neg h2,if_neg (by omega)]
           rw[e];exact hrow)
          have HKX:=Hd hK
          have HBX:=Hd hb
          clear hrow hK hb hfree hpi hpii
          go_wp2
          go_roundw
          case rel=>exact⟨i+1,by go_num,by omega,HROW2.out,HKX.out,HBX.out⟩
          case measure=>simp[intOf];omega
         ·obtain⟨pi,hpi2⟩:∃ pi,place i=pi:=⟨_,rfl⟩
          obtain⟨_,h2,_,_⟩:=HI.out.one i hpi
          have hsz:=HSZ.out i hiu
          rw[hpi2] at k1 hfree hpi h2 hsz
          rw[if_pos hpi] at hfree
          obtain⟨r,hr⟩:∃ r,pi - 1=r:=⟨_,rfl⟩
          rw[hr] at hfree
          have hrm:r<m:=by omega
          have hpii:¬ (pi:Int)=0:=by omega
          have hpib:((pi:Int) != 0)=true:=by simpa using hpii
          have hpir:(pi:Int) - 1=(r:Int):=by omega
          have hr00:(0:Int)<=(r:Int):=by omega
          have hrm2:(r:Int)<(m:Int):=by omega
          obtain⟨y,hy⟩:∃ y,M r c0=y:=⟨_,rfl⟩
          rw[hy] at hfree
          have k2:=hK.mat.cell hrm
          have k3:=hK.mat.val hrm hc0u
          rw[hy] at k3
          have k4:=ow_cell hrow hiu (cE_get (fromN_get hiu))
          have k5:=ow_free (i:=i) hrow
          have hnew:=ow_store (i:=i) hrow (.int .u8 ((unE y).toNat:Int))
          rw[cE_set] at hnew
          have hfun:(fun j=>if j=i then y else if j<i then freeX place M c0 j else if j=c0 then 1 else 0)=fun j=>if j<i+1 then freeX place M c0 j else if j=c0 then 1 else 0:=by
           funext j
           by_cases h:j=i
           ·subst h;rw[if_pos rfl,if_pos (by omega),hfree]
           ·rw[if_neg h]
            by_cases h3:j<i
            ·rw[if_pos h3,if_pos (by omega)]
            ·rw[if_neg h3,if_neg (show ¬ j<i+1 by omega)]
          rw[hfun] at hnew
          have hKn:KerM (wr.setCell ⟨xb,i,none⟩ (.int .u8 ((unE y).toNat:Int))) base rb pb m cM u g M place:=⟨hK.mat.other (fun e=>HXNE.out rb _ _ _ _ HK.out.mat.out rfl e.symm) (fun r hr=>HXNE.out _ _ _ _ _ (HK.out.mat.rows r hr) rfl),ow_other hK.pl (HXNE.out _ _ _ _ _ HK.out.pl rfl) _⟩
          have HROW2:=Hd hnew
          have HKX:=Hd hKn
          have HBX:=Hd (hb.setCell (p:=⟨xb,i,none⟩) hxbb (.int .u8 ((unE y).toNat:Int)))
          clear hrow hK hb hfree hpi hnew hKn hfun hy hr hpi2
          go_wp2
          go_roundw
          case rel=>exact⟨i+1,by go_num,by omega,HROW2.out,HKX.out,HBX.out⟩
          case measure=>simp[intOf];omega
        ·obtain rfl:i=u:=by omega
         have hfin:fromN i (fun j=>if j<i then freeX place M c0 j else if j=c0 then 1 else 0)=fromN i (freeX place M c0):=fromN_congr fun j hj=>by rw[if_pos hj]
         rw[hfin] at hrow
         have hco:∀ j,j<i->co (fromN i (freeX place M c0)) j=freeX place M c0 j:=fun j hj=>by rw[co_fromN,if_pos hj]
         have hs:Sol m i M0 (co (fromN i (freeX place M c0))):=fun r hr=>by
          rw[<-HSOL.out r hr]
          exact sumN_congr fun j hj=>by rw[hco j hj]
         have h1:co (fromN i (freeX place M c0)) c0≠0:=by
          rw[hco c0 hc0u]
          unfold freeX
          rw[if_neg (fun h=>h HPZ.out),if_pos rfl]
          exact Fld.one_ne
         have HROWX:=Hd hrow
         have HSX:=Hd hs
         have H1X:=Hd h1
         have HBX:=Hd hb
         clear hrow hK hb hfin hco hs h1
         go_wp2
         go_ret
         exact⟨.inr ⟨xb,_,rfl,HROWX.out,HSX.out,c0,H1X.out⟩,HBX.out⟩
      ·have hsz:=HSZ.out c0 hc0u
       obtain⟨pi,hpi2⟩:∃ pi,place c0=pi:=⟨_,rfl⟩
       rw[hpi2] at k1 hsz
       have hpii:¬ (pi:Int)=0:=by omega
       have hpib:((pi:Int) != 0)=true:=by simpa using hpii
       have HPL:=Hd (show ∀ i,i<c0+1->place i≠0 from fun i hi=>by
        by_cases h:i=c0
        ·subst h;exact hp0
        ·exact hpl i (by omega))
       clear hpl hp0 hpi2
       go_wp2
       go_roundw
       case rel=>exact⟨c0+1,by go_num,by omega,trivial,HPL.out⟩
       case measure=>simp[intOf];omega
     ·obtain rfl:c0=u:=by omega
      have HON:=Hd (show ∀ y:Nat->E,Sol m c0 M0 y->∀ i,i<c0->y i=0 from fun y hy=>HI.out.only hpl hy)
      clear hpl
      go_wp2
      go_ret
      exact⟨.inl ⟨rfl,HON.out⟩,HB.out⟩
   ·have hcu2:¬ (c:Int)<(u:Int):=by omega
    go_wp2
    go_loopw [17] (fun ev' wr=>∃ c0:Nat,ev' = .int .i64 (c0:Int)/\c0<=u/\wr=wo/\∀ i,i<c0->place i≠0) (fun ev' _=>u - (intOf ev').toNat)
    case atStart=>exact⟨0,rfl,Nat.zero_le _,rfl,fun i hi=>by omega⟩
    case round=>
     obtain⟨c0,rfl,hc0,rfl,hpl⟩:=hrel
     by_cases hc0u:c0<u
     ·have hc0u2:(c0:Int)<(u:Int):=by omega
      have hc00:(0:Int)<=(c0:Int):=by omega
      have k1:=ow_cell HK.out.pl hc0u (fromV_get hc0u)
      by_cases hp0:place c0=0
      ·have hp0i:(place c0:Int)=0:=by omega
       have hp0b:((place c0:Int) != 0)=false:=by simp[hp0]
       rw[hp0i] at k1
       have hsol:=HI.out.free HEND.out hc0u hp0 hc
       obtain⟨xb,hxb⟩:∃ xb,wr.heap.size=xb:=⟨_,rfl⟩
       have hmk2:=HMK2.out
       obtain⟨w1,hw1⟩:∃ w1,wr.alloc (.cells Z2.toArray Dr.tU8)=w1:=⟨_,rfl⟩
       have hrow0:w1.ownsRow base Dr.tU8 1 (slE xb u) u (cE (fromN u fun _=>0)):=by
        rw[<-HZC.out,<-hw1,<-hxb]
        exact Dr.own_new wr hwb Dr.tU8 1 u Z2 (by rw[HZL.out];omega) (by unfold maxLen;omega)
       have k2:=ow_cell hrow0 hc0u (cE_get (fromN_get hc0u))
       have k3:=ow_free (i:=c0) hrow0
       have hrow1:=ow_store (i:=c0) hrow0 (.int .u8 ((unE (1:E)).toNat:Int))
       rw[cE_set] at hrow1
       have hone:((unE (1:E)).toNat:Int)=1:=rfl
       rw[hone] at hrow1
       have hxne:∀ (b:Nat) (e:TypeId) (v:Value) (n:Nat) (xs:List Value),wr.ownsRow base e 1 v n xs->v.ownBlock=some b->b≠xb:=fun b e v n xs h hb'=>by
        obtain⟨cur,h1⟩:=Dr.own_lt h hb'
        have:=(Array.getElem?_eq_some_iff.1 h1).1
        omega
       obtain⟨w2,hw2⟩:∃ w2,w1.setCell ⟨xb,c0,none⟩ (.int .u8 1)=w2:=⟨_,rfl⟩
       have hK2:KerM w2 base rb pb m cM u g M place:=by
        have h1:KerM w1 base rb pb m cM u g M place:=by rw[<-hw1];exact⟨HK.out.mat.below ((Below.refl _ wr).alloc (Nat.le_refl _) _),Dr.own_alloc HK.out.pl _⟩
        rw[<-hw2]
        exact⟨h1.mat.other (fun e=>hxne rb _ _ _ _ HK.out.mat.out rfl e.symm) (fun r hr=>hxne _ _ _ _ _ (HK.out.mat.rows r hr) rfl),ow_other h1.pl (hxne _ _ _ _ _ HK.out.pl rfl) _⟩
       rw[hw2] at hrow1
       have hb2:Below base w w2:=by rw[<-hw2,<-hw1];exact (HB.out.alloc hwb _).setCell (p:=⟨xb,c0,none⟩) (by show base<=xb;omega) _
       have HSOL:=Hd hsol
       have HROW:=Hd (show w2.ownsRow base Dr.tU8 1 (slE xb u) u (cE (fromN u fun i=>if i<0 then freeX place M c0 i else if i=c0 then 1 else 0)) by
        have e:fromN u (fun i=>if i<0 then freeX place M c0 i else if i=c0 then 1 else 0)=fromN u fun j=>if j=c0 then 1 else 0:=fromN_congr fun i _=>by rw[if_neg (by omega)]
        rw[e];exact hrow1)
       have HK2:=Hd hK2
       have HB2:=Hd hb2
       have HPZ:=Hd hp0
       have hxbb:base<=xb:=by omega
       have HXNE:=Hd hxne
       have HXB:=Hd hxb
       clear hsol hrow0 hrow1 hK2 hb2 hp0 hxne
       go_wp2
       clear hmk2 hw1 hw2 k1 k2 k3 hxb hp0b hp0i
       go_loopw [19] (fun iv' wr=>∃ i:Nat,iv' = .int .i64 (i:Int)/\i<=u/\wr.ownsRow base Dr.tU8 1 (slE xb u) u (cE (fromN u fun j=>if j<i then freeX place M c0 j else if j=c0 then 1 else 0))/\KerM wr base rb pb m cM u g M place/\Below base w wr) (fun iv' _=>u - (intOf iv').toNat)
       case atStart=>exact⟨0,rfl,Nat.zero_le _,HROW.out,HK2.out,HB2.out⟩
       case round=>
        obtain⟨i,rfl,hi,hrow,hK,hb⟩:=hrel
        by_cases hiu:i<u
        ·have hiu2:(i:Int)<(u:Int):=by omega
         have hi00:(0:Int)<=(i:Int):=by omega
         have k1:=ow_cell hK.pl hiu (fromV_get hiu)
         have hfree:freeX place M c0 i=if place i≠0 then M (place i - 1) c0 else if i=c0 then 1 else 0:=rfl
         by_cases hpi:place i=0
         ·have hpii:(place i:Int)=0:=by omega
          rw[hpii] at k1
          rw[if_neg (fun h=>h hpi)] at hfree
          have HROW2:=Hd (show wr.ownsRow base Dr.tU8 1 (slE xb u) u (cE (fromN u fun j=>if j<i+1 then freeX place M c0 j else if j=c0 then 1 else 0)) by
           have e:fromN u (fun j=>if j<i+1 then freeX place M c0 j else if j=c0 then 1 else 0)=fromN u (fun j=>if j<i then freeX place M c0 j else if j=c0 then 1 else 0):=fromN_congr fun j _=>by
            by_cases h:j=i
            ·subst h;rw[if_pos (Nat.lt_succ_self _),if_neg (Nat.lt_irrefl _),hfree]
            ·by_cases h2:j<i
             ·rw[if_pos h2,if_pos (by omega)]
             ·rw[if_neg h2,if_neg (by omega)]
           rw[e];exact hrow)
          have HKX:=Hd hK
          have HBX:=Hd hb
          clear hrow hK hb hfree hpi hpii
          go_wp2
          go_roundw
          case rel=>exact⟨i+1,by go_num,by omega,HROW2.out,HKX.out,HBX.out⟩
          case measure=>simp[intOf];omega
         ·obtain⟨pi,hpi2⟩:∃ pi,place i=pi:=⟨_,rfl⟩
          obtain⟨_,h2,_,_⟩:=HI.out.one i hpi
          have hsz:=HSZ.out i hiu
          rw[hpi2] at k1 hfree hpi h2 hsz
          rw[if_pos hpi] at hfree
          obtain⟨r,hr⟩:∃ r,pi - 1=r:=⟨_,rfl⟩
          rw[hr] at hfree
          have hrm:r<m:=by omega
          have hpii:¬ (pi:Int)=0:=by omega
          have hpib:((pi:Int) != 0)=true:=by simpa using hpii
          have hpir:(pi:Int) - 1=(r:Int):=by omega
          have hr00:(0:Int)<=(r:Int):=by omega
          have hrm2:(r:Int)<(m:Int):=by omega
          obtain⟨y,hy⟩:∃ y,M r c0=y:=⟨_,rfl⟩
          rw[hy] at hfree
          have k2:=hK.mat.cell hrm
          have k3:=hK.mat.val hrm hc0u
          rw[hy] at k3
          have k4:=ow_cell hrow hiu (cE_get (fromN_get hiu))
          have k5:=ow_free (i:=i) hrow
          have hnew:=ow_store (i:=i) hrow (.int .u8 ((unE y).toNat:Int))
          rw[cE_set] at hnew
          have hfun:(fun j=>if j=i then y else if j<i then freeX place M c0 j else if j=c0 then 1 else 0)=fun j=>if j<i+1 then freeX place M c0 j else if j=c0 then 1 else 0:=by
           funext j
           by_cases h:j=i
           ·subst h;rw[if_pos rfl,if_pos (by omega),hfree]
           ·rw[if_neg h]
            by_cases h3:j<i
            ·rw[if_pos h3,if_pos (by omega)]
            ·rw[if_neg h3,if_neg (show ¬ j<i+1 by omega)]
          rw[hfun] at hnew
          have hKn:KerM (wr.setCell ⟨xb,i,none⟩ (.int .u8 ((unE y).toNat:Int))) base rb pb m cM u g M place:=⟨hK.mat.other (fun e=>HXNE.out rb _ _ _ _ HK.out.mat.out rfl e.symm) (fun r hr=>HXNE.out _ _ _ _ _ (HK.out.mat.rows r hr) rfl),ow_other hK.pl (HXNE.out _ _ _ _ _ HK.out.pl rfl) _⟩
          have HROW2:=Hd hnew
          have HKX:=Hd hKn
          have HBX:=Hd (hb.setCell (p:=⟨xb,i,none⟩) hxbb (.int .u8 ((unE y).toNat:Int)))
          clear hrow hK hb hfree hpi hnew hKn hfun hy hr hpi2
          go_wp2
          go_roundw
          case rel=>exact⟨i+1,by go_num,by omega,HROW2.out,HKX.out,HBX.out⟩
          case measure=>simp[intOf];omega
        ·obtain rfl:i=u:=by omega
         have hfin:fromN i (fun j=>if j<i then freeX place M c0 j else if j=c0 then 1 else 0)=fromN i (freeX place M c0):=fromN_congr fun j hj=>by rw[if_pos hj]
         rw[hfin] at hrow
         have hco:∀ j,j<i->co (fromN i (freeX place M c0)) j=freeX place M c0 j:=fun j hj=>by rw[co_fromN,if_pos hj]
         have hs:Sol m i M0 (co (fromN i (freeX place M c0))):=fun r hr=>by
          rw[<-HSOL.out r hr]
          exact sumN_congr fun j hj=>by rw[hco j hj]
         have h1:co (fromN i (freeX place M c0)) c0≠0:=by
          rw[hco c0 hc0u]
          unfold freeX
          rw[if_neg (fun h=>h HPZ.out),if_pos rfl]
          exact Fld.one_ne
         have HROWX:=Hd hrow
         have HSX:=Hd hs
         have H1X:=Hd h1
         have HBX:=Hd hb
         clear hrow hK hb hfin hco hs h1
         go_wp2
         go_ret
         exact⟨.inr ⟨xb,_,rfl,HROWX.out,HSX.out,c0,H1X.out⟩,HBX.out⟩
      ·have hsz:=HSZ.out c0 hc0u
       obtain⟨pi,hpi2⟩:∃ pi,place c0=pi:=⟨_,rfl⟩
       rw[hpi2] at k1 hsz
       have hpii:¬ (pi:Int)=0:=by omega
       have hpib:((pi:Int) != 0)=true:=by simpa using hpii
       have HPL:=Hd (show ∀ i,i<c0+1->place i≠0 from fun i hi=>by
        by_cases h:i=c0
        ·subst h;exact hp0
        ·exact hpl i (by omega))
       clear hpl hp0 hpi2
       go_wp2
       go_roundw
       case rel=>exact⟨c0+1,by go_num,by omega,trivial,HPL.out⟩
       case measure=>simp[intOf];omega
     ·obtain rfl:c0=u:=by omega
      have HON:=Hd (show ∀ y:Nat->E,Sol m c0 M0 y->∀ i,i<c0->y i=0 from fun y hy=>HI.out.only hpl hy)
      clear hpl
      go_wp2
      go_ret
      exact⟨.inl ⟨rfl,HON.out⟩,HB.out⟩
end Go.Proofs.YtmgljaecmchgaaaGreat.Gf
namespace Go.Proofs.YtmgljaecmchgaaaGreat.Gf
open Go.RowKit Go.Proofs
theorem atT_v {w:World} {B B' n c ct:Nat} {At A:Option Addr} {p:List E} (hT:Tbl w B At) (hp:Rd w B' 1 A n (cE p)) (hn:n<=65536) (x:E) {px:E} (h:ev p x=px):Calls Tryz.prog 74 #[.slice At 256 ct,.slice A n c,.int .u8 ((unE x).toNat:Int)] w fun e w'=>e = .returned (.int .u8 ((unE px).toNat:Int))/\w=w':=by
 subst h;exact atT_any hT hp hn x
theorem neE {a b:E} (h:a≠b):(((unE a).toNat:Int)==((unE b).toNat:Int))=false/\¬ ((unE a).toNat:Int)=((unE b).toNat:Int)/\(((unE a).toNat:Int) != ((unE b).toNat:Int))=true:=by
 have h1:¬ ((unE a).toNat:Int)=((unE b).toNat:Int):=fun e=>h (UInt8.toNat_inj.1 (show (unE a).toNat=(unE b).toNat by omega))
 exact⟨by simpa using h1,h1,by simpa using h1⟩
theorem slice_front8 (w:World) {A:Option Addr} {n c q:Nat} (hq:q<=c):(Instr.slice 79 (.slice A n c) none (some (.int .i64 (q:Int))) none).run Tryz.prog w = .ok (.slice A q c) w:=Dr.slice_front w hq
theorem co_take {p:List E} {k i:Nat} (h:i<k):co (p.take k) i=co p i:=by
 rcases Nat.lt_or_ge i p.length with h1 | h1
 ·rw[co_get (by rw[List.length_take];omega),co_get h1,List.getElem_take]
 ·rw[co_ge (by rw[List.length_take];omega),co_ge h1]
structure StrOk (w w':World) (P V:List E) (k n:Nat) (x:Ending):Prop where
 out:x = .returned (.tuple #[.slice none 0 0,.bool false])\/(∃ A c p,x = .returned (.tuple #[.slice A k c,.bool true])/\PolV w' (.slice A k c) p/\p.length=k/\∀ j,j<n->ev p (co P j)=co V j)
 back:Below w.heap.size w w'
set_option maxRecDepth 100000 in
set_option maxHeartbeats 8000000 in
theorem strT_any {w:World} {B n k c1 c2 ct:Nat} {At A1 A2:Option Addr} {P V:List E} (hT:Tbl w B At) (hP:Rd w B 1 A1 n (cE P)) (hV:Rd w B 1 A2 n (cE V)) (hB:B<=w.heap.size) (hn:n<=255) (hk:k<=n) (h1:n<=c1) (h2:n<=c2) (hnd:P.Nodup) :
  Calls Tryz.prog 89 #[.slice At 256 ct,.int .i64 (k:Int),.slice A1 n c1,.slice A2 n c2] w fun x w'=>StrOk w w' P V k n x:=by
 have hpl:=rd_len hP
 have hs1:=fun W=>slice_front8 W (A:=A1) (n:=n) (c:=c1) (q:=k) (by omega)
 have hs2:=fun W=>slice_front8 W (A:=A2) (n:=n) (c:=c2) (q:=k) (by omega)
 have HT:=Hd hT
 have HP:=Hd hP
 have HV:=Hd hV
 have HPK:=Hd (rd_take hP hk)
 have HVK:=Hd (rd_take hV hk)
 have HNK:=Hd (show (P.take k).Nodup from hnd.sublist (List.take_sublist k P))
 clear hT hP hV hnd
 go_enter Tryz.func89,Tryz.ntmps89
 go_upto_region 1 with (fail)
 refine wp_region_any (by kernel_rfl) ?_
 change wpAny _ _ _ _ _ _ _ (World.drew _)
 refine wpAny_of_P (S:=fun _=>True) (late:=[8]) _ _ _ _ ?_
 refine tT 0 trivial ?_
 try go_frame
 refine tT 1 trivial ?_
 try go_frame
 refine tT 2 trivial ?_
 try go_frame
 refine tT 3 trivial ?_
 try go_frame
 refine tT 4 trivial ?_
 try go_frame
 refine tT 5 trivial ?_
 try go_frame
 refine tT 6 trivial ?_
 try go_frame
 refine fP 7 fun K hK=>?_
 go_simp
 refine (thrT_any (w:=World.drew w) (HT.out.below (Below.refl B w).drew) HPK.out HVK.out hB (by omega) HNK.out).mono ?_;intro e w1 h1x;obtain⟨pv,p,rfl,hpv,hpl2,hat⟩:=h1x.out;have HB1:=Hd (show Below w.heap.size w w1 from below_undrew h1x.back);obtain⟨Ap,cp,rfl,rp,qp,zp⟩:=hpv.form;rw[hpl2] at rp qp hpv ⊢;have HPV:=Hd hpv;have HRP:=Hd rp;have HAT:=Hd hat;have HLEN:=Hd hpl2;clear h1x hpv rp hat hpl2
 refine hK _ _ (trivial) ?_;clear hK K
 try go_frame
 refine lP 8 fun K hK=>?_
 go_simp
 refine hK _ _ ?_;clear hK K
 try go_frame
 refine wpAny_done (by kernel_rfl) ?_ _
 clear hs1 hs2
 go_wp2
 go_loopw [11] (fun iv wr=>∃ i:Nat,iv = .int .i64 (i:Int)/\k<=i/\i<=n/\(∀ j,j<i->ev p (co P j)=co V j)/\Below w1.heap.size w1 wr) (fun iv _=>n - (intOf iv).toNat)
 case atStart=>exact⟨k,rfl,Nat.le_refl _,hk,fun j hj=>by have h:=HAT.out j hj;rwa [co_take hj,co_take hj] at h,Below.refl _ _⟩
 case round=>
  obtain⟨i,rfl,hki,hi,hat,hb⟩:=hrel
  by_cases hin:i<n
  ·have hin2:(i:Int)<(n:Int):=by omega
   have hi00:(0:Int)<=(i:Int):=by omega
   have hbw:Below w.heap.size w wr:=bch HB1.out hb
   obtain⟨a1,rfl,ha1,e1⟩:=rd_at (HP.out.below (hbw.mono hB)) hin
   obtain⟨a2,rfl,ha2,e2⟩:=rd_at (HV.out.below (hbw.mono hB)) hin
   obtain⟨x,hx⟩:∃ x,co P i=x:=⟨_,rfl⟩
   obtain⟨y,hy⟩:∃ y,co V i=y:=⟨_,rfl⟩
   rw[hx] at e1
   rw[hy] at e2
   obtain⟨px,hpx⟩:∃ px,ev p x=px:=⟨_,rfl⟩
   have HTX:=Hd (HT.out.below ((hbw.mono hB).trans (Below.refl B wr).drew))
   have HPX:=Hd (show Rd (World.drew wr) w1.heap.size 1 Ap k (cE p) from HRP.out.below hb.drew)
   have HS0:=Hd (And.intro e1 e2)
   have HEX:=Hd hpx
   by_cases hxy:px=y
   ·have HAT2:=Hd (show ∀ j,j<i+1->ev p (co P j)=co V j from fun j hj=>by
     by_cases h:j=i
     ·subst h;rw[hx,hpx,hxy,hy]
     ·exact hat j (by omega))
    have HBX:=Hd hb.drew
    subst hxy
    clear hat hb hbw hx hy hpx e1 e2
    go_upto_region 5 with (fail)
    refine wp_region_any (by kernel_rfl) ?_
    change wpAny _ _ _ _ _ _ _ (World.drew _)
    refine wpAny_of_P (S:=fun w'=>w'.cell? (a1.add i)=some (.int .u8 ((unE x).toNat:Int))/\w'.cell? (a2.add i)=some (.int .u8 ((unE px).toNat:Int))) (late:=[11]) _ _ _ _ ?_
    refine tT 0 HS0.out ?_
    try go_frame
    refine tT 1 HS0.out ?_
    try go_frame
    refine tT 2 HS0.out ?_
    try go_frame
    refine tT 3 HS0.out ?_
    try go_frame
    refine tT 4 HS0.out ?_
    try go_frame
    refine tP 8 5 rfl HS0.out (fun w hw=>by obtain⟨y1,y2⟩:=hw;go_simp;try with_reducible rfl) ?_
    try go_frame
    refine tT 7 HS0.out ?_
    try go_frame
    refine tT 8 HS0.out ?_
    try go_frame
    refine tT 9 HS0.out ?_
    try go_frame
    refine tP 8 10 rfl HS0.out (fun w hw=>by obtain⟨y1,y2⟩:=hw;go_simp;try with_reducible rfl) ?_
    try go_frame
    refine fP 6 fun K hK=>?_
    go_simp
    refine (atT_v (w:=World.drew wr) HTX.out HPX.out (by omega) x HEX.out).mono ?_;rintro e w5 ⟨rfl,rfl⟩
    refine hK _ _ (HS0.out) ?_;clear hK K
    try go_frame
    refine lP 11 fun K hK=>?_
    go_simp
    refine hK _ _ ?_;clear hK K
    try go_frame
    refine wpAny_done (by kernel_rfl) ?_ _
    go_wp2
    go_roundw
    case rel=>exact⟨i+1,by go_num,by omega,by omega,HAT2.out,HBX.out⟩
    case measure=>simp[intOf];omega
   ·obtain⟨n1,n2,n3⟩:=neE hxy
    have HBX:=Hd (HB1.out.trans (hb.mono HB1.out.size))
    clear hat hb hbw hx hy hpx e1 e2
    go_upto_region 5 with (fail)
    refine wp_region_any (by kernel_rfl) ?_
    change wpAny _ _ _ _ _ _ _ (World.drew _)
    refine wpAny_of_P (S:=fun w'=>w'.cell? (a1.add i)=some (.int .u8 ((unE x).toNat:Int))/\w'.cell? (a2.add i)=some (.int .u8 ((unE y).toNat:Int))) (late:=[11]) _ _ _ _ ?_
    refine tT 0 HS0.out ?_
    try go_frame
    refine tT 1 HS0.out ?_
    try go_frame
    refine tT 2 HS0.out ?_
    try go_frame
    refine tT 3 HS0.out ?_
    try go_frame
    refine tT 4 HS0.out ?_
    try go_frame
    refine tP 8 5 rfl HS0.out (fun w hw=>by obtain⟨y1,y2⟩:=hw;go_simp;try with_reducible rfl) ?_
    try go_frame
    refine tT 7 HS0.out ?_
    try go_frame
    refine tT 8 HS0.out ?_
    try go_frame
    refine tT 9 HS0.out ?_
    try go_frame
    refine tP 8 10 rfl HS0.out (fun w hw=>by obtain⟨y1,y2⟩:=hw;go_simp;try with_reducible rfl) ?_
    try go_frame
    refine fP 6 fun K hK=>?_
    go_simp
    refine (atT_v (w:=World.drew wr) HTX.out HPX.out (by omega) x HEX.out).mono ?_;rintro e w5 ⟨rfl,rfl⟩
    refine hK _ _ (HS0.out) ?_;clear hK K
    try go_frame
    refine lP 11 fun K hK=>?_
    go_simp
    refine hK _ _ ?_;clear hK K
    try go_frame
    refine wpAny_done (by kernel_rfl) ?_ _
    go_wp2
    refine bodyPost_ret (v:=.tuple #[.slice none 0 0,.bool false]) (by simp[results,Tryz.results89,go_sem]) rfl ?_
    exact⟨.inl rfl,below_drewN HBX.out 1⟩
  ·obtain rfl:i=n:=by omega
   have hpv:=HPV.out.below hb
   have HPVX:=Hd hpv
   have HATX:=Hd hat
   have HBX:=Hd (bch HB1.out hb)
   clear hpv hat hb
   go_wp2
   refine bodyPost_ret (v:=.tuple #[.slice Ap k cp,.bool true]) (by simp[results,Tryz.results89,go_sem]) rfl ?_
   exact⟨.inr ⟨_,_,p,rfl,HPVX.out,HLEN.out,HATX.out⟩,HBX.out⟩
end Go.Proofs.YtmgljaecmchgaaaGreat.Gf
