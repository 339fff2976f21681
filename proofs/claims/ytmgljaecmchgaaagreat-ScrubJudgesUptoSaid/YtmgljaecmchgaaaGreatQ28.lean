/- XRb6: merged by tools/merge.py. -/
import Derived.Test.YtmgljaecmchgaaaGreatQ27
set_option linter.unusedVariables false
set_option linter.unusedSimpArgs false
set_option linter.unusedSectionVars false
namespace Go.Proofs.YtmgljaecmchgaaaGreat.Gf
open Go.RowKit Go.Proofs
def rf (y x:E) (e j:Nat):Nat->E:=fun q=>if q<e+1 then (if q<j then y*pw x q else 0) else (if q - (e+1)<j then pw x (q - (e+1)) else 0)
theorem rf_zero (y x:E) (e:Nat):rf y x e 0=fun _=>0:=by
 funext q
 unfold rf
 split<;>rw[if_neg (by omega)]
theorem rf_low {y x:E} {e j:Nat} (h:j<=e):(fun q=>if q=e+1+j then pw x j else if q=j then y*pw x j else rf y x e j q)=rf y x e (j+1):=by
 funext q
 by_cases h1:q=e+1+j
 ·subst h1
  rw[if_pos rfl]
  unfold rf
  rw[if_neg (by omega),if_pos (by omega),Nat.add_sub_cancel_left]
 ·rw[if_neg h1]
  by_cases h2:q=j
  ·subst h2
   rw[if_pos rfl]
   unfold rf
   rw[if_pos (by omega),if_pos (by omega)]
  ·rw[if_neg h2]
   unfold rf
   by_cases h3:q<e+1
   ·rw[if_pos h3,if_pos h3]
    by_cases h4:q<j
    ·rw[if_pos h4,if_pos (by omega)]
    ·rw[if_neg h4,if_neg (by omega)]
   ·rw[if_neg h3,if_neg h3]
    by_cases h4:q - (e+1)<j
    ·rw[if_pos h4,if_pos (by omega)]
    ·rw[if_neg h4,if_neg (by omega)]
theorem rf_high {y x:E} {e j:Nat} (h:¬ j<=e):(fun q=>if q=e+1+j then pw x j else rf y x e j q)=rf y x e (j+1):=by
 funext q
 by_cases h1:q=e+1+j
 ·subst h1
  rw[if_pos rfl]
  unfold rf
  rw[if_neg (by omega),if_pos (by omega),Nat.add_sub_cancel_left]
 ·rw[if_neg h1]
  unfold rf
  by_cases h3:q<e+1
  ·rw[if_pos h3,if_pos h3,if_pos (by omega),if_pos (by omega)]
  ·rw[if_neg h3,if_neg h3]
   by_cases h4:q - (e+1)<j
   ·rw[if_pos h4,if_pos (by omega)]
   ·rw[if_neg h4,if_neg (by omega)]
theorem rf_eqs {y x:E} {e k r:Nat} {L:List (E×E)} (hr:L[r]?=some (x,y)) (hk:1<=k):fromN (e+1+(k+e)) (rf y x e (k+e))=fromN (e+1+(k+e)) (eqs e L r):=fromN_congr fun q hq=>by
 unfold rf eqs
 rw[hr]
 dsimp only
 by_cases h:q<e+1
 ·rw[if_pos h,if_pos h,if_pos (by omega)]
 ·rw[if_neg h,if_neg h,if_pos (by omega)]
structure RowB (W:World) (base i u:Nat) (A:Option Addr) (c:Nat) (g:Nat->Nat) (M:Nat->Nat->E):Prop where
 out:W.ownsRow base tRs 1 (.slice A i c) i (fromV i fun r=>slE (g r) u)
 rows:∀ r,r<i->W.ownsRow base Dr.tU8 1 (slE (g r) u) u (cE (fromN u (M r)))
 inj:∀ r s,r<i->s<i->g r=g s->r=s
theorem slice_fromU (ad:Addr) {n c q:Nat} (hq:q<=n):∃ A',(∀ w,(Instr.slice 79 (.slice (some ad) n c) (some (.int .i64 (q:Int))) none none).run Tryz.prog w = .ok (.slice A' (n - q) (c - q)) w)/\(q<c->A'=some (ad.add q)):=by
 refine⟨if c=q then some ad else some (ad.add q),fun w=>?_,fun h=>by rw[if_neg (by omega)]⟩
 rw[run_slice_l (P:=Tryz.prog) w 79 (some ad) n c (by kernel_rfl) .i64 (q:Int) (by omega) (by omega)]
 have hs:(sizeOf (Tryz.prog.elem 79)).run Tryz.prog w = .ok 1 w:=by kernel_rfl
 rw[hs]
 unfold sliced
 simp[Result.andThen]
theorem rd_dropE {w:World} {B n q:Nat} {ad:Addr} {l:List E} (h:Rd w B 1 (some ad) n (cE l)) (hq:q<n):Rd w B 1 (some (ad.add q)) (n - q) (cE (l.drop q)):=by
 have hl:l.length=n:=by simpa using h.1
 obtain⟨ad',e,hb,hc⟩:=h.2 (by omega)
 injection e with e
 subst e
 refine⟨by simp[hl],fun _=>⟨_,rfl,by rw[add_block];exact hb,fun j u hu=>?_⟩⟩
 rw[addr_two]
 refine hc (q+j) u ?_
 rw[List.getElem?_map,List.getElem?_drop,<-List.getElem?_map] at hu
 exact hu
theorem cE_snoc (l:List E) (x:E):cE (l++[x])=cE l++[.int .u8 ((unE x).toNat:Int)]:=by simp
theorem own_app_ne {w:World} {v1 v2:Value} {g:Nat} (h:∀ b,v1.ownBlock=some b->v2.ownBlock≠some b) (hlt:∀ b,v2.ownBlock=some b->b<w.heap.size) (hor:v1.ownBlock=some g\/g=w.heap.size):v2.ownBlock≠some g:=by
 intro e
 rcases hor with h1 | h1
 ·exact h g h1 e
 ·have:=hlt g e;omega
set_option maxRecDepth 100000 in
set_option maxHeartbeats 40000000 in
theorem nearT_any {w:World} {B n k c2 c3 ct:Nat} {At A2 A3:Option Addr} {W:List E} {L:List Bool} (hT:Tbl w B At) (hW:Rd w B 1 A2 n (cE W)) (hL:Rd w B 1 A3 n (Dr.cBool L)) (hB:B<=w.heap.size) (hn:n<=255) (hk1:1<=k) (hk:k<=(thB L n).length) :
  Calls Tryz.prog 73 #[.slice At 256 ct,.int .i64 (k:Int),.slice A2 n c2,.slice A3 n c3] w fun x w'=>NearOk w w' (((thB L n).length - k)/2) k (prs (thB L n) fun i=>unE (co W i)) x:=by
 obtain⟨i0,hi0,hz0,hz1,hz2⟩:=info_parts Dr.infoU8
 obtain⟨r0,hr0,hrz0,hrz1,hrz2⟩:=info_parts infoRs
 obtain⟨V,hV⟩:∃ V,w.heap.size=V:=⟨_,rfl⟩
 have HT:=Hd hT
 have HW:=Hd hW
 have HL:=Hd hL
 have HV:=Hd hV
 have HK:=Hd hk
 have HU8:=Hd (show ∀ a:E,((unE a).toNat:Int)<256/\(0:Int)<=((unE a).toNat:Int) from fun a=>by have h:=UInt8.toNat_lt (unE a);omega)
 obtain⟨at0,_,_,hat0,_⟩:=hT.get 0 0
 subst hat0
 clear hT hW hL hV hk
 go_enter Tryz.func73,Tryz.ntmps73
 go_wp2
 go_loopw [10,11,12] (fun vx vy iv wr=>∃ i:Nat,iv = .int .i64 (i:Int)/\i<=n/\wr.ownsRow V Dr.tU8 1 vx (thB L i).length (cE ((thB L i).map ptE))/\wr.ownsRow V Dr.tU8 1 vy (thB L i).length (cE ((thB L i).map (co W)))/\(∀ b,vx.ownBlock=some b->vy.ownBlock≠some b)/\Below V w wr) (fun _ _ iv _=>n - (intOf iv).toNat)
 case atStart=>exact⟨0,rfl,Nat.zero_le _,World.ownsRow_nil _ _ _ _,World.ownsRow_nil _ _ _ _,(fun b h=>by cases h),Below.refl _ _⟩
 case round=>
  obtain⟨i,rfl,hi,hox,hoy,hdis,hb⟩:=hrel
  have hVs:V<=wr.heap.size:=by have:=hb.size;have:=HV.out;omega
  obtain⟨Ax,cx,rfl,hcx,_⟩:=own_form hox
  obtain⟨Ay,cy,rfl,hcy,_⟩:=own_form hoy
  have hle:=thB_le L i
  by_cases hin:i<n
  ·have hin2:(i:Int)<(n:Int):=by omega
   have hi00:(0:Int)<=(i:Int):=by omega
   have hBV:B<=V:=by have:=HV.out;omega
   obtain⟨a3,rfl,ha3,e3⟩:=rd_bool (HL.out.below (hb.mono hBV)) hin
   obtain⟨b,hbb⟩:∃ b,L.getD i false=b:=⟨_,rfl⟩
   rw[hbb] at e3
   have hs:=thB_succ L i
   rw[hbb] at hs
   obtain⟨TL,hTL⟩:∃ TL,thB L i=TL:=⟨_,rfl⟩
   rw[hTL] at hs hox hoy hle hcx hcy hdis ⊢
   cases b with
   | true=>
    rw[if_pos rfl] at hs
    have HOX:=Hd hox
    have HOY:=Hd hoy
    have HD:=Hd hdis
    have HBX:=Hd hb
    have HS:=Hd hs
    clear hox hoy hdis hb hs hTL hbb
    go_wp2
    go_roundw
    case rel=>exact⟨i+1,by go_num,by omega,by rw[HS.out];exact HOX.out,by rw[HS.out];exact HOY.out,HD.out,HBX.out⟩
    case measure=>simp[intOf];omega
   | false=>
    rw[if_neg (by simp)] at hs
    obtain⟨a2,rfl,ha2,e2⟩:=rd_at HW.out hin
    obtain⟨y,hy⟩:∃ y,co W i=y:=⟨_,rfl⟩
    rw[hy] at e2
    have hw8:=wrap8i (i:=i) (by omega)
    have hl1:=run_litV wr 79 Dr.tU8 (.int .u8 0) (.int .u8 (i:Int)) 1 Tryz.underlying79 Dr.infoU8 rfl
    have hl2:=fun W'=>run_litV W' 79 Dr.tU8 (.int .u8 0) (.int .u8 ((unE y).toNat:Int)) 1 Tryz.underlying79 Dr.infoU8 rfl
    obtain⟨q,hq⟩:∃ q,TL.length=q:=⟨_,rfl⟩
    rw[hq] at hox hoy hle hcx hcy hdis ⊢
    have hblo:∀ W1:World,Below V w W1->W1.cell? (a2.add i)=some (.int .u8 ((unE y).toNat:Int)):=fun W1 h=>(h.cell (by rw[add_block];omega)).trans e2
    have HOX:=Hd (Dr.own_alloc hox (.cells #[.int .u8 (i:Int)] Dr.tU8))
    have HOY:=Hd (Dr.own_alloc hoy (.cells #[.int .u8 (i:Int)] Dr.tU8))
    have HD:=Hd hdis
    have HBX:=Hd (hb.alloc hVs (.cells #[.int .u8 (i:Int)] Dr.tU8))
    have HNW:=Hd (new_cells wr [.int .u8 (i:Int)] Dr.tU8)
    have HS:=Hd hs
    have HE2:=Hd hblo
    have HYLT:=Hd (show ∀ b,(Value.slice Ay q cy).ownBlock=some b->b<wr.heap.size+1 from fun b h=>by obtain⟨cur,h1⟩:=Dr.own_lt hoy h;have:=(Array.getElem?_eq_some_iff.1 h1).1;omega)
    have HQ:=Hd hq
    have HYY:=Hd hy
    have T1:=Hd True.intro
    have HPT:=Hd (ptE_nat (i:=i) (by omega))
    clear hox hoy hdis hb hs hTL hbb hy e2 hblo hq
    go_wp2_with (first
     | (have t1:=T1.out;at_builtin;go_loud (refine wpList_append_keeps _ rfl (.tmp 37) (.tmp 40) 79 rfl V Dr.tU8 i0 (.int .u8 0) 1 1 Tryz.underlying79 hi0 hz0 hz1 hz2 rfl (by decide) (.slice Ax q cx) q (cE (TL.map ptE)) rfl HOX.out ⟨wr.heap.size,0,none⟩ 1 1 [.int .u8 (i:Int)] rfl rfl HNW.out (by simp[Value.oneCell']) (by decide) (by unfold maxLen;omega) (by omega) (by simp;omega) ?_);intro gx cap w2 hrow hg hor hlt hkeep;go_loud (have hoy2:=hkeep V _ q _ HOY.out (fun _=>Nat.le_refl _));go_loud (have hb2:=HBX.out.grown hg (by simp;omega) (fun j hj=>Dr.own_ge HOX.out hj));go_loud (have hd2:=own_app_ne (w:=wr.alloc (.cells #[.int .u8 (i:Int)] Dr.tU8)) HD.out (by simpa using HYLT.out) hor);have e2':=HE2.out w2 hb2;have HROW:=Hd hrow;have HB2:=Hd hb2;have HOY2:=Hd hoy2;have HD2:=Hd hd2;have hVs2:V<=w2.heap.size:=(by have h1:=HBX.out.size;have h2:=hg.size;simp at h2;omega);clear hrow hg hor hkeep hoy2 hb2 hd2 T1 t1 HOX HOY)
     | (at_builtin;go_loud (refine wpList_append_keeps _ rfl (.tmp 42) (.tmp 47) 79 rfl V Dr.tU8 i0 (.int .u8 0) 1 1 Tryz.underlying79 hi0 hz0 hz1 hz2 rfl (by decide) (.slice Ay q cy) q (cE (TL.map (co W))) rfl (Dr.own_alloc HOY2.out _) ⟨w2.heap.size,0,none⟩ 1 1 [.int .u8 ((unE y).toNat:Int)] rfl rfl (new_cells w2 [.int .u8 ((unE y).toNat:Int)] Dr.tU8) (by simp[Value.oneCell']) (by decide) (by unfold maxLen;omega) (by omega) (by simp;omega) ?_);intro gy capy w3 hrow hg hor hlt hkeep;go_loud (have hox3:=hkeep V _ (q+1) _ (Dr.own_alloc HROW.out _) (fun h=>absurd h.symm (HD2.out)));go_loud (have hb3:=(HB2.out.alloc hVs2 (.cells #[.int .u8 ((unE y).toNat:Int)] Dr.tU8)).grown hg (by simp;omega) (fun j hj=>Dr.own_ge HOY2.out hj));have hyx:gx≠gy:=(fun h=>by rcases hor with h1 | h1;(· exact HD2.out (by rw[h];exact h1));(· simp at h1;omega));have HROWY:=Hd hrow;have HB3:=Hd hb3;have HOX3:=Hd hox3;have HYX:=Hd hyx;clear hrow hg hor hkeep hox3 hb3 hyx))
    have hlen1:(thB L (i+1)).length=q+1:=by rw[HS.out];simp[HQ.out]
    have hcx1:cE ((thB L (i+1)).map ptE)=cE (TL.map ptE)++[.int .u8 (i:Int)]:=by rw[HS.out,List.map_append];show cE (TL.map ptE++[ptE i])=_;rw[cE_snoc,HPT.out]
    have hcy1:cE ((thB L (i+1)).map (co W))=cE (TL.map (co W))++[.int .u8 ((unE y).toNat:Int)]:=by rw[HS.out,List.map_append];show cE (TL.map (co W)++[co W i])=_;rw[cE_snoc,HYY.out]
    go_roundw
    case rel=>exact⟨i+1,by go_num,by omega,by rw[hlen1,hcx1];exact HOX3.out,by rw[hlen1,hcy1];exact HROWY.out,(fun b h1 h2=>HYX.out (by simp[Value.ownBlock] at h1 h2;omega)),HB3.out⟩
    case measure=>simp[intOf];omega
  ·obtain rfl:i=n:=by omega
   obtain⟨n,rfl⟩:∃ n,n=i:=⟨_,rfl⟩
   obtain⟨AL,hAL⟩:∃ AL,thB L n=AL:=⟨_,rfl⟩
   obtain⟨N,hN⟩:∃ N,AL.length=N:=⟨_,rfl⟩
   rw[hAL,hN] at hox hoy hcx hcy
   rw[hAL,hN] at hle
   rw[hAL,hN]
   have hk:=HK.out
   rw[hAL,hN] at hk
   have hnd:AL.Nodup:=by rw[<-hAL];exact thB_nodup L n
   have hlt:∀ i∈AL,i<n:=fun i hi=>by rw[<-hAL] at hi;exact thB_lt hi
   obtain⟨P,hP⟩:∃ P,AL.map ptE=P:=⟨_,rfl⟩
   obtain⟨Y,hY⟩:∃ Y,AL.map (co W)=Y:=⟨_,rfl⟩
   rw[hP] at hox
   rw[hY] at hoy
   have hPl:P.length=N:=by rw[<-hP,List.length_map,hN]
   have hYl:Y.length=N:=by rw[<-hY,List.length_map,hN]
   have hPd:P.Nodup:=by rw[<-hP];exact nodup_pts hnd (fun i hi=>by have:=hlt i hi;omega)
   obtain⟨LL,hLL⟩:∃ LL,(prs AL fun i=>unE (co W i))=LL:=⟨_,rfl⟩
   have hLl:LL.length=N:=by rw[<-hLL,length_prs,hN]
   have hLLn:(LL.map (·.1)).Nodup:=by rw[<-hLL];exact nodup_prs hnd (fun i hi=>by have:=hlt i hi;omega) _
   have hLr:∀ r,r<N->LL[r]?=some (co P r,co Y r):=fun r hr=>by
    rw[<-hLL,<-hP,<-hY]
    unfold prs
    rw[List.getElem?_map,List.getElem?_eq_getElem (by omega),co_get (by rw[List.length_map];omega),co_get (by rw[List.length_map];omega),List.getElem_map,List.getElem_map]
    rfl
   obtain⟨e,he⟩:∃ e,(N - k)/2=e:=⟨_,rfl⟩
   have HCONV:=Hd (show ∀ w' x,NearOk w w' e k LL x->NearOk w w' (((thB L n).length - k)/2) k (prs (thB L n) fun i=>unE (co W i)) x from fun w' x h=>by rw[hAL,hN,he,hLL];exact h)
   have he1:((N:Int) - (k:Int)).tdiv 2=(e:Int):=by rw[Int.tdiv_eq_ediv_of_nonneg (by omega)];omega
   have he2:((N:Int) - (k:Int))/2=(e:Int):=by omega
   have hke2:k+2*e<=N:=by omega
   have hBV:B<=V:=by have:=HV.out;omega
   have HTW:=Hd ((HT.out.below (hb.mono hBV)).more (show B<=wr.heap.size by omega))
   have HRX:=Hd (Rd.of_own hox)
   have HRY:=Hd (Rd.of_own hoy)
   have HBX:=Hd hb
   have HPD:=Hd hPd
   have HPL:=Hd hPl
   have HYL:=Hd hYl
   have HLL:=Hd hLl
   have HLN:=Hd hLLn
   have HLR:=Hd hLr
   have HPP:=Hd hP
   have HAL:=Hd hAL
   have HBW:=Hd (show Below w.heap.size w wr by rw[HV.out];exact hb)
   clear hox hoy hdis hb hPd hPl hYl hLl hLLn hLr hP hY hLL hAL hN hnd hlt he
   go_upto_region 10 with (go_at_call 89;refine (strT_any HTW.out HRX.out HRY.out (Nat.le_refl _) (by omega) hk hcx hcy HPD.out).mono ?_;intro x w1 hs;have HS:=Hd hs;have hform:∃ (A:Option Addr) (m c:Nat) (b:Bool),x = .returned (.tuple #[.slice A m c,.bool b]):=(by rcases hs.out with h | ⟨A,c,p,h,_⟩<;>exact⟨_,_,_,_,h⟩);obtain⟨Ap,mp,cp,bs,rfl⟩:=hform;clear hs)
   have HB1:=Hd HS.out.back
   rcases HS.out.out with h | ⟨Aq,cq,p,h,hpv,hpl,hat⟩
   ·obtain⟨rfl,rfl,rfl,rfl⟩:Ap=none/\mp=0/\cp=0/\bs=false:=by simpa [and_assoc] using h
    clear HS h
    obtain⟨u,hu⟩:∃ u,e+1+(k+e)=u:=⟨_,rfl⟩
    obtain⟨e1,hee1⟩:∃ e1,e+1=e1:=⟨_,rfl⟩
    obtain⟨e2,hee2⟩:∃ e2,e1+k=e2:=⟨_,rfl⟩
    obtain⟨ke,hke⟩:∃ ke,k+e=ke:=⟨_,rfl⟩
    have hu1:e2+e=u:=by omega
    have hu256:u<=256:=by omega
    have he256:e<=256:=by omega
    have hce1:(e:Int)+1=(e1:Int):=by omega
    have hce2:(e1:Int)+(k:Int)=(e2:Int):=by omega
    have hcu:(e2:Int)+(e:Int)=(u:Int):=by omega
    have hcke:(k:Int)+(e:Int)=(ke:Int):=by omega
    obtain⟨V1,hV1⟩:∃ V1,w1.heap.size=V1:=⟨_,rfl⟩
    have hBV1:B<=V1:=by have:=HB1.out.size;have:=HBX.out.size;have:=HV.out;omega
    obtain⟨G,hG⟩:∃ G,wr.heap.size=G:=⟨_,rfl⟩
    have HTU:=Hd (show Tbl w1 G (some at0) by rw[<-hG];exact HTW.out.below HB1.out)
    have HRX1:=Hd (show Rd w1 G 1 Ax N (cE P) by rw[<-hG];exact HRX.out.below HB1.out)
    have HRY1:=Hd (show Rd w1 G 1 Ay N (cE Y) by rw[<-hG];exact HRY.out.below HB1.out)
    have HWV:=Hd (show G<=V1 by have:=HB1.out.size;omega)
    have HBW1:=Hd (show Below w.heap.size w w1 from bch HBW.out HB1.out)
    have HV1:=Hd hV1
    have hmk:=fun W=>run_makeV W 79 Dr.tU8 (.int .u8 0) 1 Tryz.underlying79 Dr.infoU8 rfl (by decide) u (by omega)
    obtain⟨Z,hZ⟩:∃ Z,(fromV u fun _=>Value.int .u8 0)=Z:=⟨_,rfl⟩
    rw[hZ] at hmk
    have hZc:Z=cE (fromN u fun _=>0):=by
     rw[<-hZ]
     apply List.ext_getElem?
     intro j
     by_cases hj:j<u
     ·rw[fromV_get hj,List.getElem?_map,fromN_get hj];rfl
     ·rw[List.getElem?_eq_none (by rw[fromV_len];omega),List.getElem?_eq_none (by rw[List.length_map,length_fromN];omega)]
    have hZl:Z.length=u:=by rw[<-hZ];simp[fromV]
    have HZ:=Hd hZc
    have HZL:=Hd hZl
    have HMK:=Hd hmk
    have HU:=Hd hu
    have HHH:=Hd (And.intro hee1 (And.intro hee2 hke))
    clear hZ hmk hZc hZl hV1 hu hee1 hee2 hke hG
    go_wp2
    go_loopw [16,17] (fun v iv wr=>∃ (i:Nat) (A:Option Addr) (c:Nat) (g:Nat->Nat),iv = .int .i64 (i:Int)/\i<=N/\v = .slice A i c/\RowB wr V1 i u A c g (eqs e LL)/\Below V1 w1 wr) (fun _ iv _=>N - (intOf iv).toNat)
    case atStart=>exact⟨0,none,0,fun _=>0,rfl,Nat.zero_le _,rfl,⟨World.ownsRow_nil _ _ _ _,fun x hx=>by omega,fun r s hr=>by omega⟩,Below.refl _ _⟩
    case round=>
     obtain⟨i,A,c,g,rfl,hi,rfl,hM,hb⟩:=hrel
     by_cases hin:i<N
     ·have hin2:(i:Int)<(N:Int):=by omega
      have hi00:(0:Int)<=(i:Int):=by omega
      have hmk:=HMK.out
      have hVs:V1<=wr.heap.size:=by have:=hb.size;have:=HV1.out;omega
      obtain⟨b,hbs⟩:∃ b,wr.heap.size=b:=⟨_,rfl⟩
      obtain⟨w2,hw2⟩:∃ w2,wr.alloc (.cells Z.toArray Dr.tU8)=w2:=⟨_,rfl⟩
      obtain⟨x,hx⟩:∃ x,co P i=x:=⟨_,rfl⟩
      obtain⟨y,hy⟩:∃ y,co Y i=y:=⟨_,rfl⟩
      have hLi:=HLR.out i hin
      rw[hx,hy] at hLi
      have hrow:w2.ownsRow V1 Dr.tU8 1 (slE b u) u (cE (fromN u (rf y x e 0))):=by
       rw[rf_zero,<-HZ.out,<-hw2,<-hbs]
       exact Dr.own_new wr hVs Dr.tU8 1 u Z (by rw[HZL.out,Nat.mul_one]) (by unfold maxLen;omega)
      have hM1:RowB w2 V1 i u A c g (eqs e LL):=by rw[<-hw2];exact⟨Dr.own_alloc hM.out _,fun x hx=>Dr.own_alloc (hM.rows x hx) _,hM.inj⟩
      have hgb:∀ x,x<i->g x≠b:=fun x hx e=>by have:=(ow_lt (hM.rows x hx)).2;omega
      have hAb:(Value.slice A i c).ownBlock≠some b:=fun e=>by
       obtain⟨cur,h⟩:=Dr.own_lt hM.out e
       have:=(Array.getElem?_eq_some_iff.1 h).1
       omega
      have hb1:Below V1 w1 w2:=by rw[<-hw2];exact hb.alloc hVs _
      have HROW:=Hd hrow
      have HM1:=Hd hM1
      have HGB:=Hd hgb
      have HAB:=Hd hAb
      have HB1:=Hd hb1
      have HBS:=Hd hbs
      have HLI:=Hd hLi
      have HXX:=Hd hx
      have HYY:=Hd hy
      clear hrow hM1 hgb hAb hb1 hM hb hx hy hLi
      go_wp2
      clear hw2 hmk hbs
      go_loopw [19,20] (fun pv jv wq=>∃ j:Nat,jv = .int .i64 (j:Int)/\j<=ke/\pv = .int .u8 ((unE (pw x j)).toNat:Int)/\wq.ownsRow V1 Dr.tU8 1 (slE b u) u (cE (fromN u (rf y x e j)))/\RowB wq V1 i u A c g (eqs e LL)/\Below V1 w1 wq) (fun _ jv _=>ke - (intOf jv).toNat)
      case atStart=>exact⟨0,rfl,Nat.zero_le _,rfl,HROW.out,HM1.out,HB1.out⟩
      case round=>
       obtain⟨j,rfl,hj,rfl,hrow,hM,hb⟩:=hrel
       by_cases hjn:j<ke
       ·have hjn2:(j:Int)<(ke:Int):=by omega
        have hj00:(0:Int)<=(j:Int):=by omega
        obtain⟨q,hq⟩:∃ q,pw x j=q:=⟨_,rfl⟩
        rw[hq]
        obtain⟨h1,hh1⟩:∃ h1,e1+j=h1:=⟨_,rfl⟩
        have hch1:(e1:Int)+(j:Int)=(h1:Int):=by omega
        have hh1u:h1<u:=by have:=HHH.out;omega
        have hju:j<u:=by have:=HHH.out;omega
        have hbV:V1<=b:=(ow_lt hrow).1
        have hGb:G<=b:=Nat.le_trans HWV.out hbV
        have hTx:Tbl wr G (some at0):=HTU.out.below (hb.mono HWV.out)
        have hne:h1≠j:=by have:=HHH.out;omega
        have hq1:pw x (j+1)=q*x:=by rw[<-hq];rfl
        have f1:=ow_free (i:=j) hrow
        have f2:=ow_free (i:=h1) hrow
        have hM2:∀ (W':World) q v,RowB W' V1 i u A c g (eqs e LL)->RowB (W'.setCell ⟨b,q,none⟩ v) V1 i u A c g (eqs e LL):=fun W' q v hM=>⟨row_other hM.out HAB.out,fun x hx=>ow_other (hM.rows x hx) (HGB.out x hx) _,hM.inj⟩
        obtain⟨a3,hA3,ha3,e3⟩:=rd_at (HRX1.out.below (hb.mono HWV.out)) hin
        subst hA3
        rw[HXX.out] at e3
        obtain⟨ad2,Ar2,cr2,hat2,h2a,e5,h2b,e6⟩:=hTx.get q x
        injection hat2 with hat2
        subst hat2
        have HTA:=Hd (And.intro h2a (And.intro h2b ha3))
        obtain⟨t1a,t1b⟩:=HU8.out q
        obtain⟨t2a,t2b⟩:=HU8.out x
        obtain⟨t3a,t3b⟩:=HU8.out y
        by_cases hje:j<=e
        ·have hje2:(j:Int)<=(e:Int):=by omega
         obtain⟨a4,hA4,ha4,e4⟩:=rd_at (HRY1.out.below (hb.mono HWV.out)) hin
         subst hA4
         rw[HYY.out] at e4
         obtain⟨ad1,Ar1,cr1,hat1,_,e7,_,e8⟩:=hTx.get y q
         injection hat1 with hat1
         subst hat1
         have cj:=ow_cell hrow hju (cE_get (fromN_get hju))
         obtain⟨wa,hwa⟩:∃ wa,wr.setCell ⟨b,j,none⟩ (.int .u8 ((unE (y*q)).toNat:Int))=wa:=⟨_,rfl⟩
         have hrow1:=ow_store (i:=j) hrow (.int .u8 ((unE (y*q)).toNat:Int))
         rw[hwa,cE_set] at hrow1
         have cj1:=ow_cell hrow1 hh1u (cE_get (fromN_get hh1u))
         have f3:=ow_free (i:=h1) hrow1
         have hrow2:=ow_store (i:=h1) hrow1 (.int .u8 ((unE q).toNat:Int))
         have hrf:(fun r=>if r=h1 then q else if r=j then y*q else rf y x e j r)=rf y x e (j+1):=by rw[<-hh1,<-HHH.out.1,<-hq];exact rf_low hje
         rw[cE_set,hrf] at hrow2
         obtain⟨wb,hwb⟩:∃ wb,wa.setCell ⟨b,h1,none⟩ (.int .u8 ((unE q).toNat:Int))=wb:=⟨_,rfl⟩
         rw[hwb] at hrow2
         have hbb:Below V1 w1 wb:=by rw[<-hwb,<-hwa];exact (hb.setCell (p:=⟨b,j,none⟩) hbV _).setCell (p:=⟨b,h1,none⟩) hbV _
         have hbw:Below b wr wb:=by rw[<-hwb,<-hwa];exact ((Below.refl b wr).setCell (p:=⟨b,j,none⟩) (Nat.le_refl _) _).setCell (p:=⟨b,h1,none⟩) (Nat.le_refl _) _
         have g3:=(hbw.cell (p:=a3.add i) (by rw[add_block];omega)).trans e3
         have g5:=(hbw.cell (p:=at0.add (unE q).toNat) (by rw[add_block];omega)).trans e5
         have g6:=(hbw.cell (p:=Ar2.add (unE x).toNat) (by rw[add_block];omega)).trans e6
         have HM2:=Hd (show RowB wb V1 i u A c g (eqs e LL) by rw[<-hwb,<-hwa];exact hM2 _ _ _ (hM2 _ _ _ hM))
         have HROW2:=Hd hrow2
         have HBB:=Hd hbb
         have HQ1:=Hd hq1
         have HQ:=Hd hq
         clear hrow hM hb hrow1 hrow2 hbb hbw hTx hM2 hq1 e3 e5 e6 hrf hq hh1
         go_upto_region 24 with (fail)
         clear e4 e7 e8 cj cj1 f1 f2 f3 hwa hwb
         go_region
         go_wp2
         go_roundw
         case rel=>exact⟨j+1,by go_num,by omega,by rw[HQ1.out],HROW2.out.drew,⟨HM2.out.out.drew,fun x hx=>(HM2.out.rows x hx).drew,HM2.out.inj⟩,HBB.out.drew⟩
         case measure=>simp[intOf];omega
        ·have hje2:¬ (j:Int)<=(e:Int):=by omega
         have cj1:=ow_cell hrow hh1u (cE_get (fromN_get hh1u))
         have hrow2:=ow_store (i:=h1) hrow (.int .u8 ((unE q).toNat:Int))
         have hrf:(fun r=>if r=h1 then q else rf y x e j r)=rf y x e (j+1):=by rw[<-hh1,<-HHH.out.1,<-hq];exact rf_high hje
         rw[cE_set,hrf] at hrow2
         obtain⟨wb,hwb⟩:∃ wb,wr.setCell ⟨b,h1,none⟩ (.int .u8 ((unE q).toNat:Int))=wb:=⟨_,rfl⟩
         rw[hwb] at hrow2
         have hbb:Below V1 w1 wb:=by rw[<-hwb];exact (hb.setCell (p:=⟨b,h1,none⟩) hbV _)
         have hbw:Below b wr wb:=by rw[<-hwb];exact ((Below.refl b wr).setCell (p:=⟨b,h1,none⟩) (Nat.le_refl _) _)
         have g3:=(hbw.cell (p:=a3.add i) (by rw[add_block];omega)).trans e3
         have g5:=(hbw.cell (p:=at0.add (unE q).toNat) (by rw[add_block];omega)).trans e5
         have g6:=(hbw.cell (p:=Ar2.add (unE x).toNat) (by rw[add_block];omega)).trans e6
         have HM2:=Hd (show RowB wb V1 i u A c g (eqs e LL) by rw[<-hwb];exact hM2 _ _ _ hM)
         have HROW2:=Hd hrow2
         have HBB:=Hd hbb
         have HQ1:=Hd hq1
         have HQ:=Hd hq
         clear hrow hM hb hrow2 hbb hbw hTx hM2 hq1 e3 e5 e6 hrf hq hh1
         go_upto_region 24 with (fail)
         clear cj1 f1 f2 hwb
         go_region
         go_wp2
         go_roundw
         case rel=>exact⟨j+1,by go_num,by omega,by rw[HQ1.out],HROW2.out.drew,⟨HM2.out.out.drew,fun x hx=>(HM2.out.rows x hx).drew,HM2.out.inj⟩,HBB.out.drew⟩
         case measure=>simp[intOf];omega
       ·obtain rfl:j=ke:=by omega
        clear hj hjn
        have hrf:fromN u (rf y x e j)=fromN u (eqs e LL i):=by rw[<-HU.out,<-HHH.out.2.2];exact rf_eqs HLI.out (by omega)
        rw[hrf] at hrow
        have hVs2:V1<=wr.heap.size:=by have:=hb.size;have:=HV1.out;omega
        have hl1:=run_litV wr 67 tRs (.slice none 0 0) (slE b u) 24 Tryz.underlying67 infoRs rfl
        have HO1:=Hd (Dr.own_alloc hM.out (.cells #[slE b u] tRs))
        have HRX2:=Hd (rd_new wr (slE b u) tRs)
        have HBX2:=Hd (hb.alloc hVs2 (.cells #[slE b u] tRs))
        have HRW:=Hd (Dr.own_alloc hrow (.cells #[slE b u] tRs))
        have HRS:=Hd (show ∀ x,x<i->(wr.alloc (.cells #[slE b u] tRs)).ownsRow V1 Dr.tU8 1 (slE (g x) u) u (cE (fromN u (eqs e LL x))) from fun x hx=>Dr.own_alloc (hM.rows x hx) _)
        have HIJ:=Hd hM.inj
        clear hrow hM hb hrf
        go_wp2_with (at_builtin;go_loud (refine wpList_append_rd _ rfl (.tmp 117) (.tmp 119) 67 rfl V1 tRs r0 (.slice none 0 0) 1 24 Tryz.underlying67 hr0 hrz0 hrz1 hrz2 rfl (by decide) (.slice A i c) i (fromV i fun x=>slE (g x) u) rfl HO1.out _ (some ⟨wr.heap.size,0,none⟩) 1 1 [slE b u] rfl HRX2.out (fun h=>by cases h) (by simp[Value.oneCell']) (by unfold maxLen;omega) (by omega) (by simp;omega) ?_);intro v' w' hrow hg;go_loud (have hb2:=HBX2.out.grown hg (by simp;omega) (fun j hj=>Dr.own_ge HO1.out hj));have hrw:=HRW.out.kept hg (.inr (rows_ne HRW.out HO1.out (by decide) rfl));have hrs:=fun x hx=>(HRS.out x hx).kept hg (.inr (rows_ne (HRS.out x hx) HO1.out (by decide) rfl));have HROW:=Hd hrow;have HB2X:=Hd hb2;have HRW2:=Hd hrw;have HRS2:=Hd hrs;clear hrow hg hb2 hrw hrs)
        have hrow:=HROW.out
        have hcs:fromV (i+1) (fun x=>slE (if x=i then b else g x) u)=(fromV i fun x=>slE (g x) u)++[slE b u]:=by
         rw[fromV_succ,if_pos rfl]
         congr 1
         exact fromV_congr fun x hx=>by rw[if_neg (by omega)]
        obtain⟨A3x,c3x,rfl,_,_⟩:=own_form hrow
        have hM3:RowB w' V1 (i+1) u A3x c3x (fun x=>if x=i then b else g x) (eqs e LL):=⟨by rw[hcs];exact hrow,fun x hx=>by
         by_cases h:x=i
         ·subst h;rw[if_pos rfl];exact HRW2.out
         ·rw[if_neg h];exact HRS2.out x (by omega),fun r s hr hs h=>by
         by_cases h1:r=i
         ·by_cases h2:s=i
          ·omega
          ·rw[if_pos h1,if_neg h2] at h
           exact absurd h.symm (HGB.out s (by omega))
         ·by_cases h2:s=i
          ·rw[if_neg h1,if_pos h2] at h
           exact absurd h (HGB.out r (by omega))
          ·rw[if_neg h1,if_neg h2] at h
           exact HIJ.out r s (by omega) (by omega) h⟩
        have HM3:=Hd hM3
        clear hrow hM3 hcs
        go_roundw
        case rel=>exact⟨i+1,A3x,c3x,_,by go_num,by omega,rfl,HM3.out,HB2X.out⟩
        case measure=>simp[intOf];omega
     ·obtain rfl:i=N:=by omega
      obtain⟨N,rfl⟩:∃ N,N=i:=⟨_,rfl⟩
      obtain⟨rb,rfl⟩:∃ rb,A=some (⟨rb,0,none⟩:Addr):=by
       rcases hM.out.2 with ⟨_,h⟩ | ⟨rb,cap,cur,hv,_⟩
       ·omega
       ·injection hv with hv;exact⟨rb,hv⟩
      have HMM:=Hd (show MatM wr V1 rb N c u g (eqs e LL) from⟨hM.out,hM.rows,hM.inj⟩)
      have HTV:=Hd (HTU.out.below (hb.mono HWV.out))
      have HBV:=Hd hb
      have hVs:V1<=wr.heap.size:=by have:=hb.size;have:=HV1.out;omega
      clear hM hb
      go_upto_region 27 with (go_at_call 90;refine (kernel_any HTV.out HWV.out HMM.out hVs (by omega) (by omega)).mono ?_;intro x w3 hs;have HS3:=Hd hs;have hform:∃ (Ak:Option Addr) (mk ck:Nat),x = .returned (.slice Ak mk ck):=(by rcases hs.out with ⟨h,_⟩ | ⟨b,l,h,_⟩<;>exact⟨_,_,_,h⟩);obtain⟨Ak,mk,ck,rfl⟩:=hform;clear hs)
      have HB3:=Hd (show Below w.heap.size w w3 from bch HBW1.out (by rw[HV1.out];exact HBV.out.trans HS3.out.back))
      have HTY:=Hd (HTV.out.below (HS3.out.back.mono HWV.out))
      have HRX3:=Hd (HRX1.out.below ((HBV.out.trans HS3.out.back).mono HWV.out))
      have HRY3:=Hd (HRY1.out.below ((HBV.out.trans HS3.out.back).mono HWV.out))
      have hV3:V1<=w3.heap.size:=by have:=HS3.out.back.size;omega
      have hnil:=fun (wx:World) (A:Option Addr) (a b:Nat)=>Lib.run_eql_slice_nil (P:=Tryz.prog) wx 79 Dr.tU8 A a b 0 0 Tryz.underlying79
      clear HMM HTV
      rcases HS3.out.out with ⟨h,hz⟩ | ⟨b,l,h,hown,hsol,hne⟩
      ·obtain⟨rfl,rfl,rfl⟩:Ak=none/\mk=0/\ck=0:=by simpa [slE,and_assoc] using h
       have HNR:=Hd (show NearOk w w3 e k LL (.returned (.tuple #[.slice none 0 0,.bool false])) from⟨_,_,rfl,HB3.out,(fun h=>by cases h),fun _ p hp=>by
        obtain⟨x,hx,q,hq,hne⟩:=hp.eqs
        rw[HU.out] at hx hq
        rw[HLL.out] at hx
        exact hne (hz x hx q hq)⟩)
       clear h hz HS3
       go_wp2
       refine bodyPost_ret (v:=.tuple #[.slice none 0 0,.bool false]) (by simp[results,Tryz.results73,go_sem]) rfl ?_
       exact HCONV.out _ _ HNR.out
      ·obtain⟨h1,h2,h3⟩:Ak=some ⟨b,0,none⟩/\u=mk/\u=ck:=by
        have:Ak=some ⟨b,0,none⟩/\mk=u/\ck=u:=by simpa [slE,and_assoc] using h
        exact⟨this.1,this.2.1.symm,this.2.2.symm⟩
       subst h2
       subst h3
       have hrd:Rd w3 w3.heap.size 1 Ak u (cE l):=by rw[h1];exact Rd.of_own hown
       have hll:=rd_len hrd
       obtain⟨ad,rfl⟩:∃ ad,Ak=some ad:=⟨_,h1⟩
       have he1u:e1<u:=by have:=HHH.out;omega
       have hke3:u - e1=ke:=by have:=HHH.out;omega
       obtain⟨A5,hsl1,hA5⟩:=slice_fromU ad (n:=u) (c:=u) (q:=e1) (by omega)
       obtain rfl:=hA5 he1u
       have hd1:=rd_dropE hrd he1u
       rw[hke3] at hsl1 hd1
       have hsl2:=fun W=>slice_front8 W (A:=some ad) (n:=u) (c:=u) (q:=e1) (by omega)
       have hd2:=rd_take hrd (Nat.le_of_lt he1u)
       have hkey:Key e k (k+e) LL (l.drop e1) (trimP (l.take e1)):=by
        rw[<-HHH.out.1]
        exact Key.of_eqs HLN.out (by rw[HLL.out];omega) (by rw[hll,HU.out]) (by rw[HLL.out,HU.out];exact hsol) hne
       have HKEY:=Hd hkey
       have HD1:=Hd hd1
       have HD2:=Hd hd2
       have hke8:ke<=256:=by have:=HHH.out;omega
       have he1w:IntKind.i64.wrap (e1:Int)=(e1:Int):=by rw[IntKind.wrap_i64];omega
       have he1w2:=he1w
       rw[IntKind.wrap_i64] at he1w2
       clear h h1 hown hsol hne hrd hll hA5 hd1 hd2 hkey HS3
       go_upto_region 29 with (fail)
       refine wp_region_any (by kernel_rfl) ?_
       change wpAny _ _ _ _ _ _ _ (World.drew _)
       refine wpAny_of_P (S:=fun _=>True) (late:=[15]) _ _ _ _ ?_
       refine tT 0 trivial ?_
       try go_frame
       refine tT 1 trivial ?_
       try go_frame
       refine tT 2 trivial ?_
       try go_frame
       refine tT 3 trivial ?_
       try go_frame
       refine tT 4 trivial ?_
       try go_frame
       refine tT 5 trivial ?_
       try go_frame
       refine tT 6 trivial ?_
       try go_frame
       refine tT 7 trivial ?_
       try go_frame
       refine fP 8 fun K hK=>?_
       go_simp
       refine (divideR_any (w:=World.drew w3) (HD1.out.below (Below.refl _ w3).drew) (HD2.out.below (Below.refl _ w3).drew) (Nat.le_refl w3.heap.size) (by omega) (by omega) rfl HKEY.out.pos).mono ?_;intro x w4 hq;obtain⟨sv,rv,s,r,rfl,hs,hr,hpq,hts,htr,hlt⟩:=hq.out;have HB4:=Hd (show Below w3.heap.size w3 w4 from below_undrew hq.back);obtain⟨As,cs,rfl,rs,qs,zs⟩:=hs.form;obtain⟨Ar,cr,rfl,rr,qr,zr⟩:=hr.form;have HSV:=Hd rs;have HPS:=Hd hs;have HPQ:=Hd hpq;have HTS:=Hd hts;have HTR:=Hd htr;have HLT:=Hd hlt;clear hq hs hr hpq hts htr hlt rs qs zs rr qr zr
       refine hK _ _ (trivial) ?_;clear hK K
       try go_frame
       refine tT 9 trivial ?_
       try go_frame
       refine tT 10 trivial ?_
       try go_frame
       refine tT 11 trivial ?_
       try go_frame
       refine tT 12 trivial ?_
       try go_frame
       refine tT 13 trivial ?_
       try go_frame
       refine tT 14 trivial ?_
       try go_frame
       refine lP 15 fun K hK=>?_
       go_simp
       refine hK _ _ ?_;clear hK K
       try go_frame
       refine wpAny_done (by kernel_rfl) ?_ _
       clear hsl1 hsl2
       obtain⟨S0,hS0⟩:∃ S0,s.length=S0:=⟨_,rfl⟩
       obtain⟨R0,hR0⟩:∃ R0,r.length=R0:=⟨_,rfl⟩
       rw[hS0,hR0]
       have htell:=HKEY.out.tells HTS.out HTR.out HLT.out HPQ.out
       by_cases hgood:r=[]/\s.length<=k
       ·obtain rfl:R0=0:=by rw[<-hR0,hgood.1];rfl
        have hs256:S0<=65536:=by have:=hgood.2;omega
        have hsk:¬ (k:Int)<(S0:Int):=by have:=hgood.2;omega
        have hnear:Near e k LL s:=by
         rcases htell with ⟨_,h⟩ | ⟨h,_⟩
         ·exact h
         ·exact absurd hgood h
        have HNEAR:=Hd hnear
        have HSV2:=Hd (show Rd w4 w4.heap.size 1 As S0 (cE s) by rw[<-hS0];exact HSV.out)
        have HPV:=Hd (show PolV w4 (.slice As S0 cs) s by rw[<-hS0];exact HPS.out)
        have HBZ:=Hd (bch HB3.out HB4.out)
        have HTZ:=Hd (HTY.out.below (HB4.out.mono (show G<=w3.heap.size by have:=HWV.out;omega)))
        have HRX4:=Hd (HRX3.out.below (HB4.out.mono (show G<=w3.heap.size by have:=HWV.out;omega)))
        have HRY4:=Hd (HRY3.out.below (HB4.out.mono (show G<=w3.heap.size by have:=HWV.out;omega)))
        have hG4:G<=w4.heap.size:=by have:=HB4.out.size;have:=HWV.out;omega
        clear hgood htell hnear hS0 hR0
        go_wp2
        go_loopw [24,25] (fun cv iv wr=>∃ i:Nat,iv = .int .i64 (i:Int)/\i<=N/\cv = .int .i64 ((miss (LL.take i) s).length:Int)/\Below w4.heap.size w4 wr) (fun _ iv _=>N - (intOf iv).toNat)
        case atStart=>exact⟨0,rfl,Nat.zero_le _,rfl,Below.refl _ _⟩
        case round=>
         obtain⟨i,rfl,hi,rfl,hb⟩:=hrel
         obtain⟨c0,hc0⟩:∃ c0,(miss (LL.take i) s).length=c0:=⟨_,rfl⟩
         have hc0i:c0<=i:=by
          rw[<-hc0];unfold miss
          exact Nat.le_trans (List.length_filter_le _ _) (by rw[List.length_take];omega)
         rw[hc0]
         by_cases hin:i<N
         ·have hin2:(i:Int)<(N:Int):=by omega
          have hi00:(0:Int)<=(i:Int):=by omega
          obtain⟨a1,hA1,ha1,e1⟩:=rd_at (HRX4.out.below (hb.mono hG4)) hin
          subst hA1
          obtain⟨a2,hA2,ha2,e2⟩:=rd_at (HRY4.out.below (hb.mono hG4)) hin
          subst hA2
          obtain⟨x,hx⟩:∃ x,co P i=x:=⟨_,rfl⟩
          obtain⟨y,hy⟩:∃ y,co Y i=y:=⟨_,rfl⟩
          rw[hx] at e1
          rw[hy] at e2
          obtain⟨px,hpx⟩:∃ px,ev s x=px:=⟨_,rfl⟩
          have HTX:=Hd (HTZ.out.below ((hb.mono hG4).trans (Below.refl G wr).drew))
          have HPX:=Hd (show Rd (World.drew wr) w4.heap.size 1 As S0 (cE s) from HSV2.out.below hb.drew)
          have HS0:=Hd (And.intro e1 e2)
          have HEX:=Hd hpx
          have hLi:=HLR.out i hin
          rw[hx,hy] at hLi
          have htk:LL.take (i+1)=LL.take i++[(x,y)]:=by rw[List.take_add_one,hLi];rfl
          have hBX:=hb.drew
          have HBX9:=Hd hBX
          by_cases hxy:px=y
          ·have HCN:=Hd (show (miss (LL.take (i+1)) s).length=c0 by
            rw[htk,<-hc0];unfold miss;rw[List.filter_append];simp[hpx,hxy])
           subst hxy
           clear hb hx hy hpx e1 e2 hLi htk hBX hc0
           go_upto_region 36 with (fail)
           refine wp_region_any (by kernel_rfl) ?_
           change wpAny _ _ _ _ _ _ _ (World.drew _)
           refine wpAny_of_P (S:=fun w'=>w'.cell? (a1.add i)=some (.int .u8 ((unE x).toNat:Int))/\w'.cell? (a2.add i)=some (.int .u8 ((unE px).toNat:Int))) (late:=[11]) _ _ _ _ ?_
           refine tT 0 HS0.out ?_
           try go_frame
           refine tT 1 HS0.out ?_
           try go_frame
           refine tT 2 HS0.out ?_
           try go_frame
           refine tT 3 HS0.out ?_
           try go_frame
           refine tT 4 HS0.out ?_
           try go_frame
           refine tP 8 5 rfl HS0.out (fun w hw=>by obtain⟨y1,y2⟩:=hw;go_simp;try with_reducible rfl) ?_
           try go_frame
           refine tT 7 HS0.out ?_
           try go_frame
           refine tT 8 HS0.out ?_
           try go_frame
           refine tT 9 HS0.out ?_
           try go_frame
           refine tP 8 10 rfl HS0.out (fun w hw=>by obtain⟨y1,y2⟩:=hw;go_simp;try with_reducible rfl) ?_
           try go_frame
           refine fP 6 fun K hK=>?_
           go_simp
           refine (atT_v (w:=World.drew wr) HTX.out HPX.out (by omega) x HEX.out).mono ?_;rintro e w5 ⟨rfl,rfl⟩
           refine hK _ _ (HS0.out) ?_;clear hK K
           try go_frame
           refine lP 11 fun K hK=>?_
           go_simp
           refine hK _ _ ?_;clear hK K
           try go_frame
           refine wpAny_done (by kernel_rfl) ?_ _
           go_wp2
           go_roundw
           case rel=>exact⟨i+1,by go_num,by omega,by rw[HCN.out],HBX9.out⟩
           case measure=>simp[intOf];omega
          ·have HCN:=Hd (show (miss (LL.take (i+1)) s).length=c0+1 by
            rw[htk,<-hc0];unfold miss;rw[List.filter_append];simp[hpx,hxy])
           obtain⟨n1,n2,n3⟩:=neE hxy
           clear hb hx hy hpx e1 e2 hLi htk hBX hc0
           go_upto_region 36 with (fail)
           refine wp_region_any (by kernel_rfl) ?_
           change wpAny _ _ _ _ _ _ _ (World.drew _)
           refine wpAny_of_P (S:=fun w'=>w'.cell? (a1.add i)=some (.int .u8 ((unE x).toNat:Int))/\w'.cell? (a2.add i)=some (.int .u8 ((unE y).toNat:Int))) (late:=[11]) _ _ _ _ ?_
           refine tT 0 HS0.out ?_
           try go_frame
           refine tT 1 HS0.out ?_
           try go_frame
           refine tT 2 HS0.out ?_
           try go_frame
           refine tT 3 HS0.out ?_
           try go_frame
           refine tT 4 HS0.out ?_
           try go_frame
           refine tP 8 5 rfl HS0.out (fun w hw=>by obtain⟨y1,y2⟩:=hw;go_simp;try with_reducible rfl) ?_
           try go_frame
           refine tT 7 HS0.out ?_
           try go_frame
           refine tT 8 HS0.out ?_
           try go_frame
           refine tT 9 HS0.out ?_
           try go_frame
           refine tP 8 10 rfl HS0.out (fun w hw=>by obtain⟨y1,y2⟩:=hw;go_simp;try with_reducible rfl) ?_
           try go_frame
           refine fP 6 fun K hK=>?_
           go_simp
           refine (atT_v (w:=World.drew wr) HTX.out HPX.out (by omega) x HEX.out).mono ?_;rintro e w5 ⟨rfl,rfl⟩
           refine hK _ _ (HS0.out) ?_;clear hK K
           try go_frame
           refine lP 11 fun K hK=>?_
           go_simp
           refine hK _ _ ?_;clear hK K
           try go_frame
           refine wpAny_done (by kernel_rfl) ?_ _
           go_wp2
           go_roundw
           case rel=>exact⟨i+1,by go_num,by omega,by rw[HCN.out];go_num,HBX9.out⟩
           case measure=>simp[intOf];omega
         ·obtain rfl:i=N:=by omega
          have hc1:c0<=e:=by
           rw[<-hc0,List.take_of_length_le (by rw[HLL.out];exact Nat.le_refl _)];exact HNEAR.out.2
          have hc2:(c0:Int)<=(e:Int):=by omega
          have HPVX:=Hd (HPV.out.below hb)
          have HBX9:=Hd (bch HBZ.out hb)
          clear hb hc0
          go_wp2
          refine bodyPost_ret (v:=.tuple #[.slice As S0 cs,.bool true]) (by simp[results,Tryz.results73,go_sem]) rfl ?_
          exact HCONV.out _ _ ⟨_,_,rfl,HBX9.out,fun _=>⟨s,HPVX.out,HNEAR.out⟩,fun h=>by cases h⟩
       ·have hno:∀ c,¬ Near e k LL c:=by
         rcases htell with ⟨h,_⟩ | ⟨_,h⟩
         ·exact absurd h hgood
         ·exact h
        have HNO:=Hd hno
        have HBZ:=Hd (bch HB3.out HB4.out)
        by_cases hr0:R0=0
        ·subst hr0
         have hsk:(k:Int)<(S0:Int):=by
          have h1:¬ s.length<=k:=fun h=>hgood ⟨List.length_eq_zero_iff.1 hR0,h⟩
          omega
         clear hgood htell hno hS0 hR0
         go_wp2
         refine bodyPost_ret (v:=.tuple #[.slice none 0 0,.bool false]) (by simp[results,Tryz.results73,go_sem]) rfl ?_
         exact HCONV.out _ _ ⟨_,_,rfl,HBZ.out,(fun h=>by cases h),fun _=>HNO.out⟩
        ·have hr1:¬ (R0:Int)=0:=by omega
         have hr2:((R0:Int) != 0)=true:=by simpa using hr1
         clear hgood htell hno hS0 hR0
         go_wp2
         refine bodyPost_ret (v:=.tuple #[.slice none 0 0,.bool false]) (by simp[results,Tryz.results73,go_sem]) rfl ?_
         exact HCONV.out _ _ ⟨_,_,rfl,HBZ.out,(fun h=>by cases h),fun _=>HNO.out⟩
   ·obtain⟨rfl,rfl,rfl,rfl⟩:Ap=Aq/\mp=k/\cp=cq/\bs=true:=by simpa [and_assoc] using h
    have HNR:=Hd (show NearOk w w1 e mp LL (.returned (.tuple #[.slice Ap mp cp,.bool true])) from by
     refine⟨_,_,rfl,bch HBW.out HB1.out,fun _=>⟨p,hpv,Nat.le_of_eq hpl,?_⟩,fun h=>by cases h⟩
     have:miss LL p=[]:=by
      unfold miss
      rw[List.filter_eq_nil_iff]
      intro a ha
      obtain⟨r,hr,rfl⟩:=List.getElem_of_mem ha
      have h1:=HLR.out r (by rw[<-HLL.out];exact hr)
      rw[List.getElem?_eq_getElem hr] at h1
      injection h1 with h1
      rw[h1]
      simp[hat r (by rw[<-HLL.out];exact hr)]
     rw[this]
     exact Nat.zero_le _)
    clear HS h hpv hpl hat
    go_wp2
    refine bodyPost_ret (v:=.tuple #[.slice Ap mp cp,.bool true]) (by simp[results,Tryz.results73,go_sem]) rfl ?_
    exact HCONV.out _ _ HNR.out
end Go.Proofs.YtmgljaecmchgaaaGreat.Gf
