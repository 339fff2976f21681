/- XRb9: merged by tools/merge.py. -/
import Derived.Test.YtmgljaecmchgaaaGreatQ29
set_option linter.unusedVariables false
set_option linter.unusedSimpArgs false
set_option linter.unusedSectionVars false
namespace Go.Proofs.YtmgljaecmchgaaaGreat.Gf
open Go.RowKit Go.Proofs
theorem upto_keep {α:Type} {a:Nat->α} {z:α} {i:Nat} (h:a i=z):upto a z (i+1)=upto a z i:=by
 funext j
 unfold upto
 by_cases hj:j=i
 ·subst hj;rw[if_pos (by omega),if_neg (by omega),h]
 ·by_cases h4:j<i
  ·rw[if_pos h4,if_pos (by omega)]
  ·rw[if_neg h4,if_neg (by omega)]
set_option maxRecDepth 100000 in
set_option maxHeartbeats 40000000 in
theorem mendT_any {w:World} {B n c0:Nat} {A0:Option Addr} {R:List (List UInt8)} {k:Int} (hR:RowsRd w B A0 n R) (hB:B<=w.heap.size) (hlen:∀ r∈R,r.length<=1099511627776) :
  Calls Tryz.prog 16 #[.int .i64 k,.slice A0 n c0] w fun x w'=>MendOk w w' k R x:=by
 obtain⟨i0,hi0,hz0,hz1,hz2⟩:=info_parts Dr.infoU8
 obtain⟨j0,hj0,hy0,hy1,hy2⟩:=info_parts infoInt
 have hRl:=hR.len
 obtain⟨V,hV⟩:∃ V,w.heap.size=V:=⟨_,rfl⟩
 have HR:=Hd hR
 have HLEN:=Hd hlen
 have HRL:=Hd hRl
 have HV:=Hd hV
 clear hR hlen hRl hV
 go_enter Tryz.func16,Tryz.ntmps16
 by_cases g1:k<1
 ·go_wp2
  refine bodyPost_ret (v:=.tuple #[.slice none 0 0,.slice none 0 0,.int .i64 2]) (by simp[results,Tryz.results16,go_sem]) rfl ?_
  exact⟨.inl ⟨by unfold mendF;rw[if_pos (.inl g1)],2,by decide,rfl⟩,Below.refl _ _⟩
 by_cases g2:(n:Int)<k
 ·go_wp2
  refine bodyPost_ret (v:=.tuple #[.slice none 0 0,.slice none 0 0,.int .i64 2]) (by simp[results,Tryz.results16,go_sem]) rfl ?_
  exact⟨.inl ⟨by unfold mendF;rw[if_pos (.inr (.inl (by rw[HRL.out];exact g2)))],2,by decide,rfl⟩,Below.refl _ _⟩
 by_cases g3:(255:Int)<(n:Int)
 ·go_wp2
  refine bodyPost_ret (v:=.tuple #[.slice none 0 0,.slice none 0 0,.int .i64 2]) (by simp[results,Tryz.results16,go_sem]) rfl ?_
  exact⟨.inl ⟨by unfold mendF;rw[if_pos (.inr (.inr (by rw[HRL.out];omega)))],2,by decide,rfl⟩,Below.refl _ _⟩
 obtain⟨k,rfl⟩:∃ kk:Nat,k=(kk:Int):=⟨k.toNat,by omega⟩
 have hn:n<=255:=by omega
 have hk1:1<=k:=by omega
 have hkn:k<=n:=by omega
 have hmk:=fun W=>run_makeV W 73 tBool (.bool false) 1 Tryz.underlying73 infoBool rfl (by decide) n (by omega)
 obtain⟨Z,hZ⟩:∃ Z:List Value,(fromV n fun _=>Value.bool false)=Z:=⟨_,rfl⟩
 obtain⟨f,hf⟩:∃ f:Nat->Value,(fun i=>Value.bool (decide ((R.getD i []).length=0)))=f:=⟨_,rfl⟩
 have hfi:∀ i,f i=Value.bool (decide ((R.getD i []).length=0)):=fun i=>by rw[<-hf]
 have hfall:fromV n f=Dr.cBool (lostB R):=by rw[<-hf,<-HRL.out];exact lostB_fromV R
 have hr0:(w.alloc (.cells Z.toArray tBool)).ownsRow V tBool 1 (slE V n) n (fromV n (upto f (.bool false) 0)):=by
  rw[upto_zero,hZ,<-HV.out]
  exact Dr.own_new w (Nat.le_refl _) tBool 1 n Z (by rw[<-hZ];simp[fromV]) (by unfold maxLen;omega)
 have hb0:Below V w (w.alloc (.cells Z.toArray tBool)):=by rw[<-HV.out];exact (Below.refl _ w).alloc (Nat.le_refl _) _
 rw[hZ] at hmk
 have HR0:=Hd hr0
 have HB0:=Hd hb0
 have HF:=Hd hfi
 have HFA:=Hd hfall
 have HMKB:=Hd hmk
 have HZB:=Hd hZ
 clear hr0 hb0 hf hfi hfall hZ
 have hV:=HV.out
 go_wp2
 clear hmk hV
 go_loopw [9,10] (fun lv iv wr=>∃ (i l:Nat),iv = .int .i64 (i:Int)/\lv = .int .i64 (l:Int)/\i<=n/\l<=1099511627776/\meas R 0=meas (R.drop i) l/\wr.ownsRow V tBool 1 (slE V n) n (fromV n (upto f (.bool false) i))/\Below V w wr) (fun _ iv _=>n - (intOf iv).toNat)
 case atStart=>exact⟨0,0,rfl,rfl,Nat.zero_le _,Nat.zero_le _,by rw[List.drop_zero],HR0.out,HB0.out⟩
 case round=>
  obtain⟨i,l,rfl,rfl,hi,hl,hm,hown,hb⟩:=hrel
  by_cases hin:i<n
  ·have hin2:(i:Int)<(n:Int):=by omega
   have hiR:i<R.length:=by rw[HRL.out];exact hin
   obtain⟨ad,Ai,ci,hAd,had,hcd,hrow⟩:=HR.out.at_ hin
   subst hAd
   obtain⟨r,hr⟩:∃ r,R.getD i []=r:=⟨_,rfl⟩
   have hrm:r∈R:=by rw[<-hr];exact List.mem_of_getElem? (getD_get hiR)
   have hrl:=HLEN.out r hrm
   rw[hr] at hcd hrow
   rw[drop_at hiR,hr,meas_cons] at hm
   have hVB:B<=V:=by have:=HV.out;omega
   have e1:=(hb.cell (p:=ad.add i) (by rw[add_block];omega)).trans hcd
   have c1:=ow_cell hown hin (fromV_get hin)
   have f1:=ow_free (i:=i) hown
   obtain⟨bb,hbb⟩:∃ bb,decide (r.length=0)=bb:=⟨_,rfl⟩
   have hnew:=ow_store (i:=i) hown (.bool bb)
   rw[fromV_set,upto_step' (by rw[HF.out,hr,hbb])] at hnew
   obtain⟨w2,hw2⟩:∃ w2,wr.setCell ⟨V,i,none⟩ (.bool bb)=w2:=⟨_,rfl⟩
   rw[hw2] at hnew
   have hb2:Below V w w2:=by rw[<-hw2];exact hb.setCell (p:=⟨V,i,none⟩) (Nat.le_refl _) (.bool bb)
   have e2:=(hb2.cell (p:=ad.add i) (by rw[add_block];omega)).trans hcd
   have c2:w2.cell? ⟨V,i,none⟩=some (.bool bb):=ow_cell hnew hin (by rw[fromV_get hin];unfold upto;rw[if_pos (by omega),HF.out,hr,hbb])
   have HNEW:=Hd hnew
   have HB2:=Hd hb2
   by_cases h0:r.length=0
   ·have h0i:(r.length:Int)=0:=by omega
    have h0b:((r.length:Int)==0)=true:=by simpa using h0i
    obtain rfl:bb=true:=by rw[<-hbb];simpa using h0
    rw[if_pos h0] at hm
    have HM:=Hd hm
    by_cases hl0:l=0
    ·subst hl0
     clear hown hb hm hnew hrow hrm hcd hiR hb2 hbb
     go_wp2
     go_roundw
     case rel=>exact⟨i+1,0,by go_num,rfl,by omega,hl,HM.out,HNEW.out,HB2.out⟩
     case measure=>simp[intOf];omega
    ·have hl0p:(0:Int)<(l:Int):=by omega
     clear hown hb hm hnew hrow hrm hcd hiR hb2 hbb
     go_wp2
     go_roundw
     case rel=>exact⟨i+1,l,by go_num,rfl,by omega,hl,HM.out,HNEW.out,HB2.out⟩
     case measure=>simp[intOf];omega
   ·have h0i:¬ (r.length:Int)=0:=by omega
    have h0b:((r.length:Int)==0)=false:=by simpa using h0i
    obtain rfl:bb=false:=by rw[<-hbb];simpa using h0
    rw[if_neg h0] at hm
    by_cases h1:l≠0/\r.length≠l
    ·rw[if_pos h1] at hm
     have hl0p:(0:Int)<(l:Int):=by omega
     have h3:¬ (r.length:Int)=(l:Int):=by omega
     have h3b:((r.length:Int)==(l:Int))=false:=by simpa using h3
     have h3c:((r.length:Int) != (l:Int))=true:=by simpa using h3
     have HM:=Hd hm
     clear hown hb hm hnew hrow hrm hcd h1 hiR hb2 hbb
     go_wp2
     refine bodyPost_ret (v:=.tuple #[.slice none 0 0,.slice none 0 0,.int .i64 41]) (by simp[results,Tryz.results16,go_sem]) rfl ?_
     refine⟨.inl ⟨?_,41,by decide,rfl⟩,by rw[HV.out];exact HB2.out⟩
     unfold mendF
     split
     ·rfl
     ·rw[HM.out]
    ·rw[if_neg h1] at hm
     have HM:=Hd hm
     by_cases hl0:l=0
     ·subst hl0
      clear hown hb hm hnew hrow hrm hcd h1 hiR hb2 hbb
      go_wp2
      go_roundw
      case rel=>exact⟨i+1,r.length,by go_num,rfl,by omega,hrl,HM.out,HNEW.out,HB2.out⟩
      case measure=>simp[intOf];omega
     ·have hl0p:(0:Int)<(l:Int):=by omega
      have hrl2:(r.length:Int)=(l:Int):=by
       by_cases e:r.length=l
       ·omega
       ·exact absurd ⟨hl0,e⟩ h1
      have hrln:r.length=l:=by omega
      have hlb:((l:Int)==0)=false:=by simp;omega
      have hlz:¬ (l:Int)=0:=by omega
      have HRLN:=Hd hrln
      clear hown hb hm hnew hrow hrm hcd h1 hl0 hrln hiR hb2 hbb
      go_wp2
      go_roundw
      case rel=>exact⟨i+1,r.length,by go_num,by rw[HRLN.out],by omega,hrl,HM.out,HNEW.out,HB2.out⟩
      case measure=>simp[intOf];omega
  ·obtain rfl:i=n:=by omega
   obtain⟨n,rfl⟩:∃ n,n=i:=⟨_,rfl⟩
   rw[List.drop_of_length_le (by rw[HRL.out];exact Nat.le_refl _)] at hm
   have hm2:meas R 0=some l:=hm
   have e1:fromV n (upto f (.bool false) n)=fromV n f:=fromV_congr fun j hj=>upto_all hj
   rw[e1] at hown
   obtain⟨AL,hAL⟩:∃ AL,thB (lostB R) n=AL:=⟨_,rfl⟩
   obtain⟨N,hN⟩:∃ N,AL.length=N:=⟨_,rfl⟩
   have hTR:thereR R=AL:=by rw[thereR_eq,HRL.out,hAL]
   have HAL:=Hd hAL
   have HN:=Hd hN
   have HTR:=Hd hTR
   have HM:=Hd hm2
   have HLO:=Hd hown
   have HRLO:=Hd (show Rd wr wr.heap.size 1 (some ⟨V,0,none⟩) n (Dr.cBool (lostB R)) by rw[<-HFA.out];exact Rd.of_own hown)
   have HBW:=Hd (show Below w.heap.size w wr by rw[HV.out];exact hb)
   have HLALL:=Hd ((meas_all hm2).2)
   have hTHR:thB (lostB R) n=AL:=hAL
   clear hm hm2 hown hb e1 hAL hN hTR
   clear hTHR
   by_cases g4:(N:Int)<(k:Int)
   ·go_wp2_with (go_at_call 30;refine (thereT_any HRLO.out (by omega)).mono ?_;rw[HAL.out,HN.out];rintro e w5 ⟨rfl,rfl⟩)
    refine bodyPost_ret (v:=.tuple #[.slice none 0 0,.slice none 0 0,.int .i64 42]) (by simp[results,Tryz.results16,go_sem]) rfl ?_
    refine⟨.inl ⟨?_,42,by decide,rfl⟩,HBW.out⟩
    unfold mendF
    split
    ·rfl
    ·rw[HM.out]
     dsimp only
     rw[if_pos (by rw[HTR.out,HN.out];exact g4)]
   have hkN:k<=N:=by omega
   go_upto_region 17 with (first | (go_at_call 30;refine (thereT_any HRLO.out (by omega)).mono ?_;rw[HAL.out,HN.out];rintro e w5 ⟨rfl,rfl⟩) | (go_at_call 31;refine (table_any _).mono ?_;rintro e w2 ⟨At,ct,rfl,ht,hbt⟩;have HT:=Hd ht;have HBT:=Hd hbt;clear ht hbt))
   obtain⟨O,hO⟩:∃ O,w2.heap.size=O:=⟨_,rfl⟩
   have hwrO:wr.heap.size<=O:=by have:=HBT.out.size;omega
   have hVw:V<=wr.heap.size:=by have:=HBW.out.size;have:=HV.out;omega
   have hVO:V<O:=by have h:=(ow_lt HLO.out).2;omega
   have hBO:B<=O:=by have:=HV.out;omega
   have HTO:=Hd (show Tbl w2 O At by rw[<-hO];exact HT.out)
   have HW2:=Hd (show Below w.heap.size w w2 from bch HBW.out HBT.out)
   have HLO2:=Hd (own_below HLO.out HBT.out)
   have HRR:=Hd ((HR.out.below (HW2.out.mono hB)).more hBO)
   have hmO:=run_makeV w2 67 tRs (.slice none 0 0) 24 Tryz.underlying67 infoRs rfl (by decide) n (by omega)
   have hmM:=HMKB.out
   have hmW:=fun W=>run_makeV W 79 Dr.tU8 (.int .u8 0) 1 Tryz.underlying79 Dr.infoU8 rfl (by decide) n (by omega)
   obtain⟨ZO,hZO⟩:∃ Z,(fromV n fun _=>Value.slice none 0 0)=Z:=⟨_,rfl⟩
   obtain⟨ZW,hZW⟩:∃ Z,(fromV n fun _=>Value.int .u8 0)=Z:=⟨_,rfl⟩
   rw[hZO] at hmO
   rw[hZW] at hmW
   obtain⟨w3,hw3⟩:∃ w3,(w2.alloc (.cells ZO.toArray tRs)).alloc (.cells Z.toArray tBool)=w3:=⟨_,rfl⟩
   have hout3:w3.ownsRow O tRs 1 (slE O n) n (fromV n fun _=>.slice none 0 0):=by
    rw[<-hw3,hZO,<-hO]
    exact Dr.own_alloc (Dr.own_new w2 (Nat.le_refl _) tRs 1 n ZO (by rw[<-hZO];simp[fromV]) (by unfold maxLen;omega)) _
   have hmet3:w3.ownsRow O tBool 1 (slE (O+1) n) n (fromV n fun _=>.bool false):=by
    rw[<-hw3,HZB.out]
    have h:=Dr.own_new (w2.alloc (.cells ZO.toArray tRs)) (base:=O) (by simp;omega) tBool 1 n Z (by rw[<-HZB.out];simp[fromV]) (by unfold maxLen;omega)
    rw[show (w2.alloc (.cells ZO.toArray tRs)).heap.size=O+1 by simp[hO]] at h
    exact h
   have hb3:Below O w2 w3:=by rw[<-hw3];exact ((Below.refl _ w2).alloc (by omega) _).alloc (by simp;omega) _
   have HD3:=Hd (show DocM w2 w3 O O (O+1) n (fun _=>.slice none 0 0) (fun _=>0) (fun _=>false) from⟨hb3,hout3,fun x hx=>⟨[],World.ownsRow_nil _ _ _ _⟩,hmet3,fun x y _ _ _ b h=>by cases h⟩)
   obtain⟨col,hcol⟩:∃ col:Nat->Option (List Nat),(fun c=>colR k AL (colOf R c))=col:=⟨_,rfl⟩
   have hcolc:∀ c,col c=colR k AL (colOf R c):=fun c=>by rw[<-hcol]
   have hmf:mendF (k:Int) R=mendR n l col:=by
    rw[mendF_eq rfl hk1 (by rw[HRL.out];omega) (by rw[HRL.out];exact hn) HM.out (by rw[HTR.out,HN.out];exact hkN),HRL.out,HTR.out,<-hcol]
   have HCOLC:=Hd hcolc
   have HMF:=Hd hmf
   have HZW:=Hd hZW
   have HMW:=Hd hmW
   have HO:=Hd hO
   have hsO:(w2.alloc (.cells ZO.toArray tRs)).heap.size=O+1:=by simp[hO]
   clear hcol hcolc hmf hout3 hmet3 hb3 hZO hZW hmW HT HR0 HB0 HLO HRLO
   go_wp2
   clear hmO hmM hw3 hO hsO
   go_loopw [14] (fun cv wr=>∃ (c:Nat) (v:Nat->Value),cv = .int .i64 (c:Int)/\c<=l/\DocM w2 wr O O (O+1) n v (fun _=>c) (metB col c)/\∀ c',c'<c->(col c').isSome=true) (fun cv _=>l - (intOf cv).toNat)
   case atStart=>exact⟨0,_,rfl,Nat.zero_le _,HD3.out.congr (fun _ _=>rfl) (fun i _=>rfl),fun c' hc'=>by omega⟩
   case round=>
    obtain⟨c,v,rfl,hc,hd,hcs⟩:=hrel
    have hOr:O<=wr.heap.size:=by have:=hd.below.size;have:=HO.out;omega
    by_cases hcl:c<l
    ·have hcl2:(c:Int)<(l:Int):=by omega
     have hc00:(0:Int)<=(c:Int):=by omega
     obtain⟨W0,rfl⟩:∃ W0,W0=wr:=⟨_,rfl⟩
     obtain⟨b,hb⟩:∃ b,W0.heap.size=b:=⟨_,rfl⟩
     obtain⟨fw,hfw⟩:∃ fw:Nat->E,(fun i=>toE (colOf R c i))=fw:=⟨_,rfl⟩
     have HFW:=Hd (show ∀ i,fw i=toE (colOf R c i) from fun i=>by rw[<-hfw])
     have HCL:=Hd (show fromN n fw=colL R c by rw[<-hfw,<-HRL.out];rfl)
     obtain⟨w4,hw4⟩:∃ w4,W0.alloc (.cells ZW.toArray Dr.tU8)=w4:=⟨_,rfl⟩
     have hZc:ZW=cE (fromN n (upto fw 0 0)):=by
      rw[<-HZW.out,upto_zero]
      apply List.ext_getElem?
      intro j
      by_cases hj:j<n
      ·rw[fromV_get hj,List.getElem?_map,fromN_get hj];rfl
      ·rw[List.getElem?_eq_none (by rw[fromV_len];omega),List.getElem?_eq_none (by rw[List.length_map,length_fromN];omega)]
     have hrow4:w4.ownsRow b Dr.tU8 1 (slE b n) n (cE (fromN n (upto fw 0 0))):=by
      rw[<-hZc,<-hw4,<-hb]
      exact Dr.own_new W0 (Nat.le_refl _) Dr.tU8 1 n ZW (by rw[<-HZW.out];simp[fromV]) (by unfold maxLen;omega)
     have HROW4:=Hd hrow4
     have HB4:=Hd (show Below b W0 w4 by rw[<-hw4,<-hb];exact (Below.refl _ _).alloc (Nat.le_refl _) _)
     have HD:=Hd hd
     have HCS:=Hd hcs
     have HBB:=Hd hb
     have hOb:O<=b:=by omega
     have hmW:=HMW.out
     clear hd hcs hfw hZc hrow4
     go_wp2
     clear hmW hw4 hb
     go_loopw [16] (fun jv wq=>∃ j:Nat,jv = .int .i64 (j:Int)/\j<=n/\wq.ownsRow b Dr.tU8 1 (slE b n) n (cE (fromN n (upto fw 0 j)))/\Below b W0 wq) (fun jv _=>n - (intOf jv).toNat)
     case atStart=>exact⟨0,rfl,Nat.zero_le _,HROW4.out,HB4.out⟩
     case round=>
      obtain⟨j,rfl,hj,hrow,hbq⟩:=hrel
      have hb2:Below O w2 wr:=HD.out.below.trans (hbq.mono hOb)
      by_cases hjn:j<n
      ·have hjn2:(j:Int)<(n:Int):=by omega
       have hj00:(0:Int)<=(j:Int):=by omega
       obtain⟨r,hr⟩:∃ r,R.getD j []=r:=⟨_,rfl⟩
       have hrm:r∈R:=by rw[<-hr];exact List.mem_of_getElem? (getD_get (by rw[HRL.out];exact hjn))
       have e1:=(hb2.cell (p:=⟨V,j,none⟩) hVO).trans (ow_cell HLO2.out hjn (by rw[fromV_get hjn,HF.out,hr]))
       by_cases h0:r.length=0
       ·rw[show decide (r.length=0)=true by simpa using h0] at e1
        have hz:fw j=0:=by
         rw[HFW.out]
         unfold colOf
         rw[hr,List.length_eq_zero_iff.1 h0]
         rfl
        have HROW5:=Hd hrow
        have HKEEP:=Hd (upto_keep hz)
        have HBQ:=Hd hbq
        clear hrow hbq hb2 hz hr hrm
        go_wp2
        go_roundw
        case rel=>exact⟨j+1,by go_num,by omega,by rw[HKEEP.out];exact HROW5.out,HBQ.out⟩
        case measure=>simp[intOf];omega
       ·rw[show decide (r.length=0)=false by simpa using h0] at e1
        have hrlen:r.length=l:=HLALL.out r hrm h0
        obtain⟨ad,Aj,cj,hAd,had,hcd,hbyte⟩:=(HRR.out.below hb2).at_ hjn
        subst hAd
        rw[hr,hrlen] at hcd hbyte
        obtain⟨ab,hAb,hab,hcb⟩:=rd_byte hbyte hcl
        subst hAb
        obtain⟨by_,hby⟩:∃ by_,r.getD c 0=by_:=⟨_,rfl⟩
        rw[hby] at hcb
        have hfj:fw j=toE by_:=by rw[HFW.out];unfold colOf;rw[hr,hby]
        have c1:=ow_cell hrow hjn (cE_get (fromN_get hjn))
        have f1:=ow_free (i:=j) hrow
        have hnew:=ow_store (i:=j) hrow (.int .u8 ((unE (toE by_)).toNat:Int))
        rw[cE_set,upto_step' hfj] at hnew
        have HNEW:=Hd (show (wr.setCell ⟨b,j,none⟩ (.int .u8 (by_.toNat:Int))).ownsRow b Dr.tU8 1 (slE b n) n (cE (fromN n (upto fw 0 (j+1)))) from hnew)
        have HBQ:=Hd (hbq.setCell (p:=⟨b,j,none⟩) (Nat.le_refl _) (.int .u8 (by_.toNat:Int)))
        clear hrow hbq hb2 hr hrm hfj hnew hby hbyte
        go_wp2
        go_roundw
        case rel=>exact⟨j+1,by go_num,by omega,HNEW.out,HBQ.out⟩
        case measure=>simp[intOf];omega
      ·obtain rfl:j=n:=by omega
       obtain⟨n,rfl⟩:∃ n,n=j:=⟨_,rfl⟩
       have eW:fromN n (upto fw 0 n)=colL R c:=by rw[<-HCL.out];exact fromN_congr fun q hq=>upto_all hq
       rw[eW] at hrow
       have hbs:b<=wr.heap.size:=by have:=hbq.size;have:=HBB.out;omega
       have HWD:=Hd (Rd.of_own hrow)
       have HTC:=Hd ((HTO.out.below hb2).more (show O<=wr.heap.size by omega))
       have HLC:=Hd (show Rd wr wr.heap.size 1 (some ⟨V,0,none⟩) n (Dr.cBool (lostB R)) by rw[<-HFA.out];exact Rd.of_own (own_below HLO2.out (by rw[HO.out];exact hb2)))
       have HBQ:=Hd hbq
       clear hrow hbq hb2 eW
       go_upto_region 29 with (go_at_call 32;refine (columnT_any HTC.out HWD.out HLC.out (Nat.le_refl _) hn hk1 (by rw[HAL.out,HN.out];exact hkN)).mono ?_;intro e w6 h6;obtain⟨Ao,Bw,mo,co',mw,cw,er,hex,hor⟩:=h6.out;have HORX:=Hd hor;have HB6:=Hd h6.back;clear h6 hor;subst hex)
       have hor:=HORX.out
       rw[HAL.out,colOf_word,<-HCOLC.out c] at hor
       have hb06:Below b W0 w6:=HBQ.out.trans (HB6.out.mono hbs)
       have hd6:=HD.out.next (show Below W0.heap.size W0 w6 by rw[HBB.out];exact hb06) (by rw[HBB.out];exact hOb)
       rcases hor with ⟨rfl,hnone⟩ | ⟨rfl,lc,ws,hsome,hmx,hmw,hov,how⟩
       ·have HNO:=Hd (show mendF (k:Int) R=none by rw[HMF.out];exact mendR_none hcl hnone)
        have HBK:=Hd (show Below w.heap.size w w6 from HW2.out.trans (hd6.below.mono (by have:=HV.out;omega)))
        clear HORX hnone hb06 hd6
        go_wp2
        refine bodyPost_ret (v:=.tuple #[.slice none 0 0,.slice none 0 0,.int .i64 50]) (by simp[results,Tryz.results16,go_sem]) rfl ?_
        exact⟨.inl ⟨HNO.out,50,by decide,rfl⟩,HBK.out⟩
       ·clear HORX
        rw[hmx,hmw]
        have hwl:ws.length<=255:=by
         have h:=colR_len (by rw[<-HCOLC.out c];exact hsome)
         rw[HN.out] at h
         have h2:=thB_le (lostB R) n
         rw[HAL.out,HN.out] at h2
         omega
        obtain⟨g5,rfl⟩:∃ g5,Ao=some (⟨g5,0,none⟩:Addr):=by
         rcases hov.2 with ⟨_,h⟩ | ⟨rb,cap,cur,hv,_⟩
         ·omega
         ·injection hv with hv;exact⟨rb,hv⟩
        have hg5:=(ow_lt hov).1
        have HSOME:=Hd hsome
        have HOV:=Hd (own_base hov hbs)
        have HOW:=Hd (own_base how hbs)
        have HD6:=Hd hd6
        have HWSA:=Hd (show ∀ i∈ws,i<n from fun i hi=>by
         have h:=colR_sub (by rw[<-HCOLC.out c];exact hsome) i hi
         rw[<-HAL.out] at h
         exact thB_lt h)
        have HDV:=Hd (show ∀ x,x<n->∀ g,(v x).ownBlock=some g->g≠g5 from fun x hx g hg e=>by
         obtain⟨lx,hlx⟩:=HD.out.rows x hx
         obtain⟨cur,h⟩:=Dr.own_lt hlx hg
         have:=(Array.getElem?_eq_some_iff.1 h).1
         have:=HBB.out
         omega)
        clear hov how hsome hmx hmw hb06 hd6
        go_wp2
        go_loopw [20] (fun iv wr=>∃ (i:Nat) (v:Nat->Value),iv = .int .i64 (i:Int)/\i<=n/\DocM w2 wr O O (O+1) n v (fun x=>if x<i then c+1 else c) (metB col c)/\wr.ownsRow b Dr.tU8 1 (.slice (some ⟨g5,0,none⟩) n co') n (cE lc)/\wr.ownsRow b tInt 1 (.slice Bw ws.length cw) ws.length (cN ws)/\∀ x,x<n->∀ g,(v x).ownBlock=some g->g≠g5) (fun iv _=>n - (intOf iv).toNat)
        case atStart=>exact⟨0,v,rfl,Nat.zero_le _,HD6.out.congr (fun x _=>by rw[if_neg (by omega)]) (fun _ _=>rfl),HOV.out,HOW.out,HDV.out⟩
        case round=>
         obtain⟨i,v,rfl,hi,hd,hov,how,hdv⟩:=hrel
         have hOr:O<=wr.heap.size:=by have:=hd.below.size;have:=HO.out;omega
         have hbr:b<=wr.heap.size:=by have h1:=(ow_lt hov).1;have h2:=(ow_lt hov).2;omega
         by_cases hin:i<n
         ·have hin2:(i:Int)<(n:Int):=by omega
          have hi00:(0:Int)<=(i:Int):=by omega
          obtain⟨lx,hlx⟩:=hd.rows i hin
          rw[if_neg (by omega)] at hlx
          obtain⟨Ax,cx,hvi,hcx,_⟩:=own_form hlx
          rw[hvi] at hlx
          obtain⟨y,hy⟩:∃ y,co lc i=y:=⟨_,rfl⟩
          have hll:lc.length=n:=by simpa using hov.1
          have e1:wr.cell? ⟨O,i,none⟩=some (.slice Ax c cx):=by rw[<-hvi];exact hd.cell hin
          have e2:wr.cell? ⟨g5,i,none⟩=some (.int .u8 ((unE y).toNat:Int)):=ow_cell hov hin (cE_get (by rw[List.getElem?_eq_getElem (by omega),<-hy,co_get (by omega)]))
          obtain⟨W1,hW1⟩:∃ W1,(World.drew wr).alloc (.cells #[.int .u8 ((unE y).toNat:Int)] Dr.tU8)=W1:=⟨_,rfl⟩
          have hbw:Below wr.heap.size wr W1:=by rw[<-hW1];exact (Below.refl _ _).drew.alloc (Nat.le_refl _) _
          have hd1:=hd.next hbw hOr
          have hlx1:=own_below hlx hbw
          have hov1:=own_below hov hbw
          have how1:=own_below how hbw
          have hn1:∀ (j:Nat) u,[Value.int .u8 ((unE y).toNat:Int)][j]?=some u->W1.cell? ((⟨wr.heap.size,0,none⟩:Addr).add j)=some u:=by rw[<-hW1];exact new_cells (World.drew wr) [.int .u8 ((unE y).toNat:Int)] Dr.tU8
          have hs1:wr.heap.size<=W1.heap.size:=hbw.size
          have hs1':W1.heap.size=wr.heap.size+1:=by rw[<-hW1];simp
          have hg5w:g5<wr.heap.size:=(ow_lt hov).2
          have HCG:=Hd (show (cE lc)[i]?=some (.int .u8 ((unE y).toNat:Int)) from cE_get (by rw[List.getElem?_eq_getElem (by omega),<-hy,co_get (by omega)]))
          have HS0:=Hd (And.intro e1 e2)
          have HS1:=Hd (show W1.cell? ⟨O,i,none⟩=some (.slice Ax c cx)/\W1.cell? ⟨g5,i,none⟩=some (.int .u8 ((unE y).toNat:Int)) from⟨by rw[<-hvi];exact hd1.cell hin,ow_cell hov1 hin (cE_get (by rw[List.getElem?_eq_getElem (by omega),<-hy,co_get (by omega)]))⟩)
          have HD1:=Hd hd1
          have HLX1:=Hd hlx1
          have HOV1:=Hd hov1
          have HOW1:=Hd how1
          have HN1:=Hd hn1
          have HVI:=Hd hvi
          have HDV1:=Hd hdv
          have hlit:=run_litV (World.drew wr) 79 Dr.tU8 (.int .u8 0) (.int .u8 ((unE y).toNat:Int)) 1 Tryz.underlying79 Dr.infoU8 rfl
          have hc1:c+1<=1099511627776:=by omega
          have HC1:=Hd hc1
          clear hd hov how hdv hlx hvi hy e1 e2 hbw hd1 hlx1 hov1 how1 hn1 hll
          go_upto_region 34 with (fail)
          refine wp_region_any (by kernel_rfl) ?_
          change wpAny _ _ _ _ _ _ _ (World.drew _)
          refine wpAny_of_P (S:=fun w'=>w'.cell? ⟨O,i,none⟩=some (.slice Ax c cx)/\w'.cell? ⟨g5,i,none⟩=some (.int .u8 ((unE y).toNat:Int))) (late:=[13]) _ _ _ _ ?_
          refine tT 0 HS0.out ?_
          try go_frame
          refine tT 1 HS0.out ?_
          try go_frame
          refine tT 2 HS0.out ?_
          try go_frame
          refine tT 3 HS0.out ?_
          try go_frame
          refine tT 4 HS0.out ?_
          try go_frame
          refine tP 8 5 rfl HS0.out (fun w hw=>by obtain⟨y1,y2⟩:=hw;go_simp;try with_reducible rfl) ?_
          try go_frame
          refine tT 6 HS0.out ?_
          try go_frame
          refine tT 7 HS0.out ?_
          try go_frame
          refine tT 8 HS0.out ?_
          try go_frame
          refine tP 8 9 rfl HS0.out (fun w hw=>by obtain⟨y1,y2⟩:=hw;go_simp;try with_reducible rfl) ?_
          try go_frame
          refine fP 10 fun K hK=>?_
          go_simp
          refine hK _ _ (HS1.out) ?_;clear hK K
          try go_frame
          refine fP 11 fun K hK=>?_
          refine Dr.wp_append_keeps _ (.tmp 139) (.tmp 144) 79 rfl O Dr.tU8 i0 (.int .u8 0) 1 1 Tryz.underlying79 hi0 hz0 hz1 hz2 rfl (by decide) (.slice Ax c cx) c (cE lx) rfl HLX1.out ⟨wr.heap.size,0,none⟩ 1 1 [.int .u8 ((unE y).toNat:Int)] rfl rfl HN1.out (by simp[Value.oneCell']) (by omega) (by unfold maxLen;have:=HC1.out;omega) (by have:=HC1.out;omega) (by omega) ?_
          intro g2 cap2 w4 hg hgr hat2 hlt2 hkeep
          have ho4:=kept_ne HD1.out.out HLX1.out (by decide) hgr
          have c4:w4.cell? ⟨O,i,none⟩=some (.slice Ax c cx):=by rw[<-HVI.out];exact ow_cell ho4 hin (fromV_get hin)
          have hv4:=hkeep b _ n _ HOV1.out (fun e=>absurd rfl (HDV1.out i hin g5 (by rw[HVI.out,<-e];rfl)))
          have f4:w4.frozen? ⟨O,i,none⟩=false:=ow_free ho4
          have HS4:=Hd (show w4.cell? ⟨O,i,none⟩=some (.slice Ax c cx)/\w4.cell? ⟨g5,i,none⟩=some (.int .u8 ((unE y).toNat:Int)) from⟨c4,ow_cell hv4 hin HCG.out⟩)
          have HO4:=Hd ho4
          have HG:=Hd hg
          have HGR:=Hd hgr
          have HAT2:=Hd hat2
          have HKEEP:=Hd hkeep
          have HV4:=Hd hv4
          clear hg hgr hat2 hkeep hv4 ho4
          go_simp
          refine hK _ _ (HS4.out) ?_;clear hK K
          try go_frame
          refine tT 12 HS4.out ?_
          try go_frame
          refine lP 13 fun K hK=>?_
          go_simp
          refine hK _ _ ?_;clear hK K
          try go_frame
          refine wpAny_done (by kernel_rfl) ?_ _
          have hp:=HD1.out.push' (by omega) hin (c:=c) (by rw[if_neg (by omega)]) HVI.out (show w4.ownsRow O Dr.tU8 1 (.slice (some ⟨g2,0,none⟩) (c+1) cap2) (c+1) (cE (lx++[y])) by rw[cE_snoc];exact HG.out) HGR.out HAT2.out HKEEP.out
          have hp2:=hp.congr (ln':=fun x=>if x<i+1 then c+1 else c) (g:=metB col c) (fun x hx=>by
           by_cases h1:x=i
           ·rw[if_pos h1,if_pos (by omega)]
           ·rw[if_neg h1]
            by_cases h2:x<i
            ·rw[if_pos h2,if_pos (by omega)]
            ·rw[if_neg h2,if_neg (by omega)]) (fun _ _=>rfl)
          have hw4:=kept_ne HOW1.out HLX1.out (by decide) HGR.out
          have HP:=Hd hp2
          have HV5:=Hd (show (w4.setCell ⟨O,i,none⟩ (.slice (some ⟨g2,0,none⟩) (c+1) cap2)).ownsRow b Dr.tU8 1 (.slice (some ⟨g5,0,none⟩) n co') n (cE lc) from row_other HV4.out (block_ne HV4.out HO4.out (by decide) rfl))
          have HW5:=Hd (show (w4.setCell ⟨O,i,none⟩ (.slice (some ⟨g2,0,none⟩) (c+1) cap2)).ownsRow b tInt 1 (.slice Bw ws.length cw) ws.length (cN ws) from row_other hw4 (block_ne hw4 HO4.out (by decide) rfl))
          have HDV2:=Hd (show ∀ x,x<n->∀ g,(if x=i then Value.slice (some ⟨g2,0,none⟩) (c+1) cap2 else v x).ownBlock=some g->g≠g5 from fun x hx g hg e=>by
           by_cases h1:x=i
           ·rw[if_pos h1] at hg
            have h2:g2=g:=by simpa [Value.ownBlock] using hg
            rcases HAT2.out with h3 | h3
            ·exact HDV1.out i hin g (by rw[HVI.out,h3,h2]) e
            ·omega
           ·rw[if_neg h1] at hg
            exact HDV1.out x hx g hg e)
          clear hp hp2 hw4
          go_wp2
          go_roundw
          case rel=>exact⟨i+1,_,by go_num,by omega,HP.out,HV5.out,HW5.out,HDV2.out⟩
          case measure=>simp[intOf];omega
         ·obtain rfl:i=n:=by omega
          have HDX:=Hd (hd.congr (ln':=fun _=>c+1) (g:=fun y=>metB col c y||(ws.take 0).contains y) (fun x hx=>by rw[if_pos hx]) (fun y _=>by simp))
          have HWX:=Hd how
          clear hd hov how hdv
          go_wp2
          go_loopw [21] (fun tv wr=>∃ u:Nat,tv = .int .i64 (u:Int)/\u<=ws.length/\DocM w2 wr O O (O+1) i v (fun _=>c+1) (fun y=>metB col c y||(ws.take u).contains y)/\wr.ownsRow b tInt 1 (.slice Bw ws.length cw) ws.length (cN ws)) (fun tv _=>ws.length - (intOf tv).toNat)
          case atStart=>exact⟨0,rfl,Nat.zero_le _,HDX.out,HWX.out⟩
          case round=>
           obtain⟨u,rfl,hu,hd,how⟩:=hrel
           by_cases huw:u<ws.length
           ·have huw2:(u:Int)<(ws.length:Int):=by omega
            obtain⟨aw,hAw,haw,e1⟩:=rd_num (Rd.of_own how) huw
            subst hAw
            obtain⟨m,hm⟩:∃ m,ws.getD u 0=m:=⟨_,rfl⟩
            rw[hm] at e1
            have hmi:m<i:=HWSA.out m (by rw[<-hm];exact List.mem_of_getElem? (getD_get huw))
            have e2:=hd.metCell hmi
            have e3:wr.frozen? ⟨O+1,m,none⟩=false:=ow_free hd.met
            have htk:ws.take (u+1)=ws.take u++[m]:=take_get huw hm
            have HMX3:=Hd ((hd.setMet m true).congr (ln':=fun _=>c+1) (g:=fun y=>metB col c y||(ws.take (u+1)).contains y) (fun _ _=>rfl) (fun y _=>by
             rw[htk]
             by_cases h:y=m
             ·subst h;simp
             ·simp[h]))
            have HOW3:=Hd (show (wr.setCell ⟨O+1,m,none⟩ (.bool true)).ownsRow b tInt 1 (.slice (some aw) ws.length cw) ws.length (cN ws) from row_other how (block_ne how hd.met (by decide) rfl))
            have hmi2:(m:Int)<(i:Int):=by omega
            have hm00:(0:Int)<=(m:Int):=by omega
            clear hd how hm htk
            go_wp2
            go_roundw
            case rel=>exact⟨u+1,by go_num,by omega,HMX3.out,HOW3.out⟩
            case measure=>simp[intOf];omega
           ·obtain rfl:u=ws.length:=by omega
            have HMX3:=Hd (hd.congr (ln':=fun _=>c+1) (g:=metB col (c+1)) (fun _ _=>rfl) (fun y _=>by rw[metB_succ,HSOME.out,List.take_length];rfl))
            have HCS2:=Hd (show ∀ c',c'<c+1->(col c').isSome=true from fun c' hc'=>by
             by_cases h:c'=c
             ·subst h;rw[HSOME.out];rfl
             ·exact HCS.out c' (by omega))
            clear hd how
            go_wp2
            go_roundw
            case rel=>exact⟨c+1,_,by go_num,by omega,HMX3.out,HCS2.out⟩
            case measure=>simp[intOf];omega
    ·obtain rfl:c=l:=by omega
     have hbk:Below w.heap.size w wr:=HW2.out.trans (hd.below.mono (by have:=HV.out;omega))
     have HBK:=Hd hbk
     have HMR:=Hd (show mendF (k:Int) R=some (metL (metB col c) n) by rw[HMF.out,mendR_some hcs];rfl)
     obtain⟨G,hG⟩:∃ G,wr.heap.size=G:=⟨_,rfl⟩
     have HG:=Hd hG
     obtain⟨wo,rfl⟩:∃ wo,wo=wr:=⟨_,rfl⟩
     have HME:=Hd hd
     have HB0X:=Hd (show Below G wo wo from Below.refl _ _)
     clear hd hcs hbk hG
     go_wp2
     go_loopw [22,23] (fun v iv wr=>∃ i:Nat,iv = .int .i64 (i:Int)/\i<=n/\wr.ownsRow G tInt 1 v (metL (metB col c) i).length (cN (metL (metB col c) i))/\Below G wo wr) (fun _ iv _=>n - (intOf iv).toNat)
     case atStart=>exact⟨0,rfl,Nat.zero_le _,World.ownsRow_nil _ _ _ _,HB0X.out⟩
     case round=>
      obtain⟨i,rfl,hi,hown,hb⟩:=hrel
      have hbo:Below wo.heap.size wo wr:=by rw[HG.out];exact hb
      by_cases hin:i<n
      ·have hin2:(i:Int)<(n:Int):=by omega
       have hi00:(0:Int)<=(i:Int):=by omega
       obtain⟨mb,hmb⟩:∃ mb,metB col c i=mb:=⟨_,rfl⟩
       have e1:=(HME.out.next hbo hOr).metCell hin
       rw[hmb] at e1
       have hs:=metL_succ (metB col c) i
       rw[hmb] at hs
       have hle:=metL_le (metB col c) i
       obtain⟨Mx,hMx⟩:∃ Mx,metL (metB col c) i=Mx:=⟨_,rfl⟩
       rw[hMx] at hs hown hle
       obtain⟨Ao,co',rfl,hco,_⟩:=own_form hown
       cases mb with
       | false=>
        rw[if_neg (by simp)] at hs
        have HOX:=Hd hown
        have HBX:=Hd hb
        have HS:=Hd hs
        clear hown hb hs hMx hmb hbo
        go_wp2
        go_roundw
        case rel=>exact⟨i+1,by go_num,by omega,by rw[HS.out];exact HOX.out,HBX.out⟩
        case measure=>simp[intOf];omega
       | true=>
        rw[if_pos rfl] at hs
        have hGs:G<=wr.heap.size:=by have:=hb.size;have:=HG.out;omega
        have hl1:=run_litV wr 30 tInt (.int .i64 0) (.int .i64 (i:Int)) 8 Tryz.underlying30 infoInt rfl
        have HO1:=Hd (Dr.own_alloc hown (.cells #[.int .i64 (i:Int)] tInt))
        have HRX:=Hd (rd_new wr (.int .i64 (i:Int)) tInt)
        have HBX:=Hd (hb.alloc hGs (.cells #[.int .i64 (i:Int)] tInt))
        have HS:=Hd hs
        clear hown hb hs hMx hmb hbo
        go_wp2_with (at_builtin;go_loud (refine wpList_append_rd _ rfl (.tmp 168) (.tmp 170) 30 rfl G tInt j0 (.int .i64 0) 1 8 Tryz.underlying30 hj0 hy0 hy1 hy2 rfl (by decide) (.slice Ao Mx.length co') Mx.length (cN Mx) rfl HO1.out _ (some ⟨wr.heap.size,0,none⟩) 1 1 [.int .i64 (i:Int)] rfl HRX.out (fun h=>by cases h) (by simp[Value.oneCell']) (by unfold maxLen;omega) (by omega) (by simp;omega) ?_);intro v' w' hrow hg;go_loud (have hb2:=HBX.out.grown hg (by simp;omega) (fun j hj=>Dr.own_ge HO1.out hj));have HROW:=Hd hrow;have HB2X:=Hd hb2;clear hrow hg hb2)
        have hrow:=HROW.out
        have hlenm:(metL (metB col c) (i+1)).length=Mx.length+1:=by rw[HS.out];simp
        have hcsm:cN (metL (metB col c) (i+1))=cN Mx++[.int .i64 (i:Int)]:=by rw[HS.out];simp
        obtain⟨A3x,c3x,rfl,_,_⟩:=own_form hrow
        go_roundw
        case rel=>exact⟨i+1,by go_num,by omega,by rw[hlenm,hcsm];exact hrow,HB2X.out⟩
        case measure=>simp[intOf];omega
      ·obtain rfl:i=n:=by omega
       have hnum:=num_form hown
       obtain⟨Ao,co',rfl,hco,_⟩:=own_form hown
       have HNUM:=Hd hnum
       have HBF:=Hd (HBK.out.trans (hbo.mono HBK.out.size))
       clear hown hb hnum hbo
       go_wp2
       refine bodyPost_ret (v:=.tuple #[slE O i,.slice Ao (metL (metB col c) i).length co',.int .i64 0]) (by simp[results,Tryz.results16,go_sem]) rfl ?_
       exact⟨.inr ⟨_,_,_,HMR.out,rfl,HNUM.out⟩,HBF.out⟩
end Go.Proofs.YtmgljaecmchgaaaGreat.Gf
