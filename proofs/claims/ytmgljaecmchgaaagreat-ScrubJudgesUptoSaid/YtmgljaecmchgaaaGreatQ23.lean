/- XMe6: merged by tools/merge.py. -/
import Derived.Test.YtmgljaecmchgaaaGreatQ22
import Derived.WalkMore
set_option linter.unusedVariables false
set_option linter.unusedSimpArgs false
set_option linter.unusedSectionVars false
namespace Go.Proofs.YtmgljaecmchgaaaGreat.Gf
open Go.RowKit Go.Proofs
theorem MeasOk.form {w w':World} {R:List (List UInt8)} {n:Nat} {x:Ending} (h:MeasOk w w' R n x):∃ (A:Option Addr) (m c:Nat) (len e:Int),x = .returned (.tuple #[.slice A m c,.int .i64 len,.int .i64 e])/\((e=41/\meas R 0=none)\/(e=0/\∃ (l L:Nat),meas R 0=some l/\len=(l:Int)/\A=some ⟨L,0,none⟩/\m=n/\c=n/\w'.ownsRow w.heap.size tBool 1 (slE L n) n (Dr.cBool (lostB R))))/\Below w.heap.size w w':=by
 rcases h.out with ⟨h1,h2⟩ | ⟨l,L,h1,h2,h3,h4⟩
 ·exact⟨_,_,_,_,_,h2,.inl ⟨rfl,h1⟩,h.back⟩
 ·exact⟨_,_,_,_,_,h3,.inr ⟨rfl,l,L,h1,rfl,rfl,rfl,rfl,h4⟩,h.back⟩
theorem ColOk.form {w w':World} {n k:Nat} {AL:List Nat} {word:Nat->UInt8} {x:Ending} (h:ColOk w w' n k AL word x):∃ (A B:Option Addr) (m c m2 c2:Nat) (e:Int),x = .returned (.tuple #[.slice A m c,.slice B m2 c2,.int .i64 e])/\((e=50/\colR k AL word=none)\/(e=0/\∃ (V:Nat) (l:List E) (ws:List Nat),colR k AL word=some ws/\A=some ⟨V,0,none⟩/\m=n/\c=n/\m2=ws.length/\w'.ownsRow w.heap.size tEl 1 (slE V n) n (cE l)/\w'.ownsRow w.heap.size tInt 1 (.slice B ws.length c2) ws.length (cN ws)))/\Below w.heap.size w w':=by
 rcases h.out with ⟨h1,h2,h3⟩ | ⟨V,wv,l,ws,h1,h2,h3,h4,h5⟩
 ·exact⟨_,_,_,_,_,_,_,h2,.inl ⟨rfl,h1⟩,h3⟩
 ·obtain⟨B,c2,rfl,_,_⟩:=own_form h4
  exact⟨_,_,_,_,_,_,_,h2,.inr ⟨rfl,V,l,ws,h1,rfl,rfl,rfl,rfl,h3,h4⟩,h5⟩
theorem colR_sub {k:Nat} {A:List Nat} {word:Nat->UInt8} {ws:List Nat} (h:colR k A word=some ws):∀ i∈ws,i∈A:=by
 unfold colR at h
 split at h
 ·injection h with h
  subst h
  intro i hi
  exact (List.mem_filter.1 hi).1
 ·cases h
theorem colR_len {k:Nat} {A:List Nat} {word:Nat->UInt8} {ws:List Nat} (h:colR k A word=some ws):ws.length<=A.length:=by
 unfold colR at h
 split at h
 ·injection h with h
  subst h
  exact List.length_filter_le _ _
 ·cases h
structure MendOk (w w':World) (k:Int) (R:List (List UInt8)) (x:Ending):Prop where
 out:(mendF k R=none/\∃ e:Int,e≠0/\x = .returned (.tuple #[.slice none 0 0,.slice none 0 0,.int .i64 e]))\/
  (∃ ov wv ws,mendF k R=some ws/\x = .returned (.tuple #[ov,wv,.int .i64 0])/\NumV w' wv ws)
 back:Below w.heap.size w w'
theorem mendF_eq {k:Int} {kk:Nat} {R:List (List UInt8)} {len:Nat} (hk:k=(kk:Int)) (h1:1<=kk) (h2:kk<=R.length) (h3:R.length<=255) (hm:meas R 0=some len) (hN:kk<=(thereR R).length):mendF k R=mendR R.length len fun c=>colR kk (thereR R) (colOf R c):=by
 unfold mendF
 rw[if_neg (by omega),hm]
 dsimp only
 rw[if_neg (by omega),hk,Int.toNat_natCast]
abbrev tRs:TypeId:=79
theorem infoRs:(Tryz.prog.info? tRs).map (fun i=>(i.zero,i.size,i.bytes))=some (some (.slice none 0 0),1,24):=by kernel_rfl
def metL (f:Nat->Bool) (i:Nat):List Nat:=(List.range i).filter f
theorem metL_succ (f:Nat->Bool) (i:Nat):metL f (i+1)=if f i=true then metL f i++[i] else metL f i:=by
 unfold metL
 rw[List.range_succ,List.filter_append]
 cases h:f i<;>simp[h]
theorem metL_le (f:Nat->Bool) (i:Nat):(metL f i).length<=i:=Nat.le_trans (List.length_filter_le _ _) (by simp)
theorem sumW_succ (l:List E) (A:List Nat) (word:Nat->UInt8) (t:Nat):sumW l A word (t+1)=sumW l A word t+co l t*toE (word (A.getD t 0)):=rfl
set_option maxRecDepth 100000 in
set_option maxHeartbeats 40000000 in
theorem mend_any {w:World} {B n c0:Nat} {A0:Option Addr} {R:List (List UInt8)} {k:Int} (hR:RowsRd w B A0 n R) (hB:B<=w.heap.size) (hlen:∀ r∈R,r.length<=1099511627776) :
  Calls Tryz.prog 35 #[.int .i64 k,.slice A0 n c0] w fun x w'=>MendOk w w' k R x:=by
 obtain⟨i0,hi0,hz0,hz1,hz2⟩:=info_parts infoInt
 have hRl:=hR.len
 have HR:=Hd hR
 have HLEN:=Hd hlen
 have HRL:=Hd hRl
 clear hR hlen hRl
 go_enter Tryz.func35,Tryz.ntmps35
 go_wp2
 go_step3
 by_cases g1:k<1
 ·go_wp2
  try rw[Exit.noGoto_ret]
  refine bodyPost_ret (v:=.tuple #[.slice none 0 0,.slice none 0 0,.int .i64 2]) (by simp[results,Tryz.results35,go_sem]) rfl ?_
  exact⟨.inl ⟨by unfold mendF;rw[if_pos (.inl g1)],2,by decide,rfl⟩,Below.refl _ _⟩
 by_cases g2:(n:Int)<k
 ·go_wp2
  try rw[Exit.noGoto_ret]
  refine bodyPost_ret (v:=.tuple #[.slice none 0 0,.slice none 0 0,.int .i64 2]) (by simp[results,Tryz.results35,go_sem]) rfl ?_
  exact⟨.inl ⟨by unfold mendF;rw[if_pos (.inr (.inl (by rw[HRL.out];exact g2)))],2,by decide,rfl⟩,Below.refl _ _⟩
 by_cases g3:(255:Int)<(n:Int)
 ·go_wp2
  try rw[Exit.noGoto_ret]
  refine bodyPost_ret (v:=.tuple #[.slice none 0 0,.slice none 0 0,.int .i64 2]) (by simp[results,Tryz.results35,go_sem]) rfl ?_
  exact⟨.inl ⟨by unfold mendF;rw[if_pos (.inr (.inr (by rw[HRL.out];omega)))],2,by decide,rfl⟩,Below.refl _ _⟩
 obtain⟨k,rfl⟩:∃ kk:Nat,k=(kk:Int):=⟨k.toNat,by omega⟩
 have hn:n<=255:=by omega
 go_upto_region 5 with (go_at_call 75;refine (measure_any HR.out hB (by omega) (fun r hr=>Nat.le_trans (HLEN.out r hr) (by decide))).mono ?_;intro x w1 h;obtain⟨AL0,mz,cl0,lenI,e,rfl,hor,hb1⟩:=h.form;have HOR:=Hd hor;have HB1:=Hd hb1;clear h hor hb1)
 rcases HOR.out with ⟨rfl,hm⟩ | ⟨rfl,len,L,hm,rfl,rfl,hmn,hcn,hlost⟩
 ·clear HOR
  have HM:=Hd hm
  clear hm
  go_wp2
  try rw[Exit.noGoto_ret]
  refine bodyPost_ret (v:=.tuple #[.slice none 0 0,.slice none 0 0,.int .i64 41]) (by simp[results,Tryz.results35,go_sem]) rfl ?_
  refine⟨.inl ⟨?_,41,by decide,rfl⟩,HB1.out⟩
  unfold mendF
  split
  ·rfl
  ·rw[HM.out]
 clear HOR
 subst hmn
 obtain⟨n,rfl⟩:∃ n,n=mz:=⟨_,rfl⟩
 rw[hcn]
 clear hcn
 have HLO:=Hd hlost
 have HRLO:=Hd (Rd.of_own hlost)
 have hlen0:len<=1099511627776:=meas_le HLEN.out (Nat.zero_le _) hm
 have hlall:=(meas_all hm).2
 have HM:=Hd hm
 have HLALL:=Hd hlall
 clear hlost hm hlall
 obtain⟨AL,hAL⟩:∃ AL,thB (lostB R) n=AL:=⟨_,rfl⟩
 obtain⟨N,hN⟩:∃ N,AL.length=N:=⟨_,rfl⟩
 have hNn:N<=n:=by rw[<-hN,<-hAL];exact thB_le _ _
 have hTR:thereR R=AL:=by rw[thereR_eq,HRL.out,hAL]
 have HND:=Hd (show AL.Nodup by rw[<-hAL];exact thB_nodup _ _)
 have HLT:=Hd (show ∀ i∈AL,i<n from fun i hi=>by rw[<-hAL] at hi;exact thB_lt hi)
 have HAL:=Hd hAL
 have HN:=Hd hN
 have HTR:=Hd hTR
 clear hAL hN hTR
 go_upto_region 8 with (go_at_call 76;refine (there_any HRLO.out (Nat.le_refl _) (by omega)).mono ?_;rintro x w2 ⟨v2,rfl,h2,b2⟩;rw[HAL.out] at h2;rw[HN.out] at h2;obtain⟨A1,c1,rfl,hc1,_⟩:=own_form h2;have H2:=Hd (Rd.of_own h2);have HB2:=Hd b2;clear h2 b2)
 by_cases g4:(N:Int)<(k:Int)
 ·go_wp2
  try rw[Exit.noGoto_ret]
  refine bodyPost_ret (v:=.tuple #[.slice none 0 0,.slice none 0 0,.int .i64 42]) (by simp[results,Tryz.results35,go_sem]) rfl ?_
  refine⟨.inl ⟨?_,42,by decide,rfl⟩,bch HB1.out HB2.out⟩
  unfold mendF
  split
  ·rfl
  ·rw[HM.out]
   dsimp only
   rw[if_pos (by rw[HTR.out,HN.out];exact g4)]
 have hk1:1<=k:=by omega
 have hkN:k<=N:=by omega
 obtain⟨a1,rfl⟩:∃ a1,A1=some a1:=by
  obtain⟨a1,h,_⟩:=H2.out.2 (by omega)
  exact⟨a1,h⟩
 have ha1:a1.block<w2.heap.size:=by
  obtain⟨a,h,h1,_⟩:=H2.out.2 (by omega)
  injection h with h
  rw[h];exact h1
 obtain⟨O,hO⟩:∃ O,w2.heap.size=O:=⟨_,rfl⟩
 have hmO:=run_makeV w2 67 tRs (.slice none 0 0) 24 Tryz.underlying67 infoRs rfl (by decide) n (by omega)
 have hmB:=fun W=>run_makeV W 79 Dr.tU8 (.int .u8 0) 1 Tryz.underlying79 Dr.infoU8 rfl (by decide) len hlen0
 have hmM:=fun W=>run_makeV W 73 tBool (.bool false) 1 Tryz.underlying73 infoBool rfl (by decide) n (by omega)
 obtain⟨ZO,hZO⟩:∃ Z,(fromV n fun _=>Value.slice none 0 0)=Z:=⟨_,rfl⟩
 obtain⟨ZB,hZB⟩:∃ Z,(fromV len fun _=>Value.int .u8 0)=Z:=⟨_,rfl⟩
 obtain⟨ZM,hZM⟩:∃ Z,(fromV n fun _=>Value.bool false)=Z:=⟨_,rfl⟩
 rw[hZO] at hmO
 rw[hZB] at hmB
 rw[hZM] at hmM
 have hout0:(w2.alloc (.cells ZO.toArray tRs)).ownsRow O tRs 1 (slE O n) n (fromV n (upto (fun x=>slE (O+1+x) len) (.slice none 0 0) 0)):=by
  rw[upto_zero,hZO,<-hO]
  exact Dr.own_new w2 (Nat.le_refl _) tRs 1 n ZO (by rw[<-hZO];simp[fromV]) (by unfold maxLen;omega)
 have hbO0:Below O w2 (w2.alloc (.cells ZO.toArray tRs)):=by rw[<-hO];exact (Below.refl _ w2).alloc (Nat.le_refl _) _
 have hsz0:(w2.alloc (.cells ZO.toArray tRs)).heap.size=O+1:=by rw[<-hO];simp
 have HOUT0:=Hd hout0
 have HBO0:=Hd hbO0
 have HSZ0:=Hd hsz0
 have HO:=Hd hO
 have HMB:=Hd hmB
 have HMM:=Hd hmM
 have HZB:=Hd hZB
 have HZM:=Hd hZM
 clear hout0 hbO0 hsz0 hZO hZB hZM hmB hmM
 go_wp2
 clear hmO hO
 go_loopw [64] (fun iv wr=>∃ i:Nat,iv = .int .i64 (i:Int)/\i<=n/\wr.heap.size=O+1+i/\wr.ownsRow O tRs 1 (slE O n) n (fromV n (upto (fun x=>slE (O+1+x) len) (.slice none 0 0) i))/\(∀ x,x<i->∃ l:List UInt8,wr.ownsRow 0 Dr.tU8 1 (slE (O+1+x) len) len (cU8 l))/\Below O w2 wr) (fun iv _=>n - (intOf iv).toNat)
 case atStart=>exact⟨0,rfl,Nat.zero_le _,HSZ0.out,HOUT0.out,(fun x hx=>by omega),HBO0.out⟩
 case round=>
  obtain⟨i,rfl,hi,hsz,hout,hrows,hb⟩:=hrel
  by_cases him:i<n
  ·have him2:(i:Int)<(n:Int):=by omega
   have hmB:=HMB.out
   have co1:=Dr.own_alloc hout (.cells ZB.toArray Dr.tU8)
   have k1:=ow_cell co1 him (by rw[fromV_get him,upto_at])
   have k2:(wr.alloc (.cells ZB.toArray Dr.tU8)).frozen? ⟨O,i,none⟩=false:=ow_free co1
   have hn1:=ow_store (i:=i) co1 (slE (O+1+i) len)
   rw[fromV_set,upto_step' (a:=fun x=>slE (O+1+x) len) rfl] at hn1
   have hrow:=Dr.own_new wr (base:=0) (Nat.zero_le _) Dr.tU8 1 len ZB (by rw[<-HZB.out];simp[fromV]) (by unfold maxLen;omega)
   rw[hsz] at hrow
   have hZc:ZB=cU8 (List.replicate len 0):=by
    rw[<-HZB.out]
    apply List.ext_getElem?
    intro j
    by_cases hj:j<len
    ·rw[fromV_get hj,List.getElem?_map,List.getElem?_replicate,if_pos hj];rfl
    ·rw[List.getElem?_eq_none (by rw[fromV_len];omega),List.getElem?_eq_none (by simp;omega)]
   have hrow2:=ow_other (i:=i) hrow (b:=O) (by omega) (slE (O+1+i) len)
   have HN1:=Hd hn1
   have HROWS:=Hd (show ∀ x,x<i+1->∃ l:List UInt8,((wr.alloc (.cells ZB.toArray Dr.tU8)).setCell ⟨O,i,none⟩ (slE (O+1+i) len)).ownsRow 0 Dr.tU8 1 (slE (O+1+x) len) len (cU8 l) from fun x hx=>by
    by_cases e:x=i
    ·subst e
     exact⟨List.replicate len 0,by rw[<-hZc];exact hrow2⟩
    ·obtain⟨l,hl⟩:=hrows x (by omega)
     exact⟨l,ow_other (Dr.own_alloc hl _) (by omega) _⟩)
   have HBX:=Hd ((hb.alloc (by omega) (.cells ZB.toArray Dr.tU8)).setCell (p:=⟨O,i,none⟩) (Nat.le_refl _) (slE (O+1+i) len))
   have hszz:((wr.alloc (.cells ZB.toArray Dr.tU8)).setCell ⟨O,i,none⟩ (slE (O+1+i) len)).heap.size=O+1+(i+1):=by simp[World.setCell,hsz];omega
   have HSZZ:=Hd hszz
   clear hout co1 hn1 hrow hrow2 hrows hb hZc hszz
   go_wp2
   go_roundw
   case rel=>exact⟨i+1,by go_num,by omega,HSZZ.out,HN1.out,HROWS.out,HBX.out⟩
   case measure=>simp[intOf];omega
  ·obtain rfl:i=n:=by omega
   have e1:fromV i (upto (fun x=>slE (O+1+x) len) (.slice none 0 0) i)=fromV i (fun x=>slE (O+1+x) len):=fromV_congr fun j hj=>upto_all hj
   rw[e1] at hout
   obtain⟨w3,hw3⟩:∃ w3,wr.alloc (.cells ZM.toArray tBool)=w3:=⟨_,rfl⟩
   have hmet:w3.ownsRow 0 tBool 1 (slE (O+1+i) i) i (fromV i fun _=>.bool false):=by
    have h:=Dr.own_new wr (base:=0) (Nat.zero_le _) tBool 1 i ZM (by rw[<-HZM.out];simp[fromV]) (by unfold maxLen;omega)
    rw[hsz] at h
    rw[<-hw3,HZM.out]
    exact h
   have hb3:Below O w2 w3:=by rw[<-hw3];exact hb.alloc (by omega) _
   have hs3:w3.heap.size=O+1+i+1:=by rw[<-hw3];simp[hsz]
   have hout3:w3.ownsRow O tRs 1 (slE O i) i (fromV i fun x=>slE (O+1+x) len):=by rw[<-hw3];exact Dr.own_alloc hout _
   have hrows3:∀ x,x<i->∃ l:List UInt8,w3.ownsRow 0 Dr.tU8 1 (slE (O+1+x) len) len (cU8 l):=fun x hx=>by obtain⟨l,hl⟩:=hrows x hx;exact⟨l,by rw[<-hw3];exact Dr.own_alloc hl _⟩
   have hmM:=HMM.out
   have hslk:=fun W=>slice_toI W (A:=some a1) (n:=N) (c:=c1) (q:=k) (by omega)
   have HMET:=Hd hmet
   have HB3:=Hd hb3
   have HS3:=Hd hs3
   have HOUT3:=Hd hout3
   have HROWS3:=Hd hrows3
   have HWS:=Hd hsz
   obtain⟨AK,hAK⟩:∃ AK,AL.take k=AK:=⟨_,rfl⟩
   have hAKl:AK.length=k:=by rw[<-hAK,List.length_take,HN.out];omega
   have HAK:=Hd hAK
   have HAKL:=Hd hAKl
   clear hout hrows hb e1 hmet hb3 hs3 hout3 hrows3 hsz hAK hAKl
   have HSLK:=Hd hslk
   have hak3:Rd w3 O 1 (some a1) k (cN AK):=by
    have h:=H2.out
    rw[HO.out] at h
    have h2:=h.below HB3.out
    rw[<-HAK.out]
    obtain⟨ad,e,hb,hc⟩:=h2.2 (by omega)
    injection e with e
    subst e
    have hAl:(cN (AL.take k)).length=k:=by simp[HN.out];omega
    refine⟨by rw[hAl];omega,fun _=>⟨_,rfl,hb,fun j u hu=>hc j u ?_⟩⟩
    rw[List.getElem?_map,List.getElem?_take] at hu
    rw[List.getElem?_map]
    split at hu
    ·exact hu
    ·cases hu
   have HAK3:=Hd hak3
   have HSWR:=Hd hw3
   clear hak3
   go_wp2_with (go_at_call 77;refine (weights_any HAK3.out (by have:=HS3.out;omega) hn (by omega) (fun j hj=>HLT.out j (by rw[<-HAK.out] at hj;exact List.mem_of_mem_take hj))).mono ?_;intro x w4 h4;obtain⟨V,Ow,g,hV,rfl,hwm,hb4⟩:=h4.out;have HVW:=Hd hV;have HWM:=Hd hwm;have HB4:=Hd hb4;clear h4 hV hwm hb4)
   rw[HWS.out]
   obtain⟨n,rfl⟩:∃ n,n=i:=⟨_,rfl⟩
   obtain⟨col,hcol⟩:∃ col:Nat->Option (List Nat),(fun c=>colR k AL (colOf R c))=col:=⟨_,rfl⟩
   have hcolc:∀ c,col c=colR k AL (colOf R c):=fun c=>by rw[<-hcol]
   have hmf:mendF (k:Int) R=mendR n len col:=by
    rw[mendF_eq rfl hk1 (by rw[HRL.out];omega) (by rw[HRL.out];exact hn) HM.out (by rw[HTR.out,HN.out];exact hkN),HRL.out,HTR.out,<-hcol]
   obtain⟨lw,hlw⟩:=HWM.out.pick
   rw[HAKL.out] at hlw
   have hS3:=HS3.out
   have hVl:=HVW.out
   have hvo:=HWM.out.vo
   have hout4:=own_below HOUT3.out HB4.out
   have hOw:=(ow_lt HWM.out.out).2
   have hsz4:=HB4.out.size
   have hbO4:Below O w2 w4:=HB3.out.trans (HB4.out.mono (by omega))
   have KOUT:=Hd (show ∀ x,x<n->w4.cell? ⟨O,x,none⟩=some (slE (O+1+x) len) from fun x hx=>ow_cell hout4 hx (fromV_get hx))
   have KW:=Hd (show ∀ x,x<n->w4.cell? ⟨Ow,x,none⟩=some (slE (g x) k) from fun x hx=>by
    have h:=ow_cell HWM.out.out hx (fromV_get hx)
    rw[upto_all hx,HAKL.out] at h
    exact h)
   have KV:=Hd (show ∀ x j,x<n->j<k->w4.cell? ⟨g x,j,none⟩=some (.int .u8 ((unE (co (lw x) j)).toNat:Int)) from fun x j hx hj=>by
    have h:=(hlw x hx).1
    have hl:(lw x).length=k:=by simpa using h.1
    exact ow_cell h hj (cE_get (by rw[List.getElem?_eq_getElem (by omega),co_get (by omega)])))
   have KB:=Hd (show ∀ x,x<n->O+1+n<g x/\g x<w4.heap.size from fun x hx=>by
    have h:=ow_lt (hlw x hx).1
    omega)
   have KO:=Hd (show O+1+n<Ow/\Ow<w4.heap.size from⟨by omega,hOw⟩)
   have HLW:=Hd (show ∀ x,x<n->x∉AK->lw x=wRow AK x from fun x hx=>(hlw x hx).2)
   have HLOW:=Hd (show ∀ wr f,MenM w4 wr O n len f->Below O w2 wr from fun wr f h=>h.low (Nat.le_refl _) hbO4 (by omega))
   have HO4:=Hd (show O<w4.heap.size by omega)
   have HMEN:=Hd (show MenM w4 w4 O n len (fun _=>false) from⟨Kept.refl _ _,own_below HMET.out HB4.out,fun x hx=>by obtain⟨l,hl⟩:=HROWS3.out x hx;exact⟨l,own_below hl HB4.out⟩⟩)
   have HB12:=Hd (bch HB1.out HB2.out)
   have HWO:=Hd (show w.heap.size<=O by have h1:=(bch HB1.out HB2.out).size;rw[HO.out] at h1;exact h1)
   have HW1O:=Hd (show w1.heap.size<=O by have h1:=HB2.out.size;rw[HO.out] at h1;exact h1)
   have HNZ:=Hd (show ∀ a∈AL,(R.getD a []).length=len from fun a ha=>by
    have han:=HLT.out a ha
    have h1:a∈thB (lostB R) n:=by rw[HAL.out];exact ha
    have h2:=(List.mem_filter.1 h1).2
    rw[lostB_at (by rw[HRL.out];exact han)] at h2
    exact HLALL.out _ (List.mem_of_getElem? (getD_get (by rw[HRL.out];exact han))) (by simpa using h2))
   have HCOLC:=Hd hcolc
   have HMF:=Hd hmf
   obtain⟨A2,hsl2,hA2⟩:=slice_fromI a1 (n:=N) (c:=c1) (q:=k) hkN hc1
   have HSL2:=Hd hsl2
   have HA2:=Hd hA2
   have ha1O:a1.block<O:=by have:=ha1;rw[HO.out] at this;exact this
   clear hcol hcolc hmf hlw hS3 hVl hvo hout4 hOw hsz4 hbO4 hsl2 hA2 HMB HMM HZB HZM HSWR HOUT3 HROWS3 HMET HOUT0 HBO0 HSZ0
   go_step3
   go_wp2
   go_loopw [81] (fun cv wr=>∃ c:Nat,cv = .int .i64 (c:Int)/\c<=len/\MenM w4 wr O n len (metB col c)/\∀ c',c'<c->(col c').isSome=true) (fun cv _=>len - (intOf cv).toNat)
   case atStart=>exact⟨0,rfl,Nat.zero_le _,HMEN.out.congr (fun i _=>rfl),fun c' hc'=>by omega⟩
   case round=>
    obtain⟨c,rfl,hc,hmen,hcs⟩:=hrel
    by_cases hcl:c<len
    ·have hcl2:(c:Int)<(len:Int):=by omega
     obtain⟨Sx,hSx⟩:∃ Sx:Nat->E,(fun y=>sumW (lw y) AK (colOf R c) k)=Sx:=⟨_,rfl⟩
     have HSX:=Hd (show ∀ y,Sx y=sumW (lw y) AK (colOf R c) k from fun y=>by rw[<-hSx])
     have HME:=Hd hmen
     have HCS:=Hd hcs
     clear hSx hmen hcs
     go_wp2
     go_loopw [85] (fun xv wr=>∃ x:Nat,xv = .int .i64 (x:Int)/\x<=n/\MenM w4 wr O n len (metB col c)/\∀ y,y<x->wr.cell? ⟨O+1+y,c,none⟩=some (.int .u8 ((unE (Sx y)).toNat:Int))) (fun xv _=>n - (intOf xv).toNat)
     case atStart=>exact⟨0,rfl,Nat.zero_le _,HME.out,fun y hy=>by omega⟩
     case round=>
      obtain⟨x,rfl,hx,hmen,hcel⟩:=hrel
      by_cases hxn:x<n
      ·have hxn2:(x:Int)<(n:Int):=by omega
       have HME:=Hd hmen
       have HCE:=Hd hcel
       have hslk:=HSLK.out
       clear hmen hcel
       go_wp2
       clear hslk
       go_loopw [18,92] (fun sv jv wr=>∃ j:Nat,jv = .int .i64 (j:Int)/\j<=k/\sv = .int .u8 ((unE (sumW (lw x) AK (colOf R c) j)).toNat:Int)/\MenM w4 wr O n len (metB col c)/\∀ y,y<x->wr.cell? ⟨O+1+y,c,none⟩=some (.int .u8 ((unE (Sx y)).toNat:Int))) (fun _ jv _=>k - (intOf jv).toNat)
       case atStart=>exact⟨0,rfl,Nat.zero_le _,rfl,HME.out,HCE.out⟩
       case round=>
        obtain⟨j,rfl,hj,rfl,hmen,hcel⟩:=hrel
        by_cases hjk:j<k
        ·have hjk2:(j:Int)<(k:Int):=by omega
         have hlow:=HLOW.out _ _ hmen
         have hak:Rd wr O 1 (some a1) k (cN AK):=HAK3.out.below (by
          have h1:=HB3.out
          exact⟨by rw[hlow.os,h1.os],by rw[hlow.tape,h1.tape],by rw[hlow.output,h1.output],by have:=HS3.out;have:=HO4.out;have:=hmen.kept.size;have:=HB4.out.size;omega,fun b hb=>(hlow.block b hb).trans (h1.block b hb).symm⟩)
         obtain⟨ad,e,had,e1⟩:=rd_num hak hjk
         injection e with e
         subst e
         obtain⟨a,ha⟩:∃ a,AK.getD j 0=a:=⟨_,rfl⟩
         rw[ha] at e1
         have haAL:a∈AL:=by
          have h:a∈AK:=by rw[<-ha];exact List.mem_of_getElem? (getD_get (by rw[HAKL.out];exact hjk))
          rw[<-HAK.out] at h
          exact List.mem_of_mem_take h
         have han:=HLT.out a haAL
         have hrow:=HR.out.below ((HB12.out.mono hB).trans (hlow.mono (by have:=HWO.out;omega)))
         obtain⟨ad0,Aa,ca,rfl,had0,e3,hbyte⟩:=hrow.at_ han
         rw[HNZ.out a haAL] at e3 hbyte
         obtain⟨ab,rfl,hab,e4⟩:=rd_byte hbyte hcl
         obtain⟨b,hb⟩:∃ b,(R.getD a []).getD c 0=b:=⟨_,rfl⟩
         rw[hb] at e4
         obtain⟨wv,hwv⟩:∃ wv,co (lw x) j=wv:=⟨_,rfl⟩
         have e5:wr.cell? ⟨Ow,x,none⟩=some (slE (g x) k):=(hmen.cell (p:=⟨Ow,x,none⟩) KO.out.2 (fun h=>by have h1:=KO.out.1;have h2:Ow<=O+1+n:=h.2;omega)).trans (KW.out x hxn)
         have e6:wr.cell? ⟨g x,j,none⟩=some (.int .u8 ((unE wv).toNat:Int)):=by
          rw[<-hwv]
          exact (hmen.cell (p:=⟨g x,j,none⟩) (KB.out x hxn).2 (fun h=>by have h1:=(KB.out x hxn).1;have h2:g x<=O+1+n:=h.2;omega)).trans (KV.out x j hxn hjk)
         obtain⟨sj,hsj⟩:∃ sj,sumW (lw x) AK (colOf R c) j=sj:=⟨_,rfl⟩
         have hsum:sumW (lw x) AK (colOf R c) (j+1)=sj+wv*toE b:=by rw[sumW_succ,hsj,hwv,ha,<-hb];rfl
         rw[hsj]
         obtain⟨q,hq⟩:∃ q,wv*toE b=q:=⟨_,rfl⟩
         rw[hq] at hsum
         have hm1:mul8 (unE wv) b=unE q:=by rw[<-hq];exact mul_unE wv (toE b)
         have hm2:unE sj ^^^ unE q=unE (sj+q):=add_unE sj q
         have hj0:(0:Int)<=(j:Int):=by omega
         have hc00:(0:Int)<=(c:Int):=by omega
         have ha00:(0:Int)<=(a:Int):=by omega
         have han2:(a:Int)<(n:Int):=by omega
         have HS0:=Hd (And.intro e5 (And.intro e6 (And.intro e3 e4)))
         have HMX:=Hd hmen.drew
         have HCX:=Hd hcel
         have HSUM:=Hd hsum
         have HM1:=Hd hm1
         have HM2:=Hd hm2
         clear hmen hcel e3 e4 e5 e6 hsum hm1 hm2 hq hsj hwv hb hbyte hrow haAL ha hlow hak
         go_upto_region 28 with (fail)
         refine wp_region_any (by kernel_rfl) ?_
         change wpAny _ _ _ _ _ _ _ (World.drew _)
         refine wpAny_of_P (S:=fun w'=>w'.cell? ⟨Ow,x,none⟩=some (slE (g x) k)/\w'.cell? ⟨g x,j,none⟩=some (.int .u8 ((unE wv).toNat:Int))/\w'.cell? (ad0.add a)=some (.slice (some ab) len ca)/\w'.cell? (ab.add c)=some (.int .u8 (b.toNat:Int))) (late:=[17]) _ _ _ _ ?_
         refine tT 0 HS0.out ?_
         try go_frame
         refine tT 1 HS0.out ?_
         try go_frame
         refine tT 2 HS0.out ?_
         try go_frame
         refine tT 3 HS0.out ?_
         try go_frame
         refine tP 8 4 rfl HS0.out (fun w hw=>by obtain⟨y1,y2,y3,y4⟩:=hw;go_simp;try with_reducible rfl) ?_
         try go_frame
         refine tT 5 HS0.out ?_
         try go_frame
         refine tT 6 HS0.out ?_
         try go_frame
         refine tP 8 7 rfl HS0.out (fun w hw=>by obtain⟨y1,y2,y3,y4⟩:=hw;go_simp;try with_reducible rfl) ?_
         try go_frame
         refine tT 8 HS0.out ?_
         try go_frame
         refine tT 9 HS0.out ?_
         try go_frame
         refine tT 10 HS0.out ?_
         try go_frame
         refine tP 8 11 rfl HS0.out (fun w hw=>by obtain⟨y1,y2,y3,y4⟩:=hw;go_simp;try with_reducible rfl) ?_
         try go_frame
         refine tT 12 HS0.out ?_
         try go_frame
         refine tT 13 HS0.out ?_
         try go_frame
         refine tP 8 14 rfl HS0.out (fun w hw=>by obtain⟨y1,y2,y3,y4⟩:=hw;go_simp;try with_reducible rfl) ?_
         try go_frame
         refine fP 15 fun K hK=>?_
         go_simp
         refine (times_any (unE wv) b _).mono ?_;rintro e w5 ⟨rfl,rfl⟩;rw[HM1.out]
         refine hK _ _ (HS0.out) ?_;clear hK K
         try go_frame
         refine fP 16 fun K hK=>?_
         go_simp
         refine (plus_any (unE sj) (unE q) _).mono ?_;rintro e w5 ⟨rfl,rfl⟩;rw[HM2.out]
         refine hK _ _ (HS0.out) ?_;clear hK K
         try go_frame
         refine lP 17 fun K hK=>?_
         go_simp
         refine hK _ _ ?_;clear hK K
         try go_frame
         refine wpAny_done (by kernel_rfl) ?_ _
         go_wp2
         go_roundw
         case rel=>exact⟨j+1,by go_num,by omega,by rw[HSUM.out],HMX.out,HCX.out⟩
         case measure=>simp[intOf];omega
        ·obtain rfl:j=k:=by omega
         have hsx:sumW (lw x) AK (colOf R c) j=Sx x:=(HSX.out x).symm
         rw[hsx]
         obtain⟨sx,hsv⟩:∃ sx,Sx x=sx:=⟨_,rfl⟩
         rw[hsv]
         have e1:wr.cell? ⟨O,x,none⟩=some (slE (O+1+x) len):=(hmen.cell (p:=⟨O,x,none⟩) HO4.out (fun h=>by have h2:O+1<=O:=h.1;omega)).trans (KOUT.out x hxn)
         obtain⟨v0,e2⟩:=hmen.outCell hxn hcl
         have e3:=hmen.outFree (j:=c) hxn
         have HMX:=Hd (hmen.setOut hxn c (unE sx))
         have HCX:=Hd (show ∀ y,y<x+1->(wr.setCell ⟨O+1+x,c,none⟩ (.int .u8 ((unE sx).toNat:Int))).cell? ⟨O+1+y,c,none⟩=some (.int .u8 ((unE (Sx y)).toNat:Int)) from fun y hy=>by
          by_cases h:y=x
          ·subst h
           rw[hsv]
           exact World.cell?_setCell_same' _ _ _ (by rw[e2];rfl)
          ·exact (World.cell?_setCell_other _ _ _ _ (by intro h2;injection h2 with h2;omega)).trans (hcel y (by omega)))
         have hc00:(0:Int)<=(c:Int):=by omega
         clear hmen hcel hsx hsv
         go_wp2
         go_roundw
         case rel=>exact⟨x+1,by go_num,by omega,HMX.out,HCX.out⟩
         case measure=>simp[intOf];omega
      ·obtain rfl:x=n:=by omega
       have HME:=Hd hmen
       have HCE:=Hd hcel
       have hsl2:=HSL2.out
       clear hmen hcel
       go_wp2
       clear hsl2
       go_loopw [127] (fun tv wr=>∃ t:Nat,tv = .int .i64 (t:Int)/\t<=N - k/\MenM w4 wr O x len (metB col c)/\(∀ y,y<x->wr.cell? ⟨O+1+y,c,none⟩=some (.int .u8 ((unE (Sx y)).toNat:Int)))/\∀ t',t'<t->Sx (AL.getD (k+t') 0)=toE (colOf R c (AL.getD (k+t') 0))) (fun tv _=>N - k - (intOf tv).toNat)
       case atStart=>exact⟨0,rfl,Nat.zero_le _,HME.out,HCE.out,fun t' ht'=>by omega⟩
       case round=>
        obtain⟨t,rfl,ht,hmen,hcel,heq⟩:=hrel
        by_cases htN:t<N - k
        ·have htN2:(t:Int)<((N - k:Nat):Int):=by omega
         have htN3:(t:Int)<(N:Int) - (k:Int):=by omega
         have hkc:k<c1:=by omega
         obtain rfl:=HA2.out hkc
         have hlow:=HLOW.out _ _ hmen
         have hat:Rd wr O 1 (some a1) N (cN AL):=by
          have h:=H2.out
          rw[HO.out] at h
          exact h.below hlow
         obtain⟨ad,e,had,e1⟩:=rd_num (rd_drop hat (show k<N by omega)) htN
         injection e with e
         obtain⟨a,ha⟩:∃ a,AL.getD (k+t) 0=a:=⟨_,rfl⟩
         have hget:(AL.drop k).getD t 0=a:=by
          rw[<-ha,List.getD_eq_getElem?_getD,List.getElem?_drop,<-List.getD_eq_getElem?_getD]
         rw[hget] at e1
         rw[<-e] at e1
         have haAL:a∈AL:=by rw[<-ha];exact List.mem_of_getElem? (getD_get (by rw[HN.out];omega))
         have han:=HLT.out a haAL
         have hrow:=HR.out.below ((HB12.out.mono hB).trans (hlow.mono (by have:=HWO.out;omega)))
         obtain⟨ad0,Aa,ca,rfl,had0,e3,hbyte⟩:=hrow.at_ han
         rw[HNZ.out a haAL] at e3 hbyte
         obtain⟨ab,rfl,hab,e4⟩:=rd_byte hbyte hcl
         obtain⟨b,hb⟩:∃ b,(R.getD a []).getD c 0=b:=⟨_,rfl⟩
         rw[hb] at e4
         have hword:toE (colOf R c a)=toE b:=by rw[<-hb];rfl
         have e5:wr.cell? ⟨O,a,none⟩=some (slE (O+1+a) len):=(hmen.cell (p:=⟨O,a,none⟩) HO4.out (fun h=>by have h2:O+1<=O:=h.1;omega)).trans (KOUT.out a han)
         obtain⟨sx,hsv⟩:∃ sx,Sx a=sx:=⟨_,rfl⟩
         have e6:=hcel a han
         rw[hsv] at e6
         have hc00:(0:Int)<=(c:Int):=by omega
         have ha00:(0:Int)<=(a:Int):=by omega
         have han2:(a:Int)<(x:Int):=by omega
         by_cases hsb:unE sx=b
         ·have hsb2:sx=toE b:=hsb
          subst hsb
          have HHEQ:=Hd (show ∀ t',t'<t+1->Sx (AL.getD (k+t') 0)=toE (colOf R c (AL.getD (k+t') 0)) from fun t' ht'=>by
           by_cases h:t'=t
           ·subst h
            rw[ha,hsv,hword]
            rfl
           ·exact heq t' (by omega))
          have HMX:=Hd hmen.drew
          have HCX:=Hd hcel
          clear hmen hcel heq hb hsv hword hbyte hrow haAL ha hlow hat hget e hsb2
          go_upto_region 35 with (fail)
          go_region
          go_wp2
          go_roundw
          case rel=>exact⟨t+1,by go_num,by omega,HMX.out,HCX.out,HHEQ.out⟩
          case measure=>simp[intOf];omega
         ·have hne:¬ ((unE sx).toNat:Int)=(b.toNat:Int):=fun h=>hsb (UInt8.toNat_inj.1 (by omega))
          have hne2:(((unE sx).toNat:Int)==(b.toNat:Int))=false:=by simpa using hne
          have hrowS:RowsRd wr.drew w4.heap.size (some ad0) x R:=(hrow.more (by have:=HWO.out;have:=HO4.out;omega)).below (Below.refl _ _).drew
          have hlostS:Rd wr w4.heap.size 1 (some ⟨L,0,none⟩) x (Dr.cBool (lostB R)):=by
           have h:=HRLO.out.below HB2.out
           exact (h.below (hlow.mono HW1O.out)).more (by have:=HW1O.out;have:=HO4.out;omega)
          have hws:w4.heap.size<=wr.heap.size:=hmen.kept.size
          have HROWS:=Hd hrowS
          have HLOS:=Hd hlostS
          have HWSX:=Hd hws
          have HMX:=Hd hmen.drew
          clear hmen hcel heq hb hsv hword hbyte hrow haAL ha hlow hat hget e hrowS hlostS hws
          go_upto_region 35 with (fail)
          go_region
          go_upto_region 37 with (first
           | (go_at_call 81;refine (colE_any (w:=World.drew wr) HROWS.out HWSX.out (by omega) (fun r hr hr0=>by rw[HLALL.out r hr hr0];exact hcl) (by omega)).mono ?_;rintro e w5 ⟨v5,rfl,h5⟩;obtain⟨h5v,h5b⟩:=h5.val;obtain⟨A5,c5,rfl,r5,q5,z5⟩:=h5v.form;rw[show (colL R c).length=x by unfold colL;rw[length_fromN];exact HRL.out] at r5 q5 ⊢;have HR5:=Hd r5;have HB5:=Hd (show Below wr.heap.size wr w5 from below_undrew h5b);clear h5 h5v h5b r5)
           | (go_at_call 80;refine (column_any HR5.out ((HLOS.out.below (HB5.out.mono HWSX.out)).more (Nat.le_trans HWSX.out HB5.out.size)) (Nat.le_refl _) hn hk1 (by omega) (by rw[HAL.out,HN.out];exact hkN)).mono ?_;intro e w6 h6;obtain⟨Ao,Bw,mo,co',mw,cw,er,rfl,hor,h6b⟩:=h6.form;rw[HAL.out,colOf_word,<-HCOLC.out c] at hor;have HOR:=Hd hor;have HB6:=Hd (bch HB5.out h6b);have HB56:=Hd h6b;clear h6 hor h6b))
          rcases HOR.out with ⟨rfl,hnone⟩ | ⟨rfl,Vc,lc,ws,hsome,rfl,hmx,hcx,hmw,hol,how⟩
          ·have HNO:=Hd (show mendF (k:Int) R=none by rw[HMF.out];exact mendR_none hcl hnone)
           have hbk:Below w.heap.size w w6:=by
            have h1:=HLOW.out _ _ (HMX.out)
            have h2:Below O w2 wr:=⟨h1.os,h1.tape,h1.output,h1.size,h1.block⟩
            exact (HB12.out.trans (h2.mono HWO.out)).trans (HB6.out.mono (by have:=HWO.out;have:=HWSX.out;have:=HO4.out;omega))
           have HBK:=Hd hbk
           clear HOR hnone hbk
           go_wp2
           try rw[Exit.noGoto_ret]
           refine bodyPost_ret (v:=.tuple #[.slice none 0 0,.slice none 0 0,.int .i64 50]) (by simp[results,Tryz.results35,go_sem]) rfl ?_
           exact⟨.inl ⟨HNO.out,50,by decide,rfl⟩,HBK.out⟩
          ·clear HOR
           rw[hmx,hcx,hmw]
           have HOL:=Hd (own_base hol (Nat.le_trans HWSX.out HB5.out.size))
           have HOW:=Hd (own_base how (Nat.le_trans HWSX.out HB5.out.size))
           have hwl:ws.length<=255:=by
            have h:=colR_len (by rw[<-HCOLC.out c];exact hsome)
            rw[HN.out] at h
            omega
           have HSOME:=Hd hsome
           have HMM2:=Hd (HMX.out.below (show Below wr.drew.heap.size wr.drew w6 from⟨HB6.out.os,HB6.out.tape,HB6.out.output,HB6.out.size,HB6.out.block⟩))
           have HWSA:=Hd (show ∀ i∈ws,i<x from fun i hi=>HLT.out i (colR_sub (by rw[<-HCOLC.out c];exact hsome) i hi))
           clear hol how hsome hmx hcx hmw
           go_wp2
           go_loopw [160] (fun iv wr=>∃ i:Nat,iv = .int .i64 (i:Int)/\i<=x/\MenM w4 wr O x len (metB col c)/\wr.ownsRow w4.heap.size tEl 1 (slE Vc x) x (cE lc)/\wr.ownsRow w4.heap.size tInt 1 (.slice Bw ws.length cw) ws.length (cN ws)) (fun iv _=>x - (intOf iv).toNat)
           case atStart=>exact⟨0,rfl,Nat.zero_le _,HMM2.out,HOL.out,HOW.out⟩
           case round=>
            obtain⟨i,rfl,hi,hmen,hol,how⟩:=hrel
            by_cases hix:i<x
            ·have hix2:(i:Int)<(x:Int):=by omega
             have e1:wr.cell? ⟨O,i,none⟩=some (slE (O+1+i) len):=(hmen.cell (p:=⟨O,i,none⟩) HO4.out (fun h=>by have h2:O+1<=O:=h.1;omega)).trans (KOUT.out i hix)
             obtain⟨v0,e2⟩:=hmen.outCell hix hcl
             have e3:=hmen.outFree (j:=c) hix
             have hll:lc.length=x:=by simpa using hol.1
             obtain⟨y,hy⟩:∃ y,co lc i=y:=⟨_,rfl⟩
             have e4:wr.cell? ⟨Vc,i,none⟩=some (.int .u8 ((unE y).toNat:Int)):=ow_cell hol hix (cE_get (by rw[List.getElem?_eq_getElem (by omega),<-hy,co_get (by omega)]))
             have hVb:=(ow_lt hol).1
             have hsz4:=HO4.out
             have hinS:O+1+i<w4.heap.size:=by have:=KO.out;omega
             have HMX2:=Hd (hmen.setOut hix c (unE y)).drew
             have HOL2:=Hd (show (World.drew (wr.setCell ⟨O+1+i,c,none⟩ (.int .u8 ((unE y).toNat:Int)))).ownsRow w4.heap.size tEl 1 (slE Vc x) x (cE lc) from ow_other hol (by omega) _)
             have HOW2:=Hd (show (World.drew (wr.setCell ⟨O+1+i,c,none⟩ (.int .u8 ((unE y).toNat:Int)))).ownsRow w4.heap.size tInt 1 (.slice Bw ws.length cw) ws.length (cN ws) from row_other how (fun h=>by have:=Dr.own_ge how h;omega))
             have hc00:(0:Int)<=(c:Int):=by omega
             clear hmen hol how hy hll
             go_upto_region 42 with (fail)
             go_region
             go_wp2
             go_roundw
             case rel=>exact⟨i+1,by go_num,by omega,HMX2.out,HOL2.out,HOW2.out⟩
             case measure=>simp[intOf];omega
            ·obtain rfl:i=x:=by omega
             have HMX2:=Hd hmen
             have HOW2:=Hd how
             clear hmen hol how
             go_wp2
             go_loopw [176] (fun tv wr=>∃ u:Nat,tv = .int .i64 (u:Int)/\u<=ws.length/\MenM w4 wr O i len (fun y=>metB col c y||(ws.take u).contains y)/\wr.ownsRow w4.heap.size tInt 1 (.slice Bw ws.length cw) ws.length (cN ws)) (fun tv _=>ws.length - (intOf tv).toNat)
             case atStart=>exact⟨0,rfl,Nat.zero_le _,HMX2.out.congr (fun y _=>by simp),HOW2.out⟩
             case round=>
              obtain⟨u,rfl,hu,hmen,how⟩:=hrel
              by_cases huw:u<ws.length
              ·have huw2:(u:Int)<(ws.length:Int):=by omega
               obtain⟨aw,rfl,haw,e1⟩:=rd_num (Rd.of_own how) huw
               obtain⟨m,hm⟩:∃ m,ws.getD u 0=m:=⟨_,rfl⟩
               rw[hm] at e1
               have hmi:m<i:=HWSA.out m (by rw[<-hm];exact List.mem_of_getElem? (getD_get huw))
               have e2:=hmen.metCell hmi
               have e3:=hmen.metFree (i:=m)
               have htk:ws.take (u+1)=ws.take u++[m]:=take_get huw hm
               have HMX3:=Hd ((hmen.setMet m true).congr (g:=fun y=>metB col c y||(ws.take (u+1)).contains y) (fun y _=>by
                rw[htk]
                by_cases h:y=m
                ·subst h;simp
                ·simp[h]))
               have hsz4:=KO.out
               have HOW3:=Hd (show (wr.setCell ⟨O+1+i,m,none⟩ (.bool true)).ownsRow w4.heap.size tInt 1 (.slice (some aw) ws.length cw) ws.length (cN ws) from row_other how (fun h=>by have:=Dr.own_ge how h;omega))
               have hmi2:(m:Int)<(i:Int):=by omega
               have hm00:(0:Int)<=(m:Int):=by omega
               clear hmen how hm htk hsz4
               go_wp2
               go_roundw
               case rel=>exact⟨u+1,by go_num,by omega,HMX3.out,HOW3.out⟩
               case measure=>simp[intOf];omega
              ·obtain rfl:u=ws.length:=by omega
               have HMX3:=Hd (hmen.congr (g:=metB col (c+1)) (fun y _=>by rw[metB_succ,HSOME.out,List.take_length];rfl))
               have HCS2:=Hd (show ∀ c',c'<c+1->(col c').isSome=true from fun c' hc'=>by
                by_cases h:c'=c
                ·subst h;rw[HSOME.out];rfl
                ·exact HCS.out c' (by omega))
               clear hmen how
               go_wp2
               go_roundw
               case rel=>exact⟨c+1,by go_num,by omega,HMX3.out,HCS2.out⟩
               case measure=>simp[intOf];omega
        ·obtain rfl:t=N - k:=by omega
         have hsome:col c=some []:=by
          rw[HCOLC.out c]
          refine col_line HND.out (fun i hi=>by have:=HLT.out i hi;omega) (by rw[HN.out];exact hkN) (lw:=lw) (fun y hy=>?_) (fun y hy=>?_)
          ·rw[HAK.out]
           have hyL:=List.mem_of_mem_drop hy
           refine HLW.out y (HLT.out y hyL) (fun h=>?_)
           have hnd:=HND.out
           rw[<-List.take_append_drop k AL] at hnd
           rw[<-HAK.out] at h
           exact (List.nodup_append.1 hnd).2.2 y h y hy rfl
          ·rw[HAK.out,<-HSX.out y]
           obtain⟨t',ht',e⟩:=List.getElem_of_mem hy
           have hlt':t'<N - k:=by rw[List.length_drop,HN.out] at ht';exact ht'
           have h2:=heq t' hlt'
           have h3:AL.getD (k+t') 0=y:=by
            rw[<-e,List.getElem_drop,List.getD_eq_getElem?_getD,List.getElem?_eq_getElem (by rw[HN.out];omega)];rfl
           rw[h3] at h2
           exact h2
         have HMX3:=Hd (hmen.congr (g:=metB col (c+1)) (fun y _=>by rw[metB_succ,hsome];simp))
         have HCS2:=Hd (show ∀ c',c'<c+1->(col c').isSome=true from fun c' hc'=>by
          by_cases h:c'=c
          ·subst h;rw[hsome];rfl
          ·exact HCS.out c' (by omega))
         have htz:¬ ((N - k:Nat):Int)<(N:Int) - (k:Int):=by omega
         clear hmen hcel heq hsome
         go_wp2
         go_roundw
         case rel=>exact⟨c+1,by go_num,by omega,HMX3.out,HCS2.out⟩
         case measure=>simp[intOf];omega
    ·obtain rfl:c=len:=by omega
     have hbk:Below w.heap.size w wr:=HB12.out.trans ((HLOW.out _ _ hmen).mono HWO.out)
     have HBK:=Hd hbk
     have HMR:=Hd (show mendF (k:Int) R=some (metL (metB col c) n) by rw[HMF.out,mendR_some hcs];rfl)
     obtain⟨G,hG⟩:∃ G,wr.heap.size=G:=⟨_,rfl⟩
     have HG:=Hd hG
     obtain⟨wo,rfl⟩:∃ wo,wo=wr:=⟨_,rfl⟩
     have HME:=Hd hmen
     have HB0X:=Hd (show Below G wo wo from Below.refl _ _)
     clear hmen hcs hbk hG
     go_wp2
     go_loopw [29,188] (fun v iv wr=>∃ i:Nat,iv = .int .i64 (i:Int)/\i<=n/\wr.ownsRow G tInt 1 v (metL (metB col c) i).length (cN (metL (metB col c) i))/\Below G wo wr) (fun _ iv _=>n - (intOf iv).toNat)
     case atStart=>exact⟨0,rfl,Nat.zero_le _,World.ownsRow_nil _ _ _ _,HB0X.out⟩
     case round=>
      obtain⟨i,rfl,hi,hown,hb⟩:=hrel
      have hbo:Below wo.heap.size wo wr:=by rw[HG.out];exact hb
      by_cases hin:i<n
      ·have hin2:(i:Int)<(n:Int):=by omega
       obtain⟨mb,hmb⟩:∃ mb,metB col c i=mb:=⟨_,rfl⟩
       have e1:=(HME.out.below hbo).metCell hin
       rw[hmb] at e1
       have hs:=metL_succ (metB col c) i
       rw[hmb] at hs
       have hle:=metL_le (metB col c) i
       obtain⟨Mx,hMx⟩:∃ Mx,metL (metB col c) i=Mx:=⟨_,rfl⟩
       rw[hMx] at hs hown hle
       obtain⟨Ao,co',rfl,hco,_⟩:=own_form hown
       cases mb with
       | false=>
        rw[if_neg (by simp)] at hs
        have HOX:=Hd hown
        have HBX:=Hd hb
        have HS:=Hd hs
        clear hown hb hs hMx hmb hbo
        go_wp2
        go_roundw
        case rel=>exact⟨i+1,by go_num,by omega,by rw[HS.out];exact HOX.out,HBX.out⟩
        case measure=>simp[intOf];omega
       | true=>
        rw[if_pos rfl] at hs
        have hGs:G<=wr.heap.size:=by have:=hb.size;have:=HG.out;omega
        have hl1:=run_litV wr 30 tInt (.int .i64 0) (.int .i64 (i:Int)) 8 Tryz.underlying30 infoInt rfl
        have HO1:=Hd (Dr.own_alloc hown (.cells #[.int .i64 (i:Int)] tInt))
        have HRX:=Hd (rd_new wr (.int .i64 (i:Int)) tInt)
        have HBX:=Hd (hb.alloc hGs (.cells #[.int .i64 (i:Int)] tInt))
        have HS:=Hd hs
        clear hown hb hs hMx hmb hbo
        go_wp2_with (at_builtin;go_loud (refine wpList_append_rd _ rfl (.tmp 194) (.tmp 196) 30 rfl G tInt i0 (.int .i64 0) 1 8 Tryz.underlying30 hi0 hz0 hz1 hz2 rfl (by decide) (.slice Ao Mx.length co') Mx.length (cN Mx) rfl HO1.out _ (some ⟨wr.heap.size,0,none⟩) 1 1 [.int .i64 (i:Int)] rfl HRX.out (fun h=>by cases h) (by simp[Value.oneCell']) (by unfold maxLen;omega) (by omega) (by simp;omega) ?_);intro v' w' hrow hg;go_loud (have hb2:=HBX.out.grown hg (by simp;omega) (fun j hj=>Dr.own_ge HO1.out hj));have HROW:=Hd hrow;have HB2X:=Hd hb2;clear hrow hg hb2)
        have hrow:=HROW.out
        have hlenm:(metL (metB col c) (i+1)).length=Mx.length+1:=by rw[HS.out];simp
        have hcsm:cN (metL (metB col c) (i+1))=cN Mx++[.int .i64 (i:Int)]:=by rw[HS.out];simp
        obtain⟨A3x,c3x,rfl,_,_⟩:=own_form hrow
        go_roundw
        case rel=>exact⟨i+1,by go_num,by omega,by rw[hlenm,hcsm];exact hrow,HB2X.out⟩
        case measure=>simp[intOf];omega
      ·obtain rfl:i=n:=by omega
       have hnum:=num_form hown
       obtain⟨Ao,co',rfl,hco,_⟩:=own_form hown
       have HNUM:=Hd hnum
       have HBF:=Hd (HBK.out.trans (hbo.mono HBK.out.size))
       clear hown hb hnum hbo
       go_wp2
       try rw[Exit.noGoto_ret]
       refine bodyPost_ret (v:=.tuple #[slE O i,.slice Ao (metL (metB col c) i).length co',.int .i64 0]) (by simp[results,Tryz.results35,go_sem]) rfl ?_
       exact⟨.inr ⟨_,_,_,HMR.out,rfl,HNUM.out⟩,HBF.out⟩
end Go.Proofs.YtmgljaecmchgaaaGreat.Gf
