/- XSc9: merged by tools/merge.py. -/
import Derived.Test.YtmgljaecmchgaaaGreatQ33
set_option linter.unusedVariables false
set_option linter.unusedSimpArgs false
set_option linter.unusedSectionVars false
namespace Go.Proofs.YtmgljaecmchgaaaGreat.Gf
open Go.RowKit Go.Proofs
set_option maxRecDepth 100000 in
set_option maxHeartbeats 40000000 in
theorem judge_abs {w:World} {B n c g:Nat} {A:Option Addr} {Kx M Bk ep ct:Int} {key:List UInt8} {v:Vd} {pl:Value} {L:List Sn} (hL:SnsRd w B A n L) (hB:B<=w.heap.size) (hpl:pl.oneCell'=true)
  (hS:SetAt w g n Kx M Bk ep ct) (hraw:rawB Kx M Bk n ep ct=true) (hbn:∀ s∈L,s.blocks.length<=1099511627776) (hlen:∀ s∈L,∀ b∈s.blocks,b.length<=1099511627776) (hk:v.kind=2) :
  Calls Tryz.prog 7 #[.pointer (some ⟨g,0,none⟩),.string ⟨key.toArray⟩,.agg #[.int .i64 v.kind,.int .i64 v.ep,.int .i64 v.ct,.int .i64 v.size,pl],.slice A n c] w fun x w'=>JudgeOk w w' key (judgeL Kx v L) x:=by
 have hkb:(v.kind==1)=false:=by rw[hk];rfl
 have hkc:(v.kind==2)=true:=by rw[hk];rfl
 have HKD:=Hd (show v.kind≠1/\v.kind=2 from⟨by omega,hk⟩)
 clear hk
 have hn255:n<=255:=by
  unfold rawB at hraw
  have h2:=fitB_bd (K:=Kx) (M:=M) (B:=Bk) (by cases h:fitB Kx M Bk<;>simp_all)
  have h3:(n:Int)=Kx+M:=by
   have:=(Bool.and_eq_true _ _▸hraw).2
   simp at this
   exact this.1
  omega
 obtain⟨G,hG⟩:∃ G,w.heap.size=G:=⟨_,rfl⟩
 obtain⟨w0,hw0⟩:∃ w0,(w.alloc (.cells #[.string ⟨key.toArray⟩] 9)).alloc (.cells #[.int .i64 v.kind,.int .i64 v.ep,.int .i64 v.ct,.int .i64 v.size,pl] tVd)=w0:=⟨_,rfl⟩
 have hb0:Below w.heap.size w w0:=by rw[<-hw0];exact ((Below.refl _ _).alloc (Nat.le_refl _) _).alloc (by simp) _
 have hs0:w0.heap.size=G+2:=by rw[<-hw0,<-hG];simp
 have hk0:w0.cell? ⟨G,0,none⟩=some (.string ⟨key.toArray⟩):=by
  rw[<-hw0,World.cell?_alloc_lt _ _ _ (by simp;omega),<-hG]
  exact new_cells w [.string ⟨key.toArray⟩] 9 0 _ rfl
 have hv0:w0.rangeAt (G+1) 0 (vdC v pl):=fun j u hu=>by
  rw[Nat.zero_add,<-hw0]
  have h:=new_cells (w.alloc (.cells #[.string ⟨key.toArray⟩] 9)) (vdC v pl) tVd j u hu
  rw[Addr.add_mid,Nat.zero_add,show (w.alloc (.cells #[.string ⟨key.toArray⟩] 9)).heap.size=G+1 by simp[hG]] at h
  exact h
 have hS0:=hS.below hb0
 obtain⟨Z,hZ⟩:∃ Z:Array Value,(List.replicate 255 (Value.bool false)).toArray=Z:=⟨_,rfl⟩
 have hz83:=(zero_of_info infoFl).1
 rw[hZ] at hz83
 have hBG:B<=G:=by omega
 have hgG:g<G:=by have:=hS.lt;omega
 have HLL:=Hd hL.len
 have HL0:=Hd (show SnsRd w0 B A n L from hL.below (hb0.mono hB))
 have HG:=Hd hG
 have HW0:=Hd hw0
 have HB0:=Hd hb0
 have HS0:=Hd hs0
 have HSET0:=Hd hS0
 have HK0:=Hd hk0
 have HV0:=Hd hv0
 have HRAW:=Hd hraw
 have HBN:=Hd hbn
 have HLEN:=Hd hlen
 have HZ:=Hd hZ
 clear hL hG hw0 hb0 hs0 hk0 hv0 hS hS0 hraw hbn hlen hZ
 go_enter Tryz.func7,Tryz.ntmps7
 go_upto_region 1 with (fail)
 rw[HW0.out,HG.out]
 go_upto_if 59 with (go_at_call 18;obtain⟨_,_,c0⟩:=HSET0.out.c0;refine (raw_any HSET0.out.lt c0 HSET0.out.c1 HSET0.out.c2 HSET0.out.c3 HSET0.out.c12 HSET0.out.c13 (by omega)).mono ?_;rintro x w1 ⟨rfl,hb1⟩;rw[HRAW.out];have HB1:=Hd hb1;have HSET1:=Hd (HSET0.out.below hb1);obtain⟨_,_,cc0⟩:=HSET1.out.c0;have hk1:=(hb1.cell (p:=⟨G,0,none⟩) (by show G<w0.heap.size;rw[HS0.out];omega)).trans HK0.out;have hv1:w1.rangeAt (G+1) 0 (vdC v pl):=range_below HV0.out (by rw[HS0.out];omega) hb1;have HK1:=Hd hk1;have HV1:=Hd hv1;have vc0:w1.cell? ⟨G+1,0,none⟩=some (.int .i64 v.kind):=hv1 0 _ rfl;have vc1:w1.cell? ⟨G+1,1,none⟩=some (.int .i64 v.ep):=hv1 1 _ rfl;have vc2:w1.cell? ⟨G+1,2,none⟩=some (.int .i64 v.ct):=hv1 2 _ rfl;have hg1:G+1<w1.heap.size:=(by have:=hb1.size;rw[HS0.out] at this;omega);have hg2:G<w1.heap.size:=(by omega);have hg3:G<w1.heap.size+1:=(by omega);have hg4:G+1<w1.heap.size+1+1:=(by omega);have hg5:g<w1.heap.size:=(by omega);have hg6:g<w1.heap.size+1:=(by omega);have hg7:g<w1.heap.size+1+1:=(by omega);clear hb1 hk1 hv1)
 obtain⟨U,hU⟩:∃ U,w1.heap.size=U:=⟨_,rfl⟩
 rw[hU] at hg1 hg2 hg3 hg4 hg5 hg6 hg7 ⊢
 obtain⟨bad,hbad⟩:∃ bad,metB (resJ Kx v L) (mst v L)=bad:=⟨_,rfl⟩
 have HBAD:=Hd hbad
 clear hbad
 obtain⟨w4,hw4⟩:∃ w4,((w1.alloc (.cells #[.slice none 0 0] tFinds)).alloc (.cells #[.int .i64 0,.int .i64 0] tGen)).alloc (.cells Z tFl)=w4:=⟨_,rfl⟩
 have hb4':Below w1.heap.size w1 w4:=by rw[<-hw4];exact (((Below.refl _ _).alloc (Nat.le_refl _) _).alloc (by simp) _).alloc (by simp;omega) _
 have hs4:w4.heap.size=U+3:=by rw[<-hw4,<-hU];simp
 have hgen4:w4.heap[U+1]?=some (.cells #[.int .i64 0,.int .i64 0] tGen (0,0)):=by
  have h:=heap_alloc_last (w1.alloc (.cells #[.slice none 0 0] tFinds)) (.cells #[.int .i64 0,.int .i64 0] tGen)
  rw[show (w1.alloc (.cells #[.slice none 0 0] tFinds)).heap.size=U+1 by simp[hU]] at h
  rw[<-hw4,Below.heap_alloc _ _ _ (by simp;omega)]
  exact h
 have hfo4:FO w4 (U+3) U key []:=by
  refine⟨none,0,?_,World.ownsRow_nil _ _ _ _⟩
  have h:=heap_alloc_last w1 (.cells #[.slice none 0 0] tFinds)
  rw[hU] at h
  rw[<-hw4,Below.heap_alloc _ _ _ (by simp;omega),Below.heap_alloc _ _ _ (by simp;omega)]
  exact h
 rw[hw4]
 have HFO4:=Hd hfo4
 have HGEN4:=Hd hgen4
 have HU:=Hd hU
 have HL4:=Hd (show SnsRd w4 B A n L from (HL0.out.below (HB1.out.mono (by rw[HS0.out];omega))).below (hb4'.mono (by omega)))
 have HV4:=Hd (range_below HV1.out (by omega) hb4')
 have HK4:=Hd ((hb4'.cell (p:=⟨G,0,none⟩) (by show G<w1.heap.size;omega)).trans HK1.out)
 have HB4:=Hd (show Below U w1 w4 by rw[<-hU];exact hb4')
 have HU4:=Hd (show U+3<=w4.heap.size by omega)
 have HKP4:=Hd (Kept.refl w4 (JS U))
 have hgc0:w4.cell? ⟨U+1,0,none⟩=some (.int .i64 0):=by rw[cell_of_row _ _ _ _ _ _ hgen4];rfl
 have hgc1:w4.cell? ⟨U+1,1,none⟩=some (.int .i64 0):=by rw[cell_of_row _ _ _ _ _ _ hgen4];rfl
 clear hz83 hw4 hb4' hs4 hgen4 hfo4 hU vc0 vc1 vc2 c0 cc0 HSET1 HSET0 HK0 HV0
 go_cut [] from 58 to 62 (fun wr=>FO wr (U+3) U key (headF v false)/\Kept w4 wr (JS U))
 case first=>
  have HHD:=Hd (show headF v false=[] by unfold headF;rw[if_neg HKD.out.1,if_pos HKD.out.2])
  go_wp2
  go_meet
  exact⟨by rw[HHD.out];exact HFO4.out,HKP4.out⟩
 case rest=>
  obtain⟨hfo,hkp⟩:=hcut
  obtain⟨hd,hhd⟩:∃ hd,headF v false=hd:=⟨_,rfl⟩
  rw[hhd] at hfo
  have hhl:hd.length<=1:=by rw[<-hhd];exact length_headF _ _
  have HHD:=Hd hhd
  have HFO5:=Hd (show FO wc (U+3) U key (hd++findsTo v bad L 0) by simp only[findsTo,List.append_nil];exact hfo)
  have HKP5:=Hd hkp
  clear hfo hkp hhd
  try clear hgc0 hgc1
  go_wp2
  go_loopw [65] (fun iv wr=>∃ i:Nat,iv = .int .i64 (i:Int)/\i<=n/\FO wr (U+3) U key (hd++findsTo v bad L i)/\Kept w4 wr (JS U)) (fun iv _=>n - (intOf iv).toNat)
  case atStart=>exact⟨0,rfl,Nat.zero_le _,HFO5.out,HKP5.out⟩
  case round=>
   obtain⟨i,rfl,hi,hfo,hkp⟩:=hrel
   have hU5:U+3<=wr.heap.size:=by have:=hkp.size;have:=HU4.out;omega
   by_cases hin:i<n
   ·have hin2:(i:Int)<(n:Int):=by omega
    have hi00:(0:Int)<=(i:Int):=by omega
    have hi255:(i:Int)<255:=by omega
    obtain⟨s,hs⟩:∃ s,L[i]?=some s:=⟨_,List.getElem?_eq_getElem (by rw[HLL.out];exact hin)⟩
    obtain⟨g',oo,Ab,cb,hA,hgB,hrg,_⟩:=HL4.out.at_ i s hs
    subst hA
    have hjs:∀ p:Addr,p.block<U\/p.block=U+1\/p.block=U+2->wr.cell? p=w4.cell? p:=fun p hp=>js_cell hkp (by have:=HU4.out;omega) hp
    obtain⟨C,hC⟩:∃ C,snC s (.slice Ab s.blocks.length cb)=C:=⟨_,rfl⟩
    have hCl:C.length=19:=by rw[<-hC];rfl
    have hst:=seen_storeAt wr s (.slice Ab s.blocks.length cb) rfl
    rw[hC] at hrg hst
    have HRG:=Hd (show wr.rangeAt g' (oo+i*19) C from fun j u hu=>(hjs ⟨g',oo+i*19+j,none⟩ (.inl (by show g'<U;omega))).trans (hrg j u hu))
    have hCi:(Tryz.prog.info? tSeen).map (fun i=>i.size)=some C.length:=by rw[hCl];exact snC_size
    obtain⟨wS,hwS⟩:∃ wS,wr.alloc (.cells C.toArray tSeen)=wS:=⟨_,rfl⟩
    rw[hwS] at hst
    have hnew:∀ j u,(snC s (.slice Ab s.blocks.length cb))[j]?=some u->wS.cell? ⟨wr.heap.size,j,none⟩=some u:=fun j u hu=>by
     rw[hC] at hu
     have h:=new_cells wr C tSeen j u hu
     rw[Addr.add_mid,Nat.zero_add] at h
     rw[<-hwS]
     exact h
    have hbS:Below wr.heap.size wr wS:=by rw[<-hwS];exact (Below.refl _ _).alloc (Nat.le_refl _) _
    have n0:=hnew 0 _ rfl
    have n13:=hnew 13 _ rfl
    have n15:=hnew 15 _ rfl
    have n16:=hnew 16 _ rfl
    have hold:∀ p:Addr,p.block<U\/p.block=U+1\/p.block=U+2->wS.cell? p=w4.cell? p:=fun p hp=>(hbS.cell (by omega)).trans (hjs p hp)
    have vc0:wS.cell? ⟨G+1,0,none⟩=some (.int .i64 v.kind):=(hold _ (.inl (by show G+1<U;omega))).trans (HV4.out 0 _ rfl)
    have vc1:wS.cell? ⟨G+1,1,none⟩=some (.int .i64 v.ep):=(hold _ (.inl (by show G+1<U;omega))).trans (HV4.out 1 _ rfl)
    have vc2:wS.cell? ⟨G+1,2,none⟩=some (.int .i64 v.ct):=(hold _ (.inl (by show G+1<U;omega))).trans (HV4.out 2 _ rfl)
    have vc3:wS.cell? ⟨G+1,3,none⟩=some (.int .i64 v.size):=(hold _ (.inl (by show G+1<U;omega))).trans (HV4.out 3 _ rfl)
    have gc0:wS.cell? ⟨U+1,0,none⟩=some (.int .i64 0):=(hold _ (.inr (.inl rfl))).trans (by rw[cell_of_row _ _ _ _ _ _ HGEN4.out];rfl)
    have gc1:wS.cell? ⟨U+1,1,none⟩=some (.int .i64 0):=(hold _ (.inr (.inl rfl))).trans (by rw[cell_of_row _ _ _ _ _ _ HGEN4.out];rfl)
    have HKY:=Hd ((hold ⟨G,0,none⟩ (.inl (by show G<U;omega))).trans HK4.out)
    have HFOS:=Hd (hfo.below hbS)
    have HKS:=Hd (show Kept w4 wS (JS U) from hkp.below hbS)
    have hUS:U+3<=wS.heap.size:=by have:=hbS.size;omega
    have hfl:(hd++findsTo v bad L i).length<=100000:=by
     have:=length_findsTo v bad L i
     rw[List.length_append]
     omega
    have HNX:=Hd (fun fs (h:findAt v bad i s=fs)=>show findsTo v bad L (i+1)=findsTo v bad L i++fs by rw[findsTo_succ hs,h])
    have hge:=gen_eq wS s.ep s.ct v.ep v.ct
    have HGE:=Hd hge
    have HST:=Hd hst
    have HCI:=Hd hCi
    clear hfo hkp hjs hrg hst hwS hnew hbS hold hC hCl hCi hge hs
    rw[List.length_append] at hfl
    obtain⟨lf,hlf⟩:∃ lf,hd++findsTo v bad L i=lf:=⟨_,rfl⟩
    rw[<-List.length_append,hlf] at hfl
    have HLF:=Hd hlf
    rw[hlf] at HFOS
    clear hlf
    by_cases h1:s.kind=1
    ·have k1:(s.kind==1)=true:=by simpa using h1
     have HF:=Hd h1
     clear h1
     have HAT:=Hd (HNX.out [] (by unfold findAt;simp[HKD.out.1,HKD.out.2,HF.out]))
     clear HNX
     go_wp2_with (first | (refine wpList_load_mid rfl tSeen (.tmp 68) rfl g' (oo+i*19) rfl C _ HRG.out Tryz.underlying72 rfl HCI.out ?_) | (refine wpList_store_by rfl tSeen (.tmp 17) (.tmp 69) rfl _ _ rfl rfl HST.out ?_))
     go_roundw
     case rel=>exact⟨i+1,by go_num,by omega,by rw[HAT.out,List.append_nil,HLF.out];exact HFOS.out,HKS.out⟩
     case measure=>simp[intOf];omega
    have k1:(s.kind==1)=false:=by simpa using h1
    by_cases h3:s.kind=3
    ·have k3:(s.kind==3)=true:=by simpa using h3
     have HF:=Hd h3
     clear h1 h3
     have HAT:=Hd (HNX.out [⟨i,2,0,0⟩] (by unfold findAt;simp[HKD.out.1,HKD.out.2,HF.out]))
     clear HNX
     go_wp2_with (first | (refine wpList_load_mid rfl tSeen (.tmp 68) rfl g' (oo+i*19) rfl C _ HRG.out Tryz.underlying72 rfl HCI.out ?_) | (refine wpList_store_by rfl tSeen (.tmp 17) (.tmp 69) rfl _ _ rfl rfl HST.out ?_) | (go_at_call 19;refine (say_any (Kb:=G) ⟨i,2,0,0⟩ HFOS.out (by omega) (by omega) hUS HKY.out hfl).mono ?_;rintro x w5 ⟨rfl,h1,h2⟩;have H1:=Hd h1;have H2:=Hd h2;clear h1 h2))
     go_roundw
     case rel=>exact⟨i+1,by go_num,by omega,by rw[HAT.out,<-List.append_assoc,HLF.out];exact H1.out,HKS.out.trans H2.out (fun k h=>.inl h)⟩
     case measure=>simp[intOf];omega
    have k3:(s.kind==3)=false:=by simpa using h3
    by_cases h2:s.kind=2
    ·have k2:(s.kind==2)=true:=by simpa using h2
     have HF:=Hd h2
     cases hb:genB s.ep s.ct v.ep v.ct with
     | false=>
      have HOWN:=Hd (show own v s=false by cases h:own v s with | false=>rfl | true=>exact absurd (own_eq.1 h) (by intro h;rw[genB_eq.2 h.2.1] at hb;cases hb))
      have hb2:=hb
      clear h1 h2 h3 hb
      have hb:=hb2
      clear hb2
      have HAT:=Hd (HNX.out [⟨i,4,s.ep,s.ct⟩] (by unfold findAt;simp[HKD.out.1,HKD.out.2,HF.out]))
      clear HNX
      go_wp2_with (first | (refine wpList_load_mid rfl tSeen (.tmp 68) rfl g' (oo+i*19) rfl C _ HRG.out Tryz.underlying72 rfl HCI.out ?_) | (refine wpList_store_by rfl tSeen (.tmp 17) (.tmp 69) rfl _ _ rfl rfl HST.out ?_) | (refine wpList_eql_by rfl tGen _ (.tmp 94) (.tmp 96) rfl (by kernel_rfl) _ _ _ rfl rfl HGE.out ?_) | (go_at_call 19;refine (say_any (Kb:=G) ⟨i,4,s.ep,s.ct⟩ HFOS.out (by omega) (by omega) hUS HKY.out hfl).mono ?_;rintro x w5 ⟨rfl,h1,h2⟩;have H1:=Hd h1;have H2:=Hd h2;clear h1 h2))
      go_roundw
      case rel=>exact⟨i+1,by go_num,by omega,by rw[HAT.out,<-List.append_assoc,HLF.out];exact H1.out,HKS.out.trans H2.out (fun k h=>.inl h)⟩
      case measure=>simp[intOf];omega
     | true=>
      by_cases hz:s.size=v.size
      ·have k4:(s.size==v.size)=true:=by simpa using hz
       have HOWN:=Hd (show own v s=true from own_eq.2 ⟨h2,genB_eq.1 hb,hz⟩)
       clear h1 h2 h3 hz
       have HAT:=Hd (HNX.out [⟨i,4,s.ep,s.ct⟩] (by unfold findAt;simp[HKD.out.1,HKD.out.2,HF.out]))
       clear HNX
       go_wp2_with (first | (refine wpList_load_mid rfl tSeen (.tmp 68) rfl g' (oo+i*19) rfl C _ HRG.out Tryz.underlying72 rfl HCI.out ?_) | (refine wpList_store_by rfl tSeen (.tmp 17) (.tmp 69) rfl _ _ rfl rfl HST.out ?_) | (refine wpList_eql_by rfl tGen _ (.tmp 94) (.tmp 96) rfl (by kernel_rfl) _ _ _ rfl rfl HGE.out ?_) | (go_at_call 19;refine (say_any (Kb:=G) ⟨i,4,s.ep,s.ct⟩ HFOS.out (by omega) (by omega) hUS HKY.out hfl).mono ?_;rintro x w5 ⟨rfl,h1,h2⟩;have H1:=Hd h1;have H2:=Hd h2;clear h1 h2))
       go_roundw
       case rel=>exact⟨i+1,by go_num,by omega,by rw[HAT.out,<-List.append_assoc,HLF.out];exact H1.out,HKS.out.trans H2.out (fun k h=>.inl h)⟩
       case measure=>simp[intOf];omega
      ·have k4:(s.size==v.size)=false:=by simpa using hz
       have HOWN:=Hd (show own v s=false by cases h:own v s with | false=>rfl | true=>exact absurd (own_eq.1 h) (by intro h;exact hz h.2.2))
       clear h1 h2 h3 hz
       have HAT:=Hd (HNX.out [⟨i,4,s.ep,s.ct⟩] (by unfold findAt;simp[HKD.out.1,HKD.out.2,HF.out]))
       clear HNX
       go_wp2_with (first | (refine wpList_load_mid rfl tSeen (.tmp 68) rfl g' (oo+i*19) rfl C _ HRG.out Tryz.underlying72 rfl HCI.out ?_) | (refine wpList_store_by rfl tSeen (.tmp 17) (.tmp 69) rfl _ _ rfl rfl HST.out ?_) | (refine wpList_eql_by rfl tGen _ (.tmp 94) (.tmp 96) rfl (by kernel_rfl) _ _ _ rfl rfl HGE.out ?_) | (go_at_call 19;refine (say_any (Kb:=G) ⟨i,4,s.ep,s.ct⟩ HFOS.out (by omega) (by omega) hUS HKY.out hfl).mono ?_;rintro x w5 ⟨rfl,h1,h2⟩;have H1:=Hd h1;have H2:=Hd h2;clear h1 h2))
       go_roundw
       case rel=>exact⟨i+1,by go_num,by omega,by rw[HAT.out,<-List.append_assoc,HLF.out];exact H1.out,HKS.out.trans H2.out (fun k h=>.inl h)⟩
       case measure=>simp[intOf];omega
    have k2:(s.kind==2)=false:=by simpa using h2
    have HF:=Hd (show s.kind≠1/\s.kind≠3/\s.kind≠2 from⟨h1,h3,h2⟩)
    clear h1 h2 h3
    have HAT:=Hd (HNX.out [⟨i,5,0,0⟩] (by unfold findAt;simp[HKD.out.1,HKD.out.2,HF.out.1,HF.out.2.1,HF.out.2.2]))
    clear HNX
    go_wp2_with (first | (refine wpList_load_mid rfl tSeen (.tmp 68) rfl g' (oo+i*19) rfl C _ HRG.out Tryz.underlying72 rfl HCI.out ?_) | (refine wpList_store_by rfl tSeen (.tmp 17) (.tmp 69) rfl _ _ rfl rfl HST.out ?_) | (go_at_call 19;refine (say_any (Kb:=G) ⟨i,5,0,0⟩ HFOS.out (by omega) (by omega) hUS HKY.out hfl).mono ?_;rintro x w5 ⟨rfl,h1,h2⟩;have H1:=Hd h1;have H2:=Hd h2;clear h1 h2))
    go_roundw
    case rel=>exact⟨i+1,by go_num,by omega,by rw[HAT.out,<-List.append_assoc,HLF.out];exact H1.out,HKS.out.trans H2.out (fun k h=>.inl h)⟩
    case measure=>simp[intOf];omega
   ·obtain rfl:i=n:=by omega
    obtain⟨A9,c9,h1,h2⟩:=hfo.row
    obtain⟨fs,hfs⟩:∃ fs,hd++findsTo v bad L i=fs:=⟨_,rfl⟩
    rw[hfs] at h1 h2
    have hu0:wr.cell? ⟨U,0,none⟩=some (.slice A9 fs.length c9):=by rw[cell_of_row _ _ _ _ _ _ h1];rfl
    have hJ:judgeL Kx v L=fs:=by
     rw[<-hfs,<-HHD.out]
     unfold judgeL
     rw[HBAD.out,HLL.out,headF_any HKD.out.1]
    have HJ:=Hd hJ
    have H2:=Hd (Rd.of_own h2)
    have HBF:=Hd (hkp.to_below (B:=U) (by have:=HU4.out;omega) (fun k h=>by unfold JS at h;omega))
    clear hfo hkp h1 h2 hfs hJ
    go_wp2
    go_ret
    refine⟨⟨A9,c9,by rw[HJ.out];rfl,by rw[HJ.out];exact H2.out⟩,?_⟩
    have b0:=HB0.out
    have b1:=HB1.out.mono (B':=w.heap.size) (by rw[HS0.out,HG.out];omega)
    have b4:=HB4.out.mono (B':=w.heap.size) (by rw[HG.out];omega)
    exact b0.trans (b1.trans (b4.trans (HBF.out.mono (by rw[HG.out];omega))))
end Go.Proofs.YtmgljaecmchgaaaGreat.Gf
