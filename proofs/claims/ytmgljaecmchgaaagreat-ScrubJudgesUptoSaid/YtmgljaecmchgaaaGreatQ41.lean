/- XRc3: merged by tools/merge.py. -/
import Derived.Test.YtmgljaecmchgaaaGreatQ34
set_option linter.unusedVariables false
set_option linter.unusedSimpArgs false
set_option linter.unusedSectionVars false
namespace Go.Proofs.YtmgljaecmchgaaaGreat.Gf
open Go.RowKit Go.Proofs
set_option maxRecDepth 100000 in
set_option maxHeartbeats 16000000 in
theorem without_abs {w:World} {B n c:Nat} {A:Option Addr} {Kx:Int} {key:List UInt8} {v:Vd} {pl:Value} {L:List Sn} (hL:SnsRd w B A n L) (hB:B<=w.heap.size) (hn:n<=1024) (hk:v.kind=2) :
  Calls Tryz.prog 14 #[.string ⟨key.toArray⟩,.agg (vdC v pl).toArray,.slice A n c] w fun x w'=>JudgeOk w w' key (judgeL Kx v L) x:=by
 obtain⟨r0,hr0,hrz0,hrz1,hrz2⟩:=info_parts infoFd
 have hLl:=hL.len
 have hkc:(v.kind==2)=true:=by rw[hk];rfl
 have hkn:(v.kind != 2)=false:=by rw[hk];rfl
 have HKD:=Hd (show v.kind≠1/\v.kind=2 from⟨by omega,hk⟩)
 clear hk
 obtain⟨G,hG⟩:∃ G,w.heap.size=G:=⟨_,rfl⟩
 obtain⟨D,hD⟩:∃ D,vdC v pl=D:=⟨_,rfl⟩
 obtain⟨w0,hw0⟩:∃ w0,w.alloc (.cells D.toArray tVd)=w0:=⟨_,rfl⟩
 have hb0:Below w.heap.size w w0:=by rw[<-hw0];exact (Below.refl _ _).alloc (Nat.le_refl _) _
 have hs0:w0.heap.size=G+1:=by rw[<-hw0,<-hG];simp
 have hd0:w0.rangeAt G 0 (vdC v pl):=fun q u hu=>by
  rw[hD] at hu
  have h:=new_cells w D tVd q u hu
  rw[Addr.add_mid,hw0,hG] at h
  exact h
 have hv0:w0.cell? ⟨G,0,none⟩=some (.int .i64 v.kind):=hd0 0 _ rfl
 have HLL:=Hd hLl
 have HG:=Hd hG
 have HW0:=Hd hw0
 have HB0:=Hd hb0
 have HS0:=Hd hs0
 have HV0:=Hd hv0
 have HL0:=Hd (show SnsRd w0 B A n L from hL.below (hb0.mono hB))
 have hBG:B<=G:=by omega
 obtain⟨bad,hbad⟩:∃ bad,metB (resJ Kx v L) (mst v L)=bad:=⟨_,rfl⟩
 have HBAD:=Hd hbad
 rw[hD]
 have HB00:=Hd (Below.refl (G+1) w0)
 clear hL hLl hG hD hw0 hb0 hs0 hd0 hbad hv0
 go_enter Tryz.func14,Tryz.ntmps14
 go_upto_region 1 with (fail)
 rw[HW0.out,HG.out]
 have hv0:=HV0.out
 have HHD:=Hd (show headF v false=[] by unfold headF;rw[if_neg HKD.out.1,if_pos HKD.out.2])
 have HSTART:=Hd (show w0.ownsRow (G+1) tFind 5 (.slice none 0 0) ([]:List Fd).length (cFd key []) from World.ownsRow_nil _ _ _ _)
 have HBSTART:=HB00
 go_wp2
 clear hv0
 go_loopw [7,8] (fun ov iv wr=>∃ (i:Nat) (lf:List Fd) (Ao:Option Addr) (co:Nat),iv = .int .i64 (i:Int)/\i<=n/\headF v false++findsTo v bad L i=lf/\ov = .slice Ao lf.length co/\wr.ownsRow (G+1) tFind 5 (.slice Ao lf.length co) lf.length (cFd key lf)/\Below (G+1) w0 wr) (fun _ iv _=>n - (intOf iv).toNat)
 case atStart=>exact⟨0,_,_,_,rfl,Nat.zero_le _,by simp only[findsTo,List.append_nil];exact HHD.out,rfl,HSTART.out,HBSTART.out⟩
 case round=>
  obtain⟨i,lf,Ao,co,rfl,hi,hlf,rfl,hown,hb⟩:=hrel
  by_cases hin:i<n
  ·have hin2:(i:Int)<(n:Int):=by omega
   have hi00:(0:Int)<=(i:Int):=by omega
   obtain⟨s,hs⟩:∃ s,L[i]?=some s:=⟨_,List.getElem?_eq_getElem (by rw[HLL.out];exact hin)⟩
   obtain⟨g',oo,Ab,cb,hA,hgB,hrg,_⟩:=HL0.out.at_ i s hs
   subst hA
   have hgs:G+1<=wr.heap.size:=by have:=hb.size;have:=HS0.out;omega
   have hfl:lf.length<=100000:=by
    have h1:=length_findsTo v bad L i
    have h2:=length_headF v false
    rw[<-hlf,List.length_append]
    omega
   have hgw:g'<wr.heap.size:=by omega
   have hGw:G<wr.heap.size:=by omega
   have hrw:wr.rangeAt g' (oo+i*19) (snC s (.slice Ab s.blocks.length cb)):=range_below hrg (show g'<G+1 by omega) hb
   have n0:wr.cell? ⟨g',oo+i*19,none⟩=some (.int .i64 s.kind):=hrw 0 _ rfl
   have n15:wr.cell? ⟨g',oo+i*19+15,none⟩=some (.int .i64 s.ep):=hrw 15 _ rfl
   have n16:wr.cell? ⟨g',oo+i*19+16,none⟩=some (.int .i64 s.ct):=hrw 16 _ rfl
   have n15':wr.cell? ⟨g',oo+i*19+1+14,none⟩=some (.int .i64 s.ep):=n15
   have n16':wr.cell? ⟨g',oo+i*19+1+15,none⟩=some (.int .i64 s.ct):=n16
   have n16b:wr.cell? ⟨g',oo+i*19+1+14+1,none⟩=some (.int .i64 s.ct):=n16
   have n16c:wr.cell? ⟨g',oo+i*19+15+1,none⟩=some (.int .i64 s.ct):=n16
   have vk:wr.cell? ⟨G,0,none⟩=some (.int .i64 v.kind):=(hb.cell (p:=⟨G,0,none⟩) (Nat.lt_succ_self G)).trans HV0.out
   have HNX:=Hd (fun fs (h:findAt v bad i s=fs)=>show headF v false++findsTo v bad L (i+1)=lf++fs by rw[findsTo_succ hs,h,<-List.append_assoc,hlf])
   have HOWN:=Hd hown
   have HBW:=Hd hb
   clear hown hb hrg hrw hlf hs
   by_cases h1:s.kind=1
   ·have k1:(s.kind==1)=true:=by simpa using h1
    have HF:=Hd h1
    clear h1
    have HAT:=Hd (HNX.out [] (by unfold findAt;simp[HKD.out.2,HF.out]))
    clear HNX
    have HO1:=Hd (Dr.own_alloc HOWN.out (.cells #[.string ⟨key.toArray⟩,.int .i64 (i:Int),.int .i64 0,.int .i64 0,.int .i64 0] tFind))
    have HBX:=Hd (HBW.out.alloc (by omega) (.cells #[.string ⟨key.toArray⟩,.int .i64 (i:Int),.int .i64 0,.int .i64 0,.int .i64 0] tFind))
    go_wp2
    go_roundw
    case rel=>exact⟨i+1,lf,Ao,co,by go_num,by omega,by rw[HAT.out,List.append_nil],rfl,HO1.out,HBX.out⟩
    case measure=>simp[intOf];omega
   have k1:(s.kind==1)=false:=by simpa using h1
   by_cases h3:s.kind=3
   ·have k3:(s.kind==3)=true:=by simpa using h3
    have HF:=Hd h3
    clear h1 h3
    have HAT:=Hd (HNX.out [⟨i,2,0,0⟩] (by unfold findAt;simp[HKD.out.2,HF.out]))
    clear HNX
    have hl1:=run_litS (wr.alloc (.cells #[.string ⟨key.toArray⟩,.int .i64 (i:Int),.int .i64 2,.int .i64 0,.int .i64 0] tFind)) tFinds tFind _ 5 48 Tryz.underlying47 infoFd (by decide) (by decide) #[.string ⟨key.toArray⟩,.int .i64 (i:Int),.int .i64 2,.int .i64 0,.int .i64 0] rfl
    have HO1:=Hd (Dr.own_alloc (Dr.own_alloc HOWN.out (.cells #[.string ⟨key.toArray⟩,.int .i64 (i:Int),.int .i64 2,.int .i64 0,.int .i64 0] tFind)) (.cells #[.string ⟨key.toArray⟩,.int .i64 (i:Int),.int .i64 2,.int .i64 0,.int .i64 0] tFind))
    have HRX:=Hd (rd_newS (wr.alloc (.cells #[.string ⟨key.toArray⟩,.int .i64 (i:Int),.int .i64 2,.int .i64 0,.int .i64 0] tFind)) 5 [.string ⟨key.toArray⟩,.int .i64 (i:Int),.int .i64 2,.int .i64 0,.int .i64 0] rfl tFind)
    have HBX:=Hd ((HBW.out.alloc (by omega) (.cells #[.string ⟨key.toArray⟩,.int .i64 (i:Int),.int .i64 2,.int .i64 0,.int .i64 0] tFind)).alloc (by simp;omega) (.cells #[.string ⟨key.toArray⟩,.int .i64 (i:Int),.int .i64 2,.int .i64 0,.int .i64 0] tFind))
    go_wp2_with (at_builtin;go_loud (refine wpList_append_rd _ rfl (.tmp 55) (.tmp 57) 47 rfl (G+1) tFind r0 _ 5 48 Tryz.underlying47 hr0 hrz0 hrz1 hrz2 rfl (by decide) (.slice Ao lf.length co) lf.length (cFd key lf) rfl HO1.out _ (some ⟨(wr.alloc (.cells #[.string ⟨key.toArray⟩,.int .i64 (i:Int),.int .i64 2,.int .i64 0,.int .i64 0] tFind)).heap.size,0,none⟩) 1 1 [.string ⟨key.toArray⟩,.int .i64 (i:Int),.int .i64 2,.int .i64 0,.int .i64 0] (by simp[Act.eval]) HRX.out (fun h=>by cases h) (fdC_one key ⟨i,2,0,0⟩) (by unfold maxLen;omega) (by omega) (by simp;omega) ?_);intro v' w' hrow hg;go_loud (have hb2:=HBX.out.grown hg (by simp;omega) (fun j hj=>Dr.own_ge HO1.out hj));have HROW:=Hd (show w'.ownsRow (G+1) tFind 5 v' (lf.length+1) (cFd key (lf++[⟨i,2,0,0⟩])) by rw[cFd_snoc];exact hrow);have HB2X:=Hd hb2;clear hrow hg hb2)
    have hrow:=HROW.out
    obtain⟨A3x,c3x,rfl,_,_⟩:=own_form hrow
    have HROW2:=Hd hrow
    clear hrow
    go_roundw
    case rel=>exact⟨i+1,lf++[⟨i,2,0,0⟩],A3x,c3x,by go_num,by omega,HAT.out,by rw[List.length_append];rfl,by rw[List.length_append];exact HROW2.out,HB2X.out⟩
    case measure=>simp[intOf];omega
   have k3:(s.kind==3)=false:=by simpa using h3
   by_cases h2:s.kind=2
   ·have k2:(s.kind==2)=true:=by simpa using h2
    have HF:=Hd h2
    clear h1 h2 h3
    have HAT:=Hd (HNX.out [⟨i,4,s.ep,s.ct⟩] (by unfold findAt;simp[HKD.out.2,HF.out]))
    clear HNX
    have hl1:=run_litS (wr.alloc (.cells #[.string ⟨key.toArray⟩,.int .i64 (i:Int),.int .i64 4,.int .i64 s.ep,.int .i64 s.ct] tFind)) tFinds tFind _ 5 48 Tryz.underlying47 infoFd (by decide) (by decide) #[.string ⟨key.toArray⟩,.int .i64 (i:Int),.int .i64 4,.int .i64 s.ep,.int .i64 s.ct] rfl
    have HO1:=Hd (Dr.own_alloc (Dr.own_alloc HOWN.out (.cells #[.string ⟨key.toArray⟩,.int .i64 (i:Int),.int .i64 4,.int .i64 s.ep,.int .i64 s.ct] tFind)) (.cells #[.string ⟨key.toArray⟩,.int .i64 (i:Int),.int .i64 4,.int .i64 s.ep,.int .i64 s.ct] tFind))
    have HRX:=Hd (rd_newS (wr.alloc (.cells #[.string ⟨key.toArray⟩,.int .i64 (i:Int),.int .i64 4,.int .i64 s.ep,.int .i64 s.ct] tFind)) 5 [.string ⟨key.toArray⟩,.int .i64 (i:Int),.int .i64 4,.int .i64 s.ep,.int .i64 s.ct] rfl tFind)
    have HBX:=Hd ((HBW.out.alloc (by omega) (.cells #[.string ⟨key.toArray⟩,.int .i64 (i:Int),.int .i64 4,.int .i64 s.ep,.int .i64 s.ct] tFind)).alloc (by simp;omega) (.cells #[.string ⟨key.toArray⟩,.int .i64 (i:Int),.int .i64 4,.int .i64 s.ep,.int .i64 s.ct] tFind))
    go_wp2_with (at_builtin;go_loud (refine wpList_append_rd _ rfl (.tmp 55) (.tmp 57) 47 rfl (G+1) tFind r0 _ 5 48 Tryz.underlying47 hr0 hrz0 hrz1 hrz2 rfl (by decide) (.slice Ao lf.length co) lf.length (cFd key lf) rfl HO1.out _ (some ⟨(wr.alloc (.cells #[.string ⟨key.toArray⟩,.int .i64 (i:Int),.int .i64 4,.int .i64 s.ep,.int .i64 s.ct] tFind)).heap.size,0,none⟩) 1 1 [.string ⟨key.toArray⟩,.int .i64 (i:Int),.int .i64 4,.int .i64 s.ep,.int .i64 s.ct] (by simp[Act.eval]) HRX.out (fun h=>by cases h) (fdC_one key ⟨i,4,s.ep,s.ct⟩) (by unfold maxLen;omega) (by omega) (by simp;omega) ?_);intro v' w' hrow hg;go_loud (have hb2:=HBX.out.grown hg (by simp;omega) (fun j hj=>Dr.own_ge HO1.out hj));have HROW:=Hd (show w'.ownsRow (G+1) tFind 5 v' (lf.length+1) (cFd key (lf++[⟨i,4,s.ep,s.ct⟩])) by rw[cFd_snoc];exact hrow);have HB2X:=Hd hb2;clear hrow hg hb2)
    have hrow:=HROW.out
    obtain⟨A3x,c3x,rfl,_,_⟩:=own_form hrow
    have HROW2:=Hd hrow
    clear hrow
    go_roundw
    case rel=>exact⟨i+1,lf++[⟨i,4,s.ep,s.ct⟩],A3x,c3x,by go_num,by omega,HAT.out,by rw[List.length_append];rfl,by rw[List.length_append];exact HROW2.out,HB2X.out⟩
    case measure=>simp[intOf];omega
   have k2:(s.kind==2)=false:=by simpa using h2
   have HF:=Hd (show s.kind≠1/\s.kind≠3/\s.kind≠2 from⟨h1,h3,h2⟩)
   clear h1 h2 h3
   have HAT:=Hd (HNX.out [⟨i,5,0,0⟩] (by unfold findAt;simp[HKD.out.2,HF.out.1,HF.out.2.1,HF.out.2.2]))
   clear HNX
   have hl1:=run_litS (wr.alloc (.cells #[.string ⟨key.toArray⟩,.int .i64 (i:Int),.int .i64 5,.int .i64 0,.int .i64 0] tFind)) tFinds tFind _ 5 48 Tryz.underlying47 infoFd (by decide) (by decide) #[.string ⟨key.toArray⟩,.int .i64 (i:Int),.int .i64 5,.int .i64 0,.int .i64 0] rfl
   have HO1:=Hd (Dr.own_alloc (Dr.own_alloc HOWN.out (.cells #[.string ⟨key.toArray⟩,.int .i64 (i:Int),.int .i64 5,.int .i64 0,.int .i64 0] tFind)) (.cells #[.string ⟨key.toArray⟩,.int .i64 (i:Int),.int .i64 5,.int .i64 0,.int .i64 0] tFind))
   have HRX:=Hd (rd_newS (wr.alloc (.cells #[.string ⟨key.toArray⟩,.int .i64 (i:Int),.int .i64 5,.int .i64 0,.int .i64 0] tFind)) 5 [.string ⟨key.toArray⟩,.int .i64 (i:Int),.int .i64 5,.int .i64 0,.int .i64 0] rfl tFind)
   have HBX:=Hd ((HBW.out.alloc (by omega) (.cells #[.string ⟨key.toArray⟩,.int .i64 (i:Int),.int .i64 5,.int .i64 0,.int .i64 0] tFind)).alloc (by simp;omega) (.cells #[.string ⟨key.toArray⟩,.int .i64 (i:Int),.int .i64 5,.int .i64 0,.int .i64 0] tFind))
   go_wp2_with (at_builtin;go_loud (refine wpList_append_rd _ rfl (.tmp 55) (.tmp 57) 47 rfl (G+1) tFind r0 _ 5 48 Tryz.underlying47 hr0 hrz0 hrz1 hrz2 rfl (by decide) (.slice Ao lf.length co) lf.length (cFd key lf) rfl HO1.out _ (some ⟨(wr.alloc (.cells #[.string ⟨key.toArray⟩,.int .i64 (i:Int),.int .i64 5,.int .i64 0,.int .i64 0] tFind)).heap.size,0,none⟩) 1 1 [.string ⟨key.toArray⟩,.int .i64 (i:Int),.int .i64 5,.int .i64 0,.int .i64 0] (by simp[Act.eval]) HRX.out (fun h=>by cases h) (fdC_one key ⟨i,5,0,0⟩) (by unfold maxLen;omega) (by omega) (by simp;omega) ?_);intro v' w' hrow hg;go_loud (have hb2:=HBX.out.grown hg (by simp;omega) (fun j hj=>Dr.own_ge HO1.out hj));have HROW:=Hd (show w'.ownsRow (G+1) tFind 5 v' (lf.length+1) (cFd key (lf++[⟨i,5,0,0⟩])) by rw[cFd_snoc];exact hrow);have HB2X:=Hd hb2;clear hrow hg hb2)
   have hrow:=HROW.out
   obtain⟨A3x,c3x,rfl,_,_⟩:=own_form hrow
   have HROW2:=Hd hrow
   clear hrow
   go_roundw
   case rel=>exact⟨i+1,lf++[⟨i,5,0,0⟩],A3x,c3x,by go_num,by omega,HAT.out,by rw[List.length_append];rfl,by rw[List.length_append];exact HROW2.out,HB2X.out⟩
   case measure=>simp[intOf];omega
  ·obtain rfl:i=n:=by omega
   have hJ:judgeL Kx v L=lf:=by
    rw[<-hlf]
    unfold judgeL
    rw[HBAD.out,HLL.out,headF_any HKD.out.1]
   have HJ:=Hd hJ
   have H2:=Hd (Rd.of_own hown)
   have HBW:=Hd hb
   clear hown hb hlf hJ
   go_wp2
   go_ret
   exact⟨⟨Ao,co,by rw[HJ.out];rfl,by rw[HJ.out];exact H2.out⟩,HB0.out.trans (HBW.out.mono (by rw[HG.out];omega))⟩
set_option maxRecDepth 100000 in
set_option maxHeartbeats 16000000 in
theorem without_else {w:World} {B n c:Nat} {A:Option Addr} {Kx:Int} {key:List UInt8} {v:Vd} {pl:Value} {L:List Sn} (hL:SnsRd w B A n L) (hB:B<=w.heap.size) (hn:n<=1024) (hk:v.kind≠1/\v.kind≠2) :
  Calls Tryz.prog 14 #[.string ⟨key.toArray⟩,.agg (vdC v pl).toArray,.slice A n c] w fun x w'=>JudgeOk w w' key (judgeL Kx v L) x:=by
 obtain⟨r0,hr0,hrz0,hrz1,hrz2⟩:=info_parts infoFd
 have hLl:=hL.len
 have hkc:(v.kind==2)=false:=by simpa using hk.2
 have hkn:(v.kind != 2)=true:=by simpa using hk.2
 have HKD:=Hd (show v.kind≠1/\v.kind≠2 from hk)
 clear hk
 obtain⟨G,hG⟩:∃ G,w.heap.size=G:=⟨_,rfl⟩
 obtain⟨D,hD⟩:∃ D,vdC v pl=D:=⟨_,rfl⟩
 obtain⟨w0,hw0⟩:∃ w0,w.alloc (.cells D.toArray tVd)=w0:=⟨_,rfl⟩
 have hb0:Below w.heap.size w w0:=by rw[<-hw0];exact (Below.refl _ _).alloc (Nat.le_refl _) _
 have hs0:w0.heap.size=G+1:=by rw[<-hw0,<-hG];simp
 have hd0:w0.rangeAt G 0 (vdC v pl):=fun q u hu=>by
  rw[hD] at hu
  have h:=new_cells w D tVd q u hu
  rw[Addr.add_mid,hw0,hG] at h
  exact h
 have hv0:w0.cell? ⟨G,0,none⟩=some (.int .i64 v.kind):=hd0 0 _ rfl
 have HLL:=Hd hLl
 have HG:=Hd hG
 have HW0:=Hd hw0
 have HB0:=Hd hb0
 have HS0:=Hd hs0
 have HV0:=Hd hv0
 have HL0:=Hd (show SnsRd w0 B A n L from hL.below (hb0.mono hB))
 have hBG:B<=G:=by omega
 obtain⟨bad,hbad⟩:∃ bad,metB (resJ Kx v L) (mst v L)=bad:=⟨_,rfl⟩
 have HBAD:=Hd hbad
 rw[hD]
 have HB00:=Hd (Below.refl (G+1) w0)
 clear hL hLl hG hD hw0 hb0 hs0 hd0 hbad hv0
 go_enter Tryz.func14,Tryz.ntmps14
 go_upto_region 1 with (fail)
 rw[HW0.out,HG.out]
 have hv0:=HV0.out
 have HHD:=Hd (show headF v false=[⟨-1,6,0,0⟩] by unfold headF;rw[if_neg HKD.out.1,if_neg HKD.out.2])
 have hl1:=run_litS w0 tFinds tFind _ 5 48 Tryz.underlying47 infoFd (by decide) (by decide) #[.string ⟨key.toArray⟩,.int .i64 (-1),.int .i64 6,.int .i64 0,.int .i64 0] rfl
 have hs1:w0.heap.size=G+1:=HS0.out
 have HO1:=Hd (show (w0.alloc (.cells #[.string ⟨key.toArray⟩,.int .i64 (-1),.int .i64 6,.int .i64 0,.int .i64 0] tFind)).ownsRow (G+1) tFind 5 (.slice none 0 0) 0 [] from World.ownsRow_nil _ _ _ _)
 have HRX:=Hd (rd_newS w0 5 [.string ⟨key.toArray⟩,.int .i64 (-1),.int .i64 6,.int .i64 0,.int .i64 0] rfl tFind)
 have HBX:=Hd (HB00.out.alloc (by omega) (.cells #[.string ⟨key.toArray⟩,.int .i64 (-1),.int .i64 6,.int .i64 0,.int .i64 0] tFind))
 have hs2:G+1<=w0.heap.size:=by omega
 clear hs1
 go_upto_region 4 with (at_builtin;go_loud (refine wpList_append_rd _ rfl (.tmp 13) (.tmp 16) 47 rfl (G+1) tFind r0 _ 5 48 Tryz.underlying47 hr0 hrz0 hrz1 hrz2 rfl (by decide) (.slice none 0 0) 0 [] rfl HO1.out _ (some ⟨w0.heap.size,0,none⟩) 1 1 [.string ⟨key.toArray⟩,.int .i64 (-1),.int .i64 6,.int .i64 0,.int .i64 0] rfl HRX.out (fun h=>by cases h) (fdC_one key ⟨-1,6,0,0⟩) (by unfold maxLen;omega) (by omega) (by simp;omega) ?_);intro v' w1 hrow hg;go_loud (have hb2:=HBX.out.grown hg (by simp;omega) (fun j hj=>Dr.own_ge HO1.out hj));have HROW:=Hd hrow;have HB2X:=Hd hb2;clear hrow hg hb2)
 have hrow:=HROW.out
 obtain⟨A3h,c3h,rfl,_,_⟩:=own_form hrow
 rw[show (0+1:Nat)=1 from rfl]
 have HSTART:=Hd (show w1.ownsRow (G+1) tFind 5 (.slice A3h ([⟨-1,6,0,0⟩]:List Fd).length c3h) ([⟨-1,6,0,0⟩]:List Fd).length (cFd key [⟨-1,6,0,0⟩]) from hrow)
 have HBSTART:=HB2X
 clear hrow hl1
 go_wp2
 clear hv0
 go_loopw [7,8] (fun ov iv wr=>∃ (i:Nat) (lf:List Fd) (Ao:Option Addr) (co:Nat),iv = .int .i64 (i:Int)/\i<=n/\headF v false++findsTo v bad L i=lf/\ov = .slice Ao lf.length co/\wr.ownsRow (G+1) tFind 5 (.slice Ao lf.length co) lf.length (cFd key lf)/\Below (G+1) w0 wr) (fun _ iv _=>n - (intOf iv).toNat)
 case atStart=>exact⟨0,_,_,_,rfl,Nat.zero_le _,by simp only[findsTo,List.append_nil];exact HHD.out,rfl,HSTART.out,HBSTART.out⟩
 case round=>
  obtain⟨i,lf,Ao,co,rfl,hi,hlf,rfl,hown,hb⟩:=hrel
  by_cases hin:i<n
  ·have hin2:(i:Int)<(n:Int):=by omega
   have hi00:(0:Int)<=(i:Int):=by omega
   obtain⟨s,hs⟩:∃ s,L[i]?=some s:=⟨_,List.getElem?_eq_getElem (by rw[HLL.out];exact hin)⟩
   obtain⟨g',oo,Ab,cb,hA,hgB,hrg,_⟩:=HL0.out.at_ i s hs
   subst hA
   have hgs:G+1<=wr.heap.size:=by have:=hb.size;have:=HS0.out;omega
   have hfl:lf.length<=100000:=by
    have h1:=length_findsTo v bad L i
    have h2:=length_headF v false
    rw[<-hlf,List.length_append]
    omega
   have hgw:g'<wr.heap.size:=by omega
   have hGw:G<wr.heap.size:=by omega
   have hrw:wr.rangeAt g' (oo+i*19) (snC s (.slice Ab s.blocks.length cb)):=range_below hrg (show g'<G+1 by omega) hb
   have n0:wr.cell? ⟨g',oo+i*19,none⟩=some (.int .i64 s.kind):=hrw 0 _ rfl
   have n15:wr.cell? ⟨g',oo+i*19+15,none⟩=some (.int .i64 s.ep):=hrw 15 _ rfl
   have n16:wr.cell? ⟨g',oo+i*19+16,none⟩=some (.int .i64 s.ct):=hrw 16 _ rfl
   have n15':wr.cell? ⟨g',oo+i*19+1+14,none⟩=some (.int .i64 s.ep):=n15
   have n16':wr.cell? ⟨g',oo+i*19+1+15,none⟩=some (.int .i64 s.ct):=n16
   have n16b:wr.cell? ⟨g',oo+i*19+1+14+1,none⟩=some (.int .i64 s.ct):=n16
   have n16c:wr.cell? ⟨g',oo+i*19+15+1,none⟩=some (.int .i64 s.ct):=n16
   have vk:wr.cell? ⟨G,0,none⟩=some (.int .i64 v.kind):=(hb.cell (p:=⟨G,0,none⟩) (Nat.lt_succ_self G)).trans HV0.out
   have HNX:=Hd (fun fs (h:findAt v bad i s=fs)=>show headF v false++findsTo v bad L (i+1)=lf++fs by rw[findsTo_succ hs,h,<-List.append_assoc,hlf])
   have HOWN:=Hd hown
   have HBW:=Hd hb
   clear hown hb hrg hrw hlf hs
   by_cases h1:s.kind=1
   ·have k1:(s.kind==1)=true:=by simpa using h1
    have HF:=Hd h1
    clear h1
    have HAT:=Hd (HNX.out [] (by unfold findAt;simp[HKD.out.1,HKD.out.2,HF.out]))
    clear HNX
    have HO1:=Hd (Dr.own_alloc HOWN.out (.cells #[.string ⟨key.toArray⟩,.int .i64 (i:Int),.int .i64 0,.int .i64 0,.int .i64 0] tFind))
    have HBX:=Hd (HBW.out.alloc (by omega) (.cells #[.string ⟨key.toArray⟩,.int .i64 (i:Int),.int .i64 0,.int .i64 0,.int .i64 0] tFind))
    go_wp2
    go_roundw
    case rel=>exact⟨i+1,lf,Ao,co,by go_num,by omega,by rw[HAT.out,List.append_nil],rfl,HO1.out,HBX.out⟩
    case measure=>simp[intOf];omega
   have k1:(s.kind==1)=false:=by simpa using h1
   by_cases h3:s.kind=3
   ·have k3:(s.kind==3)=true:=by simpa using h3
    have HF:=Hd h3
    clear h1 h3
    have HAT:=Hd (HNX.out [⟨i,2,0,0⟩] (by unfold findAt;simp[HKD.out.1,HKD.out.2,HF.out]))
    clear HNX
    have hl1:=run_litS (wr.alloc (.cells #[.string ⟨key.toArray⟩,.int .i64 (i:Int),.int .i64 2,.int .i64 0,.int .i64 0] tFind)) tFinds tFind _ 5 48 Tryz.underlying47 infoFd (by decide) (by decide) #[.string ⟨key.toArray⟩,.int .i64 (i:Int),.int .i64 2,.int .i64 0,.int .i64 0] rfl
    have HO1:=Hd (Dr.own_alloc (Dr.own_alloc HOWN.out (.cells #[.string ⟨key.toArray⟩,.int .i64 (i:Int),.int .i64 2,.int .i64 0,.int .i64 0] tFind)) (.cells #[.string ⟨key.toArray⟩,.int .i64 (i:Int),.int .i64 2,.int .i64 0,.int .i64 0] tFind))
    have HRX:=Hd (rd_newS (wr.alloc (.cells #[.string ⟨key.toArray⟩,.int .i64 (i:Int),.int .i64 2,.int .i64 0,.int .i64 0] tFind)) 5 [.string ⟨key.toArray⟩,.int .i64 (i:Int),.int .i64 2,.int .i64 0,.int .i64 0] rfl tFind)
    have HBX:=Hd ((HBW.out.alloc (by omega) (.cells #[.string ⟨key.toArray⟩,.int .i64 (i:Int),.int .i64 2,.int .i64 0,.int .i64 0] tFind)).alloc (by simp;omega) (.cells #[.string ⟨key.toArray⟩,.int .i64 (i:Int),.int .i64 2,.int .i64 0,.int .i64 0] tFind))
    go_wp2_with (at_builtin;go_loud (refine wpList_append_rd _ rfl (.tmp 55) (.tmp 57) 47 rfl (G+1) tFind r0 _ 5 48 Tryz.underlying47 hr0 hrz0 hrz1 hrz2 rfl (by decide) (.slice Ao lf.length co) lf.length (cFd key lf) rfl HO1.out _ (some ⟨(wr.alloc (.cells #[.string ⟨key.toArray⟩,.int .i64 (i:Int),.int .i64 2,.int .i64 0,.int .i64 0] tFind)).heap.size,0,none⟩) 1 1 [.string ⟨key.toArray⟩,.int .i64 (i:Int),.int .i64 2,.int .i64 0,.int .i64 0] (by simp[Act.eval]) HRX.out (fun h=>by cases h) (fdC_one key ⟨i,2,0,0⟩) (by unfold maxLen;omega) (by omega) (by simp;omega) ?_);intro v' w' hrow hg;go_loud (have hb2:=HBX.out.grown hg (by simp;omega) (fun j hj=>Dr.own_ge HO1.out hj));have HROW:=Hd (show w'.ownsRow (G+1) tFind 5 v' (lf.length+1) (cFd key (lf++[⟨i,2,0,0⟩])) by rw[cFd_snoc];exact hrow);have HB2X:=Hd hb2;clear hrow hg hb2)
    have hrow:=HROW.out
    obtain⟨A3x,c3x,rfl,_,_⟩:=own_form hrow
    have HROW2:=Hd hrow
    clear hrow
    go_roundw
    case rel=>exact⟨i+1,lf++[⟨i,2,0,0⟩],A3x,c3x,by go_num,by omega,HAT.out,by rw[List.length_append];rfl,by rw[List.length_append];exact HROW2.out,HB2X.out⟩
    case measure=>simp[intOf];omega
   have k3:(s.kind==3)=false:=by simpa using h3
   by_cases h2:s.kind=2
   ·have k2:(s.kind==2)=true:=by simpa using h2
    have HF:=Hd h2
    clear h1 h2 h3
    have HAT:=Hd (HNX.out [] (by unfold findAt;simp[HKD.out.1,HKD.out.2,HF.out]))
    clear HNX
    have HO1:=Hd (Dr.own_alloc HOWN.out (.cells #[.string ⟨key.toArray⟩,.int .i64 (i:Int),.int .i64 0,.int .i64 0,.int .i64 0] tFind))
    have HBX:=Hd (HBW.out.alloc (by omega) (.cells #[.string ⟨key.toArray⟩,.int .i64 (i:Int),.int .i64 0,.int .i64 0,.int .i64 0] tFind))
    go_wp2
    go_roundw
    case rel=>exact⟨i+1,lf,Ao,co,by go_num,by omega,by rw[HAT.out,List.append_nil],rfl,HO1.out,HBX.out⟩
    case measure=>simp[intOf];omega
   have k2:(s.kind==2)=false:=by simpa using h2
   have HF:=Hd (show s.kind≠1/\s.kind≠3/\s.kind≠2 from⟨h1,h3,h2⟩)
   clear h1 h2 h3
   have HAT:=Hd (HNX.out [⟨i,5,0,0⟩] (by unfold findAt;simp[HKD.out.1,HKD.out.2,HF.out.1,HF.out.2.1,HF.out.2.2]))
   clear HNX
   have hl1:=run_litS (wr.alloc (.cells #[.string ⟨key.toArray⟩,.int .i64 (i:Int),.int .i64 5,.int .i64 0,.int .i64 0] tFind)) tFinds tFind _ 5 48 Tryz.underlying47 infoFd (by decide) (by decide) #[.string ⟨key.toArray⟩,.int .i64 (i:Int),.int .i64 5,.int .i64 0,.int .i64 0] rfl
   have HO1:=Hd (Dr.own_alloc (Dr.own_alloc HOWN.out (.cells #[.string ⟨key.toArray⟩,.int .i64 (i:Int),.int .i64 5,.int .i64 0,.int .i64 0] tFind)) (.cells #[.string ⟨key.toArray⟩,.int .i64 (i:Int),.int .i64 5,.int .i64 0,.int .i64 0] tFind))
   have HRX:=Hd (rd_newS (wr.alloc (.cells #[.string ⟨key.toArray⟩,.int .i64 (i:Int),.int .i64 5,.int .i64 0,.int .i64 0] tFind)) 5 [.string ⟨key.toArray⟩,.int .i64 (i:Int),.int .i64 5,.int .i64 0,.int .i64 0] rfl tFind)
   have HBX:=Hd ((HBW.out.alloc (by omega) (.cells #[.string ⟨key.toArray⟩,.int .i64 (i:Int),.int .i64 5,.int .i64 0,.int .i64 0] tFind)).alloc (by simp;omega) (.cells #[.string ⟨key.toArray⟩,.int .i64 (i:Int),.int .i64 5,.int .i64 0,.int .i64 0] tFind))
   go_wp2_with (at_builtin;go_loud (refine wpList_append_rd _ rfl (.tmp 55) (.tmp 57) 47 rfl (G+1) tFind r0 _ 5 48 Tryz.underlying47 hr0 hrz0 hrz1 hrz2 rfl (by decide) (.slice Ao lf.length co) lf.length (cFd key lf) rfl HO1.out _ (some ⟨(wr.alloc (.cells #[.string ⟨key.toArray⟩,.int .i64 (i:Int),.int .i64 5,.int .i64 0,.int .i64 0] tFind)).heap.size,0,none⟩) 1 1 [.string ⟨key.toArray⟩,.int .i64 (i:Int),.int .i64 5,.int .i64 0,.int .i64 0] (by simp[Act.eval]) HRX.out (fun h=>by cases h) (fdC_one key ⟨i,5,0,0⟩) (by unfold maxLen;omega) (by omega) (by simp;omega) ?_);intro v' w' hrow hg;go_loud (have hb2:=HBX.out.grown hg (by simp;omega) (fun j hj=>Dr.own_ge HO1.out hj));have HROW:=Hd (show w'.ownsRow (G+1) tFind 5 v' (lf.length+1) (cFd key (lf++[⟨i,5,0,0⟩])) by rw[cFd_snoc];exact hrow);have HB2X:=Hd hb2;clear hrow hg hb2)
   have hrow:=HROW.out
   obtain⟨A3x,c3x,rfl,_,_⟩:=own_form hrow
   have HROW2:=Hd hrow
   clear hrow
   go_roundw
   case rel=>exact⟨i+1,lf++[⟨i,5,0,0⟩],A3x,c3x,by go_num,by omega,HAT.out,by rw[List.length_append];rfl,by rw[List.length_append];exact HROW2.out,HB2X.out⟩
   case measure=>simp[intOf];omega
  ·obtain rfl:i=n:=by omega
   have hJ:judgeL Kx v L=lf:=by
    rw[<-hlf]
    unfold judgeL
    rw[HBAD.out,HLL.out,headF_any HKD.out.1]
   have HJ:=Hd hJ
   have H2:=Hd (Rd.of_own hown)
   have HBW:=Hd hb
   clear hown hb hlf hJ
   go_wp2
   go_ret
   exact⟨⟨Ao,co,by rw[HJ.out];rfl,by rw[HJ.out];exact H2.out⟩,HB0.out.trans (HBW.out.mono (by rw[HG.out];omega))⟩
end Go.Proofs.YtmgljaecmchgaaaGreat.Gf
