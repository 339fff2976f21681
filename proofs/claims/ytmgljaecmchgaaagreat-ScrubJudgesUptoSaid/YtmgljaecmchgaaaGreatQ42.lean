/- XRc4: merged by tools/merge.py. -/
import Derived.Test.YtmgljaecmchgaaaGreatQ40
import Derived.Test.YtmgljaecmchgaaaGreatQ41
import Derived.Test.YtmgljaecmchgaaaGreatQ30
set_option linter.unusedVariables false
set_option linter.unusedSimpArgs false
set_option linter.unusedSectionVars false
namespace Go.Proofs.YtmgljaecmchgaaaGreat.Gf
open Go.RowKit Go.Proofs
theorem SnsRd.keep {W W':World} {B n:Nat} {A:Option Addr} {L:List Sn} (h:SnsRd W B A n L) (hk:∀ p:Addr,p.block<B->W'.cell? p=W.cell? p):SnsRd W' B A n L:=
 ⟨h.len,fun i s hs=>by
  obtain⟨g',oo,Ab,cb,h1,h2,h3,h4⟩:=h.at_ i s hs
  refine⟨g',oo,Ab,cb,h1,h2,fun j u hu=>(hk ⟨g',oo+i*19+j,none⟩ h2).trans (h3 j u hu),?_⟩
  obtain⟨vs,r1,r2⟩:=h4.rows
  exact⟨h4.len,vs,r1.keep hk,fun i r hr=>by obtain⟨Ai,ci,h5,h6⟩:=r2 i r hr;exact⟨Ai,ci,h5,h6.keep hk⟩⟩⟩
theorem bools_set {w:World} {base g n:Nat} {f f':Nat->Bool} (h:w.ownsRow base tBool 1 (slE g n) n (fromV n fun i=>.bool (f i))) (m:Nat) (e:∀ q,(f q||(q==m))=f' q):(w.setCell ⟨g,m,none⟩ (.bool true)).ownsRow base tBool 1 (slE g n) n (fromV n fun i=>.bool (f' i)):=by
 have h1:=ow_store (i:=m) h (.bool true)
 rw[fromV_set] at h1
 have e2:(fromV n fun j=>if j=m then Value.bool true else .bool (f j))=fromV n fun i=>.bool (f' i):=fromV_congr fun q _=>by
  rw[<-e q]
  by_cases hq:q=m
  ·subst hq;simp
  ·simp[hq]
 rw[e2] at h1
 exact h1
theorem bools_congr {w:World} {base g n:Nat} {f f':Nat->Bool} (h:w.ownsRow base tBool 1 (slE g n) n (fromV n fun i=>.bool (f i))) (e:∀ q,f q=f' q):w.ownsRow base tBool 1 (slE g n) n (fromV n fun i=>.bool (f' i)):=by
 rw[<-funext e];exact h
theorem bools_ne {w:World} {base g n:Nat} {f:Nat->Bool} (h:w.ownsRow base tBool 1 (slE g n) n (fromV n fun i=>.bool (f i))) {p:Addr} {k:IntKind} {z:Int} (hp:w.cell? p=some (.int k z)):p.block≠g:=fun e=>by
 rcases h.2 with ⟨h1,_⟩ | ⟨g',cap,cur,h1,_,hh,_,_,hcs,ht⟩
 ·cases h1
 ·injection h1 with h1 h2 h3
  injection h1 with h1
  injection h1 with h1
  subst h1
  subst h3
  obtain⟨b,o,s⟩:=p
  obtain rfl:b=g:=e
  have hc:w.cell? ⟨b,o,s⟩=cur[o]?:=by
   cases s with
   | none=>exact cell_of_row w b o _ _ _ hh
   | some q=>simp[World.cell?,hh] at hp
  rw[hc] at hp
  have ht2:cur.toList=fromV n fun i=>.bool (f i):=by
   rw[<-ht,List.take_of_length_le (by simp;omega)]
  rw[<-Array.getElem?_toList,ht2] at hp
  obtain⟨_,_,e2⟩:=List.mem_map.1 (List.mem_of_getElem? hp)
  cases e2
set_option maxRecDepth 100000 in
set_option maxHeartbeats 40000000 in
theorem judgeR_val {w:World} {B n c g:Nat} {A:Option Addr} {Kx M Bk ep ct:Int} {key:List UInt8} {v:Vd} {pl:Value} {L:List Sn} (hL:SnsRd w B A n L) (hB:B<=w.heap.size)
  (hS:SetAt w g n Kx M Bk ep ct) (hraw:rawB Kx M Bk n ep ct=true) (hbn:∀ s∈L,s.blocks.length<=1099511627776) (hlen:∀ s∈L,∀ b∈s.blocks,b.length<=1099511627776) (hk:v.kind=1) :
  Calls Tryz.prog 5 #[.pointer (some ⟨g,0,none⟩),.string ⟨key.toArray⟩,.agg (vdC v pl).toArray,.slice A n c] w fun x w'=>JudgeOk w w' key (judgeL Kx v L) x:=by
 obtain⟨r0,hr0,hrz0,hrz1,hrz2⟩:=info_parts infoFd
 have hLl:=hL.len
 have hkn:(v.kind != 1)=false:=by rw[hk];rfl
 have HKD:=Hd hk
 clear hk
 have hn255:n<=255:=by
  unfold rawB at hraw
  have h2:=fitB_bd (K:=Kx) (M:=M) (B:=Bk) (by cases h:fitB Kx M Bk<;>simp_all)
  have h3:(n:Int)=Kx+M:=by
   have:=(Bool.and_eq_true _ _▸hraw).2
   simp at this
   exact this.1
  omega
 obtain⟨G,hG⟩:∃ G,w.heap.size=G:=⟨_,rfl⟩
 obtain⟨D,hD⟩:∃ D,vdC v pl=D:=⟨_,rfl⟩
 have hDl:D.length=5:=by rw[<-hD];rfl
 have hDi:(Tryz.prog.info? tVd).map (fun i=>i.size)=some D.length:=by rw[hDl];kernel_rfl
 obtain⟨w0,hw0⟩:∃ w0,w.alloc (.cells D.toArray tVd)=w0:=⟨_,rfl⟩
 have hb0:Below w.heap.size w w0:=by rw[<-hw0];exact (Below.refl _ _).alloc (Nat.le_refl _) _
 have hs0:w0.heap.size=G+1:=by rw[<-hw0,<-hG];simp
 have hd0:w0.rangeAt G 0 D:=fun q u hu=>by
  have h:=new_cells w D tVd q u hu
  rw[Addr.add_mid,hw0,hG] at h
  exact h
 have hM40:=mst_le (v:=v) hbn
 obtain⟨Mm,hM⟩:∃ Mm,mst v L=Mm:=⟨_,rfl⟩
 rw[hM] at hM40
 obtain⟨res,hres⟩:∃ res,resJ Kx v L=res:=⟨_,rfl⟩
 have HLL:=Hd hLl
 have HG:=Hd hG
 have HW0:=Hd hw0
 have HB0:=Hd hb0
 have HS0:=Hd hs0
 have HD:=Hd hD
 have HDI:=Hd hDi
 have HD0:=Hd hd0
 have HL0:=Hd (show SnsRd w0 B A n L from hL.below (hb0.mono hB))
 have HSET0:=Hd (hS.below hb0)
 have HRAW:=Hd hraw
 have HBN:=Hd hbn
 have HM:=Hd hM
 have HRE:=Hd hres
 have HRES:=Hd (show ∀ j,mendF Kx (rowsJ v L j)=res j from fun j=>by rw[<-hres];rfl)
 have HRL:=Hd (show ∀ j,∀ r∈rowsJ v L j,r.length<=1099511627776 from fun j r hr=>by
  obtain⟨s,hs,rfl⟩:=List.mem_map.1 hr
  split
  ·rw[List.getD_eq_getElem?_getD]
   cases hb:s.blocks[j]? with
   | none=>simp
   | some b=>exact hlen s hs b (List.mem_of_getElem? hb)
  ·simp)
 have hBG:B<=G:=by omega
 have hgG:g<G:=by have:=hS.lt;omega
 rw[hD]
 clear hL hLl hG hD hDl hDi hw0 hb0 hs0 hd0 hS hraw hbn hlen hM hres
 go_enter Tryz.func5,Tryz.ntmps5
 go_upto_region 1 with (fail)
 rw[HW0.out,HG.out]
 go_upto_region 7 with (go_at_call 13;obtain⟨_,_,c0⟩:=HSET0.out.c0;refine (rawR_any HSET0.out.lt c0 HSET0.out.c1 HSET0.out.c2 HSET0.out.c3 HSET0.out.c12 HSET0.out.c13 (by omega)).mono ?_;rintro x w1 ⟨rfl,hb1⟩;rw[HRAW.out];have HB1:=Hd hb1;have HSET1:=Hd (HSET0.out.below hb1);obtain⟨_,_,cc0⟩:=HSET1.out.c0;have hd1:w1.rangeAt G 0 (vdC v pl):=(by rw[HD.out];exact range_below HD0.out (by rw[HS0.out];omega) hb1);have HD1:=Hd hd1;have vc0:w1.cell? ⟨G,0,none⟩=some (.int .i64 v.kind):=hd1 0 _ rfl;have hg1:G+1<=w1.heap.size:=(by have:=hb1.size;rw[HS0.out] at this;exact this);have HL1:=Hd (HL0.out.below (hb1.mono (by rw[HS0.out];omega)));clear hb1 hd1)
 clear c0 cc0 vc0
 rw[HD.out] at HD1
 have HBR:=Hd (Below.refl (G+1) w1)
 go_wp2
 go_loopw [11,12] (fun mv iv wr=>∃ i:Nat,iv = .int .i64 (i:Int)/\i<=n/\mv = .int .i64 (mst v (L.take i):Int)/\Below (G+1) w1 wr) (fun _ iv _=>n - (intOf iv).toNat)
 case atStart=>exact⟨0,rfl,Nat.zero_le _,rfl,HBR.out⟩
 case round=>
  obtain⟨i,rfl,hi,rfl,hb⟩:=hrel
  by_cases hin:i<n
  ·have hin2:(i:Int)<(n:Int):=by omega
   have hi00:(0:Int)<=(i:Int):=by omega
   obtain⟨s,hs⟩:∃ s,L[i]?=some s:=⟨_,List.getElem?_eq_getElem (by rw[HLL.out];exact hin)⟩
   obtain⟨g',oo,Ab,cb,hA,hgB,hrg,_⟩:=HL1.out.at_ i s hs
   subst hA
   obtain⟨len,hlen⟩:∃ len,s.blocks.length=len:=⟨_,rfl⟩
   have hlen40:len<=1099511627776:=by rw[<-hlen];exact HBN.out s (List.mem_of_getElem? hs)
   have hmt:=mst_take (v:=v) hs
   have hmle:mst v (L.take i)<=1099511627776:=mst_le fun s hs=>HBN.out s (List.mem_of_mem_take hs)
   rw[hlen] at hrg hmt
   obtain⟨m0,hm0⟩:∃ m0,mst v (L.take i)=m0:=⟨_,rfl⟩
   rw[hm0] at hmt hmle ⊢
   obtain⟨C,hC⟩:∃ C,snC s (.slice Ab len cb)=C:=⟨_,rfl⟩
   have hCl:C.length=19:=by rw[<-hC];rfl
   have hCi:(Tryz.prog.info? tSeen).map (fun i=>i.size)=some C.length:=by rw[hCl];exact snC_size
   have hgs:G+1<=wr.heap.size:=by have:=hb.size;omega
   have hg'G:g'<G:=by omega
   have hsx:wr.rangeAt g' (oo+i*19) C/\wr.rangeAt G 0 D/\wr.cell? ⟨g',oo+i*19+17,none⟩=some (.slice Ab len cb):=by
    have h2:wr.rangeAt g' (oo+i*19) (snC s (.slice Ab len cb)):=range_below hrg (show g'<G+1 by omega) hb
    exact⟨by rw[<-hC];exact h2,range_below HD1.out (Nat.lt_succ_self G) hb,h2 17 _ rfl⟩
   have HSX:=Hd hsx
   have HC:=Hd hC
   have HCI:=Hd hCi
   have HBW:=Hd hb
   have HMT:=Hd hmt
   clear hb hrg hC hCl hCi hsx hs hlen hmt hm0
   cases how:own v s with
   | false=>
    have HOW:=Hd how
    clear how
    go_upto_region 11 with (fail)
    refine wp_region_any (by kernel_rfl) ?_
    change wpAny _ _ _ _ _ _ _ (World.drew _)
    refine wpAny_of_P (S:=fun wx=>wx.rangeAt g' (oo+i*19) C/\wx.rangeAt G 0 D/\wx.cell? ⟨g',oo+i*19+17,none⟩=some (.slice Ab len cb)) (late:=[16]) _ _ _ _ ?_
    refine tT 0 HSX.out ?_
    try go_frame
    refine tT 1 HSX.out ?_
    try go_frame
    refine tT 2 HSX.out ?_
    try go_frame
    refine tP 8 3 rfl HSX.out (fun w hw=>by obtain⟨k1,_,_⟩:=hw;refine Eq.trans (exec_load_mid tSeen (.tmp 53) (by rfl) g' (oo+i*19) (by rfl) C _ k1 Tryz.underlying72 rfl HCI.out) ?_;with_reducible rfl) ?_
    try go_frame
    refine tP 8 4 rfl HSX.out (fun w hw=>by obtain⟨_,k2,_⟩:=hw;refine Eq.trans (exec_load_mid tVd (.tmp 6) (by rfl) G 0 (by rfl) D _ k2 Tryz.underlying32 rfl HDI.out) ?_;with_reducible rfl) ?_
    try go_frame
    refine fP 5 fun K hK=>?_
    go_simp
    have hsh:=shows_any (v:=v) (pl:=pl) (bv:=.slice Ab len cb) (s:=s) (World.drew wr)
    rw[HC.out,HD.out] at hsh
    refine hsh.mono ?_;clear hsh;rintro x w5 ⟨rfl,hb5⟩;rw[HOW.out];have HB5:=Hd (show Below wr.heap.size wr w5 from⟨hb5.os,hb5.tape,hb5.output,hb5.size,hb5.block⟩);have hs5:w5.rangeAt g' (oo+i*19) C/\w5.rangeAt G 0 D/\w5.cell? ⟨g',oo+i*19+17,none⟩=some (.slice Ab len cb):=⟨range_below HSX.out.1 (by omega) HB5.out,range_below HSX.out.2.1 (by omega) HB5.out,(HB5.out.cell (p:=⟨g',oo+i*19+17,none⟩) (by show g'<wr.heap.size;omega)).trans HSX.out.2.2⟩;have HS5:=Hd hs5;clear hb5 hs5
    refine hK _ _ (HS5.out) ?_;clear hK K
    try go_frame
    refine tT 6 HS5.out ?_
    try go_frame
    refine tO 7 HS5.out ?_
    try go_frame
    refine tO 8 HS5.out ?_
    try go_frame
    refine tO 9 HS5.out ?_
    try go_frame
    refine tO 10 HS5.out ?_
    try go_frame
    refine tO 11 HS5.out ?_
    try go_frame
    refine tO 12 HS5.out ?_
    try go_frame
    refine tO 13 HS5.out ?_
    try go_frame
    refine tO 14 HS5.out ?_
    try go_frame
    refine tO 15 HS5.out ?_
    try go_frame
    refine lP 16 fun K hK=>?_
    go_simp
    refine hK _ _ ?_;clear hK K
    try go_frame
    refine wpAny_done (by kernel_rfl) ?_ _
    go_wp2
    go_roundw
    case rel=>exact⟨i+1,by go_num,by omega,by rw[HMT.out,HOW.out];rfl,HBW.out.trans (HB5.out.mono hgs)⟩
    case measure=>simp[intOf];omega
   | true=>
    have HOW:=Hd how
    clear how
    by_cases hlm:m0<len
    ·have hlm2:(m0:Int)<(len:Int):=by omega
     go_upto_region 11 with (fail)
     refine wp_region_any (by kernel_rfl) ?_
     change wpAny _ _ _ _ _ _ _ (World.drew _)
     refine wpAny_of_P (S:=fun wx=>wx.rangeAt g' (oo+i*19) C/\wx.rangeAt G 0 D/\wx.cell? ⟨g',oo+i*19+17,none⟩=some (.slice Ab len cb)) (late:=[16]) _ _ _ _ ?_
     refine tT 0 HSX.out ?_
     try go_frame
     refine tT 1 HSX.out ?_
     try go_frame
     refine tT 2 HSX.out ?_
     try go_frame
     refine tP 8 3 rfl HSX.out (fun w hw=>by obtain⟨k1,_,_⟩:=hw;refine Eq.trans (exec_load_mid tSeen (.tmp 53) (by rfl) g' (oo+i*19) (by rfl) C _ k1 Tryz.underlying72 rfl HCI.out) ?_;with_reducible rfl) ?_
     try go_frame
     refine tP 8 4 rfl HSX.out (fun w hw=>by obtain⟨_,k2,_⟩:=hw;refine Eq.trans (exec_load_mid tVd (.tmp 6) (by rfl) G 0 (by rfl) D _ k2 Tryz.underlying32 rfl HDI.out) ?_;with_reducible rfl) ?_
     try go_frame
     refine fP 5 fun K hK=>?_
     go_simp
     have hsh:=shows_any (v:=v) (pl:=pl) (bv:=.slice Ab len cb) (s:=s) (World.drew wr)
     rw[HC.out,HD.out] at hsh
     refine hsh.mono ?_;clear hsh;rintro x w5 ⟨rfl,hb5⟩;rw[HOW.out];have HB5:=Hd (show Below wr.heap.size wr w5 from⟨hb5.os,hb5.tape,hb5.output,hb5.size,hb5.block⟩);have hs5:w5.rangeAt g' (oo+i*19) C/\w5.rangeAt G 0 D/\w5.cell? ⟨g',oo+i*19+17,none⟩=some (.slice Ab len cb):=⟨range_below HSX.out.1 (by omega) HB5.out,range_below HSX.out.2.1 (by omega) HB5.out,(HB5.out.cell (p:=⟨g',oo+i*19+17,none⟩) (by show g'<wr.heap.size;omega)).trans HSX.out.2.2⟩;have HS5:=Hd hs5;clear hb5 hs5
     refine hK _ _ (HS5.out) ?_;clear hK K
     try go_frame
     refine tT 6 HS5.out ?_
     try go_frame
     refine tT 7 HS5.out ?_
     try go_frame
     refine tT 8 HS5.out ?_
     try go_frame
     refine tT 9 HS5.out ?_
     try go_frame
     refine tT 10 HS5.out ?_
     try go_frame
     refine tT 11 HS5.out ?_
     try go_frame
     refine tP 8 12 rfl HS5.out (fun w hw=>by obtain⟨_,_,k3⟩:=hw;have k4:w.cell? ⟨g',oo+i*19+1+16,none⟩=some (.slice Ab len cb):=k3;go_simp;try with_reducible rfl) ?_
     try go_frame
     refine tT 13 HS5.out ?_
     try go_frame
     refine tT 14 HS5.out ?_
     try go_frame
     refine tT 15 HS5.out ?_
     try go_frame
     refine lP 16 fun K hK=>?_
     go_simp
     refine hK _ _ ?_;clear hK K
     try go_frame
     refine wpAny_done (by kernel_rfl) ?_ _
     have k5:w5.cell? ⟨g',oo+i*19+1+16,none⟩=some (.slice Ab len cb):=HS5.out.2.2
     have k6:w5.cell? ⟨g',oo+i*19+17,none⟩=some (.slice Ab len cb):=HS5.out.2.2
     have hgw:g'<w5.heap.size:=by have:=HB5.out.size;omega
     go_wp2
     go_roundw
     case rel=>exact⟨i+1,by go_num,by omega,by rw[HMT.out,HOW.out,if_pos rfl,Nat.max_eq_right (by omega)],HBW.out.trans (HB5.out.mono hgs)⟩
     case measure=>simp[intOf];omega
    ·have hlm2:¬ (m0:Int)<(len:Int):=by omega
     go_upto_region 11 with (fail)
     refine wp_region_any (by kernel_rfl) ?_
     change wpAny _ _ _ _ _ _ _ (World.drew _)
     refine wpAny_of_P (S:=fun wx=>wx.rangeAt g' (oo+i*19) C/\wx.rangeAt G 0 D/\wx.cell? ⟨g',oo+i*19+17,none⟩=some (.slice Ab len cb)) (late:=[16]) _ _ _ _ ?_
     refine tT 0 HSX.out ?_
     try go_frame
     refine tT 1 HSX.out ?_
     try go_frame
     refine tT 2 HSX.out ?_
     try go_frame
     refine tP 8 3 rfl HSX.out (fun w hw=>by obtain⟨k1,_,_⟩:=hw;refine Eq.trans (exec_load_mid tSeen (.tmp 53) (by rfl) g' (oo+i*19) (by rfl) C _ k1 Tryz.underlying72 rfl HCI.out) ?_;with_reducible rfl) ?_
     try go_frame
     refine tP 8 4 rfl HSX.out (fun w hw=>by obtain⟨_,k2,_⟩:=hw;refine Eq.trans (exec_load_mid tVd (.tmp 6) (by rfl) G 0 (by rfl) D _ k2 Tryz.underlying32 rfl HDI.out) ?_;with_reducible rfl) ?_
     try go_frame
     refine fP 5 fun K hK=>?_
     go_simp
     have hsh:=shows_any (v:=v) (pl:=pl) (bv:=.slice Ab len cb) (s:=s) (World.drew wr)
     rw[HC.out,HD.out] at hsh
     refine hsh.mono ?_;clear hsh;rintro x w5 ⟨rfl,hb5⟩;rw[HOW.out];have HB5:=Hd (show Below wr.heap.size wr w5 from⟨hb5.os,hb5.tape,hb5.output,hb5.size,hb5.block⟩);have hs5:w5.rangeAt g' (oo+i*19) C/\w5.rangeAt G 0 D/\w5.cell? ⟨g',oo+i*19+17,none⟩=some (.slice Ab len cb):=⟨range_below HSX.out.1 (by omega) HB5.out,range_below HSX.out.2.1 (by omega) HB5.out,(HB5.out.cell (p:=⟨g',oo+i*19+17,none⟩) (by show g'<wr.heap.size;omega)).trans HSX.out.2.2⟩;have HS5:=Hd hs5;clear hb5 hs5
     refine hK _ _ (HS5.out) ?_;clear hK K
     try go_frame
     refine tT 6 HS5.out ?_
     try go_frame
     refine tT 7 HS5.out ?_
     try go_frame
     refine tT 8 HS5.out ?_
     try go_frame
     refine tT 9 HS5.out ?_
     try go_frame
     refine tT 10 HS5.out ?_
     try go_frame
     refine tT 11 HS5.out ?_
     try go_frame
     refine tP 8 12 rfl HS5.out (fun w hw=>by obtain⟨_,_,k3⟩:=hw;have k4:w.cell? ⟨g',oo+i*19+1+16,none⟩=some (.slice Ab len cb):=k3;go_simp;try with_reducible rfl) ?_
     try go_frame
     refine tT 13 HS5.out ?_
     try go_frame
     refine tT 14 HS5.out ?_
     try go_frame
     refine tT 15 HS5.out ?_
     try go_frame
     refine lP 16 fun K hK=>?_
     go_simp
     refine hK _ _ ?_;clear hK K
     try go_frame
     refine wpAny_done (by kernel_rfl) ?_ _
     go_wp2
     go_roundw
     case rel=>exact⟨i+1,by go_num,by omega,by rw[HMT.out,HOW.out,if_pos rfl,Nat.max_eq_left (by omega)],HBW.out.trans (HB5.out.mono hgs)⟩
     case measure=>simp[intOf];omega
  ·obtain rfl:i=n:=by omega
   rw[List.take_of_length_le (by rw[HLL.out];exact Nat.le_refl _),HM.out]
   have HBW:=Hd hb
   obtain⟨wa,rfl⟩:∃ wa,wa=wr:=⟨_,rfl⟩
   obtain⟨W,hW⟩:∃ W,wa.heap.size=W:=⟨_,rfl⟩
   have hmk:=run_makeV wa 73 tBool (.bool false) 1 Tryz.underlying73 infoBool rfl (by decide) i (by omega)
   obtain⟨Zb,hZb⟩:∃ Z,(fromV i fun _=>Value.bool false)=Z:=⟨_,rfl⟩
   rw[hZb,hW] at hmk
   obtain⟨w2,hw2⟩:∃ w2,wa.alloc (.cells Zb.toArray tBool)=w2:=⟨_,rfl⟩
   have hrow2:w2.ownsRow W tBool 1 (slE W i) i (fromV i fun q=>.bool (metB res 0 q)):=by
    have h:=Dr.own_new wa (base:=W) (by omega) tBool 1 i Zb (by rw[<-hZb];simp[fromV]) (by unfold maxLen;omega)
    rw[hW,hw2] at h
    rw[show (fromV i fun q=>Value.bool (metB res 0 q))=Zb by rw[<-hZb];rfl]
    exact h
   have hb2:Below (G+1) w1 w2:=by rw[<-hw2];exact hb.alloc (by have:=hb.size;omega) _
   have hs2:w2.heap.size=W+1:=by rw[<-hw2,<-hW];simp
   have hGW:G<W:=by have:=hb.size;omega
   rw[hw2] at hmk
   have HMK:=Hd hmk
   have HW2:=Hd hw2
   have HROW2:=Hd hrow2
   have HB2:=Hd hb2
   have HS2:=Hd hs2
   have HK2:=Hd (Kept.refl w2 (fun b=>b=W))
   have HWA:=Hd hW
   have HSX2:=Hd (show w2.cell? ⟨g,1,none⟩=some (.int .i64 Kx)/\w2.rangeAt G 0 D from⟨(hb2.cell (p:=⟨g,1,none⟩) (by show g<G+1;omega)).trans HSET1.out.c1,range_below HD1.out (Nat.lt_succ_self G) hb2⟩)
   have HL2:=Hd (HL1.out.below (hb2.mono (by omega)))
   clear hb hmk hZb hw2 hrow2 hb2 hs2 hW
   have hmk:=HMK.out
   have hW:=HWA.out
   go_wp2
   clear hmk hW
   go_loopw [14,15] (fun uv jv wr=>∃ j:Nat,jv = .int .i64 (j:Int)/\j<=Mm/\uv = .bool (unkB res j)/\wr.ownsRow W tBool 1 (slE W i) i (fromV i fun q=>.bool (metB res j q))/\Kept w2 wr (fun b=>b=W)) (fun _ jv _=>Mm - (intOf jv).toNat)
   case atStart=>exact⟨0,rfl,Nat.zero_le _,rfl,HROW2.out,HK2.out⟩
   case round=>
    obtain⟨j,rfl,hj,rfl,hrow,hkp⟩:=hrel
    by_cases hjM:j<Mm
    ·have hjM2:(j:Int)<(Mm:Int):=by omega
     obtain⟨lo,hlo⟩:∃ lo,unkB res j=lo:=⟨_,rfl⟩
     rw[hlo]
     have hkc:∀ p:Addr,p.block<W->wr.cell? p=w2.cell? p:=fun p hp=>World.cell?_of_block (hkp.block _ (by rw[HS2.out];omega) (by omega))
     have HSX:=Hd (show wr.cell? ⟨g,1,none⟩=some (.int .i64 Kx)/\wr.rangeAt G 0 D from⟨(hkc ⟨g,1,none⟩ (by show g<W;omega)).trans HSX2.out.1,fun q u hu=>(hkc ⟨G,0+q,none⟩ hGW).trans (HSX2.out.2 q u hu)⟩)
     have HLR:=Hd (show SnsRd (World.drew wr) B A i L from HL2.out.keep fun p hp=>hkc p (by omega))
     have hsW:W+1<=wr.heap.size:=by have:=hkp.size;rw[HS2.out] at this;exact this
     have HLO:=Hd hlo
     have HROW:=Hd hrow
     have HKP:=Hd hkp
     clear hkc hlo hrow hkp
     go_upto_region 18 with (fail)
     refine wp_region_any (by kernel_rfl) ?_
     change wpAny _ _ _ _ _ _ _ (World.drew _)
     refine wpAny_of_P (S:=fun wx=>wx.cell? ⟨g,1,none⟩=some (.int .i64 Kx)/\wx.rangeAt G 0 D) (late:=[16]) _ _ _ _ ?_
     refine tT 0 HSX.out ?_
     try go_frame
     refine tT 1 HSX.out ?_
     try go_frame
     refine tT 2 HSX.out ?_
     try go_frame
     refine tT 3 HSX.out ?_
     try go_frame
     refine tP 8 4 rfl HSX.out (fun w hw=>by obtain⟨k1,_⟩:=hw;go_simp;try with_reducible rfl) ?_
     try go_frame
     refine tP 8 5 rfl HSX.out (fun w hw=>by obtain⟨_,k2⟩:=hw;refine Eq.trans (exec_load_mid tVd (.tmp 6) (by rfl) G 0 (by rfl) D _ k2 Tryz.underlying32 rfl HDI.out) ?_;with_reducible rfl) ?_
     try go_frame
     refine tT 6 HSX.out ?_
     try go_frame
     refine tT 7 HSX.out ?_
     try go_frame
     refine fP 8 fun K hK=>?_
     go_simp
     have hrw:=rows_any (w:=World.drew wr) (j:=j) (v:=v) (pl:=pl) (c:=c) HLR.out (by show B<=wr.heap.size;omega) (by omega) (by omega) HBN.out
     rw[HD.out] at hrw
     refine hrw.mono ?_;clear hrw;rintro x w5 ⟨⟨Ar,cr,rfl,hr5⟩,hb5⟩;have HB5:=Hd (show Below wr.heap.size wr w5 from⟨hb5.os,hb5.tape,hb5.output,hb5.size,hb5.block⟩);have HR5:=Hd hr5;have hs5:w5.cell? ⟨g,1,none⟩=some (.int .i64 Kx)/\w5.rangeAt G 0 D:=⟨(HB5.out.cell (p:=⟨g,1,none⟩) (by show g<wr.heap.size;omega)).trans HSX.out.1,range_below HSX.out.2 (by omega) HB5.out⟩;have HS5:=Hd hs5;clear hb5 hs5 hr5
     refine hK _ _ (HS5.out) ?_;clear hK K
     try go_frame
     refine fP 9 fun K hK=>?_
     go_simp
     refine (mendT_any HR5.out (Nat.le_refl _) (HRL.out j)).mono ?_;intro x w6 h6;obtain⟨ov,A5,c5,e5,rfl,he5,hr6,hb6⟩:=h6.form;clear h6;rw[HRES.out j] at he5 hr6;rw[HRES.out j];have HB6:=Hd (bch HB5.out hb6);have hs6:w6.cell? ⟨g,1,none⟩=some (.int .i64 Kx)/\w6.rangeAt G 0 D:=⟨(HB6.out.cell (p:=⟨g,1,none⟩) (by show g<wr.heap.size;omega)).trans HSX.out.1,range_below HSX.out.2 (by omega) HB6.out⟩;have HS6:=Hd hs6;have HE5:=Hd he5;have HR6:=Hd hr6;clear hb6 hs6 he5 hr6
     refine hK _ _ (HS6.out) ?_;clear hK K
     try go_frame
     refine tT 10 HS6.out ?_
     try go_frame
     refine tT 11 HS6.out ?_
     try go_frame
     refine tT 12 HS6.out ?_
     try go_frame
     refine tT 13 HS6.out ?_
     try go_frame
     refine tT 14 HS6.out ?_
     try go_frame
     refine tT 15 HS6.out ?_
     try go_frame
     refine lP 16 fun K hK=>?_
     go_simp
     refine hK _ _ ?_;clear hK K
     try go_frame
     refine wpAny_done (by kernel_rfl) ?_ _
     obtain⟨ws,hws⟩:∃ ws,(res j).getD []=ws:=⟨_,rfl⟩
     rw[hws] at HR6 ⊢
     obtain⟨eb,heb⟩:∃ eb,(res j).isNone=eb:=⟨_,rfl⟩
     rw[heb] at HE5
     have HWL:=Hd (show (∀ m∈ws,m<i)/\ws.length<=i from by
      have h0:(rowsJ v L j).length=i:=by simp[rowsJ,HLL.out]
      refine⟨fun m hm=>?_,?_⟩
      ·have h:=mendF_lt (k:=Kx) (R:=rowsJ v L j) (m:=m) (by rw[HRES.out j,hws];exact hm)
       omega
      ·have h:=HRES.out j
       have h2:=ws_le (k:=Kx) (R:=rowsJ v L j)
       rw[h,hws] at h2
       omega)
     obtain⟨N5,hN5⟩:∃ N5,ws.length=N5:=⟨_,rfl⟩
     have hN5m:N5<=255:=by have:=HWL.out.2;omega
     rw[hN5]
     have HK6:=Hd (show Kept w2 w6 (fun b=>b=W) from HKP.out.below HB6.out)
     have HR06:=Hd (show w6.ownsRow W tBool 1 (slE W i) i (fromV i fun q=>.bool (metB res j q||(ws.take 0).contains q)) from bools_congr (own_below HROW.out HB6.out) fun q=>by simp)
     have HK06:=Hd (Kept.refl w6 (fun b=>b=W))
     have hW6:W<w6.heap.size:=by have:=HB6.out.size;omega
     have HN5:=Hd hN5
     have HWS:=Hd hws
     have HEB:=Hd heb
     clear hN5 hws heb
     cases eb with
     | true=>
      have he5:=HE5.out
      have HNEW:=Hd (show unkB res (j+1)=true by rw[unkB_succ,HLO.out,HEB.out];cases lo<;>rfl)
      go_wp2
      clear he5
      go_loopw [19] (fun uv wu=>∃ u:Nat,uv = .int .i64 (u:Int)/\u<=N5/\wu.ownsRow W tBool 1 (slE W i) i (fromV i fun q=>.bool (metB res j q||(ws.take u).contains q))/\Kept w6 wu (fun b=>b=W)) (fun uv _=>N5 - (intOf uv).toNat)
      case atStart=>exact⟨0,rfl,Nat.zero_le _,HR06.out,HK06.out⟩
      case round=>
       obtain⟨u,rfl,hu,hrow,hk⟩:=hrel
       by_cases hul:u<N5
       ·have hul2:(u:Int)<(N5:Int):=by omega
        have hu00:(0:Int)<=(u:Int):=by omega
        obtain⟨m,hm⟩:∃ m,ws[u]?=some m:=⟨_,List.getElem?_eq_getElem (by rw[HN5.out];exact hul)⟩
        have hmi:m<i:=HWL.out.1 m (List.mem_of_getElem? hm)
        have hmi2:(m:Int)<(i:Int):=by omega
        have hm00:(0:Int)<=(m:Int):=by omega
        obtain⟨ad,v5,rfl,had,hv5,hc5⟩:=HR6.out.at_ (show u<ws.length by rw[HN5.out];exact hul)
        have hv6:v5 = .int .i64 (m:Int):=by
         rw[List.getElem?_map,hm] at hv5
         injection hv5 with hv5
         exact hv5.symm
        subst hv6
        have hne:=bools_ne HR06.out hc5
        rw[add_block] at hne
        have c5':wr.cell? (ad.add u)=some (.int .i64 (m:Int)):=(World.cell?_of_block (hk.block _ (by rw[add_block];exact had) (by rw[add_block];exact hne))).trans hc5
        have f5:=ow_free (i:=m) hrow
        have x5:=ow_cell hrow hmi (fromV_get hmi)
        have HFL5:=Hd (bools_set hrow m (f':=fun q=>metB res j q||(ws.take (u+1)).contains q) (fun q=>by rw[contains_take hm,Bool.or_assoc]))
        have HK5:=Hd (show Kept w6 (wr.setCell ⟨W,m,none⟩ (.bool true)) (fun b=>b=W) from kept_set hk rfl)
        clear hrow hk hm hv5 hc5 hne
        go_wp2
        go_roundw
        case rel=>exact⟨u+1,by go_num,by omega,HFL5.out,HK5.out⟩
        case measure=>simp[intOf];omega
       ·obtain rfl:u=N5:=by omega
        have HFJ:=Hd (show wr.ownsRow W tBool 1 (slE W i) i (fromV i fun q=>.bool (metB res (j+1) q)) from bools_congr hrow fun q=>by
         rw[metB_succ,HWS.out,List.take_of_length_le (by rw[HN5.out];exact Nat.le_refl _)])
        have HKJ:=Hd (show Kept w2 wr (fun b=>b=W) from HK6.out.trans hk (fun b hb=>.inl hb))
        clear hrow hk
        go_wp2
        go_roundw
        case rel=>exact⟨j+1,by go_num,by omega,by rw[HNEW.out],HFJ.out,HKJ.out⟩
        case measure=>simp[intOf];omega
     | false=>
      have he5:=HE5.out
      have HNEW:=Hd (show unkB res (j+1)=lo by rw[unkB_succ,HLO.out,HEB.out];cases lo<;>rfl)
      go_wp2
      clear he5
      go_loopw [19] (fun uv wu=>∃ u:Nat,uv = .int .i64 (u:Int)/\u<=N5/\wu.ownsRow W tBool 1 (slE W i) i (fromV i fun q=>.bool (metB res j q||(ws.take u).contains q))/\Kept w6 wu (fun b=>b=W)) (fun uv _=>N5 - (intOf uv).toNat)
      case atStart=>exact⟨0,rfl,Nat.zero_le _,HR06.out,HK06.out⟩
      case round=>
       obtain⟨u,rfl,hu,hrow,hk⟩:=hrel
       by_cases hul:u<N5
       ·have hul2:(u:Int)<(N5:Int):=by omega
        have hu00:(0:Int)<=(u:Int):=by omega
        obtain⟨m,hm⟩:∃ m,ws[u]?=some m:=⟨_,List.getElem?_eq_getElem (by rw[HN5.out];exact hul)⟩
        have hmi:m<i:=HWL.out.1 m (List.mem_of_getElem? hm)
        have hmi2:(m:Int)<(i:Int):=by omega
        have hm00:(0:Int)<=(m:Int):=by omega
        obtain⟨ad,v5,rfl,had,hv5,hc5⟩:=HR6.out.at_ (show u<ws.length by rw[HN5.out];exact hul)
        have hv6:v5 = .int .i64 (m:Int):=by
         rw[List.getElem?_map,hm] at hv5
         injection hv5 with hv5
         exact hv5.symm
        subst hv6
        have hne:=bools_ne HR06.out hc5
        rw[add_block] at hne
        have c5':wr.cell? (ad.add u)=some (.int .i64 (m:Int)):=(World.cell?_of_block (hk.block _ (by rw[add_block];exact had) (by rw[add_block];exact hne))).trans hc5
        have f5:=ow_free (i:=m) hrow
        have x5:=ow_cell hrow hmi (fromV_get hmi)
        have HFL5:=Hd (bools_set hrow m (f':=fun q=>metB res j q||(ws.take (u+1)).contains q) (fun q=>by rw[contains_take hm,Bool.or_assoc]))
        have HK5:=Hd (show Kept w6 (wr.setCell ⟨W,m,none⟩ (.bool true)) (fun b=>b=W) from kept_set hk rfl)
        clear hrow hk hm hv5 hc5 hne
        go_wp2
        go_roundw
        case rel=>exact⟨u+1,by go_num,by omega,HFL5.out,HK5.out⟩
        case measure=>simp[intOf];omega
       ·obtain rfl:u=N5:=by omega
        have HFJ:=Hd (show wr.ownsRow W tBool 1 (slE W i) i (fromV i fun q=>.bool (metB res (j+1) q)) from bools_congr hrow fun q=>by
         rw[metB_succ,HWS.out,List.take_of_length_le (by rw[HN5.out];exact Nat.le_refl _)])
        have HKJ:=Hd (show Kept w2 wr (fun b=>b=W) from HK6.out.trans hk (fun b hb=>.inl hb))
        clear hrow hk
        go_wp2
        go_roundw
        case rel=>exact⟨j+1,by go_num,by omega,by rw[HNEW.out],HFJ.out,HKJ.out⟩
        case measure=>simp[intOf];omega
    ·obtain rfl:j=Mm:=by omega
     obtain⟨unk,hunk⟩:∃ unk,unkB res j=unk:=⟨_,rfl⟩
     rw[hunk]
     obtain⟨bad,hbad⟩:∃ bad,metB res j=bad:=⟨_,rfl⟩
     rw[hbad] at hrow
     obtain⟨w3,rfl⟩:∃ w3,w3=wr:=⟨_,rfl⟩
     have hkc:∀ p:Addr,p.block<W->w3.cell? p=w2.cell? p:=fun p hp=>World.cell?_of_block (hkp.block _ (by rw[HS2.out];omega) (by omega))
     have hsW:W+1<=w3.heap.size:=by have:=hkp.size;rw[HS2.out] at this;exact this
     have HD3:=Hd (show w3.rangeAt G 0 D from fun q u hu=>(hkc ⟨G,0+q,none⟩ hGW).trans (HSX2.out.2 q u hu))
     have HL3:=Hd (show SnsRd w3 B A i L from HL2.out.keep fun p hp=>hkc p (by omega))
     have HB23:=Hd (show Below (G+1) w2 w3 from hkp.to_below (by rw[HS2.out];omega) (fun k (h:k=W)=>by omega))
     have HROW3:=Hd hrow
     have HUNK:=Hd hunk
     have HBAD:=Hd hbad
     have HB33:=Hd (Below.refl (W+1) w3)
     clear hkc hrow hkp hunk hbad
     go_upto_if 110 with (fail)
     go_cut [20] from 110 to 117 (fun ov wr=>∃ (Ao:Option Addr) (co:Nat),ov = .slice Ao (headF v unk).length co/\wr.ownsRow (W+1) tFind 5 (.slice Ao (headF v unk).length co) (headF v unk).length (cFd key (headF v unk))/\Below (W+1) w3 wr)
     case first=>
      cases unk with
      | true=>
       have HHD:=Hd (show headF v true=[⟨-1,6,v.ep,v.ct⟩] by unfold headF;rw[if_pos HKD.out];rfl)
       have hdv:w3.rangeAt G 0 (vdC v pl):=by rw[HD.out];exact HD3.out
       have vc1:w3.cell? ⟨G,1,none⟩=some (.int .i64 v.ep):=hdv 1 _ rfl
       have vc2:w3.cell? ⟨G,2,none⟩=some (.int .i64 v.ct):=hdv 2 _ rfl
       have hl1:=run_litS w3 tFinds tFind _ 5 48 Tryz.underlying47 infoFd (by decide) (by decide) #[.string ⟨key.toArray⟩,.int .i64 (-1),.int .i64 6,.int .i64 v.ep,.int .i64 v.ct] rfl
       have HO1:=Hd (show (w3.alloc (.cells #[.string ⟨key.toArray⟩,.int .i64 (-1),.int .i64 6,.int .i64 v.ep,.int .i64 v.ct] tFind)).ownsRow (W+1) tFind 5 (.slice none 0 0) 0 [] from World.ownsRow_nil _ _ _ _)
       have HRX:=Hd (rd_newS w3 5 [.string ⟨key.toArray⟩,.int .i64 (-1),.int .i64 6,.int .i64 v.ep,.int .i64 v.ct] rfl tFind)
       have HBX:=Hd (HB33.out.alloc (by omega) (.cells #[.string ⟨key.toArray⟩,.int .i64 (-1),.int .i64 6,.int .i64 v.ep,.int .i64 v.ct] tFind))
       clear hdv
       go_wp2_with (at_builtin;go_loud (refine wpList_append_rd _ rfl (.tmp 111) (.tmp 116) 47 rfl (W+1) tFind r0 _ 5 48 Tryz.underlying47 hr0 hrz0 hrz1 hrz2 rfl (by decide) (.slice none 0 0) 0 [] rfl HO1.out _ (some ⟨w3.heap.size,0,none⟩) 1 1 [.string ⟨key.toArray⟩,.int .i64 (-1),.int .i64 6,.int .i64 v.ep,.int .i64 v.ct] rfl HRX.out (fun h=>by cases h) (fdC_one key ⟨-1,6,v.ep,v.ct⟩) (by unfold maxLen;omega) (by omega) (by simp;omega) ?_);intro v' w4 hrow hg;go_loud (have hb2:=HBX.out.grown hg (by simp;omega) (fun j hj=>Dr.own_ge HO1.out hj));have HROW:=Hd hrow;have HB2X:=Hd hb2;clear hrow hg hb2)
       have hrow:=HROW.out
       obtain⟨A3h,c3h,rfl,_,_⟩:=own_form hrow
       have HSTART:=Hd (show w4.ownsRow (W+1) tFind 5 (.slice A3h ([⟨-1,6,v.ep,v.ct⟩]:List Fd).length c3h) ([⟨-1,6,v.ep,v.ct⟩]:List Fd).length (cFd key [⟨-1,6,v.ep,v.ct⟩]) from hrow)
       clear hrow hl1
       try go_wp2
       go_meet
       exact⟨A3h,c3h,by rw[HHD.out];rfl,by rw[HHD.out];exact HSTART.out,HB2X.out⟩
      | false=>
       have HHD:=Hd (show headF v false=[] by unfold headF;rw[if_pos HKD.out];rfl)
       go_wp2
       go_meet
       exact⟨none,0,by rw[HHD.out];rfl,by rw[HHD.out];exact World.ownsRow_nil _ _ _ _,HB33.out⟩
     case rest=>
      obtain⟨Ah,ch,rfl,hst,hbst⟩:=hcut
      have HSTART:=Hd hst
      have HBSTART:=Hd hbst
      obtain⟨hd,hhd⟩:∃ hd,headF v unk=hd:=⟨_,rfl⟩
      rw[hhd] at HSTART ⊢
      have hhl:hd.length<=1:=by rw[<-hhd];exact length_headF _ _
      have HHD:=Hd hhd
      clear hst hbst hhd
      go_wp2
      go_loopw [20,21] (fun ov iv wr=>∃ (q:Nat) (lf:List Fd) (Ao:Option Addr) (co:Nat),iv = .int .i64 (q:Int)/\q<=i/\hd++findsTo v bad L q=lf/\ov = .slice Ao lf.length co/\wr.ownsRow (W+1) tFind 5 (.slice Ao lf.length co) lf.length (cFd key lf)/\Below (W+1) w3 wr) (fun _ iv _=>i - (intOf iv).toNat)
      case atStart=>exact⟨0,hd,Ah,ch,rfl,Nat.zero_le _,by simp only[findsTo,List.append_nil],rfl,HSTART.out,HBSTART.out⟩
      case round=>
       obtain⟨q,lf,Ao,co,rfl,hq,hlf,rfl,hown,hb⟩:=hrel
       by_cases hqi:q<i
       ·have hqi2:(q:Int)<(i:Int):=by omega
        have hq00:(0:Int)<=(q:Int):=by omega
        obtain⟨s,hs⟩:∃ s,L[q]?=some s:=⟨_,List.getElem?_eq_getElem (by rw[HLL.out];exact hqi)⟩
        obtain⟨g',oo,Ab,cb,hA,hgB,hrg,_⟩:=HL3.out.at_ q s hs
        subst hA
        obtain⟨C,hC⟩:∃ C,snC s (.slice Ab s.blocks.length cb)=C:=⟨_,rfl⟩
        have hCl:C.length=19:=by rw[<-hC];rfl
        have hCi:(Tryz.prog.info? tSeen).map (fun i=>i.size)=some C.length:=by rw[hCl];exact snC_size
        have hgs:W+1<=wr.heap.size:=by have:=hb.size;omega
        have hg'G:g'<G:=by omega
        have hfl:lf.length<=100000:=by
         have h1:=length_findsTo v bad L q
         rw[<-hlf,List.length_append]
         omega
        obtain⟨wF,hwF⟩:∃ wF,wr.alloc (.cells #[.string ⟨key.toArray⟩,.int .i64 (q:Int),.int .i64 0,.int .i64 v.ep,.int .i64 v.ct] tFind)=wF:=⟨_,rfl⟩
        have hbF:Below wr.heap.size wr wF:=by rw[<-hwF];exact (Below.refl _ _).alloc (Nat.le_refl _) _
        have hsF:wF.heap.size=wr.heap.size+1:=by rw[<-hwF];simp
        have hF:wF.heap[wr.heap.size]?=some (.cells #[.string ⟨key.toArray⟩,.int .i64 (q:Int),.int .i64 0,.int .i64 v.ep,.int .i64 v.ct] tFind (0,0)):=by rw[<-hwF];exact heap_alloc_last wr _
        have hbW:Below (W+1) w3 wF:=hb.trans (hbF.mono hgs)
        have hdv:wr.rangeAt G 0 (vdC v pl):=by rw[HD.out];exact range_below HD3.out (by omega) hb
        have vc1:wr.cell? ⟨G,1,none⟩=some (.int .i64 v.ep):=hdv 1 _ rfl
        have vc2:wr.cell? ⟨G,2,none⟩=some (.int .i64 v.ct):=hdv 2 _ rfl
        have hGw:G<wr.heap.size:=by omega
        have HSXF:=Hd (show wF.rangeAt g' (oo+q*19) C/\wF.rangeAt G 0 D from⟨by rw[<-hC];exact range_below hrg (show g'<W+1 by omega) hbW,range_below HD3.out (by omega) hbW⟩)
        have HWF:=Hd hwF
        have HBF:=Hd hbF
        have HSF:=Hd hsF
        have HF:=Hd hF
        have HBW:=Hd hb
        have HOWN:=Hd hown
        have HC:=Hd hC
        have HCI:=Hd hCi
        have HNX:=Hd (fun fs (h:findAt v bad q s=fs)=>show hd++findsTo v bad L (q+1)=lf++fs by rw[findsTo_succ hs,h,<-List.append_assoc,hlf])
        have hbq:=(ow_cell HROW3.out hqi (fromV_get hqi))
        have HBQ:=Hd (show ∀ W',Below (W+1) w3 W'->W'.cell? ⟨W,q,none⟩=some (.bool (bad q)) from fun W' hb=>(hb.cell (p:=⟨W,q,none⟩) (Nat.lt_succ_self W)).trans hbq)
        clear hrg hC hCl hCi hwF hbF hsF hF hbW hdv hb hown hs hlf hbq
        go_upto_region 32 with (fail)
        rw[HWF.out]
        clear vc1 vc2
        cases how:own v s with
        | true=>
         have hkk:=(own_eq.1 how).1
         have k1:(s.kind==1)=false:=by rw[hkk];rfl
         have k3:(s.kind==3)=false:=by rw[hkk];rfl
         have k2:(s.kind==2)=true:=by rw[hkk];rfl
         have HK:=Hd hkk
         have HOW:=Hd how
         clear hkk how
         cases hbi:bad q with
         | true=>
          have HBI:=Hd hbi
          clear hbi
          have HAT:=Hd (HNX.out [⟨q,3,v.ep,v.ct⟩] (by unfold findAt;simp[HKD.out,HK.out,HOW.out,HBI.out]))
          clear HNX
          refine wp_region_any (by kernel_rfl) ?_
          change wpAny _ _ _ _ _ _ _ (World.drew _)
          refine wpAny_of_P (S:=fun wx=>wx.rangeAt g' (oo+q*19) C/\wx.rangeAt G 0 D) (late:=[6]) _ _ _ _ ?_
          refine tT 0 HSXF.out ?_
          try go_frame
          refine tT 1 HSXF.out ?_
          try go_frame
          refine tT 2 HSXF.out ?_
          try go_frame
          refine tP 8 3 rfl HSXF.out (fun w hw=>by obtain⟨k1,_⟩:=hw;refine Eq.trans (exec_load_mid tSeen (.tmp 130) (by rfl) g' (oo+q*19) (by rfl) C _ k1 Tryz.underlying72 rfl HCI.out) ?_;with_reducible rfl) ?_
          try go_frame
          refine tP 8 4 rfl HSXF.out (fun w hw=>by obtain⟨_,k2⟩:=hw;refine Eq.trans (exec_load_mid tVd (.tmp 6) (by rfl) G 0 (by rfl) D _ k2 Tryz.underlying32 rfl HDI.out) ?_;with_reducible rfl) ?_
          try go_frame
          refine fP 5 fun K hK=>?_
          go_simp
          have hsh:=shows_any (v:=v) (pl:=pl) (bv:=.slice Ab s.blocks.length cb) (s:=s) (World.drew wF)
          rw[HC.out,HD.out] at hsh
          refine hsh.mono ?_;clear hsh;rintro x w5 ⟨rfl,hb5⟩;rw[HOW.out];have HB5:=Hd (show Below wF.heap.size wF w5 from⟨hb5.os,hb5.tape,hb5.output,hb5.size,hb5.block⟩);have hs5:w5.rangeAt g' (oo+q*19) C/\w5.rangeAt G 0 D:=⟨range_below HSXF.out.1 (by rw[HSF.out];omega) HB5.out,range_below HSXF.out.2 (by rw[HSF.out];omega) HB5.out⟩;have HS5:=Hd hs5;clear hb5 hs5
          refine hK _ _ (HS5.out) ?_;clear hK K
          try go_frame
          refine lP 6 fun K hK=>?_
          go_simp
          refine hK _ _ ?_;clear hK K
          try go_frame
          refine wpAny_done (by kernel_rfl) ?_ _
          have hF5:w5.heap[wr.heap.size]?=some (.cells #[.string ⟨key.toArray⟩,.int .i64 (q:Int),.int .i64 0,.int .i64 v.ep,.int .i64 v.ct] tFind (0,0)):=(HB5.out.block _ (by rw[HSF.out];omega)).trans HF.out
          have hb05:Below wr.heap.size wr w5:=HBF.out.trans (HB5.out.mono (by rw[HSF.out];omega))
          have n0:w5.cell? ⟨g',oo+q*19,none⟩=some (.int .i64 s.kind):=by have h:=HS5.out.1;rw[<-HC.out] at h;exact h 0 _ rfl
          have n15:w5.cell? ⟨g',oo+q*19+1+14,none⟩=some (.int .i64 s.ep):=by have h:=HS5.out.1;rw[<-HC.out] at h;exact h 15 _ rfl
          have n16:w5.cell? ⟨g',oo+q*19+1+14+1,none⟩=some (.int .i64 s.ct):=by have h:=HS5.out.1;rw[<-HC.out] at h;exact h 16 _ rfl
          have n15b:w5.cell? ⟨g',oo+q*19+15,none⟩=some (.int .i64 s.ep):=n15
          have n16b:w5.cell? ⟨g',oo+q*19+16,none⟩=some (.int .i64 s.ct):=n16
          have fc0:w5.cell? ⟨wr.heap.size,0,none⟩=some (.string ⟨key.toArray⟩):=by rw[cell_of_row _ _ _ _ _ _ hF5];rfl
          have fc1:w5.cell? ⟨wr.heap.size,1,none⟩=some (.int .i64 (q:Int)):=by rw[cell_of_row _ _ _ _ _ _ hF5];rfl
          have fc2:w5.cell? ⟨wr.heap.size,2,none⟩=some (.int .i64 0):=by rw[cell_of_row _ _ _ _ _ _ hF5];rfl
          have fc3:w5.cell? ⟨wr.heap.size,3,none⟩=some (.int .i64 v.ep):=by rw[cell_of_row _ _ _ _ _ _ hF5];rfl
          have fc4:w5.cell? ⟨wr.heap.size,4,none⟩=some (.int .i64 v.ct):=by rw[cell_of_row _ _ _ _ _ _ hF5];rfl
          have ff2:w5.frozen? ⟨wr.heap.size,2,none⟩=false:=frozen_of_row _ _ _ _ _ hF5
          have ff3:w5.frozen? ⟨wr.heap.size,3,none⟩=false:=frozen_of_row _ _ _ _ _ hF5
          have ff4:w5.frozen? ⟨wr.heap.size,4,none⟩=false:=frozen_of_row _ _ _ _ _ hF5
          have hnb:¬ g'=wr.heap.size:=by omega
          have hbad5:=HBQ.out w5 (HBW.out.trans (hb05.mono hgs))
          have HF5:=Hd hF5
          have HB05:=Hd hb05
          clear hF5 hb05
          rw[HBI.out] at hbad5
          go_upto_region 45 with (fail)
          obtain⟨w6,hw6⟩:∃ w6,w5.setCell ⟨wr.heap.size,2,none⟩ (.int .i64 3)=w6:=⟨_,rfl⟩
          have hF6:w6.heap[wr.heap.size]?=some (.cells #[.string ⟨key.toArray⟩,.int .i64 (q:Int),.int .i64 3,.int .i64 v.ep,.int .i64 v.ct] tFind (0,0)):=by rw[<-hw6];exact Ring.heap_same HF5.out _
          have hb6:Below wr.heap.size wr w6:=by rw[<-hw6];exact HB05.out.setCell (p:=⟨wr.heap.size,2,none⟩) (Nat.le_refl _) _
          rw[hw6]
          clear fc0 fc1 fc2 fc3 fc4 ff2 ff3 ff4 n0 n15 n16 n15b n16b hw6
          have fc0:w6.cell? ⟨wr.heap.size,0,none⟩=some (.string ⟨key.toArray⟩):=by rw[cell_of_row _ _ _ _ _ _ hF6];rfl
          have fc1:w6.cell? ⟨wr.heap.size,1,none⟩=some (.int .i64 (q:Int)):=by rw[cell_of_row _ _ _ _ _ _ hF6];rfl
          have fc2:w6.cell? ⟨wr.heap.size,2,none⟩=some (.int .i64 3):=by rw[cell_of_row _ _ _ _ _ _ hF6];rfl
          have fc3:w6.cell? ⟨wr.heap.size,3,none⟩=some (.int .i64 v.ep):=by rw[cell_of_row _ _ _ _ _ _ hF6];rfl
          have fc4:w6.cell? ⟨wr.heap.size,4,none⟩=some (.int .i64 v.ct):=by rw[cell_of_row _ _ _ _ _ _ hF6];rfl
          clear hF6
          have hs6:wr.heap.size<=w6.heap.size:=hb6.size
          have hl1:=run_litS w6 tFinds tFind _ 5 48 Tryz.underlying47 infoFd (by decide) (by decide) #[.string ⟨key.toArray⟩,.int .i64 (q:Int),.int .i64 3,.int .i64 v.ep,.int .i64 v.ct] rfl
          have HO1:=Hd (Dr.own_alloc (own_below HOWN.out hb6) (.cells #[.string ⟨key.toArray⟩,.int .i64 (q:Int),.int .i64 3,.int .i64 v.ep,.int .i64 v.ct] tFind))
          have HRX:=Hd (rd_newS w6 5 [.string ⟨key.toArray⟩,.int .i64 (q:Int),.int .i64 3,.int .i64 v.ep,.int .i64 v.ct] rfl tFind)
          have HBX:=Hd ((HBW.out.trans (hb6.mono hgs)).alloc (by omega) (.cells #[.string ⟨key.toArray⟩,.int .i64 (q:Int),.int .i64 3,.int .i64 v.ep,.int .i64 v.ct] tFind))
          clear hb6
          go_wp2_with (at_builtin;go_loud (refine wpList_append_rd _ rfl (.tmp 167) (.tmp 169) 47 rfl (W+1) tFind r0 _ 5 48 Tryz.underlying47 hr0 hrz0 hrz1 hrz2 rfl (by decide) (.slice Ao lf.length co) lf.length (cFd key lf) rfl HO1.out _ (some ⟨w6.heap.size,0,none⟩) 1 1 [.string ⟨key.toArray⟩,.int .i64 (q:Int),.int .i64 3,.int .i64 v.ep,.int .i64 v.ct] rfl HRX.out (fun h=>by cases h) (fdC_one key ⟨q,3,v.ep,v.ct⟩) (by unfold maxLen;omega) (by omega) (by simp;omega) ?_);intro v' w7 hrow hg;go_loud (have hb2:=HBX.out.grown hg (by simp;omega) (fun j hj=>Dr.own_ge HO1.out hj));have HROW:=Hd (show w7.ownsRow (W+1) tFind 5 v' (lf.length+1) (cFd key (lf++[⟨q,3,v.ep,v.ct⟩])) by rw[cFd_snoc];exact hrow);have HB2X:=Hd hb2;clear hrow hg hb2)
          have hrow:=HROW.out
          obtain⟨A3x,c3x,rfl,_,_⟩:=own_form hrow
          have HROW2:=Hd hrow
          clear hrow
          go_roundw
          case rel=>exact⟨q+1,lf++[⟨q,3,v.ep,v.ct⟩],A3x,c3x,by go_num,by omega,HAT.out,by rw[List.length_append];rfl,by rw[List.length_append];exact HROW2.out,HB2X.out⟩
          case measure=>simp[intOf];omega
         | false=>
          have HBI:=Hd hbi
          clear hbi
          have HAT:=Hd (HNX.out [] (by unfold findAt;simp[HKD.out,HK.out,HOW.out,HBI.out]))
          clear HNX
          refine wp_region_any (by kernel_rfl) ?_
          change wpAny _ _ _ _ _ _ _ (World.drew _)
          refine wpAny_of_P (S:=fun wx=>wx.rangeAt g' (oo+q*19) C/\wx.rangeAt G 0 D) (late:=[6]) _ _ _ _ ?_
          refine tT 0 HSXF.out ?_
          try go_frame
          refine tT 1 HSXF.out ?_
          try go_frame
          refine tT 2 HSXF.out ?_
          try go_frame
          refine tP 8 3 rfl HSXF.out (fun w hw=>by obtain⟨k1,_⟩:=hw;refine Eq.trans (exec_load_mid tSeen (.tmp 130) (by rfl) g' (oo+q*19) (by rfl) C _ k1 Tryz.underlying72 rfl HCI.out) ?_;with_reducible rfl) ?_
          try go_frame
          refine tP 8 4 rfl HSXF.out (fun w hw=>by obtain⟨_,k2⟩:=hw;refine Eq.trans (exec_load_mid tVd (.tmp 6) (by rfl) G 0 (by rfl) D _ k2 Tryz.underlying32 rfl HDI.out) ?_;with_reducible rfl) ?_
          try go_frame
          refine fP 5 fun K hK=>?_
          go_simp
          have hsh:=shows_any (v:=v) (pl:=pl) (bv:=.slice Ab s.blocks.length cb) (s:=s) (World.drew wF)
          rw[HC.out,HD.out] at hsh
          refine hsh.mono ?_;clear hsh;rintro x w5 ⟨rfl,hb5⟩;rw[HOW.out];have HB5:=Hd (show Below wF.heap.size wF w5 from⟨hb5.os,hb5.tape,hb5.output,hb5.size,hb5.block⟩);have hs5:w5.rangeAt g' (oo+q*19) C/\w5.rangeAt G 0 D:=⟨range_below HSXF.out.1 (by rw[HSF.out];omega) HB5.out,range_below HSXF.out.2 (by rw[HSF.out];omega) HB5.out⟩;have HS5:=Hd hs5;clear hb5 hs5
          refine hK _ _ (HS5.out) ?_;clear hK K
          try go_frame
          refine lP 6 fun K hK=>?_
          go_simp
          refine hK _ _ ?_;clear hK K
          try go_frame
          refine wpAny_done (by kernel_rfl) ?_ _
          have hF5:w5.heap[wr.heap.size]?=some (.cells #[.string ⟨key.toArray⟩,.int .i64 (q:Int),.int .i64 0,.int .i64 v.ep,.int .i64 v.ct] tFind (0,0)):=(HB5.out.block _ (by rw[HSF.out];omega)).trans HF.out
          have hb05:Below wr.heap.size wr w5:=HBF.out.trans (HB5.out.mono (by rw[HSF.out];omega))
          have n0:w5.cell? ⟨g',oo+q*19,none⟩=some (.int .i64 s.kind):=by have h:=HS5.out.1;rw[<-HC.out] at h;exact h 0 _ rfl
          have n15:w5.cell? ⟨g',oo+q*19+1+14,none⟩=some (.int .i64 s.ep):=by have h:=HS5.out.1;rw[<-HC.out] at h;exact h 15 _ rfl
          have n16:w5.cell? ⟨g',oo+q*19+1+14+1,none⟩=some (.int .i64 s.ct):=by have h:=HS5.out.1;rw[<-HC.out] at h;exact h 16 _ rfl
          have n15b:w5.cell? ⟨g',oo+q*19+15,none⟩=some (.int .i64 s.ep):=n15
          have n16b:w5.cell? ⟨g',oo+q*19+16,none⟩=some (.int .i64 s.ct):=n16
          have fc0:w5.cell? ⟨wr.heap.size,0,none⟩=some (.string ⟨key.toArray⟩):=by rw[cell_of_row _ _ _ _ _ _ hF5];rfl
          have fc1:w5.cell? ⟨wr.heap.size,1,none⟩=some (.int .i64 (q:Int)):=by rw[cell_of_row _ _ _ _ _ _ hF5];rfl
          have fc2:w5.cell? ⟨wr.heap.size,2,none⟩=some (.int .i64 0):=by rw[cell_of_row _ _ _ _ _ _ hF5];rfl
          have fc3:w5.cell? ⟨wr.heap.size,3,none⟩=some (.int .i64 v.ep):=by rw[cell_of_row _ _ _ _ _ _ hF5];rfl
          have fc4:w5.cell? ⟨wr.heap.size,4,none⟩=some (.int .i64 v.ct):=by rw[cell_of_row _ _ _ _ _ _ hF5];rfl
          have ff2:w5.frozen? ⟨wr.heap.size,2,none⟩=false:=frozen_of_row _ _ _ _ _ hF5
          have ff3:w5.frozen? ⟨wr.heap.size,3,none⟩=false:=frozen_of_row _ _ _ _ _ hF5
          have ff4:w5.frozen? ⟨wr.heap.size,4,none⟩=false:=frozen_of_row _ _ _ _ _ hF5
          have hnb:¬ g'=wr.heap.size:=by omega
          have hbad5:=HBQ.out w5 (HBW.out.trans (hb05.mono hgs))
          have HF5:=Hd hF5
          have HB05:=Hd hb05
          clear hF5 hb05
          rw[HBI.out] at hbad5
          go_upto_region 45 with (fail)
          obtain⟨w6,rfl⟩:∃ w6,w6=w5:=⟨_,rfl⟩
          have hb6:Below wr.heap.size wr w6:=HB05.out
          have HO1:=Hd (own_below HOWN.out hb6)
          have HBX:=Hd (HBW.out.trans (hb6.mono hgs))
          clear hb6
          go_wp2
          go_roundw
          case rel=>exact⟨q+1,lf,Ao,co,by go_num,by omega,by rw[HAT.out,List.append_nil],rfl,HO1.out,HBX.out⟩
          case measure=>simp[intOf];omega
        | false=>
         have HOW:=Hd how
         by_cases h1:s.kind=1
         ·have HK:=Hd h1
          have k1:(s.kind==1)=true:=by simpa using h1
          clear h1 how
          have HAT:=Hd (HNX.out [⟨q,1,v.ep,v.ct⟩] (by unfold findAt;simp[HKD.out,HK.out]))
          clear HNX
          refine wp_region_any (by kernel_rfl) ?_
          change wpAny _ _ _ _ _ _ _ (World.drew _)
          refine wpAny_of_P (S:=fun wx=>wx.rangeAt g' (oo+q*19) C/\wx.rangeAt G 0 D) (late:=[6]) _ _ _ _ ?_
          refine tT 0 HSXF.out ?_
          try go_frame
          refine tT 1 HSXF.out ?_
          try go_frame
          refine tT 2 HSXF.out ?_
          try go_frame
          refine tP 8 3 rfl HSXF.out (fun w hw=>by obtain⟨k1,_⟩:=hw;refine Eq.trans (exec_load_mid tSeen (.tmp 130) (by rfl) g' (oo+q*19) (by rfl) C _ k1 Tryz.underlying72 rfl HCI.out) ?_;with_reducible rfl) ?_
          try go_frame
          refine tP 8 4 rfl HSXF.out (fun w hw=>by obtain⟨_,k2⟩:=hw;refine Eq.trans (exec_load_mid tVd (.tmp 6) (by rfl) G 0 (by rfl) D _ k2 Tryz.underlying32 rfl HDI.out) ?_;with_reducible rfl) ?_
          try go_frame
          refine fP 5 fun K hK=>?_
          go_simp
          have hsh:=shows_any (v:=v) (pl:=pl) (bv:=.slice Ab s.blocks.length cb) (s:=s) (World.drew wF)
          rw[HC.out,HD.out] at hsh
          refine hsh.mono ?_;clear hsh;rintro x w5 ⟨rfl,hb5⟩;rw[HOW.out];have HB5:=Hd (show Below wF.heap.size wF w5 from⟨hb5.os,hb5.tape,hb5.output,hb5.size,hb5.block⟩);have hs5:w5.rangeAt g' (oo+q*19) C/\w5.rangeAt G 0 D:=⟨range_below HSXF.out.1 (by rw[HSF.out];omega) HB5.out,range_below HSXF.out.2 (by rw[HSF.out];omega) HB5.out⟩;have HS5:=Hd hs5;clear hb5 hs5
          refine hK _ _ (HS5.out) ?_;clear hK K
          try go_frame
          refine lP 6 fun K hK=>?_
          go_simp
          refine hK _ _ ?_;clear hK K
          try go_frame
          refine wpAny_done (by kernel_rfl) ?_ _
          have hF5:w5.heap[wr.heap.size]?=some (.cells #[.string ⟨key.toArray⟩,.int .i64 (q:Int),.int .i64 0,.int .i64 v.ep,.int .i64 v.ct] tFind (0,0)):=(HB5.out.block _ (by rw[HSF.out];omega)).trans HF.out
          have hb05:Below wr.heap.size wr w5:=HBF.out.trans (HB5.out.mono (by rw[HSF.out];omega))
          have n0:w5.cell? ⟨g',oo+q*19,none⟩=some (.int .i64 s.kind):=by have h:=HS5.out.1;rw[<-HC.out] at h;exact h 0 _ rfl
          have n15:w5.cell? ⟨g',oo+q*19+1+14,none⟩=some (.int .i64 s.ep):=by have h:=HS5.out.1;rw[<-HC.out] at h;exact h 15 _ rfl
          have n16:w5.cell? ⟨g',oo+q*19+1+14+1,none⟩=some (.int .i64 s.ct):=by have h:=HS5.out.1;rw[<-HC.out] at h;exact h 16 _ rfl
          have n15b:w5.cell? ⟨g',oo+q*19+15,none⟩=some (.int .i64 s.ep):=n15
          have n16b:w5.cell? ⟨g',oo+q*19+16,none⟩=some (.int .i64 s.ct):=n16
          have fc0:w5.cell? ⟨wr.heap.size,0,none⟩=some (.string ⟨key.toArray⟩):=by rw[cell_of_row _ _ _ _ _ _ hF5];rfl
          have fc1:w5.cell? ⟨wr.heap.size,1,none⟩=some (.int .i64 (q:Int)):=by rw[cell_of_row _ _ _ _ _ _ hF5];rfl
          have fc2:w5.cell? ⟨wr.heap.size,2,none⟩=some (.int .i64 0):=by rw[cell_of_row _ _ _ _ _ _ hF5];rfl
          have fc3:w5.cell? ⟨wr.heap.size,3,none⟩=some (.int .i64 v.ep):=by rw[cell_of_row _ _ _ _ _ _ hF5];rfl
          have fc4:w5.cell? ⟨wr.heap.size,4,none⟩=some (.int .i64 v.ct):=by rw[cell_of_row _ _ _ _ _ _ hF5];rfl
          have ff2:w5.frozen? ⟨wr.heap.size,2,none⟩=false:=frozen_of_row _ _ _ _ _ hF5
          have ff3:w5.frozen? ⟨wr.heap.size,3,none⟩=false:=frozen_of_row _ _ _ _ _ hF5
          have ff4:w5.frozen? ⟨wr.heap.size,4,none⟩=false:=frozen_of_row _ _ _ _ _ hF5
          have hnb:¬ g'=wr.heap.size:=by omega
          have hbad5:=HBQ.out w5 (HBW.out.trans (hb05.mono hgs))
          have HF5:=Hd hF5
          have HB05:=Hd hb05
          clear hF5 hb05
          clear hbad5
          go_upto_region 45 with (fail)
          obtain⟨w6,hw6⟩:∃ w6,w5.setCell ⟨wr.heap.size,2,none⟩ (.int .i64 1)=w6:=⟨_,rfl⟩
          have hF6:w6.heap[wr.heap.size]?=some (.cells #[.string ⟨key.toArray⟩,.int .i64 (q:Int),.int .i64 1,.int .i64 v.ep,.int .i64 v.ct] tFind (0,0)):=by rw[<-hw6];exact Ring.heap_same HF5.out _
          have hb6:Below wr.heap.size wr w6:=by rw[<-hw6];exact HB05.out.setCell (p:=⟨wr.heap.size,2,none⟩) (Nat.le_refl _) _
          rw[hw6]
          clear fc0 fc1 fc2 fc3 fc4 ff2 ff3 ff4 n0 n15 n16 n15b n16b hw6
          have fc0:w6.cell? ⟨wr.heap.size,0,none⟩=some (.string ⟨key.toArray⟩):=by rw[cell_of_row _ _ _ _ _ _ hF6];rfl
          have fc1:w6.cell? ⟨wr.heap.size,1,none⟩=some (.int .i64 (q:Int)):=by rw[cell_of_row _ _ _ _ _ _ hF6];rfl
          have fc2:w6.cell? ⟨wr.heap.size,2,none⟩=some (.int .i64 1):=by rw[cell_of_row _ _ _ _ _ _ hF6];rfl
          have fc3:w6.cell? ⟨wr.heap.size,3,none⟩=some (.int .i64 v.ep):=by rw[cell_of_row _ _ _ _ _ _ hF6];rfl
          have fc4:w6.cell? ⟨wr.heap.size,4,none⟩=some (.int .i64 v.ct):=by rw[cell_of_row _ _ _ _ _ _ hF6];rfl
          clear hF6
          have hs6:wr.heap.size<=w6.heap.size:=hb6.size
          have hl1:=run_litS w6 tFinds tFind _ 5 48 Tryz.underlying47 infoFd (by decide) (by decide) #[.string ⟨key.toArray⟩,.int .i64 (q:Int),.int .i64 1,.int .i64 v.ep,.int .i64 v.ct] rfl
          have HO1:=Hd (Dr.own_alloc (own_below HOWN.out hb6) (.cells #[.string ⟨key.toArray⟩,.int .i64 (q:Int),.int .i64 1,.int .i64 v.ep,.int .i64 v.ct] tFind))
          have HRX:=Hd (rd_newS w6 5 [.string ⟨key.toArray⟩,.int .i64 (q:Int),.int .i64 1,.int .i64 v.ep,.int .i64 v.ct] rfl tFind)
          have HBX:=Hd ((HBW.out.trans (hb6.mono hgs)).alloc (by omega) (.cells #[.string ⟨key.toArray⟩,.int .i64 (q:Int),.int .i64 1,.int .i64 v.ep,.int .i64 v.ct] tFind))
          clear hb6
          go_wp2_with (at_builtin;go_loud (refine wpList_append_rd _ rfl (.tmp 167) (.tmp 169) 47 rfl (W+1) tFind r0 _ 5 48 Tryz.underlying47 hr0 hrz0 hrz1 hrz2 rfl (by decide) (.slice Ao lf.length co) lf.length (cFd key lf) rfl HO1.out _ (some ⟨w6.heap.size,0,none⟩) 1 1 [.string ⟨key.toArray⟩,.int .i64 (q:Int),.int .i64 1,.int .i64 v.ep,.int .i64 v.ct] rfl HRX.out (fun h=>by cases h) (fdC_one key ⟨q,1,v.ep,v.ct⟩) (by unfold maxLen;omega) (by omega) (by simp;omega) ?_);intro v' w7 hrow hg;go_loud (have hb2:=HBX.out.grown hg (by simp;omega) (fun j hj=>Dr.own_ge HO1.out hj));have HROW:=Hd (show w7.ownsRow (W+1) tFind 5 v' (lf.length+1) (cFd key (lf++[⟨q,1,v.ep,v.ct⟩])) by rw[cFd_snoc];exact hrow);have HB2X:=Hd hb2;clear hrow hg hb2)
          have hrow:=HROW.out
          obtain⟨A3x,c3x,rfl,_,_⟩:=own_form hrow
          have HROW2:=Hd hrow
          clear hrow
          go_roundw
          case rel=>exact⟨q+1,lf++[⟨q,1,v.ep,v.ct⟩],A3x,c3x,by go_num,by omega,HAT.out,by rw[List.length_append];rfl,by rw[List.length_append];exact HROW2.out,HB2X.out⟩
          case measure=>simp[intOf];omega
         have k1:(s.kind==1)=false:=by simpa using h1
         by_cases h3:s.kind=3
         ·have HK:=Hd h3
          have k3:(s.kind==3)=true:=by simpa using h3
          clear h1 h3 how
          have HAT:=Hd (HNX.out [⟨q,2,v.ep,v.ct⟩] (by unfold findAt;simp[HKD.out,HK.out]))
          clear HNX
          refine wp_region_any (by kernel_rfl) ?_
          change wpAny _ _ _ _ _ _ _ (World.drew _)
          refine wpAny_of_P (S:=fun wx=>wx.rangeAt g' (oo+q*19) C/\wx.rangeAt G 0 D) (late:=[6]) _ _ _ _ ?_
          refine tT 0 HSXF.out ?_
          try go_frame
          refine tT 1 HSXF.out ?_
          try go_frame
          refine tT 2 HSXF.out ?_
          try go_frame
          refine tP 8 3 rfl HSXF.out (fun w hw=>by obtain⟨k1,_⟩:=hw;refine Eq.trans (exec_load_mid tSeen (.tmp 130) (by rfl) g' (oo+q*19) (by rfl) C _ k1 Tryz.underlying72 rfl HCI.out) ?_;with_reducible rfl) ?_
          try go_frame
          refine tP 8 4 rfl HSXF.out (fun w hw=>by obtain⟨_,k2⟩:=hw;refine Eq.trans (exec_load_mid tVd (.tmp 6) (by rfl) G 0 (by rfl) D _ k2 Tryz.underlying32 rfl HDI.out) ?_;with_reducible rfl) ?_
          try go_frame
          refine fP 5 fun K hK=>?_
          go_simp
          have hsh:=shows_any (v:=v) (pl:=pl) (bv:=.slice Ab s.blocks.length cb) (s:=s) (World.drew wF)
          rw[HC.out,HD.out] at hsh
          refine hsh.mono ?_;clear hsh;rintro x w5 ⟨rfl,hb5⟩;rw[HOW.out];have HB5:=Hd (show Below wF.heap.size wF w5 from⟨hb5.os,hb5.tape,hb5.output,hb5.size,hb5.block⟩);have hs5:w5.rangeAt g' (oo+q*19) C/\w5.rangeAt G 0 D:=⟨range_below HSXF.out.1 (by rw[HSF.out];omega) HB5.out,range_below HSXF.out.2 (by rw[HSF.out];omega) HB5.out⟩;have HS5:=Hd hs5;clear hb5 hs5
          refine hK _ _ (HS5.out) ?_;clear hK K
          try go_frame
          refine lP 6 fun K hK=>?_
          go_simp
          refine hK _ _ ?_;clear hK K
          try go_frame
          refine wpAny_done (by kernel_rfl) ?_ _
          have hF5:w5.heap[wr.heap.size]?=some (.cells #[.string ⟨key.toArray⟩,.int .i64 (q:Int),.int .i64 0,.int .i64 v.ep,.int .i64 v.ct] tFind (0,0)):=(HB5.out.block _ (by rw[HSF.out];omega)).trans HF.out
          have hb05:Below wr.heap.size wr w5:=HBF.out.trans (HB5.out.mono (by rw[HSF.out];omega))
          have n0:w5.cell? ⟨g',oo+q*19,none⟩=some (.int .i64 s.kind):=by have h:=HS5.out.1;rw[<-HC.out] at h;exact h 0 _ rfl
          have n15:w5.cell? ⟨g',oo+q*19+1+14,none⟩=some (.int .i64 s.ep):=by have h:=HS5.out.1;rw[<-HC.out] at h;exact h 15 _ rfl
          have n16:w5.cell? ⟨g',oo+q*19+1+14+1,none⟩=some (.int .i64 s.ct):=by have h:=HS5.out.1;rw[<-HC.out] at h;exact h 16 _ rfl
          have n15b:w5.cell? ⟨g',oo+q*19+15,none⟩=some (.int .i64 s.ep):=n15
          have n16b:w5.cell? ⟨g',oo+q*19+16,none⟩=some (.int .i64 s.ct):=n16
          have fc0:w5.cell? ⟨wr.heap.size,0,none⟩=some (.string ⟨key.toArray⟩):=by rw[cell_of_row _ _ _ _ _ _ hF5];rfl
          have fc1:w5.cell? ⟨wr.heap.size,1,none⟩=some (.int .i64 (q:Int)):=by rw[cell_of_row _ _ _ _ _ _ hF5];rfl
          have fc2:w5.cell? ⟨wr.heap.size,2,none⟩=some (.int .i64 0):=by rw[cell_of_row _ _ _ _ _ _ hF5];rfl
          have fc3:w5.cell? ⟨wr.heap.size,3,none⟩=some (.int .i64 v.ep):=by rw[cell_of_row _ _ _ _ _ _ hF5];rfl
          have fc4:w5.cell? ⟨wr.heap.size,4,none⟩=some (.int .i64 v.ct):=by rw[cell_of_row _ _ _ _ _ _ hF5];rfl
          have ff2:w5.frozen? ⟨wr.heap.size,2,none⟩=false:=frozen_of_row _ _ _ _ _ hF5
          have ff3:w5.frozen? ⟨wr.heap.size,3,none⟩=false:=frozen_of_row _ _ _ _ _ hF5
          have ff4:w5.frozen? ⟨wr.heap.size,4,none⟩=false:=frozen_of_row _ _ _ _ _ hF5
          have hnb:¬ g'=wr.heap.size:=by omega
          have hbad5:=HBQ.out w5 (HBW.out.trans (hb05.mono hgs))
          have HF5:=Hd hF5
          have HB05:=Hd hb05
          clear hF5 hb05
          clear hbad5
          go_upto_region 45 with (fail)
          obtain⟨w6,hw6⟩:∃ w6,w5.setCell ⟨wr.heap.size,2,none⟩ (.int .i64 2)=w6:=⟨_,rfl⟩
          have hF6:w6.heap[wr.heap.size]?=some (.cells #[.string ⟨key.toArray⟩,.int .i64 (q:Int),.int .i64 2,.int .i64 v.ep,.int .i64 v.ct] tFind (0,0)):=by rw[<-hw6];exact Ring.heap_same HF5.out _
          have hb6:Below wr.heap.size wr w6:=by rw[<-hw6];exact HB05.out.setCell (p:=⟨wr.heap.size,2,none⟩) (Nat.le_refl _) _
          rw[hw6]
          clear fc0 fc1 fc2 fc3 fc4 ff2 ff3 ff4 n0 n15 n16 n15b n16b hw6
          have fc0:w6.cell? ⟨wr.heap.size,0,none⟩=some (.string ⟨key.toArray⟩):=by rw[cell_of_row _ _ _ _ _ _ hF6];rfl
          have fc1:w6.cell? ⟨wr.heap.size,1,none⟩=some (.int .i64 (q:Int)):=by rw[cell_of_row _ _ _ _ _ _ hF6];rfl
          have fc2:w6.cell? ⟨wr.heap.size,2,none⟩=some (.int .i64 2):=by rw[cell_of_row _ _ _ _ _ _ hF6];rfl
          have fc3:w6.cell? ⟨wr.heap.size,3,none⟩=some (.int .i64 v.ep):=by rw[cell_of_row _ _ _ _ _ _ hF6];rfl
          have fc4:w6.cell? ⟨wr.heap.size,4,none⟩=some (.int .i64 v.ct):=by rw[cell_of_row _ _ _ _ _ _ hF6];rfl
          clear hF6
          have hs6:wr.heap.size<=w6.heap.size:=hb6.size
          have hl1:=run_litS w6 tFinds tFind _ 5 48 Tryz.underlying47 infoFd (by decide) (by decide) #[.string ⟨key.toArray⟩,.int .i64 (q:Int),.int .i64 2,.int .i64 v.ep,.int .i64 v.ct] rfl
          have HO1:=Hd (Dr.own_alloc (own_below HOWN.out hb6) (.cells #[.string ⟨key.toArray⟩,.int .i64 (q:Int),.int .i64 2,.int .i64 v.ep,.int .i64 v.ct] tFind))
          have HRX:=Hd (rd_newS w6 5 [.string ⟨key.toArray⟩,.int .i64 (q:Int),.int .i64 2,.int .i64 v.ep,.int .i64 v.ct] rfl tFind)
          have HBX:=Hd ((HBW.out.trans (hb6.mono hgs)).alloc (by omega) (.cells #[.string ⟨key.toArray⟩,.int .i64 (q:Int),.int .i64 2,.int .i64 v.ep,.int .i64 v.ct] tFind))
          clear hb6
          go_wp2_with (at_builtin;go_loud (refine wpList_append_rd _ rfl (.tmp 167) (.tmp 169) 47 rfl (W+1) tFind r0 _ 5 48 Tryz.underlying47 hr0 hrz0 hrz1 hrz2 rfl (by decide) (.slice Ao lf.length co) lf.length (cFd key lf) rfl HO1.out _ (some ⟨w6.heap.size,0,none⟩) 1 1 [.string ⟨key.toArray⟩,.int .i64 (q:Int),.int .i64 2,.int .i64 v.ep,.int .i64 v.ct] rfl HRX.out (fun h=>by cases h) (fdC_one key ⟨q,2,v.ep,v.ct⟩) (by unfold maxLen;omega) (by omega) (by simp;omega) ?_);intro v' w7 hrow hg;go_loud (have hb2:=HBX.out.grown hg (by simp;omega) (fun j hj=>Dr.own_ge HO1.out hj));have HROW:=Hd (show w7.ownsRow (W+1) tFind 5 v' (lf.length+1) (cFd key (lf++[⟨q,2,v.ep,v.ct⟩])) by rw[cFd_snoc];exact hrow);have HB2X:=Hd hb2;clear hrow hg hb2)
          have hrow:=HROW.out
          obtain⟨A3x,c3x,rfl,_,_⟩:=own_form hrow
          have HROW2:=Hd hrow
          clear hrow
          go_roundw
          case rel=>exact⟨q+1,lf++[⟨q,2,v.ep,v.ct⟩],A3x,c3x,by go_num,by omega,HAT.out,by rw[List.length_append];rfl,by rw[List.length_append];exact HROW2.out,HB2X.out⟩
          case measure=>simp[intOf];omega
         have k3:(s.kind==3)=false:=by simpa using h3
         by_cases h2:s.kind=2
         ·have HK:=Hd h2
          have k2:(s.kind==2)=true:=by simpa using h2
          clear h1 h3 h2 how
          have HAT:=Hd (HNX.out [⟨q,4,s.ep,s.ct⟩] (by unfold findAt;simp[HKD.out,HK.out,HOW.out]))
          clear HNX
          refine wp_region_any (by kernel_rfl) ?_
          change wpAny _ _ _ _ _ _ _ (World.drew _)
          refine wpAny_of_P (S:=fun wx=>wx.rangeAt g' (oo+q*19) C/\wx.rangeAt G 0 D) (late:=[6]) _ _ _ _ ?_
          refine tT 0 HSXF.out ?_
          try go_frame
          refine tT 1 HSXF.out ?_
          try go_frame
          refine tT 2 HSXF.out ?_
          try go_frame
          refine tP 8 3 rfl HSXF.out (fun w hw=>by obtain⟨k1,_⟩:=hw;refine Eq.trans (exec_load_mid tSeen (.tmp 130) (by rfl) g' (oo+q*19) (by rfl) C _ k1 Tryz.underlying72 rfl HCI.out) ?_;with_reducible rfl) ?_
          try go_frame
          refine tP 8 4 rfl HSXF.out (fun w hw=>by obtain⟨_,k2⟩:=hw;refine Eq.trans (exec_load_mid tVd (.tmp 6) (by rfl) G 0 (by rfl) D _ k2 Tryz.underlying32 rfl HDI.out) ?_;with_reducible rfl) ?_
          try go_frame
          refine fP 5 fun K hK=>?_
          go_simp
          have hsh:=shows_any (v:=v) (pl:=pl) (bv:=.slice Ab s.blocks.length cb) (s:=s) (World.drew wF)
          rw[HC.out,HD.out] at hsh
          refine hsh.mono ?_;clear hsh;rintro x w5 ⟨rfl,hb5⟩;rw[HOW.out];have HB5:=Hd (show Below wF.heap.size wF w5 from⟨hb5.os,hb5.tape,hb5.output,hb5.size,hb5.block⟩);have hs5:w5.rangeAt g' (oo+q*19) C/\w5.rangeAt G 0 D:=⟨range_below HSXF.out.1 (by rw[HSF.out];omega) HB5.out,range_below HSXF.out.2 (by rw[HSF.out];omega) HB5.out⟩;have HS5:=Hd hs5;clear hb5 hs5
          refine hK _ _ (HS5.out) ?_;clear hK K
          try go_frame
          refine lP 6 fun K hK=>?_
          go_simp
          refine hK _ _ ?_;clear hK K
          try go_frame
          refine wpAny_done (by kernel_rfl) ?_ _
          have hF5:w5.heap[wr.heap.size]?=some (.cells #[.string ⟨key.toArray⟩,.int .i64 (q:Int),.int .i64 0,.int .i64 v.ep,.int .i64 v.ct] tFind (0,0)):=(HB5.out.block _ (by rw[HSF.out];omega)).trans HF.out
          have hb05:Below wr.heap.size wr w5:=HBF.out.trans (HB5.out.mono (by rw[HSF.out];omega))
          have n0:w5.cell? ⟨g',oo+q*19,none⟩=some (.int .i64 s.kind):=by have h:=HS5.out.1;rw[<-HC.out] at h;exact h 0 _ rfl
          have n15:w5.cell? ⟨g',oo+q*19+1+14,none⟩=some (.int .i64 s.ep):=by have h:=HS5.out.1;rw[<-HC.out] at h;exact h 15 _ rfl
          have n16:w5.cell? ⟨g',oo+q*19+1+14+1,none⟩=some (.int .i64 s.ct):=by have h:=HS5.out.1;rw[<-HC.out] at h;exact h 16 _ rfl
          have n15b:w5.cell? ⟨g',oo+q*19+15,none⟩=some (.int .i64 s.ep):=n15
          have n16b:w5.cell? ⟨g',oo+q*19+16,none⟩=some (.int .i64 s.ct):=n16
          have fc0:w5.cell? ⟨wr.heap.size,0,none⟩=some (.string ⟨key.toArray⟩):=by rw[cell_of_row _ _ _ _ _ _ hF5];rfl
          have fc1:w5.cell? ⟨wr.heap.size,1,none⟩=some (.int .i64 (q:Int)):=by rw[cell_of_row _ _ _ _ _ _ hF5];rfl
          have fc2:w5.cell? ⟨wr.heap.size,2,none⟩=some (.int .i64 0):=by rw[cell_of_row _ _ _ _ _ _ hF5];rfl
          have fc3:w5.cell? ⟨wr.heap.size,3,none⟩=some (.int .i64 v.ep):=by rw[cell_of_row _ _ _ _ _ _ hF5];rfl
          have fc4:w5.cell? ⟨wr.heap.size,4,none⟩=some (.int .i64 v.ct):=by rw[cell_of_row _ _ _ _ _ _ hF5];rfl
          have ff2:w5.frozen? ⟨wr.heap.size,2,none⟩=false:=frozen_of_row _ _ _ _ _ hF5
          have ff3:w5.frozen? ⟨wr.heap.size,3,none⟩=false:=frozen_of_row _ _ _ _ _ hF5
          have ff4:w5.frozen? ⟨wr.heap.size,4,none⟩=false:=frozen_of_row _ _ _ _ _ hF5
          have hnb:¬ g'=wr.heap.size:=by omega
          have hbad5:=HBQ.out w5 (HBW.out.trans (hb05.mono hgs))
          have HF5:=Hd hF5
          have HB05:=Hd hb05
          clear hF5 hb05
          clear hbad5
          go_upto_region 45 with (fail)
          obtain⟨w6,hw6⟩:∃ w6,((w5.setCell ⟨wr.heap.size,2,none⟩ (.int .i64 4)).setCell ⟨wr.heap.size,3,none⟩ (.int .i64 s.ep)).setCell ⟨wr.heap.size,4,none⟩ (.int .i64 s.ct)=w6:=⟨_,rfl⟩
          have hF6:w6.heap[wr.heap.size]?=some (.cells #[.string ⟨key.toArray⟩,.int .i64 (q:Int),.int .i64 4,.int .i64 s.ep,.int .i64 s.ct] tFind (0,0)):=by rw[<-hw6];exact Ring.heap_same (Ring.heap_same (Ring.heap_same HF5.out _) _) _
          have hb6:Below wr.heap.size wr w6:=by rw[<-hw6];exact ((HB05.out.setCell (p:=⟨wr.heap.size,2,none⟩) (Nat.le_refl _) _).setCell (p:=⟨wr.heap.size,3,none⟩) (Nat.le_refl _) _).setCell (p:=⟨wr.heap.size,4,none⟩) (Nat.le_refl _) _
          rw[hw6]
          clear fc0 fc1 fc2 fc3 fc4 ff2 ff3 ff4 n0 n15 n16 n15b n16b hw6
          have fc0:w6.cell? ⟨wr.heap.size,0,none⟩=some (.string ⟨key.toArray⟩):=by rw[cell_of_row _ _ _ _ _ _ hF6];rfl
          have fc1:w6.cell? ⟨wr.heap.size,1,none⟩=some (.int .i64 (q:Int)):=by rw[cell_of_row _ _ _ _ _ _ hF6];rfl
          have fc2:w6.cell? ⟨wr.heap.size,2,none⟩=some (.int .i64 4):=by rw[cell_of_row _ _ _ _ _ _ hF6];rfl
          have fc3:w6.cell? ⟨wr.heap.size,3,none⟩=some (.int .i64 s.ep):=by rw[cell_of_row _ _ _ _ _ _ hF6];rfl
          have fc4:w6.cell? ⟨wr.heap.size,4,none⟩=some (.int .i64 s.ct):=by rw[cell_of_row _ _ _ _ _ _ hF6];rfl
          clear hF6
          have hs6:wr.heap.size<=w6.heap.size:=hb6.size
          have hl1:=run_litS w6 tFinds tFind _ 5 48 Tryz.underlying47 infoFd (by decide) (by decide) #[.string ⟨key.toArray⟩,.int .i64 (q:Int),.int .i64 4,.int .i64 s.ep,.int .i64 s.ct] rfl
          have HO1:=Hd (Dr.own_alloc (own_below HOWN.out hb6) (.cells #[.string ⟨key.toArray⟩,.int .i64 (q:Int),.int .i64 4,.int .i64 s.ep,.int .i64 s.ct] tFind))
          have HRX:=Hd (rd_newS w6 5 [.string ⟨key.toArray⟩,.int .i64 (q:Int),.int .i64 4,.int .i64 s.ep,.int .i64 s.ct] rfl tFind)
          have HBX:=Hd ((HBW.out.trans (hb6.mono hgs)).alloc (by omega) (.cells #[.string ⟨key.toArray⟩,.int .i64 (q:Int),.int .i64 4,.int .i64 s.ep,.int .i64 s.ct] tFind))
          clear hb6
          go_wp2_with (at_builtin;go_loud (refine wpList_append_rd _ rfl (.tmp 167) (.tmp 169) 47 rfl (W+1) tFind r0 _ 5 48 Tryz.underlying47 hr0 hrz0 hrz1 hrz2 rfl (by decide) (.slice Ao lf.length co) lf.length (cFd key lf) rfl HO1.out _ (some ⟨w6.heap.size,0,none⟩) 1 1 [.string ⟨key.toArray⟩,.int .i64 (q:Int),.int .i64 4,.int .i64 s.ep,.int .i64 s.ct] rfl HRX.out (fun h=>by cases h) (fdC_one key ⟨q,4,s.ep,s.ct⟩) (by unfold maxLen;omega) (by omega) (by simp;omega) ?_);intro v' w7 hrow hg;go_loud (have hb2:=HBX.out.grown hg (by simp;omega) (fun j hj=>Dr.own_ge HO1.out hj));have HROW:=Hd (show w7.ownsRow (W+1) tFind 5 v' (lf.length+1) (cFd key (lf++[⟨q,4,s.ep,s.ct⟩])) by rw[cFd_snoc];exact hrow);have HB2X:=Hd hb2;clear hrow hg hb2)
          have hrow:=HROW.out
          obtain⟨A3x,c3x,rfl,_,_⟩:=own_form hrow
          have HROW2:=Hd hrow
          clear hrow
          go_roundw
          case rel=>exact⟨q+1,lf++[⟨q,4,s.ep,s.ct⟩],A3x,c3x,by go_num,by omega,HAT.out,by rw[List.length_append];rfl,by rw[List.length_append];exact HROW2.out,HB2X.out⟩
          case measure=>simp[intOf];omega
         have k2:(s.kind==2)=false:=by simpa using h2
         have HK:=Hd (show s.kind≠1/\s.kind≠3/\s.kind≠2 from⟨h1,h3,h2⟩)
         clear h1 h2 h3 how
         have HAT:=Hd (HNX.out [⟨q,5,v.ep,v.ct⟩] (by unfold findAt;simp[HKD.out,HK.out.1,HK.out.2.1,HK.out.2.2]))
         clear HNX
         refine wp_region_any (by kernel_rfl) ?_
         change wpAny _ _ _ _ _ _ _ (World.drew _)
         refine wpAny_of_P (S:=fun wx=>wx.rangeAt g' (oo+q*19) C/\wx.rangeAt G 0 D) (late:=[6]) _ _ _ _ ?_
         refine tT 0 HSXF.out ?_
         try go_frame
         refine tT 1 HSXF.out ?_
         try go_frame
         refine tT 2 HSXF.out ?_
         try go_frame
         refine tP 8 3 rfl HSXF.out (fun w hw=>by obtain⟨k1,_⟩:=hw;refine Eq.trans (exec_load_mid tSeen (.tmp 130) (by rfl) g' (oo+q*19) (by rfl) C _ k1 Tryz.underlying72 rfl HCI.out) ?_;with_reducible rfl) ?_
         try go_frame
         refine tP 8 4 rfl HSXF.out (fun w hw=>by obtain⟨_,k2⟩:=hw;refine Eq.trans (exec_load_mid tVd (.tmp 6) (by rfl) G 0 (by rfl) D _ k2 Tryz.underlying32 rfl HDI.out) ?_;with_reducible rfl) ?_
         try go_frame
         refine fP 5 fun K hK=>?_
         go_simp
         have hsh:=shows_any (v:=v) (pl:=pl) (bv:=.slice Ab s.blocks.length cb) (s:=s) (World.drew wF)
         rw[HC.out,HD.out] at hsh
         refine hsh.mono ?_;clear hsh;rintro x w5 ⟨rfl,hb5⟩;rw[HOW.out];have HB5:=Hd (show Below wF.heap.size wF w5 from⟨hb5.os,hb5.tape,hb5.output,hb5.size,hb5.block⟩);have hs5:w5.rangeAt g' (oo+q*19) C/\w5.rangeAt G 0 D:=⟨range_below HSXF.out.1 (by rw[HSF.out];omega) HB5.out,range_below HSXF.out.2 (by rw[HSF.out];omega) HB5.out⟩;have HS5:=Hd hs5;clear hb5 hs5
         refine hK _ _ (HS5.out) ?_;clear hK K
         try go_frame
         refine lP 6 fun K hK=>?_
         go_simp
         refine hK _ _ ?_;clear hK K
         try go_frame
         refine wpAny_done (by kernel_rfl) ?_ _
         have hF5:w5.heap[wr.heap.size]?=some (.cells #[.string ⟨key.toArray⟩,.int .i64 (q:Int),.int .i64 0,.int .i64 v.ep,.int .i64 v.ct] tFind (0,0)):=(HB5.out.block _ (by rw[HSF.out];omega)).trans HF.out
         have hb05:Below wr.heap.size wr w5:=HBF.out.trans (HB5.out.mono (by rw[HSF.out];omega))
         have n0:w5.cell? ⟨g',oo+q*19,none⟩=some (.int .i64 s.kind):=by have h:=HS5.out.1;rw[<-HC.out] at h;exact h 0 _ rfl
         have n15:w5.cell? ⟨g',oo+q*19+1+14,none⟩=some (.int .i64 s.ep):=by have h:=HS5.out.1;rw[<-HC.out] at h;exact h 15 _ rfl
         have n16:w5.cell? ⟨g',oo+q*19+1+14+1,none⟩=some (.int .i64 s.ct):=by have h:=HS5.out.1;rw[<-HC.out] at h;exact h 16 _ rfl
         have n15b:w5.cell? ⟨g',oo+q*19+15,none⟩=some (.int .i64 s.ep):=n15
         have n16b:w5.cell? ⟨g',oo+q*19+16,none⟩=some (.int .i64 s.ct):=n16
         have fc0:w5.cell? ⟨wr.heap.size,0,none⟩=some (.string ⟨key.toArray⟩):=by rw[cell_of_row _ _ _ _ _ _ hF5];rfl
         have fc1:w5.cell? ⟨wr.heap.size,1,none⟩=some (.int .i64 (q:Int)):=by rw[cell_of_row _ _ _ _ _ _ hF5];rfl
         have fc2:w5.cell? ⟨wr.heap.size,2,none⟩=some (.int .i64 0):=by rw[cell_of_row _ _ _ _ _ _ hF5];rfl
         have fc3:w5.cell? ⟨wr.heap.size,3,none⟩=some (.int .i64 v.ep):=by rw[cell_of_row _ _ _ _ _ _ hF5];rfl
         have fc4:w5.cell? ⟨wr.heap.size,4,none⟩=some (.int .i64 v.ct):=by rw[cell_of_row _ _ _ _ _ _ hF5];rfl
         have ff2:w5.frozen? ⟨wr.heap.size,2,none⟩=false:=frozen_of_row _ _ _ _ _ hF5
         have ff3:w5.frozen? ⟨wr.heap.size,3,none⟩=false:=frozen_of_row _ _ _ _ _ hF5
         have ff4:w5.frozen? ⟨wr.heap.size,4,none⟩=false:=frozen_of_row _ _ _ _ _ hF5
         have hnb:¬ g'=wr.heap.size:=by omega
         have hbad5:=HBQ.out w5 (HBW.out.trans (hb05.mono hgs))
         have HF5:=Hd hF5
         have HB05:=Hd hb05
         clear hF5 hb05
         clear hbad5
         go_upto_region 45 with (fail)
         obtain⟨w6,hw6⟩:∃ w6,w5.setCell ⟨wr.heap.size,2,none⟩ (.int .i64 5)=w6:=⟨_,rfl⟩
         have hF6:w6.heap[wr.heap.size]?=some (.cells #[.string ⟨key.toArray⟩,.int .i64 (q:Int),.int .i64 5,.int .i64 v.ep,.int .i64 v.ct] tFind (0,0)):=by rw[<-hw6];exact Ring.heap_same HF5.out _
         have hb6:Below wr.heap.size wr w6:=by rw[<-hw6];exact HB05.out.setCell (p:=⟨wr.heap.size,2,none⟩) (Nat.le_refl _) _
         rw[hw6]
         clear fc0 fc1 fc2 fc3 fc4 ff2 ff3 ff4 n0 n15 n16 n15b n16b hw6
         have fc0:w6.cell? ⟨wr.heap.size,0,none⟩=some (.string ⟨key.toArray⟩):=by rw[cell_of_row _ _ _ _ _ _ hF6];rfl
         have fc1:w6.cell? ⟨wr.heap.size,1,none⟩=some (.int .i64 (q:Int)):=by rw[cell_of_row _ _ _ _ _ _ hF6];rfl
         have fc2:w6.cell? ⟨wr.heap.size,2,none⟩=some (.int .i64 5):=by rw[cell_of_row _ _ _ _ _ _ hF6];rfl
         have fc3:w6.cell? ⟨wr.heap.size,3,none⟩=some (.int .i64 v.ep):=by rw[cell_of_row _ _ _ _ _ _ hF6];rfl
         have fc4:w6.cell? ⟨wr.heap.size,4,none⟩=some (.int .i64 v.ct):=by rw[cell_of_row _ _ _ _ _ _ hF6];rfl
         clear hF6
         have hs6:wr.heap.size<=w6.heap.size:=hb6.size
         have hl1:=run_litS w6 tFinds tFind _ 5 48 Tryz.underlying47 infoFd (by decide) (by decide) #[.string ⟨key.toArray⟩,.int .i64 (q:Int),.int .i64 5,.int .i64 v.ep,.int .i64 v.ct] rfl
         have HO1:=Hd (Dr.own_alloc (own_below HOWN.out hb6) (.cells #[.string ⟨key.toArray⟩,.int .i64 (q:Int),.int .i64 5,.int .i64 v.ep,.int .i64 v.ct] tFind))
         have HRX:=Hd (rd_newS w6 5 [.string ⟨key.toArray⟩,.int .i64 (q:Int),.int .i64 5,.int .i64 v.ep,.int .i64 v.ct] rfl tFind)
         have HBX:=Hd ((HBW.out.trans (hb6.mono hgs)).alloc (by omega) (.cells #[.string ⟨key.toArray⟩,.int .i64 (q:Int),.int .i64 5,.int .i64 v.ep,.int .i64 v.ct] tFind))
         clear hb6
         go_wp2_with (at_builtin;go_loud (refine wpList_append_rd _ rfl (.tmp 167) (.tmp 169) 47 rfl (W+1) tFind r0 _ 5 48 Tryz.underlying47 hr0 hrz0 hrz1 hrz2 rfl (by decide) (.slice Ao lf.length co) lf.length (cFd key lf) rfl HO1.out _ (some ⟨w6.heap.size,0,none⟩) 1 1 [.string ⟨key.toArray⟩,.int .i64 (q:Int),.int .i64 5,.int .i64 v.ep,.int .i64 v.ct] rfl HRX.out (fun h=>by cases h) (fdC_one key ⟨q,5,v.ep,v.ct⟩) (by unfold maxLen;omega) (by omega) (by simp;omega) ?_);intro v' w7 hrow hg;go_loud (have hb2:=HBX.out.grown hg (by simp;omega) (fun j hj=>Dr.own_ge HO1.out hj));have HROW:=Hd (show w7.ownsRow (W+1) tFind 5 v' (lf.length+1) (cFd key (lf++[⟨q,5,v.ep,v.ct⟩])) by rw[cFd_snoc];exact hrow);have HB2X:=Hd hb2;clear hrow hg hb2)
         have hrow:=HROW.out
         obtain⟨A3x,c3x,rfl,_,_⟩:=own_form hrow
         have HROW2:=Hd hrow
         clear hrow
         go_roundw
         case rel=>exact⟨q+1,lf++[⟨q,5,v.ep,v.ct⟩],A3x,c3x,by go_num,by omega,HAT.out,by rw[List.length_append];rfl,by rw[List.length_append];exact HROW2.out,HB2X.out⟩
         case measure=>simp[intOf];omega
       ·obtain rfl:q=i:=by omega
        have hJ:judgeL Kx v L=lf:=by
         rw[<-hlf,<-HHD.out,<-HUNK.out,<-HBAD.out]
         unfold judgeL
         rw[HRE.out,HM.out,HLL.out]
        have HJ:=Hd hJ
        have H2:=Hd (Rd.of_own hown)
        have HBZ:=Hd hb
        clear hown hb hlf hJ
        go_wp2
        go_ret
        refine⟨⟨Ao,co,by rw[HJ.out];rfl,by rw[HJ.out];exact H2.out⟩,?_⟩
        have b0:=HB0.out
        have b1:=HB1.out.mono (B':=w.heap.size) (by rw[HS0.out,HG.out];omega)
        have b2:=HB2.out.mono (B':=w.heap.size) (by rw[HG.out];omega)
        have b3:=HB23.out.mono (B':=w.heap.size) (by rw[HG.out];omega)
        exact b0.trans (b1.trans (b2.trans (b3.trans (HBZ.out.mono (by rw[HG.out];omega)))))
end Go.Proofs.YtmgljaecmchgaaaGreat.Gf
