/- XRc2: merged by tools/merge.py. -/
import Derived.Test.YtmgljaecmchgaaaGreatQ34
import Derived.Test.YtmgljaecmchgaaaGreatQ25
set_option linter.unusedVariables false
set_option linter.unusedSimpArgs false
set_option linter.unusedSectionVars false
namespace Go.Proofs.YtmgljaecmchgaaaGreat.Gf
open Go.RowKit Go.Proofs
structure RowsOk (w w':World) (n:Nat) (R:List (List UInt8)) (x:Ending):Prop where
 out:∃ A c,x = .returned (.slice A n c)/\RowsRd w' w'.heap.size A n R
 back:Below w.heap.size w w'
set_option maxRecDepth 100000 in
set_option maxHeartbeats 4000000 in
theorem rows_any {w:World} {B n c j:Nat} {A:Option Addr} {v:Vd} {pl:Value} {L:List Sn} (hL:SnsRd w B A n L) (hB:B<=w.heap.size) (hn:n<=1024) (hj:j<=1099511627776) (hbn:∀ s∈L,s.blocks.length<=1099511627776) :
  Calls Tryz.prog 17 #[.agg (vdC v pl).toArray,.slice A n c,.int .i64 (j:Int)] w fun x w'=>RowsOk w w' n (rowsJ v L j) x:=by
 obtain⟨r0,hr0,hrz0,hrz1,hrz2⟩:=info_parts infoRs
 have hLl:=hL.len
 obtain⟨G,hG⟩:∃ G,w.heap.size=G:=⟨_,rfl⟩
 obtain⟨D,hD⟩:∃ D,vdC v pl=D:=⟨_,rfl⟩
 have hDl:D.length=5:=by rw[<-hD];rfl
 have hDi:(Tryz.prog.info? tVd).map (fun i=>i.size)=some D.length:=by rw[hDl];kernel_rfl
 have hpk:∀ i,∃ u:Value,∀ s,L[i]?=some s->∃ g' oo Ab cb,A=some (⟨g',oo,none⟩:Addr)/\g'<B/\w.rangeAt g' (oo+i*19) (snC s (.slice Ab s.blocks.length cb))/\
   (∃ Ai ci,u = .slice Ai ((ownB v s).getD j []).length ci/\Rd w B 1 Ai ((ownB v s).getD j []).length (cU8 ((ownB v s).getD j [])))/\(own v s=true->j<s.blocks.length->∃ ad,Ab=some ad/\ad.block<B/\w.cell? (ad.add j)=some u)/\
   (own v s=false\/s.blocks.length<=j->u = .slice none 0 0):=fun i=>by
  cases h:L[i]? with
  | none=>exact⟨undef,fun s hs=>by cases hs⟩
  | some s=>
   obtain⟨g',oo,Ab,cb,h1,h2,h3,h4⟩:=hL.at_ i s h
   cases ho:own v s with
   | true=>
    obtain⟨u,h5,h6,h7⟩:=row_pick h4 j
    refine⟨u,fun s' hs=>by injection hs with hs;subst hs;exact⟨g',oo,Ab,cb,h1,h2,h3,by unfold ownB;rw[if_pos ho];exact h5,fun _=>h6,fun h=>h.elim (fun h=>by rw[ho] at h;cases h) h7⟩⟩
   | false=>
    refine⟨.slice none 0 0,fun s' hs=>by injection hs with hs;subst hs;exact⟨g',oo,Ab,cb,h1,h2,h3,⟨none,0,by unfold ownB;rw[if_neg (by rw[ho];decide)];rfl,by unfold ownB;rw[if_neg (by rw[ho];decide)];exact⟨rfl,fun h=>by simp at h⟩⟩,(fun h=>by rw[ho] at h;cases h),fun _=>rfl⟩⟩
 obtain⟨us,hus⟩:=Classical.axiomOfChoice hpk
 obtain⟨w0,hw0⟩:∃ w0,w.alloc (.cells D.toArray tVd)=w0:=⟨_,rfl⟩
 have hb0:Below w.heap.size w w0:=by rw[<-hw0];exact (Below.refl _ _).alloc (Nat.le_refl _) _
 have hs0:w0.heap.size=G+1:=by rw[<-hw0,<-hG];simp
 have hd0:w0.rangeAt G 0 D:=fun q u hu=>by
  have h:=new_cells w D tVd q u hu
  rw[Addr.add_mid,hw0,hG] at h
  exact h
 have HLL:=Hd hLl
 have HG:=Hd hG
 have HD:=Hd hD
 have HDI:=Hd hDi
 have HUS:=Hd hus
 have HW0:=Hd hw0
 have HB0:=Hd hb0
 have HS0:=Hd hs0
 have HD0:=Hd hd0
 have HBN:=Hd hbn
 have hBG:B<=G:=by omega
 rw[hD]
 clear hL hLl hG hD hDl hDi hpk hus hw0 hb0 hs0 hd0 hbn
 go_enter Tryz.func17,Tryz.ntmps17
 go_upto_region 1 with (fail)
 rw[HW0.out,HG.out]
 have HB00:=Hd (Below.refl (G+1) w0)
 go_wp2
 go_loopw [7,8] (fun ov iv wr=>∃ (i:Nat) (Ao:Option Addr) (co:Nat),iv = .int .i64 (i:Int)/\i<=n/\ov = .slice Ao i co/\wr.ownsRow (G+1) tRs 1 (.slice Ao i co) i (fromV i us)/\Below (G+1) w0 wr) (fun _ iv _=>n - (intOf iv).toNat)
 case atStart=>exact⟨0,none,0,rfl,Nat.zero_le _,rfl,World.ownsRow_nil _ _ _ _,HB00.out⟩
 case round=>
  obtain⟨i,Ao,co,rfl,hi,rfl,hown,hb⟩:=hrel
  by_cases hin:i<n
  ·have hin2:(i:Int)<(n:Int):=by omega
   have hi00:(0:Int)<=(i:Int):=by omega
   have hj00:(0:Int)<=(j:Int):=by omega
   obtain⟨s,hs⟩:∃ s,L[i]?=some s:=⟨_,List.getElem?_eq_getElem (by rw[HLL.out];exact hin)⟩
   obtain⟨g',oo,Ab,cb,hA,hgB,hrg,hu,hcell,hnil⟩:=HUS.out i s hs
   subst hA
   obtain⟨len,hlen⟩:∃ len,s.blocks.length=len:=⟨_,rfl⟩
   have hlen40:len<=1099511627776:=by rw[<-hlen];exact HBN.out s (List.mem_of_getElem? hs)
   rw[hlen] at hrg hcell hnil
   obtain⟨C,hC⟩:∃ C,snC s (.slice Ab len cb)=C:=⟨_,rfl⟩
   have hCl:C.length=19:=by rw[<-hC];rfl
   have hCi:(Tryz.prog.info? tSeen).map (fun i=>i.size)=some C.length:=by rw[hCl];exact snC_size
   have hgs:G+1<=wr.heap.size:=by have:=hb.size;have:=HS0.out;omega
   have hsx:wr.rangeAt g' (oo+i*19) C/\wr.rangeAt G 0 D/\wr.cell? ⟨g',oo+i*19+17,none⟩=some (.slice Ab len cb):=by
    have h1:w0.rangeAt g' (oo+i*19) (snC s (.slice Ab len cb)):=range_below hrg (by rw[HG.out];omega) HB0.out
    have h2:wr.rangeAt g' (oo+i*19) (snC s (.slice Ab len cb)):=range_below h1 (show g'<G+1 by omega) hb
    exact⟨by rw[<-hC];exact h2,range_below HD0.out (Nat.lt_succ_self G) hb,h2 17 _ rfl⟩
   have HGS:=Hd hgs
   have HSX:=Hd hsx
   have HC:=Hd hC
   have HCI:=Hd hCi
   have HOWN:=Hd hown
   have HBW:=Hd hb
   have hgG:g'<G:=by omega
   clear hown hb hrg hC hCl hCi hsx hs
   cases how:own v s with
   | false=>
    have HOW:=Hd how
    have HU:=Hd (hnil (.inl how))
    clear how hu hcell hnil hlen
    go_upto_region 6 with (fail)
    refine wp_region_any (by kernel_rfl) ?_
    change wpAny _ _ _ _ _ _ _ (World.drew _)
    refine wpAny_of_P (S:=fun wx=>wx.rangeAt g' (oo+i*19) C/\wx.rangeAt G 0 D/\wx.cell? ⟨g',oo+i*19+17,none⟩=some (.slice Ab len cb)) (late:=[16]) _ _ _ _ ?_
    refine tT 0 HSX.out ?_
    try go_frame
    refine tT 1 HSX.out ?_
    try go_frame
    refine tT 2 HSX.out ?_
    try go_frame
    refine tP 8 3 rfl HSX.out (fun w hw=>by obtain⟨k1,_,_⟩:=hw;refine Eq.trans (exec_load_mid tSeen (.tmp 18) (by rfl) g' (oo+i*19) (by rfl) C _ k1 Tryz.underlying72 rfl HCI.out) ?_;with_reducible rfl) ?_
    try go_frame
    refine tP 8 4 rfl HSX.out (fun w hw=>by obtain⟨_,k2,_⟩:=hw;refine Eq.trans (exec_load_mid tVd (.tmp 3) (by rfl) G 0 (by rfl) D _ k2 Tryz.underlying32 rfl HDI.out) ?_;with_reducible rfl) ?_
    try go_frame
    refine fP 5 fun K hK=>?_
    go_simp
    have hsh:=shows_any (v:=v) (pl:=pl) (bv:=.slice Ab len cb) (s:=s) (World.drew wr)
    rw[HC.out,HD.out] at hsh
    refine hsh.mono ?_;clear hsh;rintro x w5 ⟨rfl,hb5⟩;rw[HOW.out];have HB5:=Hd (show Below wr.heap.size wr w5 from⟨hb5.os,hb5.tape,hb5.output,hb5.size,hb5.block⟩);have hs5:w5.rangeAt g' (oo+i*19) C/\w5.rangeAt G 0 D/\w5.cell? ⟨g',oo+i*19+17,none⟩=some (.slice Ab len cb):=⟨range_below HSX.out.1 (by omega) HB5.out,range_below HSX.out.2.1 (by omega) HB5.out,(HB5.out.cell (p:=⟨g',oo+i*19+17,none⟩) (by show g'<wr.heap.size;omega)).trans HSX.out.2.2⟩;have HS5:=Hd hs5;clear hb5 hs5
    refine hK _ _ (HS5.out) ?_;clear hK K
    try go_frame
    refine tT 6 HS5.out ?_
    try go_frame
    refine tO 7 HS5.out ?_
    try go_frame
    refine tO 8 HS5.out ?_
    try go_frame
    refine tO 9 HS5.out ?_
    try go_frame
    refine tO 10 HS5.out ?_
    try go_frame
    refine tO 11 HS5.out ?_
    try go_frame
    refine tO 12 HS5.out ?_
    try go_frame
    refine tO 13 HS5.out ?_
    try go_frame
    refine tO 14 HS5.out ?_
    try go_frame
    refine tO 15 HS5.out ?_
    try go_frame
    refine lP 16 fun K hK=>?_
    go_simp
    refine hK _ _ ?_;clear hK K
    try go_frame
    refine wpAny_done (by kernel_rfl) ?_ _
    have hl1:=run_litV w5 67 tRs (.slice none 0 0) (.slice none 0 0) 24 Tryz.underlying67 infoRs rfl
    have HO1:=Hd (Dr.own_alloc (own_below HOWN.out HB5.out) (.cells #[.slice none 0 0] tRs))
    have HRX:=Hd (rd_new w5 (.slice none 0 0) tRs)
    have HBX:=Hd ((HBW.out.trans (HB5.out.mono HGS.out)).alloc (by have:=HB5.out.size;have:=HGS.out;omega) (.cells #[.slice none 0 0] tRs))
    have HGS5:=Hd (show G+1<=w5.heap.size by have:=HB5.out.size;have:=HGS.out;omega)
    go_wp2_with (at_builtin;go_loud (refine wpList_append_rd _ rfl (.tmp 42) (.tmp 44) 67 rfl (G+1) tRs r0 (.slice none 0 0) 1 24 Tryz.underlying67 hr0 hrz0 hrz1 hrz2 rfl (by decide) (.slice Ao i co) i (fromV i us) rfl HO1.out _ (some ⟨w5.heap.size,0,none⟩) 1 1 [.slice none 0 0] rfl HRX.out (fun h=>by cases h) (by simp[Value.oneCell']) (by unfold maxLen;omega) (by omega) (by simp;have:=HGS5.out;omega) ?_);intro v' w' hrow hg;go_loud (have hb2:=HBX.out.grown hg (by simp;have:=HGS5.out;omega) (fun j hj=>Dr.own_ge HO1.out hj));have HROW:=Hd hrow;have HB2X:=Hd hb2;clear hrow hg hb2)
    have hrow:=HROW.out
    have hcs:fromV (i+1) us=fromV i us++[.slice none 0 0]:=by rw[fromV_succ,HU.out]
    obtain⟨A3x,c3x,rfl,_,_⟩:=own_form hrow
    have HROW2:=Hd (show w'.ownsRow (G+1) tRs 1 (.slice A3x (i+1) c3x) (i+1) (fromV (i+1) us) by rw[hcs];exact hrow)
    clear hrow hcs
    go_roundw
    case rel=>exact⟨i+1,A3x,c3x,by go_num,by omega,rfl,HROW2.out,HB2X.out⟩
    case measure=>simp[intOf];omega
   | true=>
    by_cases hjl:len<=j
    ·have tok:=trivial
     have HOW:=Hd how
     have HU:=Hd (hnil (.inr (by omega)))
     have hjl:¬ (j:Int)<(len:Int):=by omega
     clear how hu hcell hnil hlen
     go_upto_region 6 with (fail)
     refine wp_region_any (by kernel_rfl) ?_
     change wpAny _ _ _ _ _ _ _ (World.drew _)
     refine wpAny_of_P (S:=fun wx=>wx.rangeAt g' (oo+i*19) C/\wx.rangeAt G 0 D/\wx.cell? ⟨g',oo+i*19+17,none⟩=some (.slice Ab len cb)) (late:=[16]) _ _ _ _ ?_
     refine tT 0 HSX.out ?_
     try go_frame
     refine tT 1 HSX.out ?_
     try go_frame
     refine tT 2 HSX.out ?_
     try go_frame
     refine tP 8 3 rfl HSX.out (fun w hw=>by obtain⟨k1,_,_⟩:=hw;refine Eq.trans (exec_load_mid tSeen (.tmp 18) (by rfl) g' (oo+i*19) (by rfl) C _ k1 Tryz.underlying72 rfl HCI.out) ?_;with_reducible rfl) ?_
     try go_frame
     refine tP 8 4 rfl HSX.out (fun w hw=>by obtain⟨_,k2,_⟩:=hw;refine Eq.trans (exec_load_mid tVd (.tmp 3) (by rfl) G 0 (by rfl) D _ k2 Tryz.underlying32 rfl HDI.out) ?_;with_reducible rfl) ?_
     try go_frame
     refine fP 5 fun K hK=>?_
     go_simp
     have hsh:=shows_any (v:=v) (pl:=pl) (bv:=.slice Ab len cb) (s:=s) (World.drew wr)
     rw[HC.out,HD.out] at hsh
     refine hsh.mono ?_;clear hsh;rintro x w5 ⟨rfl,hb5⟩;rw[HOW.out];have HB5:=Hd (show Below wr.heap.size wr w5 from⟨hb5.os,hb5.tape,hb5.output,hb5.size,hb5.block⟩);have hs5:w5.rangeAt g' (oo+i*19) C/\w5.rangeAt G 0 D/\w5.cell? ⟨g',oo+i*19+17,none⟩=some (.slice Ab len cb):=⟨range_below HSX.out.1 (by omega) HB5.out,range_below HSX.out.2.1 (by omega) HB5.out,(HB5.out.cell (p:=⟨g',oo+i*19+17,none⟩) (by show g'<wr.heap.size;omega)).trans HSX.out.2.2⟩;have HS5:=Hd hs5;clear hb5 hs5
     refine hK _ _ (HS5.out) ?_;clear hK K
     try go_frame
     refine tT 6 HS5.out ?_
     try go_frame
     refine tT 7 HS5.out ?_
     try go_frame
     refine tT 8 HS5.out ?_
     try go_frame
     refine tT 9 HS5.out ?_
     try go_frame
     refine tT 10 HS5.out ?_
     try go_frame
     refine tT 11 HS5.out ?_
     try go_frame
     refine tT 12 HS5.out ?_
     try go_frame
     refine tP 8 13 rfl HS5.out (fun w hw=>by obtain⟨_,_,k3⟩:=hw;have k4:w.cell? ⟨g',oo+i*19+1+16,none⟩=some (.slice Ab len cb):=k3;go_simp;try with_reducible rfl) ?_
     try go_frame
     refine tT 14 HS5.out ?_
     try go_frame
     refine tT 15 HS5.out ?_
     try go_frame
     refine lP 16 fun K hK=>?_
     go_simp
     refine hK _ _ ?_;clear hK K
     try go_frame
     refine wpAny_done (by kernel_rfl) ?_ _
     have hl1:=run_litV w5 67 tRs (.slice none 0 0) (.slice none 0 0) 24 Tryz.underlying67 infoRs rfl
     have HO1:=Hd (Dr.own_alloc (own_below HOWN.out HB5.out) (.cells #[.slice none 0 0] tRs))
     have HRX:=Hd (rd_new w5 (.slice none 0 0) tRs)
     have HBX:=Hd ((HBW.out.trans (HB5.out.mono HGS.out)).alloc (by have:=HB5.out.size;have:=HGS.out;omega) (.cells #[.slice none 0 0] tRs))
     have HGS5:=Hd (show G+1<=w5.heap.size by have:=HB5.out.size;have:=HGS.out;omega)
     go_wp2_with (at_builtin;go_loud (refine wpList_append_rd _ rfl (.tmp 42) (.tmp 44) 67 rfl (G+1) tRs r0 (.slice none 0 0) 1 24 Tryz.underlying67 hr0 hrz0 hrz1 hrz2 rfl (by decide) (.slice Ao i co) i (fromV i us) rfl HO1.out _ (some ⟨w5.heap.size,0,none⟩) 1 1 [.slice none 0 0] rfl HRX.out (fun h=>by cases h) (by simp[Value.oneCell']) (by unfold maxLen;omega) (by omega) (by simp;have:=HGS5.out;omega) ?_);intro v' w' hrow hg;go_loud (have hb2:=HBX.out.grown hg (by simp;have:=HGS5.out;omega) (fun j hj=>Dr.own_ge HO1.out hj));have HROW:=Hd hrow;have HB2X:=Hd hb2;clear hrow hg hb2)
     have hrow:=HROW.out
     have hcs:fromV (i+1) us=fromV i us++[.slice none 0 0]:=by rw[fromV_succ,HU.out]
     obtain⟨A3x,c3x,rfl,_,_⟩:=own_form hrow
     have HROW2:=Hd (show w'.ownsRow (G+1) tRs 1 (.slice A3x (i+1) c3x) (i+1) (fromV (i+1) us) by rw[hcs];exact hrow)
     clear hrow hcs
     go_roundw
     case rel=>exact⟨i+1,A3x,c3x,by go_num,by omega,rfl,HROW2.out,HB2X.out⟩
     case measure=>simp[intOf];omega
    ·have tok:=trivial
     have HOW:=Hd how
     have hjl2:(j:Int)<(len:Int):=by omega
     obtain⟨ad,hAd,had,hcx⟩:=hcell how (by omega)
     have HAD:=Hd hAd
     obtain⟨Ai,ci,hu,_⟩:=hu
     rw[hu] at hcx
     have hadG:ad.block<G:=by omega
     have HCX:=Hd (show ∀ W',Below G w0 W'->W'.cell? (ad.add j)=some (.slice Ai ((ownB v s).getD j []).length ci) from fun W' hb=>(hb.cell (by rw[add_block];exact hadG)).trans ((HB0.out.cell (by rw[add_block,HG.out];exact hadG)).trans hcx))
     have HU:=Hd hu
     clear how hu hcell hnil hlen hcx hAd
     go_upto_region 6 with (fail)
     refine wp_region_any (by kernel_rfl) ?_
     change wpAny _ _ _ _ _ _ _ (World.drew _)
     refine wpAny_of_P (S:=fun wx=>wx.rangeAt g' (oo+i*19) C/\wx.rangeAt G 0 D/\wx.cell? ⟨g',oo+i*19+17,none⟩=some (.slice Ab len cb)) (late:=[16]) _ _ _ _ ?_
     refine tT 0 HSX.out ?_
     try go_frame
     refine tT 1 HSX.out ?_
     try go_frame
     refine tT 2 HSX.out ?_
     try go_frame
     refine tP 8 3 rfl HSX.out (fun w hw=>by obtain⟨k1,_,_⟩:=hw;refine Eq.trans (exec_load_mid tSeen (.tmp 18) (by rfl) g' (oo+i*19) (by rfl) C _ k1 Tryz.underlying72 rfl HCI.out) ?_;with_reducible rfl) ?_
     try go_frame
     refine tP 8 4 rfl HSX.out (fun w hw=>by obtain⟨_,k2,_⟩:=hw;refine Eq.trans (exec_load_mid tVd (.tmp 3) (by rfl) G 0 (by rfl) D _ k2 Tryz.underlying32 rfl HDI.out) ?_;with_reducible rfl) ?_
     try go_frame
     refine fP 5 fun K hK=>?_
     go_simp
     have hsh:=shows_any (v:=v) (pl:=pl) (bv:=.slice Ab len cb) (s:=s) (World.drew wr)
     rw[HC.out,HD.out] at hsh
     refine hsh.mono ?_;clear hsh;rintro x w5 ⟨rfl,hb5⟩;rw[HOW.out];have HB5:=Hd (show Below wr.heap.size wr w5 from⟨hb5.os,hb5.tape,hb5.output,hb5.size,hb5.block⟩);have hs5:w5.rangeAt g' (oo+i*19) C/\w5.rangeAt G 0 D/\w5.cell? ⟨g',oo+i*19+17,none⟩=some (.slice Ab len cb):=⟨range_below HSX.out.1 (by omega) HB5.out,range_below HSX.out.2.1 (by omega) HB5.out,(HB5.out.cell (p:=⟨g',oo+i*19+17,none⟩) (by show g'<wr.heap.size;omega)).trans HSX.out.2.2⟩;have HS5:=Hd hs5;clear hb5 hs5
     refine hK _ _ (HS5.out) ?_;clear hK K
     try go_frame
     refine tT 6 HS5.out ?_
     try go_frame
     refine tT 7 HS5.out ?_
     try go_frame
     refine tT 8 HS5.out ?_
     try go_frame
     refine tT 9 HS5.out ?_
     try go_frame
     refine tT 10 HS5.out ?_
     try go_frame
     refine tT 11 HS5.out ?_
     try go_frame
     refine tT 12 HS5.out ?_
     try go_frame
     refine tP 8 13 rfl HS5.out (fun w hw=>by obtain⟨_,_,k3⟩:=hw;have k4:w.cell? ⟨g',oo+i*19+1+16,none⟩=some (.slice Ab len cb):=k3;go_simp;try with_reducible rfl) ?_
     try go_frame
     refine tT 14 HS5.out ?_
     try go_frame
     refine tT 15 HS5.out ?_
     try go_frame
     refine lP 16 fun K hK=>?_
     go_simp
     refine hK _ _ ?_;clear hK K
     try go_frame
     refine wpAny_done (by kernel_rfl) ?_ _
     have hl1:=run_litV w5 67 tRs (.slice none 0 0) (.slice Ai ((ownB v s).getD j []).length ci) 24 Tryz.underlying67 infoRs rfl
     have HO1:=Hd (Dr.own_alloc (own_below HOWN.out HB5.out) (.cells #[.slice Ai ((ownB v s).getD j []).length ci] tRs))
     have HRX:=Hd (rd_new w5 (.slice Ai ((ownB v s).getD j []).length ci) tRs)
     have HBX:=Hd ((HBW.out.trans (HB5.out.mono HGS.out)).alloc (by have:=HB5.out.size;have:=HGS.out;omega) (.cells #[.slice Ai ((ownB v s).getD j []).length ci] tRs))
     have HGS5:=Hd (show G+1<=w5.heap.size by have:=HB5.out.size;have:=HGS.out;omega)
     have hcx:=HCX.out w5 ((HBW.out.mono (Nat.le_succ G)).trans (HB5.out.mono (by have:=HGS.out;omega)))
     have k5:=HS5.out.2.2
     rw[HAD.out] at k5
     have k6:w5.cell? ⟨g',oo+i*19+1+16,none⟩=some (.slice (some ad) len cb):=k5
     have hadw:ad.block<w5.heap.size:=by have:=HB5.out.size;have:=HGS.out;omega
     have hgw:g'<w5.heap.size:=by have:=HB5.out.size;have:=HGS.out;omega
     go_wp2_with (at_builtin;go_loud (refine wpList_append_rd _ rfl (.tmp 42) (.tmp 44) 67 rfl (G+1) tRs r0 (.slice none 0 0) 1 24 Tryz.underlying67 hr0 hrz0 hrz1 hrz2 rfl (by decide) (.slice Ao i co) i (fromV i us) rfl HO1.out _ (some ⟨w5.heap.size,0,none⟩) 1 1 [.slice Ai ((ownB v s).getD j []).length ci] rfl HRX.out (fun h=>by cases h) (by simp[Value.oneCell']) (by unfold maxLen;omega) (by omega) (by simp;have:=HGS5.out;omega) ?_);intro v' w' hrow hg;go_loud (have hb2:=HBX.out.grown hg (by simp;have:=HGS5.out;omega) (fun j hj=>Dr.own_ge HO1.out hj));have HROW:=Hd hrow;have HB2X:=Hd hb2;clear hrow hg hb2)
     have hrow:=HROW.out
     have hcs:fromV (i+1) us=fromV i us++[.slice Ai ((ownB v s).getD j []).length ci]:=by rw[fromV_succ,HU.out]
     obtain⟨A3x,c3x,rfl,_,_⟩:=own_form hrow
     have HROW2:=Hd (show w'.ownsRow (G+1) tRs 1 (.slice A3x (i+1) c3x) (i+1) (fromV (i+1) us) by rw[hcs];exact hrow)
     clear hrow hcs
     go_roundw
     case rel=>exact⟨i+1,A3x,c3x,by go_num,by omega,rfl,HROW2.out,HB2X.out⟩
     case measure=>simp[intOf];omega
  ·obtain rfl:i=n:=by omega
   have hrows:RowsRd wr wr.heap.size Ao i (rowsJ v L j):=by
    refine⟨by simp[rowsJ,HLL.out],_,Rd.of_own hown,fun q r hr=>?_⟩
    have hqL:q<L.length:=by
     have:=(List.getElem?_eq_some_iff.1 hr).1
     simpa [rowsJ] using this
    obtain⟨s,hs⟩:∃ s,L[q]?=some s:=⟨_,List.getElem?_eq_getElem hqL⟩
    rw[rowsJ_get hs] at hr
    injection hr with hr
    subst hr
    obtain⟨_,_,_,_,_,_,_,⟨Ai,ci,hu,hrd⟩,_,_⟩:=HUS.out q s hs
    refine⟨Ai,ci,by rw[fromV_get (by rw[HLL.out] at hqL;exact hqL),hu],?_⟩
    exact ((hrd.below (HB0.out.mono hB)).below (hb.mono (by omega))).more (by have:=hb.size;have:=HS0.out;omega)
   have HROWS:=Hd hrows
   have HBW:=Hd hb
   clear hown hb hrows
   go_wp2
   go_ret
   exact⟨⟨Ao,co,rfl,HROWS.out⟩,HB0.out.trans (HBW.out.mono (by rw[HG.out];omega))⟩
end Go.Proofs.YtmgljaecmchgaaaGreat.Gf
