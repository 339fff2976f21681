/- XLe2: merged by tools/merge.py. -/
import Derived.Test.YtmgljaecmchgaaaGreatQ34
import Derived.Test.YtmgljaecmchgaaaGreatQ22
set_option linter.unusedVariables false
set_option linter.unusedSimpArgs false
set_option linter.unusedSectionVars false
namespace Go.Proofs.YtmgljaecmchgaaaGreat.Gf
open Go.RowKit Go.Proofs
theorem infoSn3:(Tryz.prog.info? tSeen).map (fun i=>(i.zero,i.size,i.bytes))=some (some (.agg #[.int .i64 0,.int .u8 0,.int .u8 0,.int .u8 0,.int .u8 0,.int .u8 0,.int .u8 0,.int .u8 0,.int .u8 0,.int .i64 0,.int .i64 0,.int .i64 0,.string ⟨#[]⟩,.int .i64 0,.int .i64 0,.int .i64 0,.int .i64 0,.slice none 0 0,.int .i64 0]),19,120):=by kernel_rfl
theorem run_lit3 (W:World) (a b c:Int):(Instr.buildSlice 79 3 #[(0,.int .u8 a),(1,.int .u8 b),(2,.int .u8 c)]).run Tryz.prog W = .ok (.slice (some ⟨W.heap.size,0,none⟩) 3 3) (W.alloc (.cells #[.int .u8 a,.int .u8 b,.int .u8 c] Dr.tU8)):=by
 obtain⟨i0,hi,hz0,hz1,hz2⟩:=info_parts Dr.infoU8
 exact run_buildSlice (P:=Tryz.prog) W 79 Dr.tU8 3 #[(0,.int .u8 a),(1,.int .u8 b),(2,.int .u8 c)] #[.int .u8 a,.int .u8 b,.int .u8 c] i0 (.int .u8 0) Tryz.underlying79 hi hz0 (by rw[hz1];decide) (by rw[hz1];decide) (by rw[hz1];exact Great.fill_flat [.int .u8 a,.int .u8 b,.int .u8 c] _ (fun v hv=>by simp at hv;rcases hv with rfl | rfl | rfl<;>rfl) (by simp))
theorem slice_frontU (w:World) (g:Nat) {n c q:Nat} (hq:q<=c):(Instr.slice 79 (.slice (some ⟨g,0,none⟩) n c) none (some (.int .i64 (q:Int))) none).run Tryz.prog w = .ok (.slice (some ⟨g,0,none⟩) q c) w:=by
 rw[run_slice_h (P:=Tryz.prog) w 79 (some ⟨g,0,none⟩) n c (by kernel_rfl) .i64 (q:Int) (by omega) (by omega)]
 have hs:(sizeOf (Tryz.prog.elem 79)).run Tryz.prog w = .ok 1 w:=by kernel_rfl
 rw[hs]
 unfold sliced
 simp[Result.andThen]
 intro _
 unfold Addr.add
 simp
theorem slice_frontR (w:World) (g:Nat) {n c q:Nat} (hq:q<=c):(Instr.slice 67 (.slice (some ⟨g,0,none⟩) n c) none (some (.int .i64 (q:Int))) none).run Tryz.prog w = .ok (.slice (some ⟨g,0,none⟩) q c) w:=by
 rw[run_slice_h (P:=Tryz.prog) w 67 (some ⟨g,0,none⟩) n c (by kernel_rfl) .i64 (q:Int) (by omega) (by omega)]
 have hs:(sizeOf (Tryz.prog.elem 67)).run Tryz.prog w = .ok 1 w:=by kernel_rfl
 rw[hs]
 unfold sliced
 simp[Result.andThen]
 intro _
 unfold Addr.add
 simp
theorem slice_frontS (w:World) (g:Nat) {n c q:Nat} (hq:q<=c):(Instr.slice 33 (.slice (some ⟨g,0,none⟩) n c) none (some (.int .i64 (q:Int))) none).run Tryz.prog w = .ok (.slice (some ⟨g,0,none⟩) q c) w:=by
 rw[run_slice_h (P:=Tryz.prog) w 33 (some ⟨g,0,none⟩) n c (by kernel_rfl) .i64 (q:Int) (by omega) (by omega)]
 have hs:(sizeOf (Tryz.prog.elem 33)).run Tryz.prog w = .ok 19 w:=by kernel_rfl
 rw[hs]
 unfold sliced
 simp[Result.andThen]
 intro _
 unfold Addr.add
 simp
theorem wr40 (m:Nat) (h:m<=1099511627776):IntKind.i64.wrap (m:Int)=(m:Int):=IntWalk.i64_in _ (by omega)
theorem flatMap_congr_range {f g:Nat->List Value} {i:Nat} (h:∀ x,x<i->f x=g x):(List.range i).flatMap f=(List.range i).flatMap g:=by
 induction i with
 | zero=>rfl
 | succ i ih=>rw[flat_succ,flat_succ,ih (fun x hx=>h x (by omega)),h i (by omega)]
theorem snC_one (s:Sn) (bv:Value) (hb:bv.oneCell'=true):∀ u∈snC s bv,u.oneCell'=true:=by
 intro u hu
 simp[snC] at hu
 rcases hu with h | h | h | h | h | h | h | h | h | h | h | h | h | h | h | h | h | h | h<;>subst h<;>first | rfl | exact hb
theorem EntM.setCell {W:World} {base gb cb:Nat} {R:List (List UInt8)} (h:EntM W base R gb cb) {p:Addr} (hp:p.block<base) (v:Value):EntM (W.setCell p v) base R gb cb:=by
 obtain⟨gs,cs,ge,ce,h1,h2,h3⟩:=h.row
 have key:∀ {e:TypeId} {n:Nat} {u:Value} {xs:List Value},W.ownsRow base e 1 u n xs->(W.setCell p v).ownsRow base e 1 u n xs:=fun {e n u xs} h=>
  h.kept (row:=some p.block) ⟨rfl,rfl,rfl,(KeepsWalks.setCell W p v).size,fun k _ hk=>Below.heap_setCell W p v k (fun e=>hk (by rw[e]))⟩ (.inr (fun e=>own_off h hp e.symm))
 exact⟨gs,cs,ge,ce,key h1,fun x hx=>key (h2 x hx),key h3⟩
theorem wpList_litS {ops:Array Oper} {rest:List Oper} {o:Oper} {a:Act} {w:World} {Q:Exit->Act->World->Prop} (hg:o.guard=none) (x:Operand) (t e:TypeId) (z:Value) (n sz:Nat) (ho:o.op = .buildSlice t 1 #[(0,x)]) (ht:Tryz.prog.underlying t=some (.slice e)) (he:(Tryz.prog.info? e).map (fun i=>(i.zero,i.size,i.bytes))=some (some z,n,sz)) (hn0:0<n) (hn1:n<=1024) (C:List Value) (hC:C.length=n) (hx:a.eval x = .agg C.toArray)
  (h:wpList Tryz.prog ops Q rest (a.put o.dst (.slice (some ⟨w.heap.size,0,none⟩) 1 1)) (w.alloc (.cells C.toArray e))):wpList Tryz.prog ops Q (o::rest) a w:=by
 obtain⟨i0,hi,hz0,hz1,hz2⟩:=info_parts he
 refine wpList_buildSlice hg t e 1 _ ho C.toArray i0 z ht hi hz0 (by rw[hz1];omega) (by rw[hz1];omega) ?_ h
 have:(#[(0,x)].map fun (i,x)=>(i,a.eval x)).toList=[(0,.agg C.toArray)]:=by simp[hx]
 rw[this,hz1]
 exact fill_one C.toArray z.cells n (by simpa using hC)
theorem snC_set (s:Sn) (a b:Value):(snC s a).toArray.setIfInBounds 17 b=(snC s b).toArray:=by
 rw[List.setIfInBounds_toArray];rfl
theorem rd_new3 (W:World) (a b c:Value) (e:TypeId):Rd (W.alloc (.cells #[a,b,c] e)) (W.alloc (.cells #[a,b,c] e)).heap.size 1 (some ⟨W.heap.size,0,none⟩) 3 [a,b,c]:=
 ⟨rfl,fun _=>⟨_,rfl,by simp,new_cells W [a,b,c] e⟩⟩
structure LenM (W:World) (base:Nat) (A:Option Addr) (c i:Nat) (gbs cbs:Nat->Nat) (L:List Sn):Prop where
 row:W.ownsRow base tSeen 19 (.slice A i c) i ((List.range i).flatMap fun x=>snC (L.getD x default) (.slice (some ⟨gbs x,0,none⟩) (L.getD x default).blocks.length (cbs x)))
 each:∀ x,x<i->EntM W base (L.getD x default).blocks (gbs x) (cbs x)
theorem LenM.below {W W':World} {base c i:Nat} {A:Option Addr} {gbs cbs:Nat->Nat} {L:List Sn} (h:LenM W base A c i gbs cbs L) (hb:Below W.heap.size W W'):LenM W' base A c i gbs cbs L:=
 ⟨own_below h.row hb,fun x hx=>(h.each x hx).below hb⟩
structure LentOk (w w':World) (n:Nat) (L:List Sn) (x:Ending):Prop where
 out:∃ (g c:Nat) (gbs cbs:Nat->Nat),x = .returned (.slice (some ⟨g,0,none⟩) n c)/\n+2<=c/\
  w'.ownsRow w.heap.size tSeen 19 (.slice (some ⟨g,0,none⟩) (n+2) c) (n+2) (((List.range n).flatMap fun x=>snC (L.getD x default) (.slice (some ⟨gbs x,0,none⟩) (L.getD x default).blocks.length (cbs x)))++([.int .i64 77,.int .u8 0,.int .u8 0,.int .u8 0,.int .u8 0,.int .u8 0,.int .u8 0,.int .u8 0,.int .u8 0,.int .i64 0,.int .i64 0,.int .i64 0,.string ⟨#[]⟩,.int .i64 0,.int .i64 0,.int .i64 0,.int .i64 0,.slice none 0 0,.int .i64 0]++[.int .i64 78,.int .u8 0,.int .u8 0,.int .u8 0,.int .u8 0,.int .u8 0,.int .u8 0,.int .u8 0,.int .u8 0,.int .i64 0,.int .i64 0,.int .i64 0,.string ⟨#[]⟩,.int .i64 0,.int .i64 0,.int .i64 0,.int .i64 0,.slice none 0 0,.int .i64 0]))/\
  ∀ x,x<n->EntM w' w.heap.size (L.getD x default).blocks (gbs x) (cbs x)
 back:Below w.heap.size w w'
set_option maxRecDepth 100000 in
set_option maxHeartbeats 16000000 in
theorem lent_any {w:World} {B n c0:Nat} {A:Option Addr} {L:List Sn} (hL:SnsIn w B A n L) (hB:B<=w.heap.size) (hn:n<=1048576) (hbn:∀ s∈L,s.blocks.length<=1048576) (hlen:∀ s∈L,∀ b∈s.blocks,b.length<=1048576) :
  Calls Tryz.prog 6 #[.slice A n c0] w fun x w'=>LentOk w w' n L x:=by
 obtain⟨i0,hi0,hz0,hz1,hz2⟩:=info_parts Dr.infoU8
 obtain⟨r0,hr0,hy0,hy1,hy2⟩:=info_parts infoRs
 obtain⟨s0,hs0,hx0,hx1,hx2⟩:=info_parts infoSn3
 obtain⟨G,hG⟩:∃ G,w.heap.size=G:=⟨_,rfl⟩
 have HLL:=Hd hL.len
 have HIN:=Hd hL
 have HG:=Hd hG
 have HBN:=Hd hbn
 have HLEN:=Hd hlen
 have HB0:=Hd (Below.refl G w)
 have hBG:B<=G:=by omega
 clear hL hG hbn hlen
 go_enter Tryz.func6,Tryz.ntmps6
 go_wp2
 go_loopw [3,4] (fun ov iv wr=>∃ (i:Nat) (Ao:Option Addr) (co:Nat) (gbs cbs:Nat->Nat),iv = .int .i64 (i:Int)/\i<=n/\ov = .slice Ao i co/\LenM wr G Ao co i gbs cbs L/\Below G w wr) (fun _ iv _=>n - (intOf iv).toNat)
 case atStart=>exact⟨0,none,0,fun _=>0,fun _=>0,rfl,Nat.zero_le _,rfl,⟨World.ownsRow_nil _ _ _ _,fun x hx=>by omega⟩,HB0.out⟩
 case round=>
  obtain⟨i,Ao,co,gbs,cbs,rfl,hi,rfl,hlm,hb⟩:=hrel
  have hGw:G<=wr.heap.size:=by have:=hb.size;have:=HG.out;omega
  by_cases hin:i<n
  ·have hin2:(i:Int)<(n:Int):=by omega
   have hi00:(0:Int)<=(i:Int):=by omega
   obtain⟨s,hs⟩:∃ s,L[i]?=some s:=⟨_,List.getElem?_eq_getElem (by rw[HLL.out];exact hin)⟩
   have hsd:L.getD i default=s:=by rw[List.getD_eq_getElem?_getD,hs];rfl
   have hsm:=List.mem_of_getElem? hs
   obtain⟨g',oo,Ab,cb,hA,hgB,hrg,hrows⟩:=HIN.out.at_ i s hs
   subst hA
   obtain⟨len,hlen⟩:∃ len,s.blocks.length=len:=⟨_,rfl⟩
   have hlen40:len<=1048576:=by rw[<-hlen];exact HBN.out s hsm
   rw[hlen] at hrg hrows
   obtain⟨C,hC⟩:∃ C,snC s (.slice Ab len cb)=C:=⟨_,rfl⟩
   have hCl:C.length=19:=by rw[<-hC];rfl
   have hCi:(Tryz.prog.info? tSeen).map (fun i=>i.size)=some C.length:=by rw[hCl];exact snC_size
   have hst:=seen_storeAt wr s (.slice Ab len cb) rfl
   rw[hC] at hst
   obtain⟨S,hS⟩:∃ S,wr.heap.size=S:=⟨_,rfl⟩
   obtain⟨wS,hwS⟩:∃ wS,wr.alloc (.cells C.toArray tSeen)=wS:=⟨_,rfl⟩
   rw[hwS] at hst
   have hGS:G<=S:=by omega
   have hbS:Below S wr wS:=by rw[<-hwS,<-hS];exact (Below.refl _ _).alloc (Nat.le_refl _) _
   have hsS:wS.heap.size=S+1:=by rw[<-hwS,<-hS];simp
   have hrS:wS.rangeAt S 0 C:=fun j u hu=>by
    have h:=new_cells wr C tSeen j u hu
    rw[Addr.add_mid,hwS,hS] at h
    exact h
   have hgS:g'<S:=by omega
   have hr0':wr.rangeAt g' (oo+i*19) C:=by rw[<-hC];exact range_below hrg (show g'<G by omega) hb
   have HRG:=Hd hr0'
   have HCI:=Hd hCi
   have HST:=Hd hst
   have HC:=Hd hC
   have HS:=Hd hS
   have HBS:=Hd hbS
   have HSS:=Hd hsS
   have HRS:=Hd hrS
   have HHS:=Hd (show wS.heap[S]?=some (.cells C.toArray tSeen (0,0)) by rw[<-hwS,<-hS];exact heap_alloc_last wr _)
   have HWB:=Hd hb
   have HLM:=Hd hlm
   have HSD:=Hd hsd
   have HLN:=Hd hlen
   have HROWS:=Hd (show RowsIn wS B Ab len s.blocks from (hrows.below (hb.mono hBG)).below (hbS.mono (by omega)))
   have HBLEN:=Hd (HLEN.out s hsm)
   have HBB:=Hd (Below.refl (S+1) wS)
   obtain⟨wq,rfl⟩:∃ wq,wq=wr:=⟨_,rfl⟩
   clear hb hlm hrg hrows hC hCl hCi hst hbS hsS hrS hr0' hs hsm hwS hsd hlen hS hGw
   go_wp2_with (first | (refine wpList_load_mid rfl tSeen (.tmp 17) rfl g' (oo+i*19) rfl C _ HRG.out Tryz.underlying72 rfl HCI.out ?_) | (refine wpList_store_by rfl tSeen (.tmp 5) (.tmp 18) rfl _ _ rfl rfl HST.out ?_))
   rw[HS.out]
   go_loopw [6,7] (fun bv kv wr=>∃ (k:Nat) (Ak:Option Addr) (ck:Nat) (gs cs:Nat->Nat),kv = .int .i64 (k:Int)/\k<=len/\bv = .slice Ak k ck/\wr.ownsRow (S+1) tRs 1 (.slice Ak k ck) k (fromV k fun x=>.slice (some ⟨gs x,0,none⟩) (s.blocks.getD x []).length (cs x))/\(∀ x,x<k->wr.ownsRow (S+1) Dr.tU8 1 (.slice (some ⟨gs x,0,none⟩) ((s.blocks.getD x []).length+3) (cs x)) ((s.blocks.getD x []).length+3) (cU8 (s.blocks.getD x []++[81,82,83])))/\Below (S+1) wS wr) (fun _ kv _=>len - (intOf kv).toNat)
   case atStart=>exact⟨0,none,0,fun _=>0,fun _=>0,rfl,Nat.zero_le _,rfl,World.ownsRow_nil _ _ _ _,(fun x hx=>by omega),HBB.out⟩
   case round=>
    obtain⟨k,Ak,ck,gs,cs,rfl,hk,rfl,hrow,heach,hb⟩:=hrel
    have hSw:S+1<=wr.heap.size:=by have:=hb.size;have:=HSS.out;omega
    have n17:wr.cell? ⟨S,17,none⟩=some (.slice Ab len cb):=by
     have h:=HRS.out
     rw[<-HC.out] at h
     exact (hb.cell (p:=⟨S,17,none⟩) (Nat.lt_succ_self S)).trans (h 17 _ rfl)
    have n17b:wr.cell? ⟨S,1+16,none⟩=some (.slice Ab len cb):=n17
    by_cases hkl:k<len
    ·have hkl2:(k:Int)<(len:Int):=by omega
     have hk00:(0:Int)<=(k:Int):=by omega
     obtain⟨r,hr⟩:∃ r,s.blocks[k]?=some r:=⟨_,List.getElem?_eq_getElem (by rw[HLN.out];exact hkl)⟩
     have hrd:s.blocks.getD k []=r:=by rw[List.getD_eq_getElem?_getD,hr];rfl
     obtain⟨ad,Ai,ci,hAb,had,hcell,hrdd,hnil⟩:=HROWS.out.at_ k r hr
     obtain⟨m,hm⟩:∃ m,r.length=m:=⟨_,rfl⟩
     have hm40:m<=1048576:=by rw[<-hm];exact HBLEN.out r (List.mem_of_getElem? hr)
     rw[hm] at hcell hrdd
     rw[hAb] at n17 n17b
     obtain⟨X,hX⟩:∃ X,wr.heap.size=X:=⟨_,rfl⟩
     obtain⟨w1,hw1⟩:∃ w1,wr.alloc (.cells #[] Dr.tU8)=w1:=⟨_,rfl⟩
     have hb1:Below X wr w1:=by rw[<-hw1,<-hX];exact (Below.refl _ _).alloc (Nat.le_refl _) _
     have hs1:w1.heap.size=X+1:=by rw[<-hw1,<-hX];simp
     have hown1:w1.ownsRow X Dr.tU8 1 (.slice (some ⟨X,0,none⟩) 0 0) 0 []:=by rw[<-hw1,<-hX];exact Dr.own_new wr (Nat.le_refl _) Dr.tU8 1 0 [] rfl (Nat.zero_le _)
     have hrd1:Rd w1 B 1 Ai m (cU8 r):=(hrdd.below (hb.mono (by omega))).below (hb1.mono (by omega))
     have hc1:wr.cell? (ad.add k)=some (.slice Ai m ci):=(hb.cell (by rw[add_block];omega)).trans hcell
     have hc2:(wr.alloc (.cells #[] Dr.tU8)).cell? (ad.add k)=some (.slice Ai m ci):=by rw[hw1];exact (hb1.cell (by rw[add_block];omega)).trans hc1
     have hSlt:S<wr.heap.size:=by omega
     have hadX:ad.block<X:=by omega
     have hX1:S+1<=X:=by omega
     have HX:=Hd hX
     have HW1:=Hd hw1
     have HB1:=Hd hb1
     have HS1:=Hd hs1
     have HOWN1:=Hd hown1
     have HRD1:=Hd hrd1
     have HNIL:=Hd hnil
     have HRR:=Hd hrd
     have HMM:=Hd hm
     have HROW:=Hd hrow
     have HEACH:=Hd heach
     have HBK:=Hd hb
     clear hrow heach hb hr hrd hcell hrdd hnil hm hX hw1 hb1 hs1 hown1 hrd1 hAb
     go_upto_region 11 with (at_builtin;rw[HW1.out,HX.out];go_loud (refine wpList_append_rd _ rfl (.tmp 27) (.tmp 33) 79 rfl X Dr.tU8 i0 (.int .u8 0) 1 1 Tryz.underlying79 hi0 hz0 hz1 hz2 rfl (by decide) (.slice (some ⟨X,0,none⟩) 0 0) 0 [] rfl HOWN1.out B Ai m ci (cU8 r) rfl HRD1.out HNIL.out (cU8_one r) (by unfold maxLen;omega) (by omega) (by rw[HS1.out];omega) ?_);intro v2 w2 hrow2 hg2;have HR2:=Hd hrow2;have HG2:=Hd hg2;clear hrow2 hg2)
     clear n17 n17b hc1 hc2
     have hrow2:=HR2.out
     obtain⟨A2,c2,rfl,_,hcm2⟩:=own_form hrow2
     rw[List.nil_append,Nat.zero_add] at hrow2
     rw[Nat.zero_add]
     have hb2:Below X wr w2:=HB1.out.grown HG2.out (by rw[HS1.out];omega) (fun j hj=>Dr.own_ge HOWN1.out hj)
     have hs2:X<=w2.heap.size:=by have:=hb2.size;have:=HX.out;omega
     have hlit3:=run_lit3 w2 81 82 83
     obtain⟨w2a,hw2a⟩:∃ w,w2.alloc (.cells #[.int .u8 81,.int .u8 82,.int .u8 83] Dr.tU8)=w:=⟨_,rfl⟩
     have HW2A:=Hd hw2a
     have HO2:=Hd (show w2a.ownsRow X Dr.tU8 1 (.slice A2 m c2) m (cU8 r) by rw[<-hw2a];exact Dr.own_alloc hrow2 _)
     have HRX2:=Hd (show Rd w2a w2a.heap.size 1 (some ⟨w2.heap.size,0,none⟩) 3 [.int .u8 81,.int .u8 82,.int .u8 83] by rw[<-hw2a];exact rd_new3 w2 _ _ _ _)
     have HB2a:=Hd (show Below X wr w2a by rw[<-hw2a];exact hb2.alloc hs2 _)
     have hs2a:X<=w2a.heap.size:=by have:=HB2a.out.size;have:=HX.out;omega
     clear hrow2 hb2 hs2 hw2a
     go_upto_region 12 with (at_builtin;rw[HW2A.out];go_loud (refine wpList_append_rd _ rfl (.tmp 35) (.tmp 36) 79 rfl X Dr.tU8 i0 (.int .u8 0) 1 1 Tryz.underlying79 hi0 hz0 hz1 hz2 rfl (by decide) (.slice A2 m c2) m (cU8 r) rfl HO2.out _ (some ⟨w2.heap.size,0,none⟩) 3 3 [.int .u8 81,.int .u8 82,.int .u8 83] rfl HRX2.out (fun h=>by cases h) (by simp[Value.oneCell']) (by unfold maxLen;omega) (by omega) hs2a ?_);intro v3 w3 hrow3 hg3;have HR3:=Hd hrow3;have HG3:=Hd hg3;clear hrow3 hg3)
     clear hlit3
     have hrow3:=HR3.out
     obtain⟨A3,c3,rfl,hmc3,_⟩:=own_form hrow3
     obtain⟨gk,rfl⟩:=Dr.own_some hrow3 (by omega)
     have hb3:Below X wr w3:=HB2a.out.grown HG3.out hs2a (fun j hj=>Dr.own_ge HO2.out hj)
     have hs3:X<=w3.heap.size:=by have:=hb3.size;have:=HX.out;omega
     have hcu:cU8 r++[.int .u8 81,.int .u8 82,.int .u8 83]=cU8 (r++[81,82,83]):=by simp
     rw[hcu] at hrow3
     have hsl:=slice_frontU w3 gk (n:=m+3) (c:=c3) (q:=m) (by omega)
     have hmw:=wr40 (m+3) (by omega)
     have hmw2:=wr40 m (by omega)
     have hlit1:=run_litV w3 67 tRs (.slice none 0 0) (.slice (some ⟨gk,0,none⟩) m c3) 24 Tryz.underlying67 infoRs rfl
     obtain⟨w3a,hw3a⟩:∃ w,w3.alloc (.cells #[.slice (some ⟨gk,0,none⟩) m c3] tRs)=w:=⟨_,rfl⟩
     have HW3A:=Hd hw3a
     have HB3a:=Hd (show Below X wr w3a by rw[<-hw3a];exact hb3.alloc hs3 _)
     have hbk:Below wr.heap.size wr w3a:=by rw[HX.out];exact HB3a.out
     have HO3:=Hd (own_below HROW.out hbk)
     have HRX3:=Hd (show Rd w3a w3a.heap.size 1 (some ⟨w3.heap.size,0,none⟩) 1 [.slice (some ⟨gk,0,none⟩) m c3] by rw[<-hw3a];exact rd_new w3 _ _)
     have HNEW:=Hd (show w3a.ownsRow (S+1) Dr.tU8 1 (.slice (some ⟨gk,0,none⟩) (m+3) c3) (m+3) (cU8 (r++[81,82,83])) by rw[<-hw3a];exact own_lower (Dr.own_alloc hrow3 _) hX1)
     have HOLD:=Hd (fun x (hx:x<k)=>own_below (HEACH.out x hx) hbk)
     have hs3a:S+1<=w3a.heap.size:=by have:=hbk.size;omega
     clear hrow3 hb3 hs3 hcu hw3a hbk
     go_wp2_with (at_builtin;rw[HW3A.out];go_loud (refine wpList_append_rd _ rfl (.tmp 38) (.tmp 44) 67 rfl (S+1) tRs r0 (.slice none 0 0) 1 24 Tryz.underlying67 hr0 hy0 hy1 hy2 rfl (by decide) (.slice Ak k ck) k _ rfl HO3.out _ (some ⟨w3.heap.size,0,none⟩) 1 1 [.slice (some ⟨gk,0,none⟩) m c3] rfl HRX3.out (fun h=>by cases h) (by simp[Value.oneCell']) (by unfold maxLen;omega) (by omega) hs3a ?_);intro v4 w4 hrow4 hg4;go_loud (have hb4:=((HBK.out.trans (HB3a.out.mono hX1))).grown hg4 hs3a (fun j hj=>Dr.own_ge HO3.out hj));have HR4:=Hd hrow4;have HNEW4:=Hd (HNEW.out.kept hg4 (.inr (rows_ne HNEW.out HO3.out (by decide) rfl)));have HOLD4:=Hd (fun x (hx:x<k)=>(HOLD.out x hx).kept hg4 (.inr (rows_ne (HOLD.out x hx) HO3.out (by decide) rfl)));have HB4:=Hd hb4;clear hrow4 hg4 hb4)
     have hrow4:=HR4.out
     obtain⟨A4,c4,rfl,_,_⟩:=own_form hrow4
     have HROW4:=Hd (show w4.ownsRow (S+1) tRs 1 (.slice A4 (k+1) c4) (k+1) (fromV (k+1) fun x=>.slice (some ⟨if x=k then gk else gs x,0,none⟩) (s.blocks.getD x []).length (if x=k then c3 else cs x)) by
      rw[fromV_succ,if_pos rfl,if_pos rfl,HRR.out,HMM.out]
      have e:(fromV k fun x=>Value.slice (some ⟨if x=k then gk else gs x,0,none⟩) (s.blocks.getD x []).length (if x=k then c3 else cs x))=fromV k fun x=>.slice (some ⟨gs x,0,none⟩) (s.blocks.getD x []).length (cs x):=fromV_congr fun x hx=>by rw[if_neg (by omega),if_neg (by omega)]
      rw[e]
      exact hrow4)
     have HEACH4:=Hd (show ∀ x,x<k+1->w4.ownsRow (S+1) Dr.tU8 1 (.slice (some ⟨if x=k then gk else gs x,0,none⟩) ((s.blocks.getD x []).length+3) (if x=k then c3 else cs x)) ((s.blocks.getD x []).length+3) (cU8 (s.blocks.getD x []++[81,82,83])) from fun x hx=>by
      by_cases e:x=k
      ·subst e
       rw[if_pos rfl,if_pos rfl,HRR.out,HMM.out]
       exact HNEW4.out
      ·rw[if_neg e,if_neg e]
       exact HOLD4.out x (by omega))
     clear hrow4 hsl hmw hmw2 hlit1
     go_roundw
     case rel=>exact⟨k+1,A4,c4,fun x=>if x=k then gk else gs x,fun x=>if x=k then c3 else cs x,by go_num,by omega,rfl,HROW4.out,HEACH4.out,HB4.out⟩
     case measure=>simp[intOf];omega
    ·obtain rfl:k=len:=by omega
     obtain⟨X,hX⟩:∃ X,wr.heap.size=X:=⟨_,rfl⟩
     have hSX:S+1<=X:=by omega
     obtain⟨w2,hw2⟩:∃ w2,(wr.alloc (.cells #[.int .u8 84] Dr.tU8)).alloc (.cells #[.slice (some ⟨X,0,none⟩) 1 1] tRs)=w2:=⟨_,rfl⟩
     have hb2:Below X wr w2:=by rw[<-hw2,<-hX];exact ((Below.refl _ _).alloc (Nat.le_refl _) _).alloc (by simp) _
     have hs2:w2.heap.size=X+2:=by rw[<-hw2,<-hX];simp
     have hbw:Below wr.heap.size wr w2:=by rw[hX];exact hb2
     have h84:w2.ownsRow (S+1) Dr.tU8 1 (.slice (some ⟨X,0,none⟩) 1 1) 1 (cU8 [84]):=by
      have h:=Dr.own_new wr (base:=S+1) (by omega) Dr.tU8 1 1 (cU8 [84]) rfl (by decide)
      rw[hX] at h
      rw[<-hw2]
      exact Dr.own_alloc h _
     have HX:=Hd hX
     have HW2:=Hd hw2
     have HB2:=Hd hb2
     have HS2:=Hd hs2
     have HO2:=Hd (own_below hrow hbw)
     have HEA2:=Hd (fun x (hx:x<k)=>own_below (heach x hx) hbw)
     have H84:=Hd h84
     have HRX2:=Hd (show Rd w2 w2.heap.size 1 (some ⟨X+1,0,none⟩) 1 [.slice (some ⟨X,0,none⟩) 1 1] by
      have h:=rd_new (wr.alloc (.cells #[.int .u8 84] Dr.tU8)) (.slice (some ⟨X,0,none⟩) 1 1) tRs
      rw[hw2,show (wr.alloc (.cells #[.int .u8 84] Dr.tU8)).heap.size=X+1 by simp[hX]] at h
      exact h)
     have HBK:=Hd hb
     have hs2a:S+1<=w2.heap.size:=by omega
     clear hrow heach hb hX hw2 hb2 hs2 hbw h84
     go_upto_region 14 with (at_builtin;rw[HX.out,HW2.out];go_loud (refine wpList_append_rd _ rfl (.tmp 46) (.tmp 48) 67 rfl (S+1) tRs r0 (.slice none 0 0) 1 24 Tryz.underlying67 hr0 hy0 hy1 hy2 rfl (by decide) (.slice Ak k ck) k _ rfl HO2.out _ (some ⟨X+1,0,none⟩) 1 1 [.slice (some ⟨X,0,none⟩) 1 1] rfl HRX2.out (fun h=>by cases h) (by simp[Value.oneCell']) (by unfold maxLen;omega) (by omega) hs2a ?_);intro v3 w3 hrow3 hg3;go_loud (have hb3:=((HBK.out.trans (HB2.out.mono hSX))).grown hg3 hs2a (fun j hj=>Dr.own_ge HO2.out hj));have HR3:=Hd hrow3;have HEA3:=Hd (fun x (hx:x<k)=>(HEA2.out x hx).kept hg3 (.inr (rows_ne (HEA2.out x hx) HO2.out (by decide) rfl)));have H843:=Hd (H84.out.kept hg3 (.inr (rows_ne H84.out HO2.out (by decide) rfl)));have HB3:=Hd hb3;clear hrow3 hg3 hb3)
     clear n17 n17b
     have hrow3:=HR3.out
     obtain⟨A3,c3,rfl,hkc3,_⟩:=own_form hrow3
     obtain⟨gb,rfl⟩:=Dr.own_some hrow3 (by omega)
     have HENT:=Hd (show EntM w3 (S+1) s.blocks gb c3 from⟨gs,cs,X,1,by rw[HLN.out];exact hrow3,by rw[HLN.out];exact HEA3.out,H843.out⟩)
     have hsl:=slice_frontR w3 gb (n:=k+1) (c:=c3) (q:=k) (by omega)
     have hhS:w3.heap[S]?=some (.cells C.toArray tSeen (0,0)):=(HB3.out.block S (Nat.lt_succ_self S)).trans HHS.out
     have n17:w3.cell? ⟨S,17,none⟩=some (.slice Ab k cb):=by
      have h:=HRS.out
      rw[<-HC.out] at h
      exact (HB3.out.cell (p:=⟨S,17,none⟩) (Nat.lt_succ_self S)).trans (h 17 _ rfl)
     have f17:w3.frozen? ⟨S,17,none⟩=false:=frozen_of_row _ _ _ _ _ hhS
     have n17b:w3.cell? ⟨S,1+16,none⟩=some (.slice Ab k cb):=n17
     have f17b:w3.frozen? ⟨S,1+16,none⟩=false:=f17
     obtain⟨C2,hC2⟩:∃ C2,snC s (.slice (some ⟨gb,0,none⟩) k c3)=C2:=⟨_,rfl⟩
     have hC2l:C2.length=19:=by rw[<-hC2];rfl
     have hC2i:(Tryz.prog.info? tSeen).map (fun i=>i.size)=some C2.length:=by rw[hC2l];exact snC_size
     obtain⟨w4,hw4⟩:∃ w4,w3.setCell ⟨S,17,none⟩ (.slice (some ⟨gb,0,none⟩) k c3)=w4:=⟨_,rfl⟩
     have hr4:w4.rangeAt S 0 C2:=fun j u hu=>by
      have h:=Ring.heap_same (i:=17) hhS (.slice (some ⟨gb,0,none⟩) k c3)
      rw[hw4] at h
      rw[Nat.zero_add,cell_of_row _ _ _ _ _ _ h,<-HC.out,snC_set,List.getElem?_toArray]
      rw[<-hC2] at hu
      exact hu
     have hbS4:Below S wq w4:=by
      have h:=(HBS.out.trans (HB3.out.mono (Nat.le_succ S))).setCell (p:=⟨S,17,none⟩) (Nat.le_refl S) (.slice (some ⟨gb,0,none⟩) k c3)
      rw[hw4] at h
      exact h
     have hs4:S<=w4.heap.size:=by have:=hbS4.size;have:=HS.out;omega
     obtain⟨w5,hw5⟩:∃ w5,w4.alloc (.cells C2.toArray tSeen)=w5:=⟨_,rfl⟩
     have hbS5:Below S wq w5:=by rw[<-hw5];exact hbS4.alloc hs4 _
     have hbq5:Below wq.heap.size wq w5:=by rw[HS.out];exact hbS5
     have HR4:=Hd hr4
     have HC2:=Hd hC2
     have HC2L:=Hd hC2l
     have HC2I:=Hd hC2i
     have HW4:=Hd hw4
     have HW5:=Hd hw5
     have HBS5:=Hd hbS5
     have HLM5:=Hd (HLM.out.below hbq5)
     have HENT5:=Hd (show EntM w5 (S+1) s.blocks gb c3 by
      have h:=HENT.out.setCell (p:=⟨S,17,none⟩) (Nat.lt_succ_self S) (.slice (some ⟨gb,0,none⟩) k c3)
      rw[hw4] at h
      rw[<-hw5]
      exact h.below ((Below.refl _ _).alloc (Nat.le_refl _) _))
     have HRX5:=Hd (show Rd w5 w5.heap.size 19 (some ⟨w4.heap.size,0,none⟩) 1 C2 by rw[<-hw5];exact rd_newS w4 19 C2 hC2l tSeen)
     have hs5:G<=w5.heap.size:=by have:=hbS5.size;have:=HS.out;omega
     have hone:=Hd (show ∀ u∈C2,u.oneCell'=true from by rw[<-hC2];exact snC_one s _ rfl)
     have hkw:=wr40 (k+1) (by omega)
     clear hrow3 hhS hC2 hC2l hC2i hw4 hr4 hbS4 hw5 hbS5 hbq5
     go_upto_region 15 with (fail)
     rw[HW4.out]
     clear n17 f17 n17b f17b hsl hkw
     go_wp2_with (first | (refine wpList_load_mid rfl tSeen (.tmp 5) rfl S 0 rfl C2 _ HR4.out Tryz.underlying72 rfl HC2I.out ?_) | (refine wpList_litS rfl (.tmp 58) 33 tSeen _ 19 120 rfl Tryz.underlying33 infoSn3 (by decide) (by decide) C2 HC2L.out rfl ?_;rw[HW5.out]) | (at_builtin;go_loud (refine wpList_append_rd _ rfl (.tmp 57) (.tmp 59) 33 rfl G tSeen s0 _ 19 120 Tryz.underlying33 hs0 hx0 hx1 hx2 rfl (by decide) (.slice Ao i co) i _ rfl HLM5.out.row _ (some ⟨w4.heap.size,0,none⟩) 1 1 C2 rfl HRX5.out (fun h=>by cases h) hone.out (by unfold maxLen;omega) (by omega) hs5 ?_);intro v6 w6 hrow6 hg6;go_loud (have hb6:=(HWB.out.trans (HBS5.out.mono hGS)).grown hg6 hs5 (fun j hj=>Dr.own_ge HLM5.out.row hj));have HR6:=Hd hrow6;have HOE6:=Hd (fun x (hx:x<i)=>(HLM5.out.each x hx).grown HLM5.out.row hg6);have HNE6:=Hd (HENT5.out.grown HLM5.out.row hg6);have HB6:=Hd hb6;clear hrow6 hg6 hb6))
     have hrow6:=HR6.out
     obtain⟨A6,c6,rfl,_,_⟩:=own_form hrow6
     have HLM6:=Hd (show LenM w6 G A6 c6 (i+1) (fun x=>if x=i then gb else gbs x) (fun x=>if x=i then c3 else cbs x) L from⟨by
       rw[flat_succ,if_pos rfl,if_pos rfl,HSD.out,HLN.out,HC2.out]
       have e:((List.range i).flatMap fun x=>snC (L.getD x default) (.slice (some ⟨if x=i then gb else gbs x,0,none⟩) (L.getD x default).blocks.length (if x=i then c3 else cbs x)))=(List.range i).flatMap fun x=>snC (L.getD x default) (.slice (some ⟨gbs x,0,none⟩) (L.getD x default).blocks.length (cbs x)):=flatMap_congr_range fun x hx=>by rw[if_neg (by omega),if_neg (by omega)]
       rw[e]
       exact hrow6,fun x hx=>by
       by_cases e:x=i
       ·subst e
        rw[if_pos rfl,if_pos rfl,HSD.out]
        exact HNE6.out.lower (by omega)
       ·rw[if_neg e,if_neg e]
        exact HOE6.out x (by omega)⟩)
     clear hrow6
     go_roundw
     case rel=>exact⟨i+1,A6,c6,_,_,by go_num,by omega,rfl,HLM6.out,HB6.out⟩
     case measure=>simp[intOf];omega
  ·obtain rfl:i=n:=by omega
   obtain⟨w2,hw2⟩:∃ w2,wr.alloc (.cells (List.toArray ([.int .i64 77,.int .u8 0,.int .u8 0,.int .u8 0,.int .u8 0,.int .u8 0,.int .u8 0,.int .u8 0,.int .u8 0,.int .i64 0,.int .i64 0,.int .i64 0,.string ⟨#[]⟩,.int .i64 0,.int .i64 0,.int .i64 0,.int .i64 0,.slice none 0 0,.int .i64 0]++[.int .i64 78,.int .u8 0,.int .u8 0,.int .u8 0,.int .u8 0,.int .u8 0,.int .u8 0,.int .u8 0,.int .u8 0,.int .i64 0,.int .i64 0,.int .i64 0,.string ⟨#[]⟩,.int .i64 0,.int .i64 0,.int .i64 0,.int .i64 0,.slice none 0 0,.int .i64 0])) tSeen)=w2:=⟨_,rfl⟩
   have hb2:Below wr.heap.size wr w2:=by rw[<-hw2];exact (Below.refl _ _).alloc (Nat.le_refl _) _
   have HW2:=Hd hw2
   have HLM2:=Hd (hlm.below hb2)
   have HB2:=Hd (hb.trans (hb2.mono hGw))
   have hs2:G<=w2.heap.size:=by have:=hb2.size;omega
   have HRX2:=Hd (show Rd w2 w2.heap.size 19 (some ⟨wr.heap.size,0,none⟩) 2 ([.int .i64 77,.int .u8 0,.int .u8 0,.int .u8 0,.int .u8 0,.int .u8 0,.int .u8 0,.int .u8 0,.int .u8 0,.int .i64 0,.int .i64 0,.int .i64 0,.string ⟨#[]⟩,.int .i64 0,.int .i64 0,.int .i64 0,.int .i64 0,.slice none 0 0,.int .i64 0]++[.int .i64 78,.int .u8 0,.int .u8 0,.int .u8 0,.int .u8 0,.int .u8 0,.int .u8 0,.int .u8 0,.int .u8 0,.int .i64 0,.int .i64 0,.int .i64 0,.string ⟨#[]⟩,.int .i64 0,.int .i64 0,.int .i64 0,.int .i64 0,.slice none 0 0,.int .i64 0]) by
    rw[<-hw2]
    exact⟨rfl,fun _=>⟨_,rfl,by simp,new_cells wr ([.int .i64 77,.int .u8 0,.int .u8 0,.int .u8 0,.int .u8 0,.int .u8 0,.int .u8 0,.int .u8 0,.int .u8 0,.int .i64 0,.int .i64 0,.int .i64 0,.string ⟨#[]⟩,.int .i64 0,.int .i64 0,.int .i64 0,.int .i64 0,.slice none 0 0,.int .i64 0]++[.int .i64 78,.int .u8 0,.int .u8 0,.int .u8 0,.int .u8 0,.int .u8 0,.int .u8 0,.int .u8 0,.int .u8 0,.int .i64 0,.int .i64 0,.int .i64 0,.string ⟨#[]⟩,.int .i64 0,.int .i64 0,.int .i64 0,.int .i64 0,.slice none 0 0,.int .i64 0]) tSeen⟩⟩)
   clear hlm hb hw2 hb2
   go_upto_region 17 with (first | (refine wpList_buildSlice rfl 33 tSeen 2 _ rfl (List.toArray ([.int .i64 77,.int .u8 0,.int .u8 0,.int .u8 0,.int .u8 0,.int .u8 0,.int .u8 0,.int .u8 0,.int .u8 0,.int .i64 0,.int .i64 0,.int .i64 0,.string ⟨#[]⟩,.int .i64 0,.int .i64 0,.int .i64 0,.int .i64 0,.slice none 0 0,.int .i64 0]++[.int .i64 78,.int .u8 0,.int .u8 0,.int .u8 0,.int .u8 0,.int .u8 0,.int .u8 0,.int .u8 0,.int .u8 0,.int .i64 0,.int .i64 0,.int .i64 0,.string ⟨#[]⟩,.int .i64 0,.int .i64 0,.int .i64 0,.int .i64 0,.slice none 0 0,.int .i64 0])) s0 _ Tryz.underlying33 hs0 hx0 (by rw[hx1];decide) (by rw[hx1];decide) (by rw[hx1];kernel_rfl) ?_;rw[HW2.out]) | (at_builtin;go_loud (refine wpList_append_rd _ rfl (.tmp 61) (.tmp 64) 33 rfl G tSeen s0 _ 19 120 Tryz.underlying33 hs0 hx0 hx1 hx2 rfl (by decide) (.slice Ao i co) i _ rfl HLM2.out.row _ (some ⟨wr.heap.size,0,none⟩) 2 2 ([.int .i64 77,.int .u8 0,.int .u8 0,.int .u8 0,.int .u8 0,.int .u8 0,.int .u8 0,.int .u8 0,.int .u8 0,.int .i64 0,.int .i64 0,.int .i64 0,.string ⟨#[]⟩,.int .i64 0,.int .i64 0,.int .i64 0,.int .i64 0,.slice none 0 0,.int .i64 0]++[.int .i64 78,.int .u8 0,.int .u8 0,.int .u8 0,.int .u8 0,.int .u8 0,.int .u8 0,.int .u8 0,.int .u8 0,.int .i64 0,.int .i64 0,.int .i64 0,.string ⟨#[]⟩,.int .i64 0,.int .i64 0,.int .i64 0,.int .i64 0,.slice none 0 0,.int .i64 0]) rfl HRX2.out (fun h=>by cases h) (by simp[Value.oneCell']) (by unfold maxLen;omega) (by omega) hs2 ?_);intro v6 w6 hrow6 hg6;go_loud (have hb6:=HB2.out.grown hg6 hs2 (fun j hj=>Dr.own_ge HLM2.out.row hj));have HR6:=Hd hrow6;have HOE6:=Hd (fun x (hx:x<i)=>(HLM2.out.each x hx).grown HLM2.out.row hg6);have HB6:=Hd hb6;clear hrow6 hg6 hb6))
   have hrow6:=HR6.out
   obtain⟨A6,c6,rfl,hc6,_⟩:=own_form hrow6
   obtain⟨g6,rfl⟩:=Dr.own_some hrow6 (by omega)
   have hsl:=slice_frontS w6 g6 (n:=i+2) (c:=c6) (q:=i) (by omega)
   have HROW6:=Hd hrow6
   have HC6:=Hd hc6
   clear hrow6 hc6
   go_wp2
   go_ret
   exact⟨⟨g6,c6,gbs,cbs,rfl,HC6.out,by rw[HG.out];exact HROW6.out,by rw[HG.out];exact HOE6.out⟩,by rw[HG.out];exact HB6.out⟩
end Go.Proofs.YtmgljaecmchgaaaGreat.Gf
