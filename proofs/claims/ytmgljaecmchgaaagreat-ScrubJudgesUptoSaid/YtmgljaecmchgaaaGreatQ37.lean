/- XDo1: merged by tools/merge.py. -/
import Derived.Test.YtmgljaecmchgaaaGreatQ36
set_option linter.unusedVariables false
set_option linter.unusedSimpArgs false
set_option linter.unusedSectionVars false
namespace Go.Proofs.YtmgljaecmchgaaaGreat.Gf
open Go.RowKit Go.Proofs
abbrev tBoth:TypeId:=40
abbrev tAct:TypeId:=105
theorem wp_store_by {P:Program} {op:Oper} {a:Act} {w w':World} {K:Act->World->Prop} {Q:Exit->Act->World->Prop} (ty:TypeId) (x y:Operand) (ho:op.op = .store ty x y)
  (p v:Value) (hx:a.eval x=p) (hy:a.eval y=v) (hr:(Instr.storeAt ty p v).run P w = .ok () w') (h:K (a.put op.dst undef) w'):op.wp P a w K Q:=by
 unfold Oper.wp execOp
 simp only[ho,hx,hy,Sem.run_bind,hr,Result.andThen_ok]
 exact h
theorem gate_store {W:World} {q r:Nat} {g g':Gt} {pv pv':Value} (h:W.heap[q]?=some (.cells (.pointer (some ⟨r,0,none⟩)::gtC g pv).toArray tDisk (0,0))) (hp:pv'.oneCell'=true) :
  ∃ W',(Instr.storeAt tGate (.pointer (some ⟨q,1,none⟩)) (.agg (gtC g' pv').toArray)).run Tryz.prog W = .ok () W'/\W'.heap[q]?=some (.cells (.pointer (some ⟨r,0,none⟩)::gtC g' pv').toArray tDisk (0,0))/\W.grownBy W' (some q):=by
 have h1:∀ v∈gtC g' pv',v.oneCell'=true:=by
  intro u hu
  simp[gtC] at hu
  rcases hu with h | h | h | h | h | h | h | h | h<;>subst h<;>first | rfl | exact hp
 have hst:=run_storeCells_at Tryz.prog q 1 tDisk (gtC g' pv') 0 _ W h (by simp[gtC]) h1
 have hi:(Tryz.prog.info? tGate).map (fun i=>i.size)=some 9:=by kernel_rfl
 refine⟨W.setRow q (.pointer (some ⟨r,0,none⟩)::gtC g' pv').toArray,?_,setRow_heap W q _ _ _ _ h,⟨rfl,rfl,rfl,by simp[World.setRow],fun k _ hk=>setRow_other W q k _ (fun e=>hk (by rw[e]))⟩⟩
 simp only[Instr.storeAt,Instr.sureAddr,Sem.run_bind,Sem.run_pure,Result.andThen_ok]
 cases hq:Tryz.prog.info? tGate with
 | none=>rw[hq] at hi;cases hi
 | some i=>
  have hs:i.size=9:=by rw[hq] at hi;simpa using hi
  have hsz:(gtC g' pv').toArray.size=i.size:=by rw[hs];rfl
  have hst2:(storeCells ⟨q,1,none⟩ (gtC g' pv') 0).run Tryz.prog W = .ok () (W.setRow q (.pointer (some ⟨r,0,none⟩)::gtC g' pv').toArray):=hst
  unfold storeVar
  simp only[Value.cells,sizeOf,typeInfo,hq,Sem.run_bind]
  simp[hsz,hq,hst2,hs]
theorem own_grown1 {W W':World} {b n:Nat} {v:Value} {xs:List Value} {q:Nat} {cs:Array Value} (h:W.ownsRow b tFault 2 v n xs) (hg:W.grownBy W' (some q)) (hq:W.heap[q]?=some (.cells cs tDisk (0,0))):W'.ownsRow b tFault 2 v n xs:=
 h.kept hg (.inr fun hv=>by
  obtain⟨c,k⟩:=Dr.own_lt h hv
  rw[hq] at k
  injection k with k
  injection k with _ k
  exact absurd k (by decide))
theorem wd_grown {W W':World} {p d q:Nat} {g:Gt} {cs:Array Value} (h:WdAt W p d g) (hg:W.grownBy W' (some q)) (hq:W.heap[q]?=some (.cells cs tDisk (0,0))):WdAt W' p d g:=by
 obtain⟨Ap,np,cp,fz,h1,h2,h3⟩:=h.own
 have hne:∀ {k:Nat} {cs':Array Value} {t:TypeId},W.heap[k]?=some (.cells cs' t (0,0))->t≠tDisk->some k≠some q:=fun {k cs' t} hk ht e=>by
  injection e with e
  rw[e,hq] at hk
  injection hk with hk
  injection hk with _ hk
  exact ht hk.symm
 refine⟨Ap,np,cp,fz,(hg.block p (Array.getElem?_eq_some_iff.1 h1).1 (hne h1 (by decide))).trans h1,own_grown1 h2 hg hq,?_⟩
 rcases h3 with ⟨a,f,b,c⟩ | h3
 ·exact .inl ⟨a,f,b,(hg.block f (Array.getElem?_eq_some_iff.1 c).1 (hne c (by decide))).trans c⟩
 ·exact .inr h3
theorem own_kept1 {W W':World} {b n p d:Nat} {g:Gt} {v:Value} {xs:List Value} (h:W.ownsRow b tFault 2 v n xs) (hp:WdAt W p d g) (hk:Kept W W' (fun k=>k=p)):W'.ownsRow b tFault 2 v n xs:=by
 obtain⟨_,_,_,_,h1,_⟩:=hp.own
 exact Dr.own_same h fun k hv=>hk.block k (by obtain⟨c,hc⟩:=Dr.own_lt h hv;exact (Array.getElem?_eq_some_iff.1 hc).1) (fun e=>by
  obtain⟨c,hc⟩:=Dr.own_lt h hv
  rw[e,h1] at hc
  injection hc with hc
  injection hc with _ hc
  exact absurd hc (by decide))
set_option maxRecDepth 100000 in
set_option maxHeartbeats 16000000 in
theorem do_off {w:World} {i n nd cd cw nm cm gw gm p q d r:Nat} {Ad:Option Addr} {g:Gt}  (hin:i<n) (hn:n<=1048576) (hnm:i<nm) (hgw:gw<w.heap.size) (hgm:gm<w.heap.size)
  (hcw:w.cell? ⟨gw,i,none⟩=some (.pointer (some ⟨p,0,none⟩))) (hcm:w.cell? ⟨gm,i,none⟩=some (.pointer (some ⟨q,0,none⟩))) (hWd:WdAt w p d g) (hDk:DkAt w q r g) :
  Calls Tryz.prog 28 #[.agg #[.slice Ad nd cd,.slice (some ⟨gw,0,none⟩) n cw,.slice (some ⟨gm,0,none⟩) nm cm],.agg #[.int .i64 2,.int .i64 (i:Int),.int .i64 0,.int .i64 0,.slice none 0 0,.slice none 0 0,.int .i64 0,.int .i64 0,.int .i64 0,.slice none 0 0]] w fun x w'=>x = .returned (.tuple #[])/\WdAt w' p d (g.offl true)/\DkAt w' q r (g.offl true)/\Kept w w' (fun b=>b=p\/b=q):=by
 obtain⟨i0,hi0,hz0,hz1,hz2⟩:=info_parts infoFt
 obtain⟨G,hG⟩:∃ G,w.heap.size=G:=⟨_,rfl⟩
 obtain⟨w0,hw0⟩:∃ w0,(w.alloc (.cells #[.slice Ad nd cd,.slice (some ⟨gw,0,none⟩) n cw,.slice (some ⟨gm,0,none⟩) nm cm] tBoth)).alloc (.cells #[.int .i64 2,.int .i64 (i:Int),.int .i64 0,.int .i64 0,.slice none 0 0,.slice none 0 0,.int .i64 0,.int .i64 0,.int .i64 0,.slice none 0 0] tAct)=w0:=⟨_,rfl⟩
 have hb0:Below w.heap.size w w0:=by rw[<-hw0];exact ((Below.refl _ _).alloc (Nat.le_refl _) _).alloc (by simp) _
 have hs0:w0.heap.size=G+2:=by rw[<-hw0,<-hG];simp
 have hB0:w0.heap[G]?=some (.cells #[.slice Ad nd cd,.slice (some ⟨gw,0,none⟩) n cw,.slice (some ⟨gm,0,none⟩) nm cm] tBoth (0,0)):=by
  rw[<-hw0,Below.heap_alloc _ _ _ (by simp;omega),<-hG]
  exact heap_alloc_last w _
 have hA0:w0.heap[G+1]?=some (.cells #[.int .i64 2,.int .i64 (i:Int),.int .i64 0,.int .i64 0,.slice none 0 0,.slice none 0 0,.int .i64 0,.int .i64 0,.int .i64 0,.slice none 0 0] tAct (0,0)):=by
  have h:=heap_alloc_last (w.alloc (.cells #[.slice Ad nd cd,.slice (some ⟨gw,0,none⟩) n cw,.slice (some ⟨gm,0,none⟩) nm cm] tBoth)) (.cells #[.int .i64 2,.int .i64 (i:Int),.int .i64 0,.int .i64 0,.slice none 0 0,.slice none 0 0,.int .i64 0,.int .i64 0,.int .i64 0,.slice none 0 0] tAct)
  rw[hw0,show (w.alloc (.cells #[.slice Ad nd cd,.slice (some ⟨gw,0,none⟩) n cw,.slice (some ⟨gm,0,none⟩) nm cm] tBoth)).heap.size=G+1 by simp[hG]] at h
  exact h
 have b1:w0.cell? ⟨G,1,none⟩=some (.slice (some ⟨gw,0,none⟩) n cw):=by rw[cell_of_row _ _ _ _ _ _ hB0];rfl
 have b2:w0.cell? ⟨G,2,none⟩=some (.slice (some ⟨gm,0,none⟩) nm cm):=by rw[cell_of_row _ _ _ _ _ _ hB0];rfl
 have a0:w0.cell? ⟨G+1,0,none⟩=some (.int .i64 2):=by rw[cell_of_row _ _ _ _ _ _ hA0];rfl
 have a1:w0.cell? ⟨G+1,1,none⟩=some (.int .i64 (i:Int)):=by rw[cell_of_row _ _ _ _ _ _ hA0];rfl
 have kw:w0.cell? ⟨gw,i,none⟩=some (.pointer (some ⟨p,0,none⟩)):=(hb0.cell (p:=⟨gw,i,none⟩) hgw).trans hcw
 have km:w0.cell? ⟨gm,i,none⟩=some (.pointer (some ⟨q,0,none⟩)):=(hb0.cell (p:=⟨gm,i,none⟩) hgm).trans hcm
 have hi00:(0:Int)<=(i:Int):=by omega
 have hin2:(i:Int)<(n:Int):=by omega
 have hnm2:(i:Int)<(nm:Int):=by omega
 have hpG:p<G:=by have:=hWd.lt;omega
 have hqG:q<G:=by have:=hDk.lt;omega
 have HWD:=Hd (hWd.below hb0)
 have HDK:=Hd (hDk.below hb0)
 have HG:=Hd hG
 have HW0:=Hd hw0
 have HB0:=Hd hb0
 have HS0:=Hd hs0
 have HA0:=Hd hA0
 clear hG hw0 hb0 hs0 hB0 hA0 hcw hcm hWd hDk
 go_enter Tryz.func28,Tryz.ntmps28
 go_upto_region 1 with (fail)
 rw[HW0.out,HG.out]
 go_upto_region 17 with (first | (go_at_call 59;refine (pick_at _ i n hin (by omega)).mono ?_;rintro x w1 ⟨rfl,rfl⟩) | (go_at_call 62;refine (woff_any HWD.out true).mono ?_;rintro x w1 ⟨rfl,h1,h2⟩;have HW1:=Hd h1;have HK1:=Hd h2;clear h1 h2))
 clear b1 b2 a0 a1 kw km
 obtain⟨Aq,nq,cq,hq0,hq1⟩:=HDK.out.own
 have hpq:q≠p:=fun e=>by
  obtain⟨_,_,_,_,h,_⟩:=HWD.out.own
  rw[<-e,hq0] at h
  injection h with h
  injection h with _ h
  exact absurd h (by decide)
 have hk1:=HK1.out
 have hq1h:w1.heap[q]?=some (.cells (.pointer (some ⟨r,0,none⟩)::gtC g (.slice Aq nq cq)).toArray tDisk (0,0)):=(hk1.block q (by rw[HS0.out];omega) hpq).trans hq0
 have hq1r:w1.ownsRow 0 tFault 2 (.slice Aq nq cq) nq (cFt g.plan):=own_kept1 hq1 HWD.out hk1
 have ha1:w1.heap[G+1]?=some (.cells #[.int .i64 2,.int .i64 (i:Int),.int .i64 0,.int .i64 0,.slice none 0 0,.slice none 0 0,.int .i64 0,.int .i64 0,.int .i64 0,.slice none 0 0] tAct (0,0)):=(hk1.block (G+1) (by rw[HS0.out];omega) (by omega)).trans HA0.out
 obtain⟨C,hC⟩:∃ C,gtC g (.slice Aq nq cq)=C:=⟨_,rfl⟩
 have hrq:w1.rangeAt q 1 C:=fun j u hu=>by
  rw[cell_of_row _ _ _ _ _ _ hq1h,hC,List.getElem?_toArray,Nat.add_comm 1 j,List.getElem?_cons_succ]
  exact hu
 have HSX:=Hd (show w1.rangeAt q 1 C/\(∀ j,w1.cell? ⟨G+1,j,none⟩=(#[.int .i64 2,.int .i64 (i:Int),.int .i64 0,.int .i64 0,.slice none 0 0,.slice none 0 0,.int .i64 0,.int .i64 0,.int .i64 0,.slice none 0 0]:Array Value)[j]?) from⟨hrq,fun j=>cell_of_row _ _ _ _ _ _ ha1⟩)
 have HCI:=Hd (show (Tryz.prog.info? tGate).map (fun i=>i.size)=some C.length by rw[<-hC];kernel_rfl)
 have HC:=Hd hC
 have HQ1:=Hd hq1h
 have HR1:=Hd hq1r
 have hs1:G+2<=w1.heap.size:=by have:=hk1.size;rw[HS0.out] at this;exact this
 clear hk1 hq0 hq1 hq1h hq1r ha1 hC hrq
 refine wp_region_any (by kernel_rfl) ?_
 change wpAny _ _ _ _ _ _ _ (World.drew _)
 refine wpAny_of_P (S:=fun wx=>wx.rangeAt q 1 C/\(∀ j,wx.cell? ⟨G+1,j,none⟩=(#[.int .i64 2,.int .i64 (i:Int),.int .i64 0,.int .i64 0,.slice none 0 0,.slice none 0 0,.int .i64 0,.int .i64 0,.int .i64 0,.slice none 0 0]:Array Value)[j]?)) (late:=[8]) _ _ _ _ ?_
 refine tT 0 HSX.out ?_
 try go_frame
 refine tT 1 HSX.out ?_
 try go_frame
 refine tT 2 HSX.out ?_
 try go_frame
 refine tT 3 HSX.out ?_
 try go_frame
 refine tP 8 4 rfl HSX.out (fun w hw=>by obtain⟨k1,_⟩:=hw;refine Eq.trans (exec_load_mid tGate (.tmp 88) (by rfl) q 1 (by rfl) C _ k1 Tryz.underlying118 rfl HCI.out) ?_;with_reducible rfl) ?_
 try go_frame
 refine tT 5 HSX.out ?_
 try go_frame
 refine tP 8 6 rfl HSX.out (fun w hw=>by obtain⟨_,k2⟩:=hw;have k20:w.cell? ⟨G+1,0,none⟩=some (.int .i64 2):=k2 0;go_simp;try with_reducible rfl) ?_
 try go_frame
 refine tT 7 HSX.out ?_
 try go_frame
 refine lP 8 fun K hK=>?_
 go_simp
 have hg:=goff_any (World.drew w1) g Aq nq cq true
 rw[HC.out] at hg
 refine hg.mono ?_;clear hg;rintro x w2 ⟨rfl,hb2⟩;have HB2:=Hd (show Below w1.heap.size w1 w2 from⟨hb2.os,hb2.tape,hb2.output,hb2.size,hb2.block⟩);clear hb2
 refine hK _ _ ?_;clear hK K
 try go_frame
 refine tL 9 ?_
 try go_frame
 refine tL 10 ?_
 try go_frame
 refine fL 11 fun K hK=>?_
 obtain⟨w3,hst3,hh3,hg3⟩:=gate_store (g':=g.offl true) (pv':=.slice Aq nq cq) ((HB2.out.block q (by omega)).trans HQ1.out) rfl
 refine wp_store_by tGate (.tmp 95) (.tmp 93) (by rfl) _ _ (by rfl) (by rfl) hst3 ?_
 go_simp
 refine hK _ _ ?_;clear hK K
 try go_frame
 refine wpAny_done (by kernel_rfl) ?_ _
 have HKF:=Hd (show Kept w w3 (fun b=>b=p\/b=q) from (((Kept.of_below _ HB0.out).trans (kept_mono HK1.out (T:=fun b=>b=p\/b=q) (fun b h=>.inl h)) (fun b h=>.inl h)).below HB2.out).grown hg3 (fun b e=>by cases e;exact .inl (.inr rfl)))
 have HWF:=Hd (show WdAt w3 p d (g.offl true) from wd_grown (HW1.out.below HB2.out) hg3 ((HB2.out.block q (by omega)).trans HQ1.out))
 have HDF:=Hd (show DkAt w3 q r (g.offl true) from⟨Aq,nq,cq,hh3,own_grown1 (own_below HR1.out HB2.out) hg3 ((HB2.out.block q (by omega)).trans HQ1.out)⟩)
 go_wp2
 try rw[Exit.noGoto_ret]
 refine bodyPost_end (v:=.tuple #[]) (by simp[results,Tryz.results28,go_sem]) rfl ?_
 exact⟨rfl,HWF.out,HDF.out,HKF.out⟩
set_option maxRecDepth 100000 in
set_option maxHeartbeats 16000000 in
theorem do_fuse {w:World} {i n nd cd cw nm cm gw gm p q d r:Nat} {Ad:Option Addr} {g:Gt} {fr fc fi:Int} (hin:i<n) (hn:n<=1048576) (hnm:i<nm) (hgw:gw<w.heap.size) (hgm:gm<w.heap.size)
  (hcw:w.cell? ⟨gw,i,none⟩=some (.pointer (some ⟨p,0,none⟩))) (hcm:w.cell? ⟨gm,i,none⟩=some (.pointer (some ⟨q,0,none⟩))) (hWd:WdAt w p d g) (hDk:DkAt w q r g) :
  Calls Tryz.prog 28 #[.agg #[.slice Ad nd cd,.slice (some ⟨gw,0,none⟩) n cw,.slice (some ⟨gm,0,none⟩) nm cm],.agg #[.int .i64 4,.int .i64 (i:Int),.int .i64 0,.int .i64 0,.slice none 0 0,.slice none 0 0,.int .i64 fr,.int .i64 fc,.int .i64 fi,.slice none 0 0]] w fun x w'=>x = .returned (.tuple #[])/\WdAt w' p d (g.fuse fr fc fi)/\DkAt w' q r (g.fuse fr fc fi)/\Kept w w' (fun b=>b=p\/b=q):=by
 obtain⟨i0,hi0,hz0,hz1,hz2⟩:=info_parts infoFt
 obtain⟨G,hG⟩:∃ G,w.heap.size=G:=⟨_,rfl⟩
 obtain⟨w0,hw0⟩:∃ w0,(w.alloc (.cells #[.slice Ad nd cd,.slice (some ⟨gw,0,none⟩) n cw,.slice (some ⟨gm,0,none⟩) nm cm] tBoth)).alloc (.cells #[.int .i64 4,.int .i64 (i:Int),.int .i64 0,.int .i64 0,.slice none 0 0,.slice none 0 0,.int .i64 fr,.int .i64 fc,.int .i64 fi,.slice none 0 0] tAct)=w0:=⟨_,rfl⟩
 have hb0:Below w.heap.size w w0:=by rw[<-hw0];exact ((Below.refl _ _).alloc (Nat.le_refl _) _).alloc (by simp) _
 have hs0:w0.heap.size=G+2:=by rw[<-hw0,<-hG];simp
 have hB0:w0.heap[G]?=some (.cells #[.slice Ad nd cd,.slice (some ⟨gw,0,none⟩) n cw,.slice (some ⟨gm,0,none⟩) nm cm] tBoth (0,0)):=by
  rw[<-hw0,Below.heap_alloc _ _ _ (by simp;omega),<-hG]
  exact heap_alloc_last w _
 have hA0:w0.heap[G+1]?=some (.cells #[.int .i64 4,.int .i64 (i:Int),.int .i64 0,.int .i64 0,.slice none 0 0,.slice none 0 0,.int .i64 fr,.int .i64 fc,.int .i64 fi,.slice none 0 0] tAct (0,0)):=by
  have h:=heap_alloc_last (w.alloc (.cells #[.slice Ad nd cd,.slice (some ⟨gw,0,none⟩) n cw,.slice (some ⟨gm,0,none⟩) nm cm] tBoth)) (.cells #[.int .i64 4,.int .i64 (i:Int),.int .i64 0,.int .i64 0,.slice none 0 0,.slice none 0 0,.int .i64 fr,.int .i64 fc,.int .i64 fi,.slice none 0 0] tAct)
  rw[hw0,show (w.alloc (.cells #[.slice Ad nd cd,.slice (some ⟨gw,0,none⟩) n cw,.slice (some ⟨gm,0,none⟩) nm cm] tBoth)).heap.size=G+1 by simp[hG]] at h
  exact h
 have b1:w0.cell? ⟨G,1,none⟩=some (.slice (some ⟨gw,0,none⟩) n cw):=by rw[cell_of_row _ _ _ _ _ _ hB0];rfl
 have b2:w0.cell? ⟨G,2,none⟩=some (.slice (some ⟨gm,0,none⟩) nm cm):=by rw[cell_of_row _ _ _ _ _ _ hB0];rfl
 have a0:w0.cell? ⟨G+1,0,none⟩=some (.int .i64 4):=by rw[cell_of_row _ _ _ _ _ _ hA0];rfl
 have a1:w0.cell? ⟨G+1,1,none⟩=some (.int .i64 (i:Int)):=by rw[cell_of_row _ _ _ _ _ _ hA0];rfl
 have a6:w0.cell? ⟨G+1,6,none⟩=some (.int .i64 fr):=by rw[cell_of_row _ _ _ _ _ _ hA0];rfl
 have a7:w0.cell? ⟨G+1,7,none⟩=some (.int .i64 fc):=by rw[cell_of_row _ _ _ _ _ _ hA0];rfl
 have a8:w0.cell? ⟨G+1,8,none⟩=some (.int .i64 fi):=by rw[cell_of_row _ _ _ _ _ _ hA0];rfl
 have kw:w0.cell? ⟨gw,i,none⟩=some (.pointer (some ⟨p,0,none⟩)):=(hb0.cell (p:=⟨gw,i,none⟩) hgw).trans hcw
 have km:w0.cell? ⟨gm,i,none⟩=some (.pointer (some ⟨q,0,none⟩)):=(hb0.cell (p:=⟨gm,i,none⟩) hgm).trans hcm
 have hi00:(0:Int)<=(i:Int):=by omega
 have hin2:(i:Int)<(n:Int):=by omega
 have hnm2:(i:Int)<(nm:Int):=by omega
 have hpG:p<G:=by have:=hWd.lt;omega
 have hqG:q<G:=by have:=hDk.lt;omega
 have HWD:=Hd (hWd.below hb0)
 have HDK:=Hd (hDk.below hb0)
 have HG:=Hd hG
 have HW0:=Hd hw0
 have HB0:=Hd hb0
 have HS0:=Hd hs0
 have HA0:=Hd hA0
 clear hG hw0 hb0 hs0 hB0 hA0 hcw hcm hWd hDk
 go_enter Tryz.func28,Tryz.ntmps28
 go_upto_region 1 with (fail)
 rw[HW0.out,HG.out]
 go_upto_region 20 with (first | (go_at_call 59;refine (pick_at _ i n hin (by omega)).mono ?_;rintro x w1 ⟨rfl,rfl⟩) | (go_at_call 64;refine (wfuse_any HWD.out fr fc fi).mono ?_;rintro x w1 ⟨rfl,h1,h2⟩;have HW1:=Hd h1;have HK1:=Hd h2;clear h1 h2))
 clear b1 b2 a0 a1 kw km
 obtain⟨Aq,nq,cq,hq0,hq1⟩:=HDK.out.own
 have hpq:q≠p:=fun e=>by
  obtain⟨_,_,_,_,h,_⟩:=HWD.out.own
  rw[<-e,hq0] at h
  injection h with h
  injection h with _ h
  exact absurd h (by decide)
 have hk1:=HK1.out
 have hq1h:w1.heap[q]?=some (.cells (.pointer (some ⟨r,0,none⟩)::gtC g (.slice Aq nq cq)).toArray tDisk (0,0)):=(hk1.block q (by rw[HS0.out];omega) hpq).trans hq0
 have hq1r:w1.ownsRow 0 tFault 2 (.slice Aq nq cq) nq (cFt g.plan):=own_kept1 hq1 HWD.out hk1
 have ha1:w1.heap[G+1]?=some (.cells #[.int .i64 4,.int .i64 (i:Int),.int .i64 0,.int .i64 0,.slice none 0 0,.slice none 0 0,.int .i64 fr,.int .i64 fc,.int .i64 fi,.slice none 0 0] tAct (0,0)):=(hk1.block (G+1) (by rw[HS0.out];omega) (by omega)).trans HA0.out
 obtain⟨C,hC⟩:∃ C,gtC g (.slice Aq nq cq)=C:=⟨_,rfl⟩
 have hrq:w1.rangeAt q 1 C:=fun j u hu=>by
  rw[cell_of_row _ _ _ _ _ _ hq1h,hC,List.getElem?_toArray,Nat.add_comm 1 j,List.getElem?_cons_succ]
  exact hu
 have HSX:=Hd (show w1.rangeAt q 1 C/\(∀ j,w1.cell? ⟨G+1,j,none⟩=(#[.int .i64 4,.int .i64 (i:Int),.int .i64 0,.int .i64 0,.slice none 0 0,.slice none 0 0,.int .i64 fr,.int .i64 fc,.int .i64 fi,.slice none 0 0]:Array Value)[j]?) from⟨hrq,fun j=>cell_of_row _ _ _ _ _ _ ha1⟩)
 have HCI:=Hd (show (Tryz.prog.info? tGate).map (fun i=>i.size)=some C.length by rw[<-hC];kernel_rfl)
 have HC:=Hd hC
 have HQ1:=Hd hq1h
 have HR1:=Hd hq1r
 have hs1:G+2<=w1.heap.size:=by have:=hk1.size;rw[HS0.out] at this;exact this
 clear hk1 hq0 hq1 hq1h hq1r ha1 hC hrq
 refine wp_region_any (by kernel_rfl) ?_
 change wpAny _ _ _ _ _ _ _ (World.drew _)
 refine wpAny_of_P (S:=fun wx=>wx.rangeAt q 1 C/\(∀ j,wx.cell? ⟨G+1,j,none⟩=(#[.int .i64 4,.int .i64 (i:Int),.int .i64 0,.int .i64 0,.slice none 0 0,.slice none 0 0,.int .i64 fr,.int .i64 fc,.int .i64 fi,.slice none 0 0]:Array Value)[j]?)) (late:=[11]) _ _ _ _ ?_
 refine tT 0 HSX.out ?_
 try go_frame
 refine tT 1 HSX.out ?_
 try go_frame
 refine tT 2 HSX.out ?_
 try go_frame
 refine tT 3 HSX.out ?_
 try go_frame
 refine tP 8 4 rfl HSX.out (fun w hw=>by obtain⟨k1,_⟩:=hw;refine Eq.trans (exec_load_mid tGate (.tmp 109) (by rfl) q 1 (by rfl) C _ k1 Tryz.underlying118 rfl HCI.out) ?_;with_reducible rfl) ?_
 try go_frame
 refine tT 5 HSX.out ?_
 try go_frame
 refine tP 8 6 rfl HSX.out (fun w hw=>by obtain⟨_,k2⟩:=hw;have k26:w.cell? ⟨G+1,6,none⟩=some (.int .i64 fr):=k2 6;have k27:w.cell? ⟨G+1,7,none⟩=some (.int .i64 fc):=k2 7;have k28:w.cell? ⟨G+1,8,none⟩=some (.int .i64 fi):=k2 8;go_simp;try with_reducible rfl) ?_
 try go_frame
 refine tT 7 HSX.out ?_
 try go_frame
 refine tP 8 8 rfl HSX.out (fun w hw=>by obtain⟨_,k2⟩:=hw;have k26:w.cell? ⟨G+1,6,none⟩=some (.int .i64 fr):=k2 6;have k27:w.cell? ⟨G+1,7,none⟩=some (.int .i64 fc):=k2 7;have k28:w.cell? ⟨G+1,8,none⟩=some (.int .i64 fi):=k2 8;go_simp;try with_reducible rfl) ?_
 try go_frame
 refine tT 9 HSX.out ?_
 try go_frame
 refine tP 8 10 rfl HSX.out (fun w hw=>by obtain⟨_,k2⟩:=hw;have k26:w.cell? ⟨G+1,6,none⟩=some (.int .i64 fr):=k2 6;have k27:w.cell? ⟨G+1,7,none⟩=some (.int .i64 fc):=k2 7;have k28:w.cell? ⟨G+1,8,none⟩=some (.int .i64 fi):=k2 8;go_simp;try with_reducible rfl) ?_
 try go_frame
 refine lP 11 fun K hK=>?_
 go_simp
 have hg:=gfuse_any (World.drew w1) g Aq nq cq fr fc fi
 rw[HC.out] at hg
 refine hg.mono ?_;clear hg;rintro x w2 ⟨rfl,hb2⟩;have HB2:=Hd (show Below w1.heap.size w1 w2 from⟨hb2.os,hb2.tape,hb2.output,hb2.size,hb2.block⟩);clear hb2
 refine hK _ _ ?_;clear hK K
 try go_frame
 refine tL 12 ?_
 try go_frame
 refine tL 13 ?_
 try go_frame
 refine fL 14 fun K hK=>?_
 obtain⟨w3,hst3,hh3,hg3⟩:=gate_store (g':=g.fuse fr fc fi) (pv':=.slice Aq nq cq) ((HB2.out.block q (by omega)).trans HQ1.out) rfl
 refine wp_store_by tGate (.tmp 119) (.tmp 117) (by rfl) _ _ (by rfl) (by rfl) hst3 ?_
 go_simp
 refine hK _ _ ?_;clear hK K
 try go_frame
 refine wpAny_done (by kernel_rfl) ?_ _
 have HKF:=Hd (show Kept w w3 (fun b=>b=p\/b=q) from (((Kept.of_below _ HB0.out).trans (kept_mono HK1.out (T:=fun b=>b=p\/b=q) (fun b h=>.inl h)) (fun b h=>.inl h)).below HB2.out).grown hg3 (fun b e=>by cases e;exact .inl (.inr rfl)))
 have HWF:=Hd (show WdAt w3 p d (g.fuse fr fc fi) from wd_grown (HW1.out.below HB2.out) hg3 ((HB2.out.block q (by omega)).trans HQ1.out))
 have HDF:=Hd (show DkAt w3 q r (g.fuse fr fc fi) from⟨Aq,nq,cq,hh3,own_grown1 (own_below HR1.out HB2.out) hg3 ((HB2.out.block q (by omega)).trans HQ1.out)⟩)
 go_wp2
 try rw[Exit.noGoto_ret]
 refine bodyPost_end (v:=.tuple #[]) (by simp[results,Tryz.results28,go_sem]) rfl ?_
 exact⟨rfl,HWF.out,HDF.out,HKF.out⟩
set_option maxRecDepth 100000 in
set_option maxHeartbeats 16000000 in
theorem do_arm {w:World} {i n nd cd cw nm cm gw gm p q d r:Nat} {Ad:Option Addr} {g:Gt} {Ap:Option Addr} {np cp B:Nat} {l:List (Int×Int)} (hpl:Rd w B 2 Ap np (cFt l)) (hpc:Ap=none->cp=0) (hB:B<=w.heap.size) (hBp:B<=p) (hnp:np<=1048576) (hin:i<n) (hn:n<=1048576) (hnm:i<nm) (hgw:gw<w.heap.size) (hgm:gm<w.heap.size)
  (hcw:w.cell? ⟨gw,i,none⟩=some (.pointer (some ⟨p,0,none⟩))) (hcm:w.cell? ⟨gm,i,none⟩=some (.pointer (some ⟨q,0,none⟩))) (hWd:WdAt w p d g) (hDk:DkAt w q r g) :
  Calls Tryz.prog 28 #[.agg #[.slice Ad nd cd,.slice (some ⟨gw,0,none⟩) n cw,.slice (some ⟨gm,0,none⟩) nm cm],.agg #[.int .i64 1,.int .i64 (i:Int),.int .i64 0,.int .i64 0,.slice none 0 0,.slice Ap np cp,.int .i64 0,.int .i64 0,.int .i64 0,.slice none 0 0]] w fun x w'=>x = .returned (.tuple #[])/\WdAt w' p d (g.arm l)/\DkAt w' q r (g.arm l)/\Kept w w' (fun b=>b=p\/b=q):=by
 obtain⟨i0,hi0,hz0,hz1,hz2⟩:=info_parts infoFt
 obtain⟨G,hG⟩:∃ G,w.heap.size=G:=⟨_,rfl⟩
 obtain⟨w0,hw0⟩:∃ w0,(w.alloc (.cells #[.slice Ad nd cd,.slice (some ⟨gw,0,none⟩) n cw,.slice (some ⟨gm,0,none⟩) nm cm] tBoth)).alloc (.cells #[.int .i64 1,.int .i64 (i:Int),.int .i64 0,.int .i64 0,.slice none 0 0,.slice Ap np cp,.int .i64 0,.int .i64 0,.int .i64 0,.slice none 0 0] tAct)=w0:=⟨_,rfl⟩
 have hb0:Below w.heap.size w w0:=by rw[<-hw0];exact ((Below.refl _ _).alloc (Nat.le_refl _) _).alloc (by simp) _
 have hs0:w0.heap.size=G+2:=by rw[<-hw0,<-hG];simp
 have hB0:w0.heap[G]?=some (.cells #[.slice Ad nd cd,.slice (some ⟨gw,0,none⟩) n cw,.slice (some ⟨gm,0,none⟩) nm cm] tBoth (0,0)):=by
  rw[<-hw0,Below.heap_alloc _ _ _ (by simp;omega),<-hG]
  exact heap_alloc_last w _
 have hA0:w0.heap[G+1]?=some (.cells #[.int .i64 1,.int .i64 (i:Int),.int .i64 0,.int .i64 0,.slice none 0 0,.slice Ap np cp,.int .i64 0,.int .i64 0,.int .i64 0,.slice none 0 0] tAct (0,0)):=by
  have h:=heap_alloc_last (w.alloc (.cells #[.slice Ad nd cd,.slice (some ⟨gw,0,none⟩) n cw,.slice (some ⟨gm,0,none⟩) nm cm] tBoth)) (.cells #[.int .i64 1,.int .i64 (i:Int),.int .i64 0,.int .i64 0,.slice none 0 0,.slice Ap np cp,.int .i64 0,.int .i64 0,.int .i64 0,.slice none 0 0] tAct)
  rw[hw0,show (w.alloc (.cells #[.slice Ad nd cd,.slice (some ⟨gw,0,none⟩) n cw,.slice (some ⟨gm,0,none⟩) nm cm] tBoth)).heap.size=G+1 by simp[hG]] at h
  exact h
 have b1:w0.cell? ⟨G,1,none⟩=some (.slice (some ⟨gw,0,none⟩) n cw):=by rw[cell_of_row _ _ _ _ _ _ hB0];rfl
 have b2:w0.cell? ⟨G,2,none⟩=some (.slice (some ⟨gm,0,none⟩) nm cm):=by rw[cell_of_row _ _ _ _ _ _ hB0];rfl
 have a0:w0.cell? ⟨G+1,0,none⟩=some (.int .i64 1):=by rw[cell_of_row _ _ _ _ _ _ hA0];rfl
 have a1:w0.cell? ⟨G+1,1,none⟩=some (.int .i64 (i:Int)):=by rw[cell_of_row _ _ _ _ _ _ hA0];rfl
 have a5:w0.cell? ⟨G+1,5,none⟩=some (.slice Ap np cp):=by rw[cell_of_row _ _ _ _ _ _ hA0];rfl
 have kw:w0.cell? ⟨gw,i,none⟩=some (.pointer (some ⟨p,0,none⟩)):=(hb0.cell (p:=⟨gw,i,none⟩) hgw).trans hcw
 have km:w0.cell? ⟨gm,i,none⟩=some (.pointer (some ⟨q,0,none⟩)):=(hb0.cell (p:=⟨gm,i,none⟩) hgm).trans hcm
 have hi00:(0:Int)<=(i:Int):=by omega
 have hin2:(i:Int)<(n:Int):=by omega
 have hnm2:(i:Int)<(nm:Int):=by omega
 have hpG:p<G:=by have:=hWd.lt;omega
 have hqG:q<G:=by have:=hDk.lt;omega
 have HWD:=Hd (hWd.below hb0)
 have HDK:=Hd (hDk.below hb0)
 have HG:=Hd hG
 have HW0:=Hd hw0
 have HB0:=Hd hb0
 have HS0:=Hd hs0
 have HA0:=Hd hA0
 have HL:=Hd (hpl.below (hb0.mono hB))
 have HPC:=Hd hpc
 have HN:=Hd (show w0.ownsRow (G+2) tFault 2 (.slice none 0 0) 0 [] from World.ownsRow_nil _ _ _ _)
 clear hpl hpc
 clear hG hw0 hb0 hs0 hB0 hA0 hcw hcm hWd hDk
 go_enter Tryz.func28,Tryz.ntmps28
 go_upto_region 1 with (fail)
 rw[HW0.out,HG.out]
 go_upto_region 13 with (first | (go_at_call 59;refine (pick_at _ i n hin (by omega)).mono ?_;rintro x w1 ⟨rfl,rfl⟩) | (at_builtin;refine wpList_append_rd _ rfl (.const (.slice none 0 0)) (.tmp 64) tFaults rfl (G+2) tFault i0 _ 2 16 Tryz.underlying91 hi0 hz0 hz1 hz2 rfl (by decide) (.slice none 0 0) 0 [] rfl HN.out B Ap np cp (cFt l) rfl HL.out HPC.out (cFt_one l) (by unfold maxLen;omega) (by omega) (by rw[HS0.out];exact Nat.le_refl _) ?_;intro v2 wa h2 hg2;have h2':wa.ownsRow (G+2) tFault 2 v2 np (cFt l):=(by rw[List.nil_append,Nat.zero_add] at h2;exact h2);obtain⟨A2,c2,rfl,_,_⟩:=own_form h2';have H2:=Hd h2';have HBA:=Hd (show Below w0.heap.size w0 wa from (Below.refl _ _).grown hg2 (Nat.le_refl _) (fun j hj=>by simp[Value.ownBlock] at hj));clear h2 h2' hg2) | (go_at_call 60;refine (warm_any (l:=l) (HWD.out.below HBA.out) (Rd.of_own H2.out) (Nat.le_refl _) (fun ad e=>(by have h:=own_blk H2.out (b:=ad.block) (by rw[e];rfl);omega)) hnp).mono ?_;rintro x w1 ⟨rfl,h1,h2⟩;have HW1:=Hd h1;have HK1:=Hd (show Kept w0 w1 (fun k=>k=p) from (Kept.of_below _ HBA.out).trans h2 (fun b h=>.inl h));clear h1 h2))
 clear b1 b2 a0 a1 kw km
 obtain⟨Aq,nq,cq,hq0,hq1⟩:=HDK.out.own
 have hpq:q≠p:=fun e=>by
  obtain⟨_,_,_,_,h,_⟩:=HWD.out.own
  rw[<-e,hq0] at h
  injection h with h
  injection h with _ h
  exact absurd h (by decide)
 have hk1:=HK1.out
 have hq1h:w1.heap[q]?=some (.cells (.pointer (some ⟨r,0,none⟩)::gtC g (.slice Aq nq cq)).toArray tDisk (0,0)):=(hk1.block q (by rw[HS0.out];omega) hpq).trans hq0
 have hq1r:w1.ownsRow 0 tFault 2 (.slice Aq nq cq) nq (cFt g.plan):=own_kept1 hq1 HWD.out hk1
 have ha1:w1.heap[G+1]?=some (.cells #[.int .i64 1,.int .i64 (i:Int),.int .i64 0,.int .i64 0,.slice none 0 0,.slice Ap np cp,.int .i64 0,.int .i64 0,.int .i64 0,.slice none 0 0] tAct (0,0)):=(hk1.block (G+1) (by rw[HS0.out];omega) (by omega)).trans HA0.out
 obtain⟨C,hC⟩:∃ C,gtC g (.slice Aq nq cq)=C:=⟨_,rfl⟩
 have hrq:w1.rangeAt q 1 C:=fun j u hu=>by
  rw[cell_of_row _ _ _ _ _ _ hq1h,hC,List.getElem?_toArray,Nat.add_comm 1 j,List.getElem?_cons_succ]
  exact hu
 have HSX:=Hd (show w1.rangeAt q 1 C/\(∀ j,w1.cell? ⟨G+1,j,none⟩=(#[.int .i64 1,.int .i64 (i:Int),.int .i64 0,.int .i64 0,.slice none 0 0,.slice Ap np cp,.int .i64 0,.int .i64 0,.int .i64 0,.slice none 0 0]:Array Value)[j]?) from⟨hrq,fun j=>cell_of_row _ _ _ _ _ _ ha1⟩)
 have HCI:=Hd (show (Tryz.prog.info? tGate).map (fun i=>i.size)=some C.length by rw[<-hC];kernel_rfl)
 have HC:=Hd hC
 have HQ1:=Hd hq1h
 have HR1:=Hd hq1r
 have hs1:G+2<=w1.heap.size:=by have:=hk1.size;rw[HS0.out] at this;exact this
 clear hk1 hq0 hq1 hq1h hq1r ha1 hC hrq
 have HL1:=Hd (show Rd w1 B 2 Ap np (cFt l) from HL.out.below (HK1.out.to_below (by rw[HS0.out];omega) (fun b e=>by rw[e];exact hBp)))
 refine wp_region_any (by kernel_rfl) ?_
 change wpAny _ _ _ _ _ _ _ (World.drew _)
 refine wpAny_of_P (S:=fun wx=>wx.rangeAt q 1 C/\(∀ j,wx.cell? ⟨G+1,j,none⟩=(#[.int .i64 1,.int .i64 (i:Int),.int .i64 0,.int .i64 0,.slice none 0 0,.slice Ap np cp,.int .i64 0,.int .i64 0,.int .i64 0,.slice none 0 0]:Array Value)[j]?)) (late:=[7]) _ _ _ _ ?_
 refine tT 0 HSX.out ?_
 try go_frame
 refine tT 1 HSX.out ?_
 try go_frame
 refine tT 2 HSX.out ?_
 try go_frame
 refine tT 3 HSX.out ?_
 try go_frame
 refine tP 8 4 rfl HSX.out (fun w hw=>by obtain⟨k1,_⟩:=hw;refine Eq.trans (exec_load_mid tGate (.tmp 70) (by rfl) q 1 (by rfl) C _ k1 Tryz.underlying118 rfl HCI.out) ?_;with_reducible rfl) ?_
 try go_frame
 refine tT 5 HSX.out ?_
 try go_frame
 refine tP 8 6 rfl HSX.out (fun w hw=>by obtain⟨_,k2⟩:=hw;have k25:w.cell? ⟨G+1,5,none⟩=some (.slice Ap np cp):=k2 5;go_simp;try with_reducible rfl) ?_
 try go_frame
 refine lP 7 fun K hK=>?_
 go_simp
 have hg:=garm_any (w:=World.drew w1) (B:=B) (n:=np) (c:=cp) (A:=Ap) g Aq nq cq HL1.out.drew HPC.out (by rw[show (World.drew w1).heap.size=w1.heap.size from rfl];omega) hnp
 rw[HC.out] at hg
 refine hg.mono ?_;clear hg;rintro x w2 ⟨⟨A',c',rfl,ho2⟩,hb2⟩;have HO2:=Hd ho2;have HB2:=Hd (show Below w1.heap.size w1 w2 from⟨hb2.os,hb2.tape,hb2.output,hb2.size,hb2.block⟩);clear hb2 ho2
 refine hK _ _ ?_;clear hK K
 try go_frame
 refine tL 8 ?_
 try go_frame
 refine tL 9 ?_
 try go_frame
 refine fL 10 fun K hK=>?_
 obtain⟨w3,hst3,hh3,hg3⟩:=gate_store (g':=g.arm l) (pv':=.slice A' np c') ((HB2.out.block q (by omega)).trans HQ1.out) rfl
 refine wp_store_by tGate (.tmp 76) (.tmp 74) (by rfl) _ _ (by rfl) (by rfl) hst3 ?_
 go_simp
 refine hK _ _ ?_;clear hK K
 try go_frame
 refine wpAny_done (by kernel_rfl) ?_ _
 have HKF:=Hd (show Kept w w3 (fun b=>b=p\/b=q) from (((Kept.of_below _ HB0.out).trans (kept_mono HK1.out (T:=fun b=>b=p\/b=q) (fun b h=>.inl h)) (fun b h=>.inl h)).below HB2.out).grown hg3 (fun b e=>by cases e;exact .inl (.inr rfl)))
 have HWF:=Hd (show WdAt w3 p d (g.arm l) from wd_grown (HW1.out.below HB2.out) hg3 ((HB2.out.block q (by omega)).trans HQ1.out))
 have HDF:=Hd (show DkAt w3 q r (g.arm l) from⟨A',np,c',hh3,own_grown1 (own_base HO2.out (Nat.zero_le _)) hg3 ((HB2.out.block q (by omega)).trans HQ1.out)⟩)
 go_wp2
 try rw[Exit.noGoto_ret]
 refine bodyPost_end (v:=.tuple #[]) (by simp[results,Tryz.results28,go_sem]) rfl ?_
 exact⟨rfl,HWF.out,HDF.out,HKF.out⟩
end Go.Proofs.YtmgljaecmchgaaaGreat.Gf
