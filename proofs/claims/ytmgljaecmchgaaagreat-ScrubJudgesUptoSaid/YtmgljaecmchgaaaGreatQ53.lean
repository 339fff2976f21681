/- XWj2: merged by tools/merge.py. -/
import Derived.Test.YtmgljaecmchgaaaGreatQ50
import Derived.Test.YtmgljaecmchgaaaGreatQ52
set_option linter.unusedVariables false
set_option linter.unusedSimpArgs false
set_option linter.unusedSectionVars false
namespace Go.Proofs.YtmgljaecmchgaaaGreat.Gf
open Go.RowKit Go.Proofs
theorem toldB_len {nn:Bool} {K M Bk:Int} {n:Nat} {ep ct:Int} {ns:Nat} {v:Vd} {L:List Sn} (hl:L.length=ns) (hn:ns<=1048576):(toldB nn K M Bk n ep ct ns v L).length<=1048577:=by
 have hj:(judgeL K v L).length<=1048577:=by
  unfold judgeL
  rw[List.length_append]
  have h1:∀ u,(headF v u).length<=1:=fun u=>by
   unfold headF;repeat' split
   all_goals simp
  have h2:=length_findsTo v (metB (resJ K v L) (mst v L)) L L.length
  have h3:=h1 (unkB (resJ K v L) (mst v L))
  omega
 unfold toldB judged
 split
 ·exact Nat.zero_le _
 ·split
  ·exact hj
  ·exact Nat.zero_le _
abbrev tShown:TypeId:=35
set_option maxRecDepth 100000 in
set_option maxHeartbeats 16000000 in
theorem judges_any {w:World} {A Av As:Option Addr} {n c g o nv cv ns ca:Nat} {Ps:List Plm} {K M Bk ep ct:Int} {b:List UInt8} {nn:Bool} {key:List UInt8} {v:Vd} {pl:List Int} {L:List Sn}
  (hl:Ps.length=n) (hn:n<=1048576) (hs:∀ P∈Ps,P.Small) (hA:0<n->A=some ⟨g,o,none⟩/\g<w.heap.size) (hP:∀ (i:Nat) (P:Plm),Ps[i]?=some P->PlmAt w w.heap.size ⟨g,o+i*9,none⟩ P)
  (hpl:Rd w w.heap.size 1 Av nv (Dr.cInt pl)) (hpn:Av=none->cv=0) (hnv:nv<=1048576) (hL:SnsIn w w.heap.size As ns L) (hns:ns<=1048576) (hbn:∀ s∈L,s.blocks.length<=1048576) (hlen:∀ s∈L,∀ b∈s.blocks,b.length<=1048576) :
  Calls Tryz.prog 3 #[.agg (setC (.slice A n c) K M Bk b ep ct++tlC nn key v (.slice Av nv cv) (.slice As ns ca)).toArray] w fun x w'=>x = .returned (.bool true)/\Below w.heap.size w w':=by
 obtain⟨iI,hiI0,hiI1,hiI2,hiI3⟩:=info_parts infoIn
 obtain⟨U,hU⟩:∃ U,w.heap.size=U:=⟨_,rfl⟩
 obtain⟨C,hC⟩:∃ C:List Value,setC (.slice A n c) K M Bk b ep ct=C:=⟨_,rfl⟩
 have hCl:C.length=14:=by rw[<-hC];rfl
 obtain⟨E,hE⟩:∃ E:List Value,C++tlC nn key v (.slice Av nv cv) (.slice As ns ca)=E:=⟨_,rfl⟩
 obtain⟨w0,hw0⟩:∃ w0,w.alloc (.cells E.toArray tShown)=w0:=⟨_,rfl⟩
 have hb0:Below w.heap.size w w0:=by rw[<-hw0];exact (Below.refl _ _).alloc (Nat.le_refl _) _
 have hs0:w0.heap.size=U+1:=by rw[<-hw0,<-hU];simp
 have hx0:w0.heap[U]?=some (.cells E.toArray tShown (0,0)):=by
  rw[<-hw0,<-hU]
  exact heap_alloc_last w _
 have hat:∀ j u,(tlC nn key v (.slice Av nv cv) (.slice As ns ca))[j]?=some u->w0.cell? ⟨U,14+j,none⟩=some u:=fun j u hu=>by
  rw[cell_of_row _ _ _ _ _ _ hx0,List.getElem?_toArray,<-hE,List.getElem?_append_right (by omega),hCl,Nat.add_sub_cancel_left]
  exact hu
 have hrc:w0.rangeAt U 0 C:=fun j u hu=>by
  have hj:=(List.getElem?_eq_some_iff.1 hu).1
  rw[cell_of_row _ _ _ _ _ _ hx0,List.getElem?_toArray,<-hE,Nat.zero_add,List.getElem?_append_left hj]
  exact hu
 have hms:=makeSet_any (w:=w0) (c:=c) (K:=K) (M:=M) (Bk:=Bk) (b:=b) (ep:=ep) (ct:=ct) hl hn hs hA hb0.size (fun i P h=>by
  obtain⟨Af,nf,cf,Ap,np,cp,h1,h2,h3,h4⟩:=(hP i P h).cells
  have hg:g<w.heap.size:=(hA (by have:=(List.getElem?_eq_some_iff.1 h).1;omega)).2
  exact⟨Af,nf,cf,Ap,np,cp,fun j u hu=>(hb0.cell (p:=⟨g,o+i*9+j,none⟩) (by show g<w.heap.size;omega)).trans (h1 j u hu),filesRo_below h2 hb0,h3.below hb0,h4⟩)
 rw[hC] at hms
 have hfs:∀ j:Nat,(((Ps[j]?).map Plm.fs).getD []).length<=1048576:=fun j=>by
  cases hj:Ps[j]? with
  | none=>exact Nat.zero_le _
  | some P=>exact (hs P (List.mem_of_getElem? hj)).fs
 have hdn:∀ (j:Nat) (Dg:Dr.D×Gt),(Ps[j]?).bind Plm.made=some Dg->Dg.2.down=false:=fun j Dg hj=>by
  cases hp:Ps[j]? with
  | none=>rw[hp] at hj;cases hj
  | some P=>
   rw[hp] at hj
   rw[made_gate (P:=P) (D:=Dg.1) (g:=Dg.2) hj]
   unfold Plm.gate
   dsimp only
   split<;>split<;>split<;>rfl
 have hLl:=hL.len
 have y14:w0.cell? ⟨U,14,none⟩=some (.bool nn):=hat 0 _ rfl
 have HAT:=Hd hat
 have HRC:=Hd hrc
 have HMS:=Hd hms
 have HFS:=Hd hfs
 have HDN:=Hd hdn
 have HU:=Hd hU
 have HCI:=Hd (show (Tryz.prog.info? tPset).map (fun i=>i.size)=some C.length by rw[hCl];kernel_rfl)
 have HW0:=Hd hw0
 have HB0:=Hd hb0
 have HS0:=Hd hs0
 have HPL:=Hd (show Rd w0 U 1 Av nv (Dr.cInt pl) by rw[<-hU];exact hpl.below hb0)
 have HPN:=Hd hpn
 have HL:=Hd (show SnsIn w0 U As ns L by rw[<-hU];exact hL.below hb0)
 have HLL:=Hd hLl
 have HBN:=Hd hbn
 have HLEN:=Hd hlen
 rw[hC,hE]
 clear hl hs hA hP hpl hpn hL hLl hbn hlen hU hC hCl hE hw0 hb0 hs0 hx0 hat hrc hms hfs hdn
 go_enter Tryz.func3,Tryz.ntmps3
 go_upto_region 1 with (fail)
 rw[HW0.out,HU.out]
 go_upto_region 2 with (first | (refine wpList_load_mid rfl tPset (.tmp 13) rfl U 0 rfl C _ HRC.out Tryz.underlying29 rfl HCI.out ?_) | (go_at_call 4;refine HMS.out.mono ?_;rintro x w1 ⟨vd,vw,vm,p,q,rfl,hset,hb1⟩;have HSET:=Hd hset;have HB1:=Hd hb1;obtain⟨V1,G1,d1,e1,f1,hr1⟩:=hset.rows;obtain⟨Ad,cd,rfl,_,_⟩:=own_form hr1.rd;obtain⟨Aw,cw,rfl,_,_⟩:=own_form hr1.rw_;obtain⟨Am,cm,rfl,_,_⟩:=own_form hr1.rm;clear hset hb1 hr1) | (refine wpList_store_by rfl tSets (.tmp 3) (.tmp 16) rfl _ _ rfl rfl (sets_storeAt w1 _ _ _ _ _ rfl) ?_))
 obtain⟨T,hT⟩:∃ T,w1.heap.size=T:=⟨_,rfl⟩
 obtain⟨w2,hw2⟩:∃ w2,w1.alloc (.cells #[.slice Ad n cd,.slice Aw n cw,.slice Am n cm,.pointer (some ⟨p,0,none⟩),.pointer (some ⟨q,0,none⟩)] tSets)=w2:=⟨_,rfl⟩
 have hb2:Below w1.heap.size w1 w2:=by rw[<-hw2];exact (Below.refl _ _).alloc (Nat.le_refl _) _
 have hs2:w2.heap.size=T+1:=by rw[<-hw2,<-hT];simp
 have hx2:w2.heap[T]?=some (.cells #[.slice Ad n cd,.slice Aw n cw,.slice Am n cm,.pointer (some ⟨p,0,none⟩),.pointer (some ⟨q,0,none⟩)] tSets (0,0)):=by
  rw[<-hw2,<-hT]
  exact heap_alloc_last w1 _
 have hUT:U+1<=T:=by have:=HB1.out.size;have:=HS0.out;omega
 have hb02:Below (U+1) w0 w2:=(HB1.out.mono (by have:=HS0.out;omega)).trans (hb2.mono (by omega))
 have hbT:∀ j,w2.cell? ⟨T,j,none⟩=(#[.slice Ad n cd,.slice Aw n cw,.slice Am n cm,.pointer (some ⟨p,0,none⟩),.pointer (some ⟨q,0,none⟩)]:Array Value)[j]?:=fun j=>cell_of_row _ _ _ _ _ _ hx2
 have t3:w2.cell? ⟨T,3,none⟩=some (.pointer (some ⟨p,0,none⟩)):=hbT 3
 have t4:w2.cell? ⟨T,4,none⟩=some (.pointer (some ⟨q,0,none⟩)):=hbT 4
 have z14:w2.cell? ⟨U,14,none⟩=some (.bool nn):=(hb02.cell (p:=⟨U,14,none⟩) (Nat.lt_succ_self U)).trans (HAT.out 0 _ rfl)
 have HBT:=Hd hbT
 have HSET2:=Hd (HSET.out.below hb2)
 have HB02:=Hd hb02
 have HS2:=Hd hs2
 rw[hw2,hT]
 clear hT hw2 hb2 hs2 hx2 hb02 hbT y14
 go_upto_if 22 with (fail)
 go_cut [5,6] from 20 to 26 (fun v5 v6 wc=>v5=(if nn then .pointer none else .pointer (some ⟨q,0,none⟩))/\v6=(if nn then .pointer none else .pointer (some ⟨p,0,none⟩))/\wc=w2)
 case first=>
  cases nn with
  | true=>
   go_wp2
   go_meet
   exact⟨rfl,rfl,rfl⟩
  | false=>
   go_wp2
   go_meet
   exact⟨rfl,rfl,rfl⟩
 case rest=>
  obtain⟨h5,h6,rfl⟩:=hcut
  have z15:wc.cell? ⟨U,15,none⟩=some (.string ⟨key.toArray⟩):=(HB02.out.cell (p:=⟨U,15,none⟩) (Nat.lt_succ_self U)).trans (HAT.out 1 _ rfl)
  have z16:wc.cell? ⟨U,16,none⟩=some (.int .i64 v.kind):=(HB02.out.cell (p:=⟨U,16,none⟩) (Nat.lt_succ_self U)).trans (HAT.out 2 _ rfl)
  have z17:wc.cell? ⟨U,17,none⟩=some (.int .i64 v.ep):=(HB02.out.cell (p:=⟨U,17,none⟩) (Nat.lt_succ_self U)).trans (HAT.out 3 _ rfl)
  have z18:wc.cell? ⟨U,18,none⟩=some (.int .i64 v.ct):=(HB02.out.cell (p:=⟨U,18,none⟩) (Nat.lt_succ_self U)).trans (HAT.out 4 _ rfl)
  have z19:wc.cell? ⟨U,19,none⟩=some (.int .i64 v.size):=(HB02.out.cell (p:=⟨U,19,none⟩) (Nat.lt_succ_self U)).trans (HAT.out 5 _ rfl)
  have z20:wc.cell? ⟨U,20,none⟩=some (.slice Av nv cv):=(HB02.out.cell (p:=⟨U,20,none⟩) (Nat.lt_succ_self U)).trans (HAT.out 6 _ rfl)
  have z21:wc.cell? ⟨U,21,none⟩=some (.slice As ns ca):=(HB02.out.cell (p:=⟨U,21,none⟩) (Nat.lt_succ_self U)).trans (HAT.out 7 _ rfl)
  have HZ:=Hd (show ∀ W,Below (U+1) wc W->W.cell? ⟨U,15,none⟩=some (.string ⟨key.toArray⟩)/\W.cell? ⟨U,16,none⟩=some (.int .i64 v.kind)/\W.cell? ⟨U,17,none⟩=some (.int .i64 v.ep)/\W.cell? ⟨U,18,none⟩=some (.int .i64 v.ct)/\W.cell? ⟨U,19,none⟩=some (.int .i64 v.size)/\W.cell? ⟨U,20,none⟩=some (.slice Av nv cv)/\W.cell? ⟨U,21,none⟩=some (.slice As ns ca) from fun W hb=>
   ⟨(hb.cell (p:=⟨U,15,none⟩) (Nat.lt_succ_self U)).trans z15,(hb.cell (p:=⟨U,16,none⟩) (Nat.lt_succ_self U)).trans z16,(hb.cell (p:=⟨U,17,none⟩) (Nat.lt_succ_self U)).trans z17,(hb.cell (p:=⟨U,18,none⟩) (Nat.lt_succ_self U)).trans z18,(hb.cell (p:=⟨U,19,none⟩) (Nat.lt_succ_self U)).trans z19,(hb.cell (p:=⟨U,20,none⟩) (Nat.lt_succ_self U)).trans z20,(hb.cell (p:=⟨U,21,none⟩) (Nat.lt_succ_self U)).trans z21⟩)
  have HLC:=Hd (HL.out.below (HB02.out.mono (Nat.le_succ U)))
  have HPC:=Hd (HPL.out.below (HB02.out.mono (Nat.le_succ U)))
  have hUc:U+1<=wc.heap.size:=by have:=HS2.out;omega
  obtain⟨RES,hRES⟩:∃ R,toldB nn K M Bk n ep ct ns v L=R:=⟨_,rfl⟩
  obtain⟨nr,hnr⟩:∃ nr,RES.length=nr:=⟨_,rfl⟩
  have HRES:=Hd hRES
  have HNR:=Hd hnr
  have H5:=Hd h5
  have H6:=Hd h6
  clear h5 h6 t3 t4 z14 hRES hnr
  go_upto_region 10 with (go_at_call 5;go_loud (refine (judgeR_o HSET2.out H5.out hn HLC.out.rd (by omega) HBN.out HLEN.out).mono ?_);rintro x w3 ⟨⟨A7,c7,rfl,hr7⟩,hb3⟩;rw[HRES.out,HNR.out] at hr7;rw[HRES.out,HNR.out];have HR7:=Hd hr7;have HB3:=Hd hb3;clear hr7 hb3)
  clear z15 z16 z17 z18 z19 z20 z21
  obtain⟨_,_,_,_,_,_,z21⟩:=HZ.out w3 (HB3.out.mono hUc)
  have hU3:U+1<=w3.heap.size:=by have:=HB3.out.size;omega
  have HL3:=Hd (HLC.out.below (HB3.out.mono (by omega)))
  go_upto_region 11 with (go_at_call 6;go_loud (refine (lent_m HL3.out (by omega) hns HBN.out HLEN.out).mono ?_);rintro x w4 ⟨gl,cl,rfl,hlm,hb4⟩;have HLM:=Hd hlm;have HB4:=Hd (HB3.out.trans (hb4.mono HB3.out.size));have HB34:=Hd hb4;clear hlm hb4)
  clear z21
  obtain⟨X,hX⟩:∃ X,w4.heap.size=X:=⟨_,rfl⟩
  obtain⟨w5,hw5⟩:∃ w5,w4.alloc (.cells #[] 3)=w5:=⟨_,rfl⟩
  have hb5:Below X w4 w5:=by rw[<-hw5,<-hX];exact (Below.refl _ _).alloc (Nat.le_refl _) _
  have hs5:w5.heap.size=X+1:=by rw[<-hw5,<-hX];simp
  have hown5:w5.ownsRow X 3 1 (.slice (some ⟨X,0,none⟩) 0 0) 0 []:=by rw[<-hw5,<-hX];exact Dr.own_new w4 (Nat.le_refl _) 3 1 0 [] rfl (Nat.zero_le _)
  have hU4:U+1<=X:=by have:=HB4.out.size;omega
  have hbc5:Below (U+1) wc w5:=(HB4.out.mono hUc).trans (hb5.mono hU4)
  have hz5:(w4.alloc (.cells #[] 3)).cell? ⟨U,20,none⟩=some (.slice Av nv cv):=by rw[hw5];exact (HZ.out w5 hbc5).2.2.2.2.2.1
  have HP5:=Hd (show Rd w5 U 1 Av nv (Dr.cInt pl) from HPC.out.below (hbc5.mono (by omega)))
  have HX:=Hd hX
  have HW5:=Hd hw5
  have HB5:=Hd hb5
  have HS5:=Hd hs5
  have HO5:=Hd hown5
  have HI1:=Hd (show ∀ u∈Dr.cInt pl,u.oneCell'=true from fun u hu=>by obtain⟨x,_,rfl⟩:=List.mem_map.1 hu;rfl)
  clear hX hw5 hb5 hs5 hown5 hbc5
  go_upto_region 12 with (at_builtin;rw[HW5.out,HX.out];go_loud (refine wpList_append_rd _ rfl (.tmp 38) (.tmp 41) 30 rfl X 3 iI (.int .i64 0) 1 8 Tryz.underlying30 hiI0 hiI1 hiI2 hiI3 rfl (by decide) (.slice (some ⟨X,0,none⟩) 0 0) 0 [] rfl HO5.out U Av nv cv (Dr.cInt pl) rfl HP5.out HPN.out HI1.out (by unfold maxLen;omega) (by omega) (by rw[HS5.out];omega) ?_);intro v6 w6 hrow6 hg6;have HR6:=Hd hrow6;have HG6:=Hd hg6;clear hrow6 hg6)
  clear hz5
  have hr6:=HR6.out
  obtain⟨A6,c6,rfl,_,_⟩:=own_form hr6
  rw[List.nil_append,Nat.zero_add] at hr6
  rw[Nat.zero_add]
  have hb6:Below X w4 w6:=HB5.out.grown HG6.out (by rw[HS5.out];omega) (fun j hj=>own_ge HO5.out hj)
  have hX6:X<=w6.heap.size:=by have:=hb6.size;have:=HX.out;omega
  have HO6:=Hd hr6
  have HB6:=Hd hb6
  clear hr6 hb6
  go_upto_region 13 with (at_builtin;go_loud (refine wpList_append_keeps _ rfl (.tmp 43) (.tmp 44) 30 rfl X 3 iI (.int .i64 0) 1 8 Tryz.underlying30 hiI0 hiI1 hiI2 hiI3 rfl (by decide) (.slice A6 nv c6) nv (Dr.cInt pl) rfl (Dr.own_alloc HO6.out _) ⟨w6.heap.size,0,none⟩ 1 1 [.int .i64 78] rfl rfl (cell_one_new _ _ _) (by simp[Value.oneCell']) (by omega) (by unfold maxLen;omega) (by omega) (by simp;omega) ?_);go_loud (intro g8 c8 w8 hr8 hg8 hat8 hlt8 _);go_loud (have hb8:Below X w4 w8:=(HB6.out.alloc hX6 _).grown hg8 (by simp;omega) (fun j hj=>own_ge HO6.out hj));have HR8:=Hd hr8;have HB8:=Hd hb8;clear hr8 hg8 hat8 hb8 hlt8)
  obtain⟨Y,hY⟩:∃ Y,w8.heap.size=Y:=⟨_,rfl⟩
  have hXY:X<=Y:=by have:=HB8.out.size;have:=HX.out;omega
  have hb48:Below w4.heap.size w4 w8:=by rw[HX.out];exact HB8.out
  have hbc8:Below (U+1) wc w8:=(HB4.out.mono hUc).trans (HB8.out.mono hU4)
  obtain⟨_,z16,z17,z18,z19,z20,_⟩:=HZ.out w8 hbc8
  have HY:=Hd hY
  have HB48:=Hd hb48
  have HBC8:=Hd hbc8
  clear hY hb48 hbc8
  go_upto_region 14 with (refine wpList_store_by rfl tVd (.tmp 10) (.tmp 47) rfl _ _ rfl rfl (vd_storeAt w8 _ _ _ _ _ rfl) ?_)
  obtain⟨w9,hw9⟩:∃ w9,w8.alloc (.cells #[.int .i64 v.kind,.int .i64 v.ep,.int .i64 v.ct,.int .i64 v.size,.slice Av nv cv] tVd)=w9:=⟨_,rfl⟩
  have hb9:Below w8.heap.size w8 w9:=by rw[<-hw9];exact (Below.refl _ _).alloc (Nat.le_refl _) _
  have hs9:w9.heap.size=Y+1:=by rw[<-hw9,<-HY.out];simp
  have hx9:w9.heap[Y]?=some (.cells #[.int .i64 v.kind,.int .i64 v.ep,.int .i64 v.ct,.int .i64 v.size,.slice Av nv cv] tVd (0,0)):=by
   rw[<-hw9,<-HY.out]
   exact heap_alloc_last w8 _
  clear z16 z17 z18 z19 z20
  have hr9:w9.ownsRow X 3 1 (.slice (some ⟨g8,0,none⟩) (nv+1) c8) (nv+1) (Dr.cInt pl++[.int .i64 78]):=own_below HR8.out hb9
  have hc8:nv+1<=c8:=by
   obtain⟨_,_,e,h,_⟩:=own_form hr9
   injection e with _ _ e
   omega
  obtain⟨cur8,hcur8⟩:=Dr.own_lt HR8.out (g:=g8) rfl
  have hg8Y:g8<Y:=by have:=(Array.getElem?_eq_some_iff.1 hcur8).1;have:=HY.out;omega
  have hsl:∀ W:World,(Instr.slice 30 (.slice (some ⟨g8,0,none⟩) (nv+1) c8) none (some (.int .i64 (nv:Int))) none).run Tryz.prog W = .ok (.slice (some ⟨g8,0,none⟩) nv c8) W:=fun W=>by
   rw[run_slice_h (P:=Tryz.prog) W 30 (some ⟨g8,0,none⟩) (nv+1) c8 (by kernel_rfl) .i64 (nv:Int) (by omega) (by omega)]
   have hs:(sizeOf (Tryz.prog.elem 30)).run Tryz.prog W = .ok 1 W:=by kernel_rfl
   rw[hs]
   unfold sliced
   simp[Result.andThen]
   intro _
   rfl
  have hslw:=hsl w9
  have hbc9:Below (U+1) wc w9:=HBC8.out.trans (hb9.mono (by have:=HY.out;omega))
  have hUY:U+1<=Y:=by omega
  obtain⟨_,z16,z17,z18,z19,z20,_⟩:=HZ.out w9 hbc9
  have y4:w9.cell? ⟨Y,4,none⟩=some (.slice Av nv cv):=by rw[cell_of_row _ _ _ _ _ _ hx9];rfl
  have b4:w9.frozen? ⟨Y,4,none⟩=false:=frozen_of_row w9 Y 4 _ _ hx9
  have hY00:(0:Int)<=(nv:Int):=by omega
  have hwn:=wr40 nv (by omega)
  obtain⟨w10,hw10⟩:∃ w10,w9.setCell ⟨Y,4,none⟩ (.slice (some ⟨g8,0,none⟩) nv c8)=w10:=⟨_,rfl⟩
  have hx10:w10.heap[Y]?=some (.cells #[.int .i64 v.kind,.int .i64 v.ep,.int .i64 v.ct,.int .i64 v.size,.slice (some ⟨g8,0,none⟩) nv c8] tVd (0,0)):=by
   rw[<-hw10]
   exact (Ring.heap_same hx9 _).trans rfl
  have hb10:Below X w4 w10:=by
   rw[<-hw10]
   exact ((HB8.out.trans (hb9.mono (by have:=HY.out;omega))).setCell (p:=⟨Y,4,none⟩) hXY _)
  have hr10:w10.ownsRow X 3 1 (.slice (some ⟨g8,0,none⟩) (nv+1) c8) (nv+1) (Dr.cInt pl++[.int .i64 78]):=by
   rw[<-hw10]
   exact Dr.own_same hr9 fun k hk=>Below.heap_setCell _ _ _ k (by
    obtain rfl:g8=k:=by simpa [Value.ownBlock] using hk
    show g8≠Y
    omega)
  have HX9:=Hd hx9
  have HW9:=Hd hw9
  have HS9:=Hd hs9
  have HX10:=Hd hx10
  have HB10:=Hd hb10
  have HR10:=Hd hr10
  have HW10:=Hd hw10
  rw[hw9,HY.out]
  clear hw9 hb9 hs9 hx9 hr9 hcur8 hsl hbc9 hx10 hb10 hr10 hw10
  go_upto_region 15 with (fail)
  rw[HW10.out]
  clear z16 z17 z18 z19 z20 y4 b4 hslw
  have hcX:wc.heap.size<=X:=by have:=HB4.out.size;have:=HX.out;omega
  have h3X:w3.heap.size<=X:=by have:=HB34.out.size;have:=HX.out;omega
  have hbc10:Below (U+1) wc w10:=(HB4.out.mono hUc).trans (HB10.out.mono hU4)
  have hbC10:Below wc.heap.size wc w10:=HB4.out.trans (HB10.out.mono hcX)
  obtain⟨z15,_,_,_,_,_,_⟩:=HZ.out w10 hbc10
  have v0:w10.cell? ⟨Y,0,none⟩=some (.int .i64 v.kind):=by rw[cell_of_row _ _ _ _ _ _ HX10.out];rfl
  have v1:w10.cell? ⟨Y,1,none⟩=some (.int .i64 v.ep):=by rw[cell_of_row _ _ _ _ _ _ HX10.out];rfl
  have v2:w10.cell? ⟨Y,2,none⟩=some (.int .i64 v.ct):=by rw[cell_of_row _ _ _ _ _ _ HX10.out];rfl
  have v3:w10.cell? ⟨Y,3,none⟩=some (.int .i64 v.size):=by rw[cell_of_row _ _ _ _ _ _ HX10.out];rfl
  have v4:w10.cell? ⟨Y,4,none⟩=some (.slice (some ⟨g8,0,none⟩) nv c8):=by rw[cell_of_row _ _ _ _ _ _ HX10.out];rfl
  have hYl:Y<w10.heap.size:=(Array.getElem?_eq_some_iff.1 HX10.out).1
  have hTl:T<wc.heap.size:=by have:=HS2.out;omega
  have hcl10:wc.heap.size<=w10.heap.size:=hbC10.size
  have h3l:w3.heap.size<=w10.heap.size:=by have:=HB10.out.size;have:=HX.out;omega
  have hpllen:pl.length=nv:=by have:=HPC.out.1;simpa using this
  have h78:w10.cell? ⟨g8,nv,none⟩=some (.int .i64 78):=Dr.own_cellS HR10.out (by rw[List.getElem?_append_right (by simp[hpllen])];simp[hpllen])
  have hra10:Rd w10 w10.heap.size 1 (some ⟨g8,0,none⟩) nv (Dr.cInt pl):=⟨by simp[hpllen],fun _=>⟨⟨g8,0,none⟩,rfl,by show g8<_;omega,fun j u hu=>by
   have hj:=(List.getElem?_eq_some_iff.1 hu).1
   rw[Addr.add_mid,Nat.zero_add]
   exact Dr.own_cellS HR10.out (by rw[List.getElem?_append_left hj];exact hu)⟩⟩
  have hset10:=HSET2.out.below hbC10
  have hlm10:=HLM.out.below (show Below w4.heap.size w4 w10 by rw[HX.out];exact HB10.out)
  have hr7:Rd w10 w3.heap.size 5 A7 nr (cFd key RES):=HR7.out.below (HB34.out.trans (HB10.out.mono h3X))
  have hp10:Rd w10 U 1 Av nv (Dr.cInt pl):=HPC.out.below (hbc10.mono (Nat.le_succ U))
  have hl10:SnsIn w10 U As ns L:=HLC.out.below (hbc10.mono (Nat.le_succ U))
  have HF:=Hd (show ∀ W,Below w10.heap.size w10 W->(W.cell? ⟨U,20,none⟩=some (.slice Av nv cv)/\W.cell? ⟨U,21,none⟩=some (.slice As ns ca)/\W.cell? ⟨Y,4,none⟩=some (.slice (some ⟨g8,0,none⟩) nv c8)/\W.cell? ⟨g8,nv,none⟩=some (.int .i64 78)/\(∀ j,W.cell? ⟨T,j,none⟩=(#[.slice Ad n cd,.slice Aw n cw,.slice Am n cm,.pointer (some ⟨p,0,none⟩),.pointer (some ⟨q,0,none⟩)]:Array Value)[j]?))/\LentM W gl cl ns L/\SnsRd W U As ns L/\Rd W U 1 Av nv (Dr.cInt pl)/\Rd W w10.heap.size 1 (some ⟨g8,0,none⟩) nv (Dr.cInt pl)/\Rd W w3.heap.size 5 A7 nr (cFd key RES)/\
    SetsAt W (fun j=>((Ps[j]?).map Plm.fs).getD []) (fun j=>(Ps[j]?).bind Plm.made) n p q K M Bk b ep ct (.slice Ad n cd) (.slice Aw n cw) (.slice Am n cm) from fun W hb=>by
   obtain⟨_,_,_,_,_,e20,e21⟩:=HZ.out W (hbc10.trans (hb.mono (by omega)))
   exact⟨⟨e20,e21,(hb.cell (p:=⟨Y,4,none⟩) hYl).trans v4,(hb.cell (p:=⟨g8,nv,none⟩) (by show g8<_;omega)).trans h78,fun j=>((hbC10.trans (hb.mono hcl10)).cell (p:=⟨T,j,none⟩) hTl).trans (HBT.out j)⟩,
    hlm10.below hb,(hl10.below (hb.mono (by omega))).rd,hp10.below (hb.mono (by omega)),hra10.below hb,hr7.below (hb.mono h3l),hset10.below hb⟩)
  have HLS10:=Hd (hlm10.sns HLL.out)
  have HSET10:=Hd hset10
  have hnrb:nr<=1048577:=by rw[<-HNR.out,<-HRES.out];exact toldB_len HLL.out hns
  have HBF:=Hd (show Below w.heap.size w w10 from HB0.out.trans ((HB02.out.trans hbc10).mono (by have:=HU.out;omega)))
  have hUl:U<=w10.heap.size:=by omega
  clear hcX h3X hbc10 hbC10 hYl hTl hcl10 h3l hpllen h78 hra10 hset10 hlm10 hr7 hp10 hl10
  go_upto_region 16 with (go_at_call 7;go_loud (refine (judge_o HSET10.out H6.out hn HLS10.out (Nat.le_refl _) rfl HBN.out HLEN.out).mono ?_);rintro x w11 ⟨⟨A11,c11,rfl,hr11⟩,hb11⟩;rw[HRES.out,HNR.out] at hr11;rw[HRES.out,HNR.out];have HR11:=Hd hr11;have HB11:=Hd hb11;clear hr11 hb11)
  clear z15 v0 v1 v2 v3 v4
  have hnv2:(nv:Int)<((nv+1:Nat):Int):=by omega
  have hnv3:(nv:Int)<(nv:Int)+1:=by omega
  go_wp2_with (first
   | (go_at_call 8;obtain⟨_,_,_,_,_,h7,_⟩:=HF.out w11 HB11.out;go_loud (refine (sameFds_any HR11.out h7 HNR.out (by omega)).mono ?_);clear h7;rintro x w12 ⟨rfl,k,hk⟩;have HB12:=Hd (show Below w10.heap.size w10 w12 by rw[hk];exact below_drewN HB11.out k);obtain⟨⟨_,z21,_⟩,_⟩:=HF.out w12 HB12.out;have hU12:U<=w12.heap.size:=(by have:=HB12.out.size;omega);clear hk HR11)
   | (go_at_call 9;obtain⟨_,h1,h2,_⟩:=HF.out w12 HB12.out;go_loud (refine (kept_m h1 h2 hU12 hns HBN.out HLEN.out).mono ?_);clear h1 h2;rintro x w13 ⟨rfl,hb13⟩;have HB13:=Hd (HB12.out.trans (hb13.mono HB12.out.size));obtain⟨⟨z20,_,y4,_⟩,_⟩:=HF.out w13 HB13.out;clear z21 hU12 HB12 hb13)
   | (go_at_call 10;obtain⟨_,_,_,h3,h4,_⟩:=HF.out w13 HB13.out;go_loud (refine (sameInts_any h4 h3 (by omega)).mono ?_);clear h3 h4;rintro x w14 ⟨rfl,k,hk⟩;have HB14:=Hd (show Below w10.heap.size w10 w14 by rw[hk];exact below_drewN HB13.out k);obtain⟨⟨z20b,_,_,y78,hTT⟩,_⟩:=HF.out w14 HB14.out;have t0:=hTT 0;have t1:=hTT 1;have t2:=hTT 2;have t3:=hTT 3;have t4:=hTT 4;clear hTT hk z20 y4 HB13)
   | (go_at_call 11;obtain⟨_,_,_,_,_,_,h8⟩:=HF.out w14 HB14.out;go_loud (refine (sameSet_any h8 hn HFS.out HDN.out).mono ?_);clear h8;rintro x w15 ⟨rfl,hb15⟩;have HB15:=Hd (HB14.out.trans (hb15.mono HB14.out.size));clear hb15 HB14 z20b y78 t0 t1 t2 t3 t4))
  go_ret
  exact⟨rfl,HBF.out.trans (HB15.out.mono HBF.out.size)⟩
end Go.Proofs.YtmgljaecmchgaaaGreat.Gf
