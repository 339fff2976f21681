/- XKe1, XKe2: merged by tools/merge.py. -/
import Derived.Test.YtmgljaecmchgaaaGreatQ34
import Derived.Stop.BytesEq
set_option linter.unusedVariables false
set_option linter.unusedSimpArgs false
set_option linter.unusedSectionVars false
namespace Go.Proofs.YtmgljaecmchgaaaGreat.Gf
open Go.RowKit Go.Proofs
abbrev tShard:TypeId:=69
abbrev tHead:TypeId:=66
def hdC (s:Sn):List Value:=[.int .u8 (sbI s 0),.int .u8 (sbI s 1),.int .u8 (sbI s 2),.int .u8 (sbI s 3),.int .u8 (sbI s 4),.int .u8 (sbI s 5),.int .u8 (sbI s 6),.int .u8 (sbI s 7),.int .i64 s.sk,.int .i64 s.sm,.int .i64 s.sb,.string ⟨s.key.toArray⟩,.int .i64 s.size,.int .i64 s.idx,.int .i64 s.ep,.int .i64 s.ct]
def shC (s:Sn) (bv:Value):List Value:=hdC s++[bv]
set_option maxRecDepth 100000 in
set_option maxHeartbeats 4000000 in
theorem head_ne (w:World) (s:Sn):(binOp .neq tHead (.agg (hdC s).toArray) (.agg (hdC s).toArray)).run Tryz.prog w = .ok (.bool false) w:=by
 rw[run_neq_struct,show (10000:Nat)=9999+1 from rfl,run_equalIn_agg w 9999 tHead _ _ (by kernel_rfl) (by kernel_rfl)]
 simp only[Program.fieldsOf,Tryz.underlying66,hdC]
 go_simp
 have h:=run_equalIn_bytes (P:=Tryz.prog) w 9997 25 Dr.tU8 8 Tryz.underlying25 Tryz.underlying5 (fun _=>by kernel_rfl) [s.store.getD 0 0,s.store.getD 1 0,s.store.getD 2 0,s.store.getD 3 0,s.store.getD 4 0,s.store.getD 5 0,s.store.getD 6 0,s.store.getD 7 0] [s.store.getD 0 0,s.store.getD 1 0,s.store.getD 2 0,s.store.getD 3 0,s.store.getD 4 0,s.store.getD 5 0,s.store.getD 6 0,s.store.getD 7 0] rfl rfl
 rw[beq_self_eq_true] at h
 have h2:(Op.equalIn 9999 25 (.agg #[.int .u8 (sbI s 0),.int .u8 (sbI s 1),.int .u8 (sbI s 2),.int .u8 (sbI s 3),.int .u8 (sbI s 4),.int .u8 (sbI s 5),.int .u8 (sbI s 6),.int .u8 (sbI s 7)]) (.agg #[.int .u8 (sbI s 0),.int .u8 (sbI s 1),.int .u8 (sbI s 2),.int .u8 (sbI s 3),.int .u8 (sbI s 4),.int .u8 (sbI s 5),.int .u8 (sbI s 6),.int .u8 (sbI s 7)])).run Tryz.prog w = .ok true w:=h
 rw[h2]
 simp
theorem wpList_neq_by {P:Program} {ops:Array Oper} {rest:List Oper} {op:Oper} {a:Act} {w:World} {Q:Exit->Act->World->Prop} (hgd:op.guard=none) (t t2:TypeId) (x y:Operand) (ho:op.op = .binOp .neq t x y t2) (hgt:P.eqGuardType P.depth t=false)
  (p q:Array Value) (r:Value) (hx:a.eval x = .agg p) (hy:a.eval y = .agg q) (hr:(binOp .neq t (.agg p) (.agg q)).run P w = .ok r w) (h:wpList P ops Q rest (a.put op.dst r) w):wpList P ops Q (op::rest) a w:=
 wpList_plain hgd fun K hK=>by
  have h2:=hK _ _ h
  have hg:(eqGuard .neq t x y (.agg p) (.agg q)).run P w = .ok () w:=by
   unfold eqGuard
   simp[hgt]
  unfold Oper.wp execOp
  simp only[ho,hx,hy,Sem.run_bind,hg,hr,Result.andThen_ok,Sem.run_pure]
  exact h2
set_option maxRecDepth 100000 in
set_option maxHeartbeats 8000000 in
theorem sameSh_any {w:World} {B len ca cb:Nat} {Aa Ab:Option Addr} {s:Sn} (ha:RowsRd w B Aa len s.blocks) (hb:RowsRd w B Ab len s.blocks) (hB:B<=w.heap.size) (hl:len<=1099511627776) :
  Calls Tryz.prog 36 #[.agg (shC s (.slice Aa len ca)).toArray,.agg (shC s (.slice Ab len cb)).toArray] w fun x w'=>ShowOk w w' true x:=by
 obtain⟨G,hG⟩:∃ G,w.heap.size=G:=⟨_,rfl⟩
 obtain⟨C,hC⟩:∃ C,shC s (.slice Aa len ca)=C:=⟨_,rfl⟩
 obtain⟨D,hD⟩:∃ D,shC s (.slice Ab len cb)=D:=⟨_,rfl⟩
 obtain⟨E,hE⟩:∃ E,hdC s=E:=⟨_,rfl⟩
 obtain⟨w1,hw1⟩:∃ w1,(w.alloc (.cells C.toArray tShard)).alloc (.cells D.toArray tShard)=w1:=⟨_,rfl⟩
 have hbk:Below w.heap.size w w1:=by rw[<-hw1];exact ((Below.refl _ _).alloc (Nat.le_refl _) _).alloc (by simp) _
 have hs1:w1.heap.size=G+2:=by rw[<-hw1,<-hG];simp
 have hc:w1.rangeAt G 0 C:=fun j u hu=>by
  have h:=new_cells w C tShard j u hu
  rw[Addr.add_mid,hG] at h
  rw[<-hw1,World.cell?_alloc_lt _ _ _ (by simp;omega)]
  exact h
 have hd:w1.rangeAt (G+1) 0 D:=fun j u hu=>by
  have h:=new_cells (w.alloc (.cells C.toArray tShard)) D tShard j u hu
  rw[Addr.add_mid,show (w.alloc (.cells C.toArray tShard)).heap.size=G+1 by simp[hG],hw1] at h
  exact h
 have hhc:w1.rangeAt G 0 E:=fun j u hu=>hc j u (by rw[<-hC];unfold shC;rw[hE,List.getElem?_append_left (List.getElem?_eq_some_iff.1 hu).1];exact hu)
 have hhd:w1.rangeAt (G+1) 0 E:=fun j u hu=>hd j u (by rw[<-hD];unfold shC;rw[hE,List.getElem?_append_left (List.getElem?_eq_some_iff.1 hu).1];exact hu)
 have c16:w1.cell? ⟨G,16,none⟩=some (.slice Aa len ca):=by
  have h:=hc;rw[<-hC] at h;exact h 16 _ rfl
 have d16:w1.cell? ⟨G+1,16,none⟩=some (.slice Ab len cb):=by
  have h:=hd;rw[<-hD] at h;exact h 16 _ rfl
 have hEi:(Tryz.prog.info? tHead).map (fun i=>i.size)=some E.length:=by rw[<-hE];kernel_rfl
 have HNE:=Hd (fun W=>head_ne W s)
 rw[hE] at HNE
 have HA:=Hd (show RowsRd w1 B Aa len s.blocks from ha.below (hbk.mono hB))
 have HBB:=Hd (show RowsRd w1 B Ab len s.blocks from hb.below (hbk.mono hB))
 have HG:=Hd hG
 have HW1:=Hd hw1
 have HBK:=Hd hbk
 have HS1:=Hd hs1
 have HHC:=Hd hhc
 have HHD:=Hd hhd
 have HEI:=Hd hEi
 have HC16:=Hd c16
 have HD16:=Hd d16
 have hBG:B<=G:=by omega
 rw[hC,hD]
 have HB0:=Hd (Below.refl (G+2) w1)
 clear ha hb hG hC hD hE hw1 hbk hs1 hc hd hhc hhd hEi
 go_enter Tryz.func36,Tryz.ntmps36
 go_upto_region 1 with (fail)
 rw[HW1.out,HG.out]
 go_wp2_with (first | (refine wpList_load_mid rfl tHead (.tmp 6) rfl G 0 rfl E _ HHC.out Tryz.underlying66 rfl HEI.out ?_) | (refine wpList_load_mid rfl tHead (.tmp 8) rfl (G+1) 0 rfl E _ HHD.out Tryz.underlying66 rfl HEI.out ?_) | (refine wpList_neq_by rfl tHead _ (.tmp 7) (.tmp 9) rfl (by kernel_rfl) _ _ _ rfl rfl (HNE.out _) ?_))
 clear c16 d16
 go_loopw [5] (fun iv wr=>∃ i:Nat,iv = .int .i64 (i:Int)/\i<=len/\Below (G+2) w1 wr) (fun iv _=>len - (intOf iv).toNat)
 case atStart=>exact⟨0,rfl,Nat.zero_le _,HB0.out⟩
 case round=>
  obtain⟨i,rfl,hi,hb⟩:=hrel
  have c16:wr.cell? ⟨G,16,none⟩=some (.slice Aa len ca):=(hb.cell (p:=⟨G,16,none⟩) (by show G<G+2;omega)).trans HC16.out
  have d16:wr.cell? ⟨G+1,16,none⟩=some (.slice Ab len cb):=(hb.cell (p:=⟨G+1,16,none⟩) (by show G+1<G+2;omega)).trans HD16.out
  by_cases hil:i<len
  ·have hil2:(i:Int)<(len:Int):=by omega
   obtain⟨ad,Ai,ci,rfl,had,hca,hra⟩:=HA.out.at_ hil
   obtain⟨bd,Bi,di,rfl,hbd,hcb,hrb⟩:=HBB.out.at_ hil
   obtain⟨r,hr⟩:∃ r,s.blocks.getD i []=r:=⟨_,rfl⟩
   rw[hr] at hca hra hcb hrb
   clear hr
   have hca':wr.drew.cell? (ad.add i)=_:=(hb.cell (by rw[add_block];omega)).trans hca
   have hcb':wr.drew.cell? (bd.add i)=_:=(hb.cell (by rw[add_block];omega)).trans hcb
   have c16':wr.drew.cell? ⟨G,16,none⟩=_:=c16
   have d16':wr.drew.cell? ⟨G+1,16,none⟩=_:=d16
   have t1:=run_text (P:=Tryz.prog) wr.drew 79 9 5 Tryz.underlying79 Tryz.underlying5 Tryz.underlying9 ci ((hra.below (hb.mono (by omega))).drew)
   have t2:=run_text (P:=Tryz.prog) wr.drew 79 9 5 Tryz.underlying79 Tryz.underlying5 Tryz.underlying9 di ((hrb.below (hb.mono (by omega))).drew)
   have hi00:(0:Int)<=(i:Int):=by omega
   have HB:=Hd hb
   clear hb hra hrb hca hcb had hbd
   go_upto_region 6 with (fail)
   go_region
   go_wp2
   have hb2:Below (G+2) w1 wr.drew:=HB.out.trans ⟨rfl,rfl,rfl,Nat.le_refl _,fun _ _=>rfl⟩
   have HB2:=Hd hb2
   clear hb2 c16 d16 c16' d16' t1 t2 hca' hcb'
   go_roundw
   case rel=>exact⟨i+1,by go_num,by omega,HB2.out⟩
   case measure=>simp[intOf];omega
  ·obtain rfl:i=len:=by omega
   have HB:=Hd hb
   clear hb
   go_wp2
   go_ret
   exact⟨rfl,HBK.out.trans (HB.out.mono (by rw[HG.out];omega))⟩
end Go.Proofs.YtmgljaecmchgaaaGreat.Gf
namespace Go.Proofs.YtmgljaecmchgaaaGreat.Gf
open Go.RowKit Go.Proofs
theorem wpList_loadg_mid {P:Program} {ops:Array Oper} {rest:List Oper} {op:Oper} {a:Act} {w:World} {Q:Exit->Act->World->Prop} (hgd:Region.wanted op (yielded ops a.tmps)=true) (ty:TypeId) (x:Operand) (ho:op.op = .load ty x)
  (b o:Nat) (hx:a.eval x = .pointer (some ⟨b,o,none⟩)) (cs:List Value) (d:TypeDesc) (hc:w.rangeAt b o cs)
  (hu:P.underlying ty=some d) (hd:d.isRow=true) (hi:(P.info? ty).map (·.size)=some cs.length)
  (h:wpList P ops Q rest (a.put op.dst (.agg cs.toArray)) w):wpList P ops Q (op::rest) a w:=by
 unfold wpList
 rw[if_pos hgd]
 refine .inl ?_
 exact wp_load_mid ty x ho b o hx cs d hc hu hd hi h
theorem shard_range {W:World} {g o:Nat} {s:Sn} {bv:Value} (h:W.rangeAt g o (snC s bv)):W.rangeAt g (o+1) (shC s bv):=fun j u hu=>by
 rw[Nat.add_assoc]
 refine h (1+j) u ?_
 have hj:j<17:=(List.getElem?_eq_some_iff.1 hu).1
 rw[Nat.add_comm 1 j]
 show ((shC s bv)++[.int .i64 s.err])[j]?=some u
 rw[List.getElem?_append_left hj]
 exact hu
set_option maxRecDepth 100000 in
set_option maxHeartbeats 8000000 in
theorem alike_any {w:World} {B len ca cb:Nat} {Aa Ab:Option Addr} {s:Sn} (ha:RowsRd w B Aa len s.blocks) (hb:RowsRd w B Ab len s.blocks) (hB:B<=w.heap.size) (hl:len<=1099511627776) :
  Calls Tryz.prog 21 #[.agg (snC s (.slice Aa len ca)).toArray,.agg (snC s (.slice Ab len cb)).toArray] w fun x w'=>ShowOk w w' true x:=by
 obtain⟨G,hG⟩:∃ G,w.heap.size=G:=⟨_,rfl⟩
 obtain⟨C,hC⟩:∃ C,snC s (.slice Aa len ca)=C:=⟨_,rfl⟩
 obtain⟨D,hD⟩:∃ D,snC s (.slice Ab len cb)=D:=⟨_,rfl⟩
 obtain⟨C2,hC2⟩:∃ C2,shC s (.slice Aa len ca)=C2:=⟨_,rfl⟩
 obtain⟨D2,hD2⟩:∃ D2,shC s (.slice Ab len cb)=D2:=⟨_,rfl⟩
 obtain⟨w1,hw1⟩:∃ w1,(w.alloc (.cells C.toArray tSeen)).alloc (.cells D.toArray tSeen)=w1:=⟨_,rfl⟩
 have hbk:Below w.heap.size w w1:=by rw[<-hw1];exact ((Below.refl _ _).alloc (Nat.le_refl _) _).alloc (by simp) _
 have hs1:w1.heap.size=G+2:=by rw[<-hw1,<-hG];simp
 have hc:w1.rangeAt G 0 (snC s (.slice Aa len ca)):=fun j u hu=>by
  rw[hC] at hu
  have h:=new_cells w C tSeen j u hu
  rw[Addr.add_mid,hG] at h
  rw[<-hw1,World.cell?_alloc_lt _ _ _ (by simp;omega)]
  exact h
 have hd:w1.rangeAt (G+1) 0 (snC s (.slice Ab len cb)):=fun j u hu=>by
  rw[hD] at hu
  have h:=new_cells (w.alloc (.cells C.toArray tSeen)) D tSeen j u hu
  rw[Addr.add_mid,show (w.alloc (.cells C.toArray tSeen)).heap.size=G+1 by simp[hG],hw1] at h
  exact h
 have c0:w1.cell? ⟨G,0,none⟩=some (.int .i64 s.kind):=hc 0 _ rfl
 have c18:w1.cell? ⟨G,18,none⟩=some (.int .i64 s.err):=hc 18 _ rfl
 have d0:w1.cell? ⟨G+1,0,none⟩=some (.int .i64 s.kind):=hd 0 _ rfl
 have d18:w1.cell? ⟨G+1,18,none⟩=some (.int .i64 s.err):=hd 18 _ rfl
 have HRC:=Hd (show w1.rangeAt G 1 C2 by rw[<-hC2];exact shard_range hc)
 have HRD:=Hd (show w1.rangeAt (G+1) 1 D2 by rw[<-hD2];exact shard_range hd)
 have HCI:=Hd (show (Tryz.prog.info? tShard).map (fun i=>i.size)=some C2.length by rw[<-hC2];kernel_rfl)
 have HDI:=Hd (show (Tryz.prog.info? tShard).map (fun i=>i.size)=some D2.length by rw[<-hD2];kernel_rfl)
 have HSH:=Hd (sameSh_any (w:=w1) (s:=s) (ca:=ca) (cb:=cb) (ha.below (hbk.mono hB)) (hb.below (hbk.mono hB)) (by omega) hl)
 rw[hC2,hD2] at HSH
 have HG:=Hd hG
 have HW1:=Hd hw1
 have HBK:=Hd hbk
 rw[hC,hD]
 clear ha hb hG hC hD hC2 hD2 hw1 hbk hs1 hc hd
 go_enter Tryz.func21,Tryz.ntmps21
 go_upto_region 1 with (fail)
 rw[HW1.out,HG.out]
 go_wp2_with (first | (refine wpList_loadg_mid rfl tShard (.tmp 18) rfl G 1 rfl C2 _ HRC.out Tryz.underlying69 rfl HCI.out ?_) | (refine wpList_loadg_mid rfl tShard (.tmp 20) rfl (G+1) 1 rfl D2 _ HRD.out Tryz.underlying69 rfl HDI.out ?_) | (go_at_call 36;refine HSH.out.mono ?_;rintro x w2 ⟨rfl,hb2⟩;have HB2:=Hd hb2;clear hb2))
 go_ret
 exact⟨rfl,HBK.out.trans (HB2.out.mono HBK.out.size)⟩
end Go.Proofs.YtmgljaecmchgaaaGreat.Gf
