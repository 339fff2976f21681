/- XSs1: merged by tools/merge.py. -/
import Derived.Test.YtmgljaecmchgaaaGreatQ39
import Derived.Test.YtmgljaecmchgaaaGreatQ51
import Derived.Test.YtmgljaecmchgaaaGreatQ48
set_option linter.unusedVariables false
set_option linter.unusedSimpArgs false
set_option linter.unusedSectionVars false
namespace Go.Proofs.YtmgljaecmchgaaaGreat.Gf
open Go.RowKit Go.Proofs
theorem exec_neq_by {P:Program} {a:Act} {o:Oper} {w:World} (t t2:TypeId) (x y:Operand) (ho:o.op = .binOp .neq t x y t2) (hgt:P.eqGuardType P.depth t=false)
  (p q:Array Value) (r:Value) (hx:a.eval x = .agg p) (hy:a.eval y = .agg q) (hr:(binOp .neq t (.agg p) (.agg q)).run P w = .ok r w):(execOp a.eval o).run P w = .ok (.value r) w:=by
 have hg:(eqGuard .neq t x y (.agg p) (.agg q)).run P w = .ok () w:=by
  unfold eqGuard
  simp[hgt]
 unfold execOp
 simp only[ho,hx,hy,Sem.run_bind,hg,hr,Result.andThen_ok,Sem.run_pure]
abbrev tShape:TypeId:=24
abbrev tArr:TypeId:=25
def shpC (K M Bk:Int):List Value:=[.int .i64 K,.int .i64 M,.int .i64 Bk]
def arrC (b:List UInt8):List Value:=[.int .u8 (bI b 0),.int .u8 (bI b 1),.int .u8 (bI b 2),.int .u8 (bI b 3),.int .u8 (bI b 4),.int .u8 (bI b 5),.int .u8 (bI b 6),.int .u8 (bI b 7)]
def genC (ep ct:Int):List Value:=[.int .i64 ep,.int .i64 ct]
theorem shp_ne (w:World) (K M Bk:Int):(binOp .neq tShape (.agg (shpC K M Bk).toArray) (.agg (shpC K M Bk).toArray)).run Tryz.prog w = .ok (.bool false) w:=by
 have u3:=Tryz.underlying3
 have a3:=Tryz.isAgg3
 have z3:=Tryz.sizeOf3
 rw[run_neq_struct,show (10000:Nat)=9999+1 from rfl,run_equalIn_agg w 9999 tShape _ _ (by kernel_rfl) (by kernel_rfl)]
 simp only[Program.fieldsOf,Tryz.underlying24,shpC]
 go_simp
theorem genv_ne (w:World) (ep ct:Int):(binOp .neq tGen (.agg (genC ep ct).toArray) (.agg (genC ep ct).toArray)).run Tryz.prog w = .ok (.bool false) w:=by
 have u3:=Tryz.underlying3
 have a3:=Tryz.isAgg3
 have z3:=Tryz.sizeOf3
 rw[run_neq_struct,show (10000:Nat)=9999+1 from rfl,run_equalIn_agg w 9999 tGen _ _ (by kernel_rfl) (by kernel_rfl)]
 simp only[Program.fieldsOf,Tryz.underlying27,genC]
 go_simp
theorem arr_ne (w:World) (b:List UInt8):(binOp .neq tArr (.agg (arrC b).toArray) (.agg (arrC b).toArray)).run Tryz.prog w = .ok (.bool false) w:=by
 have h:=run_equalIn_bytes (P:=Tryz.prog) w 9998 tArr Dr.tU8 8 Tryz.underlying25 Tryz.underlying5 (fun _=>by kernel_rfl) [b.getD 0 0,b.getD 1 0,b.getD 2 0,b.getD 3 0,b.getD 4 0,b.getD 5 0,b.getD 6 0,b.getD 7 0] [b.getD 0 0,b.getD 1 0,b.getD 2 0,b.getD 3 0,b.getD 4 0,b.getD 5 0,b.getD 6 0,b.getD 7 0] rfl rfl
 rw[beq_self_eq_true] at h
 have h2:(Op.equalIn 10000 tArr (.agg (arrC b).toArray) (.agg (arrC b).toArray)).run Tryz.prog w = .ok true w:=h
 rw[run_neq_struct,h2]
 rfl
set_option maxRecDepth 100000 in
set_option maxHeartbeats 16000000 in
theorem sameSet_any {w:World} {fs:Nat->List (Dr.Bs×Dr.Bs)} {o:Nat->Option (Dr.D×Gt)} {n p q:Nat} {K M Bk:Int} {b:List UInt8} {ep ct:Int} {vd vw vm:Value} (h:SetsAt w fs o n p q K M Bk b ep ct vd vw vm) (hn:n<=1048576) (hfs:∀ j,(fs j).length<=1048576)
  (hdn:∀ j Dg,o j=some Dg->Dg.2.down=false) :
  Calls Tryz.prog 11 #[.agg #[vd,vw,vm,.pointer (some ⟨p,0,none⟩),.pointer (some ⟨q,0,none⟩)]] w fun x w'=>x = .returned (.bool true)/\Below w.heap.size w w':=by
 obtain⟨V,G,d,e,f,hrows⟩:=h.rows
 obtain⟨Ad,cd,rfl,_,_⟩:=own_form hrows.rd
 obtain⟨Aw,cw,rfl,_,_⟩:=own_form hrows.rw_
 obtain⟨Am,cm,rfl,_,_⟩:=own_form hrows.rm
 obtain⟨B,hB⟩:∃ B,w.heap.size=B:=⟨_,rfl⟩
 obtain⟨w0,hw0⟩:∃ w0,w.alloc (.cells #[.slice Ad n cd,.slice Aw n cw,.slice Am n cm,.pointer (some ⟨p,0,none⟩),.pointer (some ⟨q,0,none⟩)] tSets)=w0:=⟨_,rfl⟩
 have hb0:Below w.heap.size w w0:=by rw[<-hw0];exact (Below.refl _ _).alloc (Nat.le_refl _) _
 have hs0:w0.heap.size=B+1:=by rw[<-hw0,<-hB];simp
 have hB0:w0.heap[B]?=some (.cells #[.slice Ad n cd,.slice Aw n cw,.slice Am n cm,.pointer (some ⟨p,0,none⟩),.pointer (some ⟨q,0,none⟩)] tSets (0,0)):=by
  rw[<-hw0,<-hB]
  exact heap_alloc_last w _
 obtain⟨_,hp,hq⟩:=h.below hb0
 have hsh:(Tryz.prog.info? tShape).map (fun i=>i.size)=some (shpC K M Bk).length:=by kernel_rfl
 have har:(Tryz.prog.info? tArr).map (fun i=>i.size)=some (arrC b).length:=by kernel_rfl
 have hge:(Tryz.prog.info? tGen).map (fun i=>i.size)=some (genC ep ct).length:=by kernel_rfl
 obtain⟨SH,hSH⟩:∃ SH,shpC K M Bk=SH:=⟨_,rfl⟩
 obtain⟨AR,hAR⟩:∃ AR,arrC b=AR:=⟨_,rfl⟩
 obtain⟨GE,hGE⟩:∃ GE,genC ep ct=GE:=⟨_,rfl⟩
 have hrg:∀ (x:Nat) (v:Value) (t:TypeId),w0.heap[x]?=some (.cells (setC v K M Bk b ep ct).toArray t (0,0))->w0.cell? ⟨x,0,none⟩=some v/\w0.rangeAt x 1 SH/\w0.rangeAt x 4 AR/\w0.rangeAt x 12 GE:=by
  intro x v t hx
  refine⟨by rw[cell_of_row _ _ _ _ _ _ hx];rfl,fun j u hu=>?_,fun j u hu=>?_,fun j u hu=>?_⟩<;>rw[cell_of_row _ _ _ _ _ _ hx]
  ·rw[<-hSH] at hu
   have hj:j<3:=(List.getElem?_eq_some_iff.1 hu).1
   match j,hj with
   | 0,_=>exact hu
   | 1,_=>exact hu
   | 2,_=>exact hu
  ·rw[<-hAR] at hu
   have hj:j<8:=(List.getElem?_eq_some_iff.1 hu).1
   match j,hj with
   | 0,_=>exact hu
   | 1,_=>exact hu
   | 2,_=>exact hu
   | 3,_=>exact hu
   | 4,_=>exact hu
   | 5,_=>exact hu
   | 6,_=>exact hu
   | 7,_=>exact hu
  ·rw[<-hGE] at hu
   have hj:j<2:=(List.getElem?_eq_some_iff.1 hu).1
   match j,hj with
   | 0,_=>exact hu
   | 1,_=>exact hu
 obtain⟨p0,p1,p4,p12⟩:=hrg p _ _ hp
 obtain⟨_,q1,q4,q12⟩:=hrg q _ _ hq
 have hbx:∀ j,w0.cell? ⟨B,j,none⟩=(#[.slice Ad n cd,.slice Aw n cw,.slice Am n cm,.pointer (some ⟨p,0,none⟩),.pointer (some ⟨q,0,none⟩)]:Array Value)[j]?:=fun j=>cell_of_row _ _ _ _ _ _ hB0
 have HBX:=Hd hbx
 have HSX:=Hd (show w0.cell? ⟨B,1,none⟩=some (.slice Aw n cw)/\w0.cell? ⟨B,3,none⟩=some (.pointer (some ⟨p,0,none⟩))/\w0.cell? ⟨B,4,none⟩=some (.pointer (some ⟨q,0,none⟩))/\w0.cell? ⟨p,0,none⟩=some (.slice Ad n cd)/\w0.rangeAt p 1 SH/\w0.rangeAt p 4 AR/\w0.rangeAt p 12 GE/\w0.rangeAt q 1 SH/\w0.rangeAt q 4 AR/\w0.rangeAt q 12 GE from⟨hbx 1,hbx 3,hbx 4,p0,p1,p4,p12,q1,q4,q12⟩)
 have HNS:=Hd (fun w=>(by rw[<-hSH];exact shp_ne w K M Bk:(binOp .neq tShape (.agg SH.toArray) (.agg SH.toArray)).run Tryz.prog w = .ok (.bool false) w))
 have HNA:=Hd (fun w=>(by rw[<-hAR];exact arr_ne w b:(binOp .neq tArr (.agg AR.toArray) (.agg AR.toArray)).run Tryz.prog w = .ok (.bool false) w))
 have HNG:=Hd (fun w=>(by rw[<-hGE];exact genv_ne w ep ct:(binOp .neq tGen (.agg GE.toArray) (.agg GE.toArray)).run Tryz.prog w = .ok (.bool false) w))
 rw[hSH] at hsh
 rw[hAR] at har
 rw[hGE] at hge
 have HSI:=Hd hsh
 have HAI:=Hd har
 have HGI:=Hd hge
 have HH:=Hd (hrows.below hb0)
 have HB:=Hd hB
 have HW0:=Hd hw0
 have HBB:=Hd hb0
 have HS0:=Hd hs0
 have HPL:=Hd (show p<w0.heap.size/\B<w0.heap.size from⟨(Array.getElem?_eq_some_iff.1 hp).1,(Array.getElem?_eq_some_iff.1 hB0).1⟩)
 have HFS:=Hd hfs
 have HDN:=Hd hdn
 clear h hrows hB hw0 hb0 hs0 hB0 hp hq hrg p0 p1 p4 p12 q1 q4 q12 hbx hfs hdn hsh har hge hSH hAR hGE
 go_enter Tryz.func11,Tryz.ntmps11
 go_upto_region 1 with (fail)
 rw[HW0.out,HB.out]
 refine wp_region_any (by kernel_rfl) ?_
 change wpAny _ _ _ _ _ _ _ (World.drew _)
 refine wpAny_of_P (S:=fun wx=>wx.cell? ⟨B,1,none⟩=some (.slice Aw n cw)/\wx.cell? ⟨B,3,none⟩=some (.pointer (some ⟨p,0,none⟩))/\wx.cell? ⟨B,4,none⟩=some (.pointer (some ⟨q,0,none⟩))/\wx.cell? ⟨p,0,none⟩=some (.slice Ad n cd)/\wx.rangeAt p 1 SH/\wx.rangeAt p 4 AR/\wx.rangeAt p 12 GE/\wx.rangeAt q 1 SH/\wx.rangeAt q 4 AR/\wx.rangeAt q 12 GE) (late:=[49]) _ _ _ _ ?_
 refine tT 0 HSX.out ?_
 try go_frame
 refine tP 8 1 rfl HSX.out (fun w hw=>by obtain⟨k1,k3,k4,k0,_,_,_,_,_,_⟩:=hw;go_simp;try with_reducible rfl) ?_
 try go_frame
 refine tT 2 HSX.out ?_
 try go_frame
 refine tT 3 HSX.out ?_
 try go_frame
 refine tP 8 4 rfl HSX.out (fun w hw=>by obtain⟨_,_,_,_,k,_,_,_,_,_⟩:=hw;refine Eq.trans (exec_load_mid tShape (.tmp 7) (by rfl) p 1 (by rfl) SH _ k Tryz.underlying24 rfl HSI.out) ?_;with_reducible rfl) ?_
 try go_frame
 refine tT 5 HSX.out ?_
 try go_frame
 refine tP 8 6 rfl HSX.out (fun w hw=>by obtain⟨k1,k3,k4,k0,_,_,_,_,_,_⟩:=hw;go_simp;try with_reducible rfl) ?_
 try go_frame
 refine tT 7 HSX.out ?_
 try go_frame
 refine tT 8 HSX.out ?_
 try go_frame
 refine tP 8 9 rfl HSX.out (fun w hw=>by obtain⟨_,_,_,_,_,_,_,k,_,_⟩:=hw;refine Eq.trans (exec_load_mid tShape (.tmp 12) (by rfl) q 1 (by rfl) SH _ k Tryz.underlying24 rfl HSI.out) ?_;with_reducible rfl) ?_
 try go_frame
 refine takeT (i:=10) (v:=?_) rfl (by kernel_rfl) (by kernel_rfl) (by kernel_rfl) (by kernel_rfl) (fun _ _ _ h=>h) (HSX.out) (.inl ⟨by rfl,fun w=>.inl ?hy10⟩) ?_;case hy10=>(refine Eq.trans (exec_neq_by tShape tShape (.tmp 8) (.tmp 13) (by rfl) (by kernel_rfl) SH.toArray SH.toArray _ (by rfl) (by rfl) (HNS.out w)) ?_;with_reducible rfl)
 try go_frame
 refine tT 11 HSX.out ?_
 try go_frame
 refine tT 12 HSX.out ?_
 try go_frame
 refine tP 8 13 rfl HSX.out (fun w hw=>by obtain⟨k1,k3,k4,k0,_,_,_,_,_,_⟩:=hw;go_simp;try with_reducible rfl) ?_
 try go_frame
 refine tT 14 HSX.out ?_
 try go_frame
 refine tT 15 HSX.out ?_
 try go_frame
 refine tP 8 16 rfl HSX.out (fun w hw=>by obtain⟨_,_,_,_,_,k,_,_,_,_⟩:=hw;refine Eq.trans (exec_load_mid tArr (.tmp 19) (by rfl) p 4 (by rfl) AR _ k Tryz.underlying25 rfl HAI.out) ?_;with_reducible rfl) ?_
 try go_frame
 refine tT 17 HSX.out ?_
 try go_frame
 refine tP 8 18 rfl HSX.out (fun w hw=>by obtain⟨k1,k3,k4,k0,_,_,_,_,_,_⟩:=hw;go_simp;try with_reducible rfl) ?_
 try go_frame
 refine tT 19 HSX.out ?_
 try go_frame
 refine tT 20 HSX.out ?_
 try go_frame
 refine tP 8 21 rfl HSX.out (fun w hw=>by obtain⟨_,_,_,_,_,_,_,_,k,_⟩:=hw;refine Eq.trans (exec_load_mid tArr (.tmp 24) (by rfl) q 4 (by rfl) AR _ k Tryz.underlying25 rfl HAI.out) ?_;with_reducible rfl) ?_
 try go_frame
 refine takeT (i:=22) (v:=?_) rfl (by kernel_rfl) (by kernel_rfl) (by kernel_rfl) (by kernel_rfl) (fun _ _ _ h=>h) (HSX.out) (.inl ⟨by rfl,fun w=>.inl ?hy22⟩) ?_;case hy22=>(refine Eq.trans (exec_neq_by tArr tArr (.tmp 20) (.tmp 25) (by rfl) (by kernel_rfl) AR.toArray AR.toArray _ (by rfl) (by rfl) (HNA.out w)) ?_;with_reducible rfl)
 try go_frame
 refine tT 23 HSX.out ?_
 try go_frame
 refine tT 24 HSX.out ?_
 try go_frame
 refine tT 25 HSX.out ?_
 try go_frame
 refine tP 8 26 rfl HSX.out (fun w hw=>by obtain⟨k1,k3,k4,k0,_,_,_,_,_,_⟩:=hw;go_simp;try with_reducible rfl) ?_
 try go_frame
 refine tT 27 HSX.out ?_
 try go_frame
 refine tT 28 HSX.out ?_
 try go_frame
 refine tP 8 29 rfl HSX.out (fun w hw=>by obtain⟨_,_,_,_,_,_,k,_,_,_⟩:=hw;refine Eq.trans (exec_load_mid tGen (.tmp 32) (by rfl) p 12 (by rfl) GE _ k Tryz.underlying27 rfl HGI.out) ?_;with_reducible rfl) ?_
 try go_frame
 refine tT 30 HSX.out ?_
 try go_frame
 refine tP 8 31 rfl HSX.out (fun w hw=>by obtain⟨k1,k3,k4,k0,_,_,_,_,_,_⟩:=hw;go_simp;try with_reducible rfl) ?_
 try go_frame
 refine tT 32 HSX.out ?_
 try go_frame
 refine tT 33 HSX.out ?_
 try go_frame
 refine tP 8 34 rfl HSX.out (fun w hw=>by obtain⟨_,_,_,_,_,_,_,_,_,k⟩:=hw;refine Eq.trans (exec_load_mid tGen (.tmp 37) (by rfl) q 12 (by rfl) GE _ k Tryz.underlying27 rfl HGI.out) ?_;with_reducible rfl) ?_
 try go_frame
 refine takeT (i:=35) (v:=?_) rfl (by kernel_rfl) (by kernel_rfl) (by kernel_rfl) (by kernel_rfl) (fun _ _ _ h=>h) (HSX.out) (.inl ⟨by rfl,fun w=>.inl ?hy35⟩) ?_;case hy35=>(refine Eq.trans (exec_neq_by tGen tGen (.tmp 33) (.tmp 38) (by rfl) (by kernel_rfl) GE.toArray GE.toArray _ (by rfl) (by rfl) (HNG.out w)) ?_;with_reducible rfl)
 try go_frame
 refine tT 36 HSX.out ?_
 try go_frame
 refine tT 37 HSX.out ?_
 try go_frame
 refine tT 38 HSX.out ?_
 try go_frame
 refine tP 8 39 rfl HSX.out (fun w hw=>by obtain⟨k1,k3,k4,k0,_,_,_,_,_,_⟩:=hw;go_simp;try with_reducible rfl) ?_
 try go_frame
 refine tT 40 HSX.out ?_
 try go_frame
 refine tT 41 HSX.out ?_
 try go_frame
 refine tP 8 42 rfl HSX.out (fun w hw=>by obtain⟨k1,k3,k4,k0,_,_,_,_,_,_⟩:=hw;go_simp;try with_reducible rfl) ?_
 try go_frame
 refine tT 43 HSX.out ?_
 try go_frame
 refine tT 44 HSX.out ?_
 try go_frame
 refine tT 45 HSX.out ?_
 try go_frame
 refine tP 8 46 rfl HSX.out (fun w hw=>by obtain⟨k1,k3,k4,k0,_,_,_,_,_,_⟩:=hw;go_simp;try with_reducible rfl) ?_
 try go_frame
 refine tT 47 HSX.out ?_
 try go_frame
 refine tT 48 HSX.out ?_
 try go_frame
 refine lP 49 fun K hK=>?_
 go_simp
 refine hK _ _ ?_;clear hK K
 try go_frame
 refine wpAny_done (by kernel_rfl) ?_ _
 go_upto_region 4 with (fail)
 have HB1:=Hd (drewB w0)
 go_loopw [3] (fun iv wr=>∃ i:Nat,iv = .int .i64 (i:Int)/\i<=n/\Below w0.heap.size w0 wr) (fun iv _=>n - (intOf iv).toNat)
 case atStart=>exact⟨0,rfl,by omega,HB1.out⟩
 case round=>
  obtain⟨i,rfl,hin,hb⟩:=hrel
  have HBR:=Hd hb
  obtain⟨s1,s3,s4,s0,_⟩:=HSX.out
  have x1:wr.cell? ⟨B,1,none⟩=some (.slice Aw n cw):=(hb.cell (p:=⟨B,1,none⟩) HPL.out.2).trans s1
  have x3:wr.cell? ⟨B,3,none⟩=some (.pointer (some ⟨p,0,none⟩)):=(hb.cell (p:=⟨B,3,none⟩) HPL.out.2).trans s3
  have z0:wr.cell? ⟨p,0,none⟩=some (.slice Ad n cd):=(hb.cell (p:=⟨p,0,none⟩) HPL.out.1).trans s0
  clear s1 s3 s4 s0
  by_cases hi:i<n
  ·have hr:=HH.out.below hb
   obtain⟨gd,rfl⟩:=Dr.own_some hr.rd (by omega)
   obtain⟨gw,rfl⟩:=Dr.own_some hr.rw_ (by omega)
   have kd:=row_at hr.rd hi
   have kw:=row_at hr.rw_ hi
   have hin2:(i:Int)<(n:Int):=by omega
   have hi00:(0:Int)<=(i:Int):=by omega
   have hmd:=hr.made i hi
   have HBD:=Hd (hb.trans ((drewB wr).mono hb.size))
   clear hb hr
   cases ho:o i with
   | none=>
    rw[ho] at hmd
    obtain⟨e1,e2,_⟩:=hmd
    rw[e1] at kd
    rw[e2] at kw
    clear e1 e2 ho
    go_upto_region 6 with (fail)
    go_region
    go_wp2
    go_roundw
    case rel=>exact⟨i+1,by go_num,by omega,HBD.out⟩
    case measure=>simp[intOf];omega
   | some Dg=>
    obtain⟨D,g⟩:=Dg
    rw[ho] at hmd
    obtain⟨S,p',dd,q',r,e1,e2,_⟩:=hmd
    rw[e1] at kd
    rw[e2] at kw
    clear e1 e2 ho
    go_upto_region 6 with (fail)
    go_region
    go_wp2
    go_roundw
    case rel=>exact⟨i+1,by go_num,by omega,HBD.out⟩
    case measure=>simp[intOf];omega
  ·obtain rfl:i=n:=by omega
   have x0:wr.cell? ⟨B,0,none⟩=some (.slice Ad i cd):=(hb.cell (p:=⟨B,0,none⟩) HPL.out.2).trans (HBX.out 0)
   have x2:wr.cell? ⟨B,2,none⟩=some (.slice Am i cm):=(hb.cell (p:=⟨B,2,none⟩) HPL.out.2).trans (HBX.out 2)
   have HR:=Hd (HH.out.below hb)
   clear hb
   go_wp2_with (go_at_call 22;refine (same_any HR.out hn HFS.out HDN.out).mono ?_;rintro x w9 ⟨rfl,hb9⟩;have HB9:=Hd hb9;clear hb9)
   go_ret
   exact⟨rfl,HBB.out.trans ((HBR.out.trans (HB9.out.mono HBR.out.size)).mono HBB.out.size)⟩
end Go.Proofs.YtmgljaecmchgaaaGreat.Gf
