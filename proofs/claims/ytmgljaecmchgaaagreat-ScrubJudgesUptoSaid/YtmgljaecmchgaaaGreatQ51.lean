/- XSm1: merged by tools/merge.py. -/
import Derived.Test.YtmgljaecmchgaaaGreatQ50
import Derived.Test.YtmgljaecmchgaaaGreatQ07
import Derived.Test.YtmgljaecmchgaaaGreatQ38
import Derived.WalkMore
set_option linter.unusedVariables false
set_option linter.unusedSimpArgs false
set_option linter.unusedSectionVars false
namespace Go.Proofs.YtmgljaecmchgaaaGreat.Gf
open Go.RowKit Go.Proofs
section
variable {w:World} {S:Nat->Prop} {p dd q r m N:Nat} {D:Dr.D} {g:Gt}
theorem two_cells (h:Two w S p dd q r D m N g):w.cell? ⟨p,0,none⟩=some (.pointer (some ⟨dd,0,none⟩))/\w.cell? ⟨q,0,none⟩=some (.pointer (some ⟨r,0,none⟩)):=by
 obtain⟨_,_,_,_,h1,_⟩:=h.wd.own
 obtain⟨_,_,_,h2,_⟩:=h.dk.own
 exact⟨by rw[cell_of_row _ _ _ _ _ _ h1];rfl,by rw[cell_of_row _ _ _ _ _ _ h2];rfl⟩
theorem image_w (h:Two w S p dd q r D 1048576 N g) (hN:N<=1048576) {nl:Nat} (hn:D.image.length=nl):Calls Tryz.prog 39 #[.pointer (some ⟨dd,0,none⟩)] w fun x w'=>∃ A c,x = .returned (.slice A nl c)/\Dr.FilesRd w' A nl D.image/\Below w.heap.size w w':=by
 obtain⟨S1,h1,_⟩:=h.dv
 refine (Dr.image_any h1 (by omega) (by omega)).mono ?_
 rintro x w' ⟨v,dv,rfl,hf,hb⟩
 obtain⟨A,c,rfl,_,_⟩:=own_form hf.row
 rw[hn] at hf ⊢
 exact⟨A,c,rfl,hf.rd hn,hb⟩
theorem safe_w (h:Two w S p dd q r D 1048576 N g) (hN:N<=1048576) {nl:Nat} (hn:D.safe.length=nl):Calls Tryz.prog 40 #[.pointer (some ⟨dd,0,none⟩)] w fun x w'=>∃ A c,x = .returned (.slice A nl c)/\Dr.FilesRd w' A nl D.safe/\Below w.heap.size w w':=by
 obtain⟨S1,h1,_⟩:=h.dv
 refine (Dr.safe_any h1 (by omega) (by omega)).mono ?_
 rintro x w' ⟨v,dv,rfl,hf,hb⟩
 obtain⟨A,c,rfl,_,_⟩:=own_form hf.row
 rw[hn] at hf ⊢
 exact⟨A,c,rfl,hf.rd hn,hb⟩
theorem rimage_w (h:Two w S p dd q r D 1048576 N g) (hN:N<=1048576) {nl:Nat} (hn:D.image.length=nl):Calls Tryz.prog 37 #[.pointer (some ⟨r,0,none⟩)] w fun x w'=>∃ A c,x = .returned (.slice A nl c)/\Dr.FilesRd w' A nl D.image/\Below w.heap.size w w':=by
 obtain⟨S1,h1,_⟩:=h.rv
 refine (Dr.rimage_any h1 (by omega) (by omega) rfl hn).mono ?_
 rintro x w' ⟨A,c,dv,rfl,hf,hb⟩
 exact⟨A,c,rfl,hf.rd hn,hb⟩
theorem rsafe_w (h:Two w S p dd q r D 1048576 N g) (hN:N<=1048576) {nl:Nat} (hn:D.safe.length=nl):Calls Tryz.prog 41 #[.pointer (some ⟨r,0,none⟩)] w fun x w'=>∃ A c,x = .returned (.slice A nl c)/\Dr.FilesRd w' A nl D.safe/\Below w.heap.size w w':=by
 obtain⟨S1,h1,_⟩:=h.rv
 refine (Dr.rsafe_any h1 (by omega) (by omega) rfl hn).mono ?_
 rintro x w' ⟨A,c,dv,rfl,hf,hb⟩
 exact⟨A,c,rfl,hf.rd hn,hb⟩
theorem pending_w (h:Two w S p dd q r D m N g):Calls Tryz.prog 42 #[.pointer (some ⟨dd,0,none⟩)] w fun x w'=>x = .returned (.int .i64 (D.pend.length:Int))/\w=w':=by
 obtain⟨S1,h1,_⟩:=h.dv
 exact Dr.pending_any h1
theorem rpending_w (h:Two w S p dd q r D m N g):Calls Tryz.prog 43 #[.pointer (some ⟨r,0,none⟩)] w fun x w'=>x = .returned (.int .i64 (D.pend.length:Int))/\w=w':=by
 obtain⟨S1,h1,_⟩:=h.rv
 exact Dr.rpending_any h1
theorem loose_w (h:Two w S p dd q r D 1048576 N g) (n:Dr.Bs) {a b:Int} (hv:Dr.looseV D n = .tuple #[.int .i64 a,.int .i64 b]):Calls Tryz.prog 48 #[.pointer (some ⟨dd,0,none⟩),encStr n] w fun x w'=>x = .returned (.tuple #[.int .i64 a,.int .i64 b])/\Below w.heap.size w w':=by
 obtain⟨S1,h1,_⟩:=h.dv
 rw[<-hv]
 exact Dr.loose_any h1 (by omega) n
theorem rloose_w (h:Two w S p dd q r D 1048576 N g) (n:Dr.Bs) {a b:Int} (hv:Dr.looseV D n = .tuple #[.int .i64 a,.int .i64 b]):Calls Tryz.prog 49 #[.pointer (some ⟨r,0,none⟩),encStr n] w fun x w'=>x = .returned (.tuple #[.int .i64 a,.int .i64 b])/\Below w.heap.size w w':=by
 obtain⟨S1,h1,_⟩:=h.rv
 rw[<-hv]
 unfold Dr.looseV
 cases hl:D.look n with
 | ok i=>exact Dr.rloose_ok h1 hl (by omega)
 | error e=>
  refine (Dr.rloose_no h1 hl).mono ?_
  rintro x w' ⟨rfl,rfl⟩
  exact⟨rfl,Below.refl _ _⟩
theorem looseV_two (D:Dr.D) (n:Dr.Bs):∃ a b:Int,Dr.looseV D n = .tuple #[.int .i64 a,.int .i64 b]:=by
 unfold Dr.looseV
 cases D.look n with
 | ok i=>exact⟨_,_,rfl⟩
 | error e=>exact⟨_,_,rfl⟩
theorem row_at {V G n c i:Nat} {t:TypeId} {xs:List Value} (h:w.ownsRow V t 1 (.slice (some ⟨G,0,none⟩) n c) n xs) (hi:i<n):w.cell? ⟨G,i,none⟩=some (xs.getD i undef):=by
 have hl:xs.length=n:=by have:=h.1;omega
 refine Dr.own_cellS h ?_
 rw[List.getD_eq_getElem?_getD,List.getElem?_eq_getElem (by omega)]
 rfl
theorem drewB (w:World):Below w.heap.size w (World.drew w):=⟨rfl,rfl,rfl,Nat.le_refl _,fun _ _=>rfl⟩
end
set_option maxRecDepth 100000 in
set_option maxHeartbeats 16000000 in
theorem same_any {w:World} {V G n:Nat} {fs:Nat->List (Dr.Bs×Dr.Bs)} {o:Nat->Option (Dr.D×Gt)} {vd vw vm:Value} {d e f:List Value} (h:RowsOf w V G fs o n vd vw vm d e f) (hn:n<=1048576) (hfs:∀ j,(fs j).length<=1048576)
  (hdn:∀ j Dg,o j=some Dg->Dg.2.down=false) :
  Calls Tryz.prog 22 #[.agg #[vd,vw,vm]] w fun x w'=>x = .returned (.bool true)/\Below w.heap.size w w':=by
 obtain⟨Ad,cd,rfl,_,_⟩:=own_form h.rd
 obtain⟨Aw,cw,rfl,_,_⟩:=own_form h.rw_
 obtain⟨Am,cm,rfl,_,_⟩:=own_form h.rm
 obtain⟨B,hB⟩:∃ B,w.heap.size=B:=⟨_,rfl⟩
 obtain⟨w0,hw0⟩:∃ w0,w.alloc (.cells #[.slice Ad n cd,.slice Aw n cw,.slice Am n cm] tBoth)=w0:=⟨_,rfl⟩
 have hb0:Below w.heap.size w w0:=by rw[<-hw0];exact (Below.refl _ _).alloc (Nat.le_refl _) _
 have hs0:w0.heap.size=B+1:=by rw[<-hw0,<-hB];simp
 have hB0:w0.heap[B]?=some (.cells #[.slice Ad n cd,.slice Aw n cw,.slice Am n cm] tBoth (0,0)):=by
  rw[<-hw0,<-hB]
  exact heap_alloc_last w _
 have HH:=Hd (h.below hb0)
 have HB:=Hd hB
 have HW0:=Hd hw0
 have HBB:=Hd hb0
 have HS0:=Hd hs0
 have HB0:=Hd hB0
 have HFS:=Hd hfs
 have HDN:=Hd hdn
 clear h hB hw0 hb0 hs0 hB0 hfs hdn
 go_enter Tryz.func22,Tryz.ntmps22
 go_upto_region 2 with (fail)
 rw[HW0.out,HB.out]
 go_loopw [3] (fun iv wr=>∃ i:Nat,iv = .int .i64 (i:Int)/\i<=n/\Below w0.heap.size w0 wr) (fun iv _=>n - (intOf iv).toNat)
 case atStart=>exact⟨0,rfl,by omega,Below.refl _ _⟩
 case round=>
  obtain⟨i,rfl,hin,hb⟩:=hrel
  have hbx:wr.heap[B]?=some (.cells #[.slice Ad n cd,.slice Aw n cw,.slice Am n cm] tBoth (0,0)):=(hb.block B (by rw[HS0.out];exact Nat.lt_succ_self B)).trans HB0.out
  have x1:wr.cell? ⟨B,1,none⟩=some (.slice Aw n cw):=by rw[cell_of_row _ _ _ _ _ _ hbx];rfl
  have x2:wr.cell? ⟨B,2,none⟩=some (.slice Am n cm):=by rw[cell_of_row _ _ _ _ _ _ hbx];rfl
  have HBR:=Hd hb
  by_cases hi:i<n
  ·have hr:=HH.out.below hb
   obtain⟨gw,rfl⟩:=Dr.own_some hr.rw_ (by omega)
   obtain⟨gm,rfl⟩:=Dr.own_some hr.rm (by omega)
   have kw:=row_at hr.rw_ hi
   have km:=row_at hr.rm hi
   have hin2:(i:Int)<(n:Int):=by omega
   have hi00:(0:Int)<=(i:Int):=by omega
   have hmd:=hr.made i hi
   clear hb hbx hr
   cases ho:o i with
   | none=>
    rw[ho] at hmd
    obtain⟨_,e2,_⟩:=hmd
    rw[e2] at kw
    clear e2 ho
    go_wp2
    go_roundw
    case rel=>exact⟨i+1,by go_num,by omega,HBR.out⟩
    case measure=>simp[intOf];omega
   | some Dg=>
    obtain⟨D,g⟩:=Dg
    have hdn:=HDN.out i _ ho
    rw[ho] at hmd
    obtain⟨S,p,dd,q,r,_,e2,e3,htw,_⟩:=hmd
    rw[e2] at kw
    rw[e3] at km
    have hN:=HFS.out i
    obtain⟨N,hNe⟩:∃ N,(fs i).length=N:=⟨_,rfl⟩
    rw[hNe] at htw hN
    obtain⟨z0,y0⟩:=two_cells htw
    obtain⟨nl,hnl⟩:∃ nl,D.image.length=nl:=⟨_,rfl⟩
    obtain⟨ns,hns⟩:∃ ns,D.safe.length=ns:=⟨_,rfl⟩
    obtain⟨np,hnp⟩:∃ np:Nat,D.pend.length=np:=⟨_,rfl⟩
    obtain⟨st,hst⟩:∃ st,g.struck=st:=⟨_,rfl⟩
    have hnlN:nl<=1048576:=by
     obtain⟨S1,h1,_⟩:=htw.dv
     have h2:=h1.1.lenN
     have h3:D.image.length=D.now.length:=Dr.files_len
     omega
    have hnsN:ns<=1048576:=by
     obtain⟨S1,h1,_⟩:=htw.dv
     have h2:=h1.1.lenK
     have h3:D.safe.length=D.kept.length:=Dr.files_len
     omega
    have HT0:=Hd htw
    have HNL:=Hd hnl
    have HNS:=Hd hns
    have HNP:=Hd hnp
    have HST:=Hd hst
    have HDW:=Hd hdn
    clear htw hnl hns hnp hst hdn e2 e3 ho hNe
    go_upto_region 8 with (go_at_call 37;refine (rimage_w HT0.out hN HNL.out).mono ?_;rintro x w1 ⟨A1,c1,rfl,hf1,hb1⟩;have HF1:=Hd (hf1.below (drewB w1));have HT1:=Hd ((HT0.out.below hb1).below (drewB w1));have HB1:=Hd ((HBR.out.trans (hb1.mono HBR.out.size)).trans ((drewB w1).mono (Nat.le_trans HBR.out.size hb1.size)));have HS1:=Hd (two_cells ((HT0.out.below hb1).below (drewB w1)));clear hf1 hb1)
    clear x1 x2 kw km z0 y0
    refine wp_region_any (by kernel_rfl) ?_
    change wpAny _ _ _ _ _ _ _ (World.drew _)
    refine wpAny_of_P (S:=fun wx=>wx.cell? ⟨p,0,none⟩=some (.pointer (some ⟨dd,0,none⟩))/\wx.cell? ⟨q,0,none⟩=some (.pointer (some ⟨r,0,none⟩))) (late:=[32]) _ _ _ _ ?_
    refine tT 0 HS1.out ?_
    try go_frame
    refine tT 1 HS1.out ?_
    try go_frame
    refine tT 2 HS1.out ?_
    try go_frame
    refine tP 8 3 rfl HS1.out (fun w hw=>by obtain⟨k1,k2⟩:=hw;go_simp;try with_reducible rfl) ?_
    try go_frame
    refine tT 5 HS1.out ?_
    try go_frame
    refine fP 4 fun K hK=>?_
    go_simp
    refine (image_w HT1.out hN HNL.out).mono ?_;rintro x w2 ⟨A2,c2,rfl,hf,hb⟩;have HF2:=Hd hf;clear hf;have HT2:=Hd (HT1.out.below hb);have HB2:=Hd (HB1.out.trans (hb.mono HB1.out.size));have HS2:=Hd (two_cells (HT1.out.below hb));have HF1x:=Hd (HF1.out.below hb);clear HF1;have HF1:=HF1x;clear HF1x;clear hb
    refine hK _ _ (HS2.out) ?_;clear hK K
    try go_frame
    refine fP 6 fun K hK=>?_
    go_simp
    refine (Dr.sameFiles_any HF2.out HF1.out (by omega)).mono ?_;rintro x w3 ⟨rfl,hb⟩;have HT3:=Hd (HT2.out.below hb);have HB3:=Hd (HB2.out.trans (hb.mono HB2.out.size));have HS3:=Hd (two_cells (HT2.out.below hb));have HF1x:=Hd (HF1.out.below hb);clear HF1;have HF1:=HF1x;clear HF1x;clear hb
    refine hK _ _ (HS3.out) ?_;clear hK K
    try go_frame
    refine tT 7 HS3.out ?_
    try go_frame
    refine tT 8 HS3.out ?_
    try go_frame
    refine tT 9 HS3.out ?_
    try go_frame
    refine tT 10 HS3.out ?_
    try go_frame
    refine tT 11 HS3.out ?_
    try go_frame
    refine tP 8 12 rfl HS3.out (fun w hw=>by obtain⟨k1,k2⟩:=hw;go_simp;try with_reducible rfl) ?_
    try go_frame
    refine tT 14 HS3.out ?_
    try go_frame
    refine tT 15 HS3.out ?_
    try go_frame
    refine tT 16 HS3.out ?_
    try go_frame
    refine tP 8 17 rfl HS3.out (fun w hw=>by obtain⟨k1,k2⟩:=hw;go_simp;try with_reducible rfl) ?_
    try go_frame
    refine fG 13 fun K hK=>?_
    go_simp
    refine (safe_w HT3.out hN HNS.out).mono ?_;rintro x w4 ⟨A4,c4,rfl,hf,hb⟩;have HF4:=Hd hf;clear hf;have HT4:=Hd (HT3.out.below hb);have HB4:=Hd (HB3.out.trans (hb.mono HB3.out.size));have HS4:=Hd (two_cells (HT3.out.below hb));have HF1x:=Hd (HF1.out.below hb);clear HF1;have HF1:=HF1x;clear HF1x;clear hb
    refine hK _ _ (HS4.out) ?_;clear hK K
    try go_frame
    refine fG 18 fun K hK=>?_
    go_simp
    refine (rsafe_w HT4.out hN HNS.out).mono ?_;rintro x w5 ⟨A5,c5,rfl,hf,hb⟩;have HF5:=Hd hf;clear hf;have HT5:=Hd (HT4.out.below hb);have HB5:=Hd (HB4.out.trans (hb.mono HB4.out.size));have HS5:=Hd (two_cells (HT4.out.below hb));have HF1x:=Hd (HF1.out.below hb);clear HF1;have HF1:=HF1x;clear HF1x;have HF4x:=Hd (HF4.out.below hb);clear HF4;have HF4:=HF4x;clear HF4x;clear hb
    refine hK _ _ (HS5.out) ?_;clear hK K
    try go_frame
    refine fG 19 fun K hK=>?_
    go_simp
    refine (Dr.sameFiles_any HF4.out HF5.out (by omega)).mono ?_;rintro x w6 ⟨rfl,hb⟩;have HT6:=Hd (HT5.out.below hb);have HB6:=Hd (HB5.out.trans (hb.mono HB5.out.size));have HS6:=Hd (two_cells (HT5.out.below hb));have HF1x:=Hd (HF1.out.below hb);clear HF1;have HF1:=HF1x;clear HF1x;clear hb
    refine hK _ _ (HS6.out) ?_;clear hK K
    try go_frame
    refine tT 20 HS6.out ?_
    try go_frame
    refine tT 21 HS6.out ?_
    try go_frame
    refine tT 22 HS6.out ?_
    try go_frame
    refine tT 23 HS6.out ?_
    try go_frame
    refine tT 24 HS6.out ?_
    try go_frame
    refine tT 25 HS6.out ?_
    try go_frame
    refine tP 8 26 rfl HS6.out (fun w hw=>by obtain⟨k1,k2⟩:=hw;go_simp;try with_reducible rfl) ?_
    try go_frame
    refine tT 28 HS6.out ?_
    try go_frame
    refine tT 29 HS6.out ?_
    try go_frame
    refine tT 30 HS6.out ?_
    try go_frame
    refine tP 8 31 rfl HS6.out (fun w hw=>by obtain⟨k1,k2⟩:=hw;go_simp;try with_reducible rfl) ?_
    try go_frame
    refine fG 27 fun K hK=>?_
    go_simp
    refine (pending_w HT6.out).mono ?_;rintro x wq ⟨rfl,rfl⟩;rw[HNP.out]
    refine hK _ _ (HS6.out) ?_;clear hK K
    try go_frame
    refine lG 32 fun K hK=>?_
    go_simp
    refine (rpending_w HT6.out).mono ?_;rintro x wq ⟨rfl,rfl⟩;rw[HNP.out]
    refine hK _ _ ?_;clear hK K
    try go_frame
    refine tL 33 ?_
    try go_frame
    refine tL 34 ?_
    try go_frame
    refine wpAny_done (by kernel_rfl) ?_ _
    go_upto_region 10 with (fail)
    obtain⟨Ap,np2,cp,hq,_⟩:=(HT6.out.below (drewB w6)).dk.own
    obtain⟨C,hC⟩:∃ C,gtC g (.slice Ap np2 cp)=C:=⟨_,rfl⟩
    have hrq:(World.drew w6).rangeAt q 1 C:=fun j u hu=>by
     rw[cell_of_row _ _ _ _ _ _ hq,hC,List.getElem?_toArray,Nat.add_comm 1 j,List.getElem?_cons_succ]
     exact hu
    have HS7:=Hd (show (World.drew w6).rangeAt q 1 C/\(World.drew w6).cell? ⟨q,4,none⟩=some (.int .i64 g.calls)/\(World.drew w6).cell? ⟨q,1,none⟩=some (.bool false) from
     ⟨hrq,by rw[cell_of_row _ _ _ _ _ _ hq];rfl,by rw[cell_of_row _ _ _ _ _ _ hq,<-HDW.out];rfl⟩)
    have HCI:=Hd (show (Tryz.prog.info? tGate).map (fun i=>i.size)=some C.length by rw[<-hC];kernel_rfl)
    have HC:=Hd hC
    have HT7:=Hd (HT6.out.below (drewB w6))
    have HF7:=Hd (HF1.out.below (drewB w6))
    have HB7:=Hd (HB6.out.trans ((drewB w6).mono HB6.out.size))
    clear hq hC hrq
    refine wp_region_any (by kernel_rfl) ?_
    change wpAny _ _ _ _ _ _ _ (World.drew _)
    refine wpAny_of_P (S:=fun wx=>wx.rangeAt q 1 C/\wx.cell? ⟨q,4,none⟩=some (.int .i64 g.calls)/\wx.cell? ⟨q,1,none⟩=some (.bool false)) (late:=[25]) _ _ _ _ ?_
    refine tT 0 HS7.out ?_
    try go_frame
    refine tT 2 HS7.out ?_
    try go_frame
    refine tT 3 HS7.out ?_
    try go_frame
    refine tT 4 HS7.out ?_
    try go_frame
    refine tT 5 HS7.out ?_
    try go_frame
    refine tP 8 6 rfl HS7.out (fun w hw=>by obtain⟨_,k4,k1⟩:=hw;go_simp;try with_reducible rfl) ?_
    try go_frame
    refine fP 1 fun K hK=>?_
    go_simp
    refine (wcalls_any HT7.out.wd).mono ?_;rintro x wq ⟨rfl,rfl⟩
    refine hK _ _ (HS7.out) ?_;clear hK K
    try go_frame
    refine tT 7 HS7.out ?_
    try go_frame
    refine tT 8 HS7.out ?_
    try go_frame
    refine tT 9 HS7.out ?_
    try go_frame
    refine tT 11 HS7.out ?_
    try go_frame
    refine tT 12 HS7.out ?_
    try go_frame
    refine tT 13 HS7.out ?_
    try go_frame
    refine tT 14 HS7.out ?_
    try go_frame
    refine tP 8 15 rfl HS7.out (fun w hw=>by obtain⟨_,k4,k1⟩:=hw;go_simp;try with_reducible rfl) ?_
    try go_frame
    refine fG 10 fun K hK=>?_
    go_simp
    refine (won_any HT7.out.wd).mono ?_;rintro x wq ⟨rfl,rfl⟩;rw[HDW.out]
    refine hK _ _ (HS7.out) ?_;clear hK K
    try go_frame
    refine tT 16 HS7.out ?_
    try go_frame
    refine tT 17 HS7.out ?_
    try go_frame
    refine tT 18 HS7.out ?_
    try go_frame
    refine tT 19 HS7.out ?_
    try go_frame
    refine tT 21 HS7.out ?_
    try go_frame
    refine tT 22 HS7.out ?_
    try go_frame
    refine tT 23 HS7.out ?_
    try go_frame
    refine tP 8 24 rfl HS7.out (fun w hw=>by obtain⟨k1,_⟩:=hw;refine Eq.trans (exec_load_mid tGate (.tmp 98) (by rfl) q 1 (by rfl) C _ k1 Tryz.underlying118 rfl HCI.out) ?_;with_reducible rfl) ?_
    try go_frame
    refine fG 20 fun K hK=>?_
    go_simp
    refine (wstruck_any HT7.out.wd).mono ?_;rintro x wq ⟨rfl,rfl⟩;rw[HST.out]
    refine hK _ _ (HS7.out) ?_;clear hK K
    try go_frame
    refine lG 25 fun K hK=>?_
    go_simp
    have hg:=gstruck_any (World.drew w6) g (.slice Ap np2 cp)
    rw[HC.out] at hg
    refine hg.mono ?_;clear hg;rintro x w8 ⟨rfl,hb⟩;rw[HST.out];have HT8:=Hd (HT7.out.below hb);have HF8:=Hd (HF7.out.below hb);have HB8:=Hd (HB7.out.trans (hb.mono HB7.out.size));clear hb
    refine hK _ _ ?_;clear hK K
    try go_frame
    refine tL 26 ?_
    try go_frame
    refine tL 27 ?_
    try go_frame
    refine wpAny_done (by kernel_rfl) ?_ _
    go_upto_region 13 with (fail)
    obtain⟨wo,hwo⟩:∃ wo,w8=wo:=⟨_,rfl⟩
    go_loopw [7] (fun jv wr=>∃ j:Nat,jv = .int .i64 (j:Int)/\j<=nl/\Below w8.heap.size w8 wr) (fun jv _=>nl - (intOf jv).toNat)
    case atStart=>exact⟨0,rfl,by omega,Below.refl _ _⟩
    case round=>
     obtain⟨j,rfl,hjn,hbj⟩:=hrel
     have HBJ:=Hd hbj
     by_cases hj:j<nl
     ·obtain⟨fj,hfj⟩:∃ fj,D.image[j]?=some fj:=⟨_,List.getElem?_eq_getElem (by rw[HNL.out];exact hj)⟩
      obtain⟨gl,Af,cf,rfl,hgl,a0,_,_⟩:=(HF8.out.below hbj).2 j fj hfj
      obtain⟨la,lb,hlv⟩:=looseV_two D fj.1
      have hT:=HT8.out.below hbj
      have HT9:=Hd (hT.below (drewB wr))
      have HS9:=Hd (show (World.drew wr).cell? ⟨p,0,none⟩=some (.pointer (some ⟨dd,0,none⟩))/\(World.drew wr).cell? ⟨gl,j*2,none⟩=some (encStr fj.1) from⟨(two_cells HT9.out).1,a0⟩)
      have HAN:=Hd (show wr.cell? ⟨q,0,none⟩=some (.pointer (some ⟨r,0,none⟩))/\wr.cell? ⟨gl,j*2,none⟩=some (encStr fj.1) from⟨(two_cells hT).2,a0⟩)
      have HLV:=Hd hlv
      have HGL:=Hd hgl
      have HBD:=Hd (hbj.trans ((drewB wr).mono hbj.size))
      have hj2:(j:Int)<(nl:Int):=by omega
      have hj00:(0:Int)<=(j:Int):=by omega
      clear hbj hfj a0 hlv hT hgl
      go_upto_region 15 with (fail)
      refine wp_region_any (by kernel_rfl) ?_
      change wpAny _ _ _ _ _ _ _ (World.drew _)
      refine wpAny_of_P (S:=fun wx=>wx.cell? ⟨p,0,none⟩=some (.pointer (some ⟨dd,0,none⟩))/\wx.cell? ⟨gl,j*2,none⟩=some (encStr fj.1)) (late:=[9]) _ _ _ _ ?_
      refine tT 0 HS9.out ?_
      try go_frame
      refine tT 1 HS9.out ?_
      try go_frame
      refine tT 2 HS9.out ?_
      try go_frame
      refine tP 8 3 rfl HS9.out (fun w hw=>by obtain⟨k1,k2⟩:=hw;go_simp;try with_reducible rfl) ?_
      try go_frame
      refine tT 4 HS9.out ?_
      try go_frame
      refine tT 5 HS9.out ?_
      try go_frame
      refine tT 6 HS9.out ?_
      try go_frame
      refine tT 7 HS9.out ?_
      try go_frame
      refine tP 8 8 rfl HS9.out (fun w hw=>by obtain⟨k1,k2⟩:=hw;go_simp;try with_reducible rfl) ?_
      try go_frame
      refine lP 9 fun K hK=>?_
      go_simp
      refine (loose_w HT9.out fj.1 HLV.out).mono ?_;rintro x w9 ⟨rfl,hb⟩;have HT10:=Hd ((HT9.out.below hb).below (drewB w9));have HS10:=Hd (show (World.drew w9).cell? ⟨q,0,none⟩=some (.pointer (some ⟨r,0,none⟩))/\(World.drew w9).cell? ⟨gl,j*2,none⟩=some (encStr fj.1) from⟨(two_cells ((HT9.out.below hb).below (drewB w9))).2,(hb.cell (p:=⟨gl,j*2,none⟩) HGL.out).trans HAN.out.2⟩);have HB10:=Hd ((HBD.out.trans (hb.mono HBD.out.size)).trans ((drewB w9).mono (Nat.le_trans HBD.out.size hb.size)));clear hb
      refine hK _ _ ?_;clear hK K
      try go_frame
      refine tL 10 ?_
      try go_frame
      refine tL 11 ?_
      try go_frame
      refine tL 12 ?_
      try go_frame
      refine tL 13 ?_
      try go_frame
      refine tL 14 ?_
      try go_frame
      refine wpAny_done (by kernel_rfl) ?_ _
      go_upto_region 16 with (fail)
      refine wp_region_any (by kernel_rfl) ?_
      change wpAny _ _ _ _ _ _ _ (World.drew _)
      refine wpAny_of_P (S:=fun wx=>wx.cell? ⟨q,0,none⟩=some (.pointer (some ⟨r,0,none⟩))/\wx.cell? ⟨gl,j*2,none⟩=some (encStr fj.1)) (late:=[9]) _ _ _ _ ?_
      refine tT 0 HS10.out ?_
      try go_frame
      refine tT 1 HS10.out ?_
      try go_frame
      refine tT 2 HS10.out ?_
      try go_frame
      refine tP 8 3 rfl HS10.out (fun w hw=>by obtain⟨k1,k2⟩:=hw;go_simp;try with_reducible rfl) ?_
      try go_frame
      refine tT 4 HS10.out ?_
      try go_frame
      refine tT 5 HS10.out ?_
      try go_frame
      refine tT 6 HS10.out ?_
      try go_frame
      refine tT 7 HS10.out ?_
      try go_frame
      refine tP 8 8 rfl HS10.out (fun w hw=>by obtain⟨k1,k2⟩:=hw;go_simp;try with_reducible rfl) ?_
      try go_frame
      refine lP 9 fun K hK=>?_
      go_simp
      refine (rloose_w HT10.out fj.1 HLV.out).mono ?_;rintro x w11 ⟨rfl,hb⟩;have HB11:=Hd (HB10.out.trans (hb.mono HB10.out.size));clear hb
      refine hK _ _ ?_;clear hK K
      try go_frame
      refine tL 10 ?_
      try go_frame
      refine tL 11 ?_
      try go_frame
      refine tL 12 ?_
      try go_frame
      refine tL 13 ?_
      try go_frame
      refine tL 14 ?_
      try go_frame
      refine wpAny_done (by kernel_rfl) ?_ _
      go_wp2
      go_roundw
      case rel=>exact⟨j+1,by go_num,by omega,HB11.out⟩
      case measure=>simp[intOf];omega
     ·obtain rfl:j=nl:=by omega
      have HB12:=Hd (HB8.out.trans (HBJ.out.mono HB8.out.size))
      clear hbj
      go_wp2
      go_roundw
      case rel=>exact⟨i+1,by go_num,by omega,HB12.out⟩
      case measure=>simp[intOf];omega
  ·obtain rfl:i=n:=by omega
   clear hb hbx
   go_wp2
   go_ret
   exact⟨rfl,HBB.out.trans (HBR.out.mono HBB.out.size)⟩
end Go.Proofs.YtmgljaecmchgaaaGreat.Gf
