/- XMk3, XMs1: merged by tools/merge.py. -/
import Derived.Test.YtmgljaecmchgaaaGreatQ38
import Derived.WalkMore
set_option linter.unusedVariables false
set_option linter.unusedSimpArgs false
set_option linter.unusedSectionVars false
namespace Go.Proofs.YtmgljaecmchgaaaGreat.Gf
open Go.RowKit Go.Proofs
theorem filesRo_below {w w':World} {A:Option Addr} {n:Nat} {fs:List (Dr.Bs×Dr.Bs)} (h:Dr.FilesRo w A n fs) (hb:Below w.heap.size w w'):Dr.FilesRo w' A n fs:=by
 refine⟨h.1,fun i f hf=>?_⟩
 obtain⟨g,o,Af,cf,e,hg,h1,h2,h3⟩:=h.2 i f hf
 exact⟨g,o,Af,cf,e,Nat.lt_of_lt_of_le hg hb.size,(hb.cell (p:=⟨g,o+i*2,none⟩) hg).trans h1,(hb.cell (p:=⟨g,o+i*2+1,none⟩) hg).trans h2,by obtain⟨h3,h4⟩:=h3;exact⟨h3.next hb,h4⟩⟩
def LdD (B:Nat) (w1 w2:World) (o:Option Dr.D) (m n:Nat) (v:Value):Prop:=
 (o=none/\v = .pointer none)\/∃ (D:Dr.D) (r:Nat) (S:Nat->Prop),o=some D/\v = .pointer (some ⟨w1.heap.size,0,none⟩)/\DkAt w2 w1.heap.size r Gt.new/\Dr.Rv w2 S r D m n/\(∀ k,S k->B<=k)/\∀ k,S k->k<w1.heap.size
theorem rv_low {w:World} {S:Nat->Prop} {r m N:Nat} {D:Dr.D} (h:Dr.Rv w S r D m N):∀ k,S k->k<w.heap.size:=by
 obtain⟨_,_,vb,vn,vk,vc,ds,cs,h1⟩:=h
 exact h1.low
theorem dnew_ld {w w1:World} {o:Option Dr.D} {m n:Nat} {p:Option Addr} (h:Dr.LdR w w1 o m n p):Calls Tryz.prog 23 #[.pointer p] w1 fun x w2=>(∃ v,x = .returned v/\LdD w.heap.size w1 w2 o m n v)/\Below w1.heap.size w1 w2:=by
 rcases h with ⟨h1,rfl⟩ | ⟨D,d,S,h1,rfl,h2,h3⟩
 ·refine (dnew_nil w1).mono ?_
  rintro x w2 ⟨rfl,rfl⟩
  exact⟨⟨_,rfl,.inl ⟨h1,rfl⟩⟩,Below.refl _ _⟩
 ·refine (dnew_any w1 d).mono ?_
  rintro x w2 ⟨rfl,h4,h5⟩
  exact⟨⟨_,rfl,.inr ⟨D,d,S,h1,rfl,h4,h2.below h5,h3,rv_low h2⟩⟩,h5⟩
theorem dv_low {w:World} {S:Nat->Prop} {d m N:Nat} {D:Dr.D} (h:Dr.Dv w S d D m N):∀ k,S k->k<w.heap.size:=by
 obtain⟨_,β,vs,nv,kv,pv,ss,h1⟩:=h
 exact h1.low
def LdW (w w':World) (o:Option Dr.D) (m n:Nat) (p:Option Addr):Prop:=
 (o=none/\p=none)\/∃ (D:Dr.D) (d:Nat) (S:Nat->Prop),o=some D/\p=some ⟨d,0,none⟩/\Dr.Dv w' S d D m n/\∀ k,S k->w.heap.size<=k
theorem load_ld (r:Int) {w:World} {A:Option Addr} {n c:Nat} {P:Plm} (hf:Dr.FilesRd w A n P.fs) (hs:P.Small) (hn:P.fs.length=n) :
  Calls Tryz.prog 26 #[.int .i64 r,.slice A n c] w fun x w'=>Below w.heap.size w w'/\∃ p,x = .returned (.pointer p)/\LdW w w' (Dr.D.load r P.fs) 1048576 n p:=by
 refine (Dr.load_any r (m:=1048576) hf (fun f h=>by have:=(hs.bytes f h).1;unfold maxLen;omega) (fun f h=>(hs.bytes f h).2) (by omega) (by have:=hs.fs;omega)).mono ?_
 rintro x w' ⟨hb,h⟩
 refine⟨hb,?_⟩
 rcases h with ⟨h1,rfl⟩ | ⟨D,d,S,h1,rfl,h2,h3⟩
 ·exact⟨none,rfl,.inl ⟨h1,rfl⟩⟩
 ·exact⟨_,rfl,.inr ⟨D,d,S,h1,rfl,h2,h3⟩⟩
def LdE (B:Nat) (w1 w2:World) (o:Option Dr.D) (m n:Nat) (v:Value):Prop:=
 (o=none/\v = .pointer none)\/∃ (D:Dr.D) (d:Nat) (S:Nat->Prop),o=some D/\v = .pointer (some ⟨w1.heap.size,0,none⟩)/\WdAt w2 w1.heap.size d Gt.new/\Dr.Dv w2 S d D m n/\(∀ k,S k->B<=k)/\∀ k,S k->k<w1.heap.size
theorem wnew_ld {w w1:World} {o:Option Dr.D} {m n:Nat} {p:Option Addr} (h:LdW w w1 o m n p):Calls Tryz.prog 25 #[.pointer p] w1 fun x w2=>(∃ v,x = .returned v/\LdE w.heap.size w1 w2 o m n v)/\Below w1.heap.size w1 w2:=by
 rcases h with ⟨h1,rfl⟩ | ⟨D,d,S,h1,rfl,h2,h3⟩
 ·refine (wnew_nil w1).mono ?_
  rintro x w2 ⟨rfl,rfl⟩
  exact⟨⟨_,rfl,.inl ⟨h1,rfl⟩⟩,Below.refl _ _⟩
 ·refine (wnew_any w1 d).mono ?_
  rintro x w2 ⟨rfl,h4,h5⟩
  exact⟨⟨_,rfl,.inr ⟨D,d,S,h1,rfl,h4,dv_kept h2 (Kept.of_below (fun _=>False) h5) (fun _ _ h=>h),h3,dv_low h2⟩⟩,h5⟩
abbrev tPlc:TypeId:=93
def plC (P:Plm) (a b:Value):List Value:=[.bool P.has,.int .i64 P.room,a,b,.bool P.off,.bool P.laid,.int .i64 P.rd,.int .i64 P.call,.int .i64 P.ins]
set_option maxRecDepth 100000 in
theorem plm_storeAt (w:World) (P:Plm) (Af Ap:Option Addr) (nf cf np cp:Nat):(Instr.storeAt tPlc (.pointer (some ⟨w.heap.size,0,none⟩)) (.agg (plC P (.slice Af nf cf) (.slice Ap np cp)).toArray)).run Tryz.prog (w.alloc (.cells #[.bool false,.int .i64 0,.slice none 0 0,.slice none 0 0,.bool false,.bool false,.int .i64 0,.int .i64 0,.int .i64 0] tPlc)) = .ok () (w.alloc (.cells (plC P (.slice Af nf cf) (.slice Ap np cp)).toArray tPlc)):=by
 have h:=run_storeVar_new (P:=Tryz.prog) w tPlc #[.bool false,.int .i64 0,.slice none 0 0,.slice none 0 0,.bool false,.bool false,.int .i64 0,.int .i64 0,.int .i64 0] (plC P (.slice Af nf cf) (.slice Ap np cp)).toArray (by kernel_rfl) rfl (by simp[plC,Value.oneCell'])
 simp only[Instr.storeAt,Instr.sureAddr,Sem.run_bind,Sem.run_pure,Result.andThen_ok]
 exact h
def MkInv (w:World) (V G:Nat) (Ps:List Plm) (i:Nat):Prop:=∃ vd vw vm d e f,RowsOf w V G (fun j=>((Ps[j]?).map Plm.fs).getD []) (fun j=>(Ps[j]?).bind Plm.made) i vd vw vm d e f
set_option maxRecDepth 100000 in
set_option maxHeartbeats 16000000 in
theorem make_any {w:World} {B g o n c:Nat} {A:Option Addr} {Ps:List Plm} (hl:Ps.length=n) (hn:n<=1048576) (hs:∀ P∈Ps,P.Small) (hA:0<n->A=some ⟨g,o,none⟩/\g<B) (hB:B<=w.heap.size)
  (hP:∀ (i:Nat) (P:Plm),Ps[i]?=some P->PlmAt w B ⟨g,o+i*9,none⟩ P) :
  Calls Tryz.prog 12 #[.slice A n c] w fun x w'=>∃ vd vw vm d e f G,x = .returned (.tuple #[.agg #[vd,vw,vm],.bool true])/\RowsOf w' w.heap.size G (fun j=>((Ps[j]?).map Plm.fs).getD []) (fun j=>(Ps[j]?).bind Plm.made) n vd vw vm d e f/\Below w.heap.size w w':=by
 obtain⟨V,hV⟩:∃ V,w.heap.size=V:=⟨_,rfl⟩
 obtain⟨w0,hw0⟩:∃ w0,(w.alloc (.cells #[.slice none 0 0,.slice none 0 0,.slice none 0 0] tBoth)).alloc (.cells #[.slice none 0 0,.slice none 0 0,.slice none 0 0] tBoth)=w0:=⟨_,rfl⟩
 have hb0:Below w.heap.size w w0:=by rw[<-hw0];exact ((Below.refl _ _).alloc (Nat.le_refl _) _).alloc (by simp) _
 have hs0:w0.heap.size=V+2:=by rw[<-hw0,<-hV];simp
 have hB0:w0.heap[V+1]?=some (.cells #[.slice none 0 0,.slice none 0 0,.slice none 0 0] tBoth (0,0)):=by
  have h:=heap_alloc_last (w.alloc (.cells #[.slice none 0 0,.slice none 0 0,.slice none 0 0] tBoth)) (.cells #[.slice none 0 0,.slice none 0 0,.slice none 0 0] tBoth)
  rw[hw0,show (w.alloc (.cells #[.slice none 0 0,.slice none 0 0,.slice none 0 0] tBoth)).heap.size=V+1 by simp[hV]] at h
  exact h
 have hV00:w0.heap[V]?=some (.cells #[.slice none 0 0,.slice none 0 0,.slice none 0 0] tBoth (0,0)):=by
  rw[<-hw0,heap_alloc_old _ _ (by simp;omega),<-hV]
  exact heap_alloc_last w _
 have HI:=Hd (show MkInv w0 V (V+1) Ps 0 from⟨_,_,_,_,_,_,RowsOf.nil rfl hV00 (Nat.ne_of_lt (Nat.lt_succ_self V)) hB0⟩)
 have HB0:=Hd hb0
 have HS0:=Hd hs0
 have HP:=Hd hP
 have HS:=Hd hs
 have HV:=Hd hV
 have HW0:=Hd hw0
 have HL:=Hd hl
 have HA:=Hd hA
 clear hb0 hs0 hB0 hV00 hP hs hV hw0 hl hA
 go_enter Tryz.func12,Tryz.ntmps12
 go_upto_region 3 with (fail)
 rw[HW0.out,HV.out]
 go_loopw [5] (fun iv wr=>∃ i:Nat,iv = .int .i64 (i:Int)/\i<=n/\MkInv wr V (V+1) Ps i/\Below V w wr/\V+2<=wr.heap.size) (fun iv _=>n - (intOf iv).toNat)
 case atStart=>exact⟨0,rfl,by omega,HI.out,by rw[<-HV.out];exact HB0.out,by rw[HS0.out];exact Nat.le_refl _⟩
 case round=>
  obtain⟨i,rfl,hin,hinv,hb,hsz⟩:=hrel
  have hVB:=HV.out
  have HINV:=Hd hinv
  have HB:=Hd hb
  clear hinv hb
  by_cases hi:i<n
  ·obtain⟨rfl,hg⟩:=HA.out (by omega)
   obtain⟨P,hPi⟩:∃ P,Ps[i]?=some P:=⟨_,List.getElem?_eq_getElem (by rw[HL.out];exact hi)⟩
   obtain⟨Af,nf,cf,Ap,np,cp,hra,hfo,hpl,hpc,hnp⟩:=(HP.out i P hPi).cells
   obtain⟨R,hR⟩:∃ R:List Value,plC P (.slice Af nf cf) (.slice Ap np cp)=R:=⟨_,rfl⟩
   unfold plC at hR
   rw[hR] at hra
   have hraw:wr.rangeAt g (o+i*9) R:=fun j u hu=>(HB.out.cell (p:=⟨g,o+i*9+j,none⟩) (by show g<V;omega)).trans (hra j u hu)
   have hin2:(i:Int)<(n:Int):=by omega
   have hi00:(0:Int)<=(i:Int):=by omega
   have hRl:R.length=9:=by rw[<-hR];rfl
   have hst:=plm_storeAt wr P Af Ap nf cf np cp
   unfold plC at hst
   rw[hR] at hst
   obtain⟨T,hT⟩:∃ T,wr.heap.size=T:=⟨_,rfl⟩
   obtain⟨wS,hwS⟩:∃ wS,wr.alloc (.cells R.toArray tPlc)=wS:=⟨_,rfl⟩
   rw[hwS] at hst
   have hbS:Below T wr wS:=by rw[<-hwS,<-hT];exact (Below.refl _ _).alloc (Nat.le_refl _) _
   have hsS:wS.heap.size=T+1:=by rw[<-hwS,<-hT];simp
   have hrS:wS.rangeAt T 0 R:=fun j u hu=>by
    have h:=new_cells wr R tPlc j u hu
    rw[Addr.add_mid,hwS,hT] at h
    exact h
   have HPM:=Hd (show P∈Ps from List.mem_of_getElem? hPi)
   have HPI:=Hd hPi
   have HPLN:=Hd hpl
   have HPC:=Hd hpc
   have HNP:=Hd hnp
   have HNF:=Hd (show P.fs.length=nf from hfo.1)
   have HFO:=Hd (show Dr.FilesRo wS Af nf P.fs from filesRo_below (filesRo_below hfo (HB.out.mono (by rw[hVB];exact Nat.le_refl _))) (hbS.mono (by rw[hT];exact Nat.le_refl _)))
   have HST:=Hd hst
   have HRS:=Hd hrS
   have HBS:=Hd hbS
   have HSS:=Hd hsS
   have HT:=Hd hT
   have HR:=Hd hR
   have HRI:=Hd (show (Tryz.prog.info? 93).map (fun i=>i.size)=some R.length by rw[hRl];kernel_rfl)
   have HRA:=Hd hraw
   have hTV:V+2<=T:=by omega
   clear hra hraw hst hwS hbS hsS hrS hT hR hVB hRl hPi hpl hpc hnp
   go_upto_region 8 with (first | (refine wpList_load_mid rfl tPlc (.tmp 17) rfl g (o+i*9) rfl R _ HRA.out Tryz.underlying93 rfl HRI.out ?_) | (refine wpList_store_by rfl tPlc (.tmp 6) (.tmp 18) rfl _ _ rfl rfl HST.out ?_))
   rw[HT.out]
   have k0:wS.cell? ⟨T,0,none⟩=some (.bool P.has):=by have h:=HRS.out 0 (.bool P.has) (by rw[<-HR.out];rfl);exact h
   have k1:wS.cell? ⟨T,1,none⟩=some (.int .i64 P.room):=by have h:=HRS.out 1 (.int .i64 P.room) (by rw[<-HR.out];rfl);exact h
   have k2:wS.cell? ⟨T,2,none⟩=some (.slice Af nf cf):=by have h:=HRS.out 2 (.slice Af nf cf) (by rw[<-HR.out];rfl);exact h
   go_upto_if 20 with (fail)
   go_cut [7,8] from 20 to 39 (fun v7 v8 wc=>Below (T+1) wS wc/\match P.made with | none=>v7 = .pointer none/\v8 = .pointer none | some (D,_)=>∃ (S:Nat->Prop) (p d q r:Nat),v8 = .pointer (some ⟨p,0,none⟩)/\v7 = .pointer (some ⟨q,0,none⟩)/\Two wc S p d q r D 1048576 P.fs.length Gt.new/\(∀ k,S k->T+1<=k)/\T+1<=p/\T+1<=q/\¬ S p/\¬ S q)
   case first=>
    cases hh:P.has with
    | false=>
     rw[hh] at k0
     go_wp2
     go_meet
     have hmd:P.made=none:=by unfold Plm.made;rw[hh];rfl
     rw[hmd]
     exact⟨Below.refl _ _,rfl,rfl⟩
    | true=>
     rw[hh] at k0
     go_upto_region 10 with (first | (go_at_call 24;go_loud (refine (Dr.rload_any P.room (m:=1048576) HFO.out (fun f hf=>((HS.out P HPM.out).bytes f hf).2) (by omega) (by have:=(HS.out P HPM.out).fs;have:=HNF.out;omega)).mono ?_);rintro x w1 ⟨hb1,pp,rfl,hld⟩;have HB1:=Hd hb1;have HLD:=Hd hld;clear hb1 hld) | (go_at_call 23;refine (dnew_ld HLD.out).mono ?_;rintro x w2 ⟨⟨v7,rfl,hl2⟩,hb2⟩;have HL2:=Hd hl2;have HB2:=Hd hb2;clear hl2 hb2))
     have HF2:=Hd (filesRo_below (filesRo_below HFO.out HB1.out) HB2.out)
     have hT2:T<w2.heap.size:=by have h1:=HB1.out.size;have h2:=HB2.out.size;have h3:=HSS.out;omega
     have hb12:Below (T+1) wS w2:=(show Below (T+1) wS w1 from HB1.out.mono (by rw[HSS.out];exact Nat.le_refl _)).trans (HB2.out.mono (by have h1:=HB1.out.size;have h3:=HSS.out;omega))
     have HSX:=Hd (show w2.cell? ⟨T,1,none⟩=some (.int .i64 P.room)/\w2.cell? ⟨T,2,none⟩=some (.slice Af nf cf) from⟨(hb12.cell (p:=⟨T,1,none⟩) (Nat.lt_succ_self T)).trans k1,(hb12.cell (p:=⟨T,2,none⟩) (Nat.lt_succ_self T)).trans k2⟩)
     have HB12:=Hd hb12
     clear k0 k1 k2 hb12
     refine wp_region_any (by kernel_rfl) ?_
     change wpAny _ _ _ _ _ _ _ (World.drew _)
     refine wpAny_of_P (S:=fun wx=>wx.cell? ⟨T,1,none⟩=some (.int .i64 P.room)/\wx.cell? ⟨T,2,none⟩=some (.slice Af nf cf)) (late:=[5]) _ _ _ _ ?_
     refine tT 0 HSX.out ?_
     try go_frame
     refine tP 8 1 rfl HSX.out (fun w hw=>by obtain⟨k1,k2⟩:=hw;go_simp;try with_reducible rfl) ?_
     try go_frame
     refine tT 2 HSX.out ?_
     try go_frame
     refine tP 8 3 rfl HSX.out (fun w hw=>by obtain⟨k1,k2⟩:=hw;go_simp;try with_reducible rfl) ?_
     try go_frame
     refine fP 4 fun K hK=>?_
     go_simp
     refine (files_any (w:=World.drew w2) (show Dr.FilesRo (World.drew w2) Af nf P.fs from HF2.out) (by have:=(HS.out P HPM.out).fs;have:=HNF.out;omega) (fun f hf=>((HS.out P HPM.out).bytes f hf).2)).mono ?_;rintro x w3 ⟨⟨A3,c3,dv3,rfl,hfa⟩,hb3⟩;have HFA:=Hd hfa;have HB3:=Hd (show Below w2.heap.size w2 w3 from⟨hb3.os,hb3.tape,hb3.output,hb3.size,hb3.block⟩);have HS3:=Hd (show w3.cell? ⟨T,1,none⟩=some (.int .i64 P.room)/\w3.cell? ⟨T,2,none⟩=some (.slice Af nf cf) from⟨(HB3.out.cell (p:=⟨T,1,none⟩) hT2).trans HSX.out.1,(HB3.out.cell (p:=⟨T,2,none⟩) hT2).trans HSX.out.2⟩);clear hfa hb3
     refine hK _ _ (HS3.out) ?_;clear hK K
     try go_frame
     refine lP 5 fun K hK=>?_
     go_simp
     refine (load_ld P.room (HFA.out.rd HNF.out) (HS.out P HPM.out) HNF.out).mono ?_;rintro x w4 ⟨hb4,pp4,rfl,hl4⟩;have HB4:=Hd hb4;have HL4:=Hd hl4;clear hb4 hl4
     refine hK _ _ ?_;clear hK K
     try go_frame
     refine fL 6 fun K hK=>?_
     go_simp
     refine (wnew_ld HL4.out).mono ?_;rintro x w5 ⟨⟨v8,rfl,hl5⟩,hb5⟩;have HB5:=Hd hb5;have HL5:=Hd hl5;clear hb5 hl5
     refine hK _ _ ?_;clear hK K
     try go_frame
     refine tL 7 ?_
     try go_frame
     refine wpAny_done (by kernel_rfl) ?_ _
     have hB5:Below (T+1) w2 w5:=((show Below (T+1) w2 w3 from HB3.out.mono (by omega)).trans (HB4.out.mono (by have h3:=HB3.out.size;omega))).trans (HB5.out.mono (by have h3:=HB3.out.size;have h4:=HB4.out.size;omega))
     have HBB:=Hd (HB12.out.trans hB5)
     clear hB5
     rcases HL5.out with ⟨e5,rfl⟩ | ⟨D,d5,S5,e5,rfl,f1,f2,f3,f4⟩
     ·rcases HL2.out with ⟨e2,rfl⟩ | ⟨D2,r2,S2,e2,rfl,g1,g2,g3,g4⟩
      ·go_wp2
       go_meet
       have hmd:P.made=none:=by unfold Plm.made;rw[hh,e5];rfl
       rw[hmd]
       exact⟨HBB.out,rfl,rfl⟩
      ·rw[e5] at e2;cases e2
     ·rcases HL2.out with ⟨e2,rfl⟩ | ⟨D2,r2,S2,e2,rfl,g1,g2,g3,g4⟩
      ·rw[e5] at e2;cases e2
      ·obtain rfl:D=D2:=by rw[e5] at e2;injection e2
       have hz3:=HB3.out.size
       have hz4:=HB4.out.size
       have hz1:=HB1.out.size
       have hz2:=HB2.out.size
       have hzS:=HSS.out
       have b35:Below w2.heap.size w2 w5:=(HB3.out.trans (HB4.out.mono hz3)).trans (HB5.out.mono (by omega))
       have HTW:=Hd (show Two w5 (fun k=>S5 k\/S2 k) w4.heap.size d5 w1.heap.size r2 D 1048576 nf Gt.new from
        ⟨f1,g1.below b35,⟨S5,f2,fun k h=>.inl h⟩,⟨S2,g2.below b35,fun k h=>.inr h⟩,fun k h=>h.elim (dv_low f2 k) (fun h=>Nat.lt_of_lt_of_le (rv_low g2 k h) b35.size)⟩)
       go_wp2
       go_meet
       have hmd:P.made=some (D,P.gate):=by unfold Plm.made;rw[hh,e5];rfl
       rw[hmd]
       refine⟨HBB.out,_,_,_,_,_,rfl,rfl,by rw[HNF.out];exact HTW.out,?_,by omega,by omega,?_,?_⟩
       ·rintro k (h | h)
        ·have:=f3 k h;omega
        ·have:=g3 k h;omega
       ·rintro (h | h)
        ·have:=f4 _ h;omega
        ·have:=g4 _ h;omega
       ·rintro (h | h)
        ·have:=f3 _ h;have:=g1.lt;omega
        ·have:=g4 _ h;omega
   case rest=>
    obtain⟨hbc,hm⟩:=hcut
    obtain⟨vd,vw,vm,d,e,f,hrows⟩:=HINV.out
    obtain⟨U,hU⟩:∃ U:Nat->Prop,(fun k=>k=V+1\/vd.ownBlock=some k\/vw.ownBlock=some k\/vm.ownBlock=some k)=U:=⟨_,rfl⟩
    have hUT:∀ k,(k=V+1\/vd.ownBlock=some k\/vw.ownBlock=some k\/vm.ownBlock=some k)->V<=k/\k<T:=fun k hk=>by
     obtain⟨cs,t,h1,_⟩:=hrows.alien k (.inr hk)
     have h2:=(Array.getElem?_eq_some_iff.1 h1).1
     rw[HT.out] at h2
     refine⟨?_,h2⟩
     rcases hk with rfl | hk | hk | hk
     ·exact Nat.le_succ V
     ·exact own_ge hrows.rd hk
     ·exact own_ge hrows.rw_ hk
     ·exact own_ge hrows.rm hk
    have hrS:=hrows.below (HBS.out.mono (by rw[HT.out];exact Nat.le_refl _))
    have hrC:=hrS.below (hbc.mono (by rw[HSS.out];exact Nat.le_refl _))
    have hzc:T+1<=wc.heap.size:=by have:=hbc.size;have:=HSS.out;omega
    have HUT:=Hd (show ∀ k,U k->V<=k/\k<T by rw[<-hU];exact hUT)
    have HRW:=Hd hrS
    have HAL:=Hd (show Alien wc U by rw[<-hU];exact fun k hk=>hrC.alien k (.inr hk))
    have HTC:=Hd (show Tbx wc wc U V (V+1) vd vw vm i i i d e f by rw[<-hU];exact hrC.tri)
    have HBC:=Hd (show Below wS.heap.size wS wc from hbc.mono (by rw[HSS.out];exact Nat.le_refl _))
    have HBV:=Hd (show Below V w wS from HB.out.trans (HBS.out.mono (by omega)))
    have HU:=Hd hU
    have HTN:=Hd (show ¬ U T from fun h=>Nat.lt_irrefl T (HUT.out T h).2)
    have HZS:=Hd (show T<wS.heap.size by rw[HSS.out];exact Nat.lt_succ_self T)
    obtain⟨iD,hiD0,hiD1,hiD2,hiD3⟩:=info_parts infoDp
    obtain⟨iW,hiW0,hiW1,hiW2,hiW3⟩:=info_parts infoWp
    obtain⟨iF,hiF0,hiF1,hiF2,hiF3⟩:=info_parts infoFace
    obtain⟨x0,x1,x2⟩:=HTC.out.cells
    clear hbc hrows hrS hrC hUT hU k0 k1 k2
    cases hmade:P.made with
    | none=>
     rw[hmade] at hm
     dsimp only at hm
     obtain⟨h7,h8⟩:=hm
     subst h7 h8
     go_upto_region 14 with (at_builtin;go_loud (refine wpList_append_keeps _ rfl (.tmp 41) (.tmp 43) 38 rfl V tDp iD (.pointer none) 1 8 Tryz.underlying38 hiD0 hiD1 hiD2 hiD3 rfl (by decide) vm i f rfl (Dr.own_alloc HTC.out.rm _) ⟨wc.heap.size,0,none⟩ 1 1 [.pointer none] rfl rfl (cell_one_new _ _ _) (by simp[Value.oneCell']) (by omega) (by unfold maxLen;omega) (by omega) (by simp;omega) ?_);go_loud (intro g2 c2 w2 hg hgr hat hlt _);go_loud (have hbx:=box_grown HTC.out.rm (by decide) hgr HTC.out.box);go_loud (have y2:w2.cell? ⟨V+1,2,none⟩=some vm:=(by rw[cell_of_row _ _ _ _ _ _ hbx];rfl));go_loud (have b2:=frozen_of_row w2 (V+1) 2 _ _ hbx);have HG:=Hd hg;have HGR:=Hd hgr;have HAT:=Hd hat;clear hg hgr hat hbx hlt)
     have hS:=HTC.out.app_m HG.out HGR.out HAT.out
     obtain⟨wa2,hwa⟩:∃ wa,w2.setCell ⟨V+1,2,none⟩ (.slice (some ⟨g2,0,none⟩) (i+1) c2)=wa:=⟨_,rfl⟩
     rw[hwa] at hS ⊢
     have hz2:T+1<=wa2.heap.size:=by have:=hS.kept.size;omega
     have HT2:=Hd hS
     clear hwa HG HGR HAT hS y2 b2 x0 x1 x2
     obtain⟨x0,x1,x2⟩:=HT2.out.cells
     go_upto_region 15 with (at_builtin;go_loud (refine wpList_append_keeps _ rfl (.tmp 47) (.tmp 49) 37 rfl V tWp iW (.pointer none) 1 8 Tryz.underlying37 hiW0 hiW1 hiW2 hiW3 rfl (by decide) vw i e rfl (Dr.own_alloc HT2.out.rw_ _) ⟨wa2.heap.size,0,none⟩ 1 1 [.pointer none] rfl rfl (cell_one_new _ _ _) (by simp[Value.oneCell']) (by omega) (by unfold maxLen;omega) (by omega) (by simp;omega) ?_);go_loud (intro g1 c1 w1 hg hgr hat hlt _);go_loud (have hbx:=box_grown HT2.out.rw_ (by decide) hgr HT2.out.box);go_loud (have y1:w1.cell? ⟨V+1,1,none⟩=some vw:=(by rw[cell_of_row _ _ _ _ _ _ hbx];rfl));go_loud (have b1:=frozen_of_row w1 (V+1) 1 _ _ hbx);have HG:=Hd hg;have HGR:=Hd hgr;have HAT:=Hd hat;clear hg hgr hat hbx hlt)
     have hS:=HT2.out.app_w HG.out HGR.out HAT.out
     obtain⟨wa1,hwa⟩:∃ wa,w1.setCell ⟨V+1,1,none⟩ (.slice (some ⟨g1,0,none⟩) (i+1) c1)=wa:=⟨_,rfl⟩
     rw[hwa] at hS ⊢
     have hz1:T+1<=wa1.heap.size:=by have:=hS.kept.size;omega
     have HT1:=Hd hS
     clear hwa HG HGR HAT hS y1 b1 x0 x1 x2
     obtain⟨x0,x1,x2⟩:=HT1.out.cells
     go_upto_region 4 with (at_builtin;go_loud (refine wpList_append_keeps _ rfl (.tmp 55) (.tmp 56) 36 rfl V tFace iF .nilIface 1 16 Tryz.underlying36 hiF0 hiF1 hiF2 hiF3 rfl (by decide) vd i d rfl (Dr.own_alloc HT1.out.rd _) ⟨wa1.heap.size,0,none⟩ 1 1 [.nilIface] rfl rfl (cell_one_new _ _ _) (by simp[Value.oneCell']) (by omega) (by unfold maxLen;omega) (by omega) (by simp;omega) ?_);go_loud (intro g0 c0 w0 hg hgr hat hlt _);go_loud (have hbx:=box_grown HT1.out.rd (by decide) hgr HT1.out.box);go_loud (have y0:w0.cell? ⟨V+1,0,none⟩=some vd:=(by rw[cell_of_row _ _ _ _ _ _ hbx];rfl));go_loud (have b0:=frozen_of_row w0 (V+1) 0 _ _ hbx);have HG:=Hd hg;have HGR:=Hd hgr;have HAT:=Hd hat;clear hg hgr hat hbx hlt)
     have hS:=HT1.out.app_d HG.out HGR.out HAT.out
     obtain⟨wa0,hwa⟩:∃ wa,w0.setCell ⟨V+1,0,none⟩ (.slice (some ⟨g0,0,none⟩) (i+1) c0)=wa:=⟨_,rfl⟩
     rw[hwa] at hS ⊢
     have hz0:T+1<=wa0.heap.size:=by have:=hS.kept.size;omega
     have HT0:=Hd hS
     clear hwa HG HGR HAT hS y0 b0 x0 x1 x2
     obtain⟨x0,x1,x2⟩:=HT0.out.cells
     have hT:=HT0.out.from_ HBC.out
     rw[<-HU.out] at hT
     have HR3:=Hd (Tbx.snoc_none HRW.out (show (Ps[i]?).bind Plm.made=none by rw[HPI.out];exact hmade) hT)
     have HB3:=Hd (HBV.out.trans ((HT0.out.from_ HBC.out).kept.to_below (by have:=HZS.out;omega) (fun k hk=>(HUT.out k hk).1)))
     clear hT x0 x1 x2
     go_wp2
     go_roundw
     case rel=>exact⟨i+1,by go_num,by omega,⟨_,_,_,_,_,_,HR3.out⟩,HB3.out,by omega⟩
     case measure=>simp[intOf];omega
    | some Dg=>
     obtain⟨D,gg⟩:=Dg
     rw[hmade] at hm
     dsimp only at hm
     obtain⟨S,p,dd,q,r,h8,h7,htw,hS0,hp0,hq0,hnp0,hnq0⟩:=hm
     subst h7 h8
     have HMD:=Hd hmade
     have HTW:=Hd htw
     have HS0:=Hd hS0
     have HP0:=Hd (show wS.heap.size<=p/\wS.heap.size<=q by have:=HSS.out;omega)
     have HN0:=Hd (show ¬ S p/\¬ S q from⟨hnp0,hnq0⟩)
     clear hmade htw hS0 hp0 hq0 hnp0 hnq0
     go_upto_region 14 with (at_builtin;go_loud (refine wpList_append_keeps _ rfl (.tmp 41) (.tmp 43) 38 rfl V tDp iD (.pointer none) 1 8 Tryz.underlying38 hiD0 hiD1 hiD2 hiD3 rfl (by decide) vm i f rfl (Dr.own_alloc HTC.out.rm _) ⟨wc.heap.size,0,none⟩ 1 1 [.pointer (some ⟨q,0,none⟩)] rfl rfl (cell_one_new _ _ _) (by simp[Value.oneCell']) (by omega) (by unfold maxLen;omega) (by omega) (by simp;omega) ?_);go_loud (intro g2 c2 w2 hg hgr hat hlt _);go_loud (have hbx:=box_grown HTC.out.rm (by decide) hgr HTC.out.box);go_loud (have y2:w2.cell? ⟨V+1,2,none⟩=some vm:=(by rw[cell_of_row _ _ _ _ _ _ hbx];rfl));go_loud (have b2:=frozen_of_row w2 (V+1) 2 _ _ hbx);have HG:=Hd hg;have HGR:=Hd hgr;have HAT:=Hd hat;clear hg hgr hat hbx hlt)
     have hS:=HTC.out.app_m HG.out HGR.out HAT.out
     obtain⟨wa2,hwa⟩:∃ wa,w2.setCell ⟨V+1,2,none⟩ (.slice (some ⟨g2,0,none⟩) (i+1) c2)=wa:=⟨_,rfl⟩
     rw[hwa] at hS ⊢
     have hz2:T+1<=wa2.heap.size:=by have:=hS.kept.size;omega
     have HT2:=Hd hS
     clear hwa HG HGR HAT hS y2 b2 x0 x1 x2
     obtain⟨x0,x1,x2⟩:=HT2.out.cells
     go_upto_region 15 with (at_builtin;go_loud (refine wpList_append_keeps _ rfl (.tmp 47) (.tmp 49) 37 rfl V tWp iW (.pointer none) 1 8 Tryz.underlying37 hiW0 hiW1 hiW2 hiW3 rfl (by decide) vw i e rfl (Dr.own_alloc HT2.out.rw_ _) ⟨wa2.heap.size,0,none⟩ 1 1 [.pointer (some ⟨p,0,none⟩)] rfl rfl (cell_one_new _ _ _) (by simp[Value.oneCell']) (by omega) (by unfold maxLen;omega) (by omega) (by simp;omega) ?_);go_loud (intro g1 c1 w1 hg hgr hat hlt _);go_loud (have hbx:=box_grown HT2.out.rw_ (by decide) hgr HT2.out.box);go_loud (have y1:w1.cell? ⟨V+1,1,none⟩=some vw:=(by rw[cell_of_row _ _ _ _ _ _ hbx];rfl));go_loud (have b1:=frozen_of_row w1 (V+1) 1 _ _ hbx);have HG:=Hd hg;have HGR:=Hd hgr;have HAT:=Hd hat;clear hg hgr hat hbx hlt)
     have hS:=HT2.out.app_w HG.out HGR.out HAT.out
     obtain⟨wa1,hwa⟩:∃ wa,w1.setCell ⟨V+1,1,none⟩ (.slice (some ⟨g1,0,none⟩) (i+1) c1)=wa:=⟨_,rfl⟩
     rw[hwa] at hS ⊢
     have hz1:T+1<=wa1.heap.size:=by have:=hS.kept.size;omega
     have HT1:=Hd hS
     clear hwa HG HGR HAT hS y1 b1 x0 x1 x2
     obtain⟨x0,x1,x2⟩:=HT1.out.cells
     go_upto_region 18 with (at_builtin;go_loud (refine wpList_append_keeps _ rfl (.tmp 60) (.tmp 63) 36 rfl V tFace iF .nilIface 1 16 Tryz.underlying36 hiF0 hiF1 hiF2 hiF3 rfl (by decide) vd i d rfl (Dr.own_alloc HT1.out.rd _) ⟨wa1.heap.size,0,none⟩ 1 1 [.iface 89 (.pointer (some ⟨p,0,none⟩))] rfl rfl (cell_one_new _ _ _) (by simp[Value.oneCell']) (by omega) (by unfold maxLen;omega) (by omega) (by simp;omega) ?_);go_loud (intro g0 c0 w0 hg hgr hat hlt _);go_loud (have hbx:=box_grown HT1.out.rd (by decide) hgr HT1.out.box);go_loud (have y0:w0.cell? ⟨V+1,0,none⟩=some vd:=(by rw[cell_of_row _ _ _ _ _ _ hbx];rfl));go_loud (have b0:=frozen_of_row w0 (V+1) 0 _ _ hbx);have HG:=Hd hg;have HGR:=Hd hgr;have HAT:=Hd hat;clear hg hgr hat hbx hlt)
     have hS:=HT1.out.app_d HG.out HGR.out HAT.out
     obtain⟨wa0,hwa⟩:∃ wa,w0.setCell ⟨V+1,0,none⟩ (.slice (some ⟨g0,0,none⟩) (i+1) c0)=wa:=⟨_,rfl⟩
     rw[hwa] at hS ⊢
     have hz0:T+1<=wa0.heap.size:=by have:=hS.kept.size;omega
     have HT0:=Hd hS
     clear hwa HG HGR HAT hS y0 b0 x0 x1 x2
     obtain⟨x0,x1,x2⟩:=HT0.out.cells
     have HL0:=Hd (show Lay wS wa0 U V (V+1) i g0 c0 g1 c1 g2 c2 d e f S p dd q r D 1048576 P.fs.length Gt.new from Lay.start HBC.out HT0.out HTW.out (fun k hk=>by have:=(HUT.out k hk).2;have:=HSS.out;omega) HAL.out (fun k hk=>by have:=HS0.out k hk;have:=HSS.out;omega) HP0.out.1 HP0.out.2 HN0.out.1 HN0.out.2 (by have:=HSS.out;omega))
     have y3:_=_:=(HL0.out.tri.cell (p:=⟨T,3,none⟩) HZS.out HTN.out).trans (show wS.cell? ⟨T,3,none⟩=some (.slice Ap np cp) from HRS.out 3 (.slice Ap np cp) (by rw[<-HR.out];rfl))
     clear HT0 HTW HS0 HTC
     have hbp:Below V w wa0:=HBV.out.trans (HL0.out.tri.kept.to_below (by have:=HZS.out;omega) (fun k hk=>(HUT.out k hk).1))
     have HPL:=Hd (show Rd wa0 B 2 Ap np (cFt P.plan) from HPLN.out.below (hbp.mono (by have:=HV.out;omega)))
     clear hbp
     go_upto_if 69 with (fail)
     go_cut [5] from 66 to 75 (fun v5 wc=>v5 = .int .i64 (i:Int)/\Lay wS wc U V (V+1) i g0 c0 g1 c1 g2 c2 d e f S p dd q r D 1048576 P.fs.length (if 0<P.plan.length then Gt.new.arm P.plan else Gt.new))
     case first=>
      rcases Nat.eq_zero_or_pos np with hz | hz
      ·have h01:((np:Int):Int)=0:=by omega
       have h02:decide ((0:Int)<(np:Int))=false:=by simp[hz]
       go_wp2
       go_meet
       exact⟨rfl,by rw[if_neg (by have:=HNP.out;omega)];exact HL0.out⟩
      ·have h01:(0:Int)<(np:Int):=by omega
       have h02:decide ((0:Int)<(np:Int))=true:=by simp[hz]
       go_wp2_with (go_at_call 28;obtain⟨a1,a2,a3,a4⟩:=HL0.out.args;go_loud (refine (do_arm HPL.out HPC.out (by have:=HV.out;omega) (by have:=HP0.out.1;have:=HSS.out;have:=HV.out;omega) (by have:=(HS.out P HPM.out).plan;have:=HNP.out;omega) (by omega) (by omega) (by omega) a1 a2 a3 a4 HL0.out.two.wd HL0.out.two.dk).mono ?_);rintro x w5 ⟨rfl,h1,h2,h3⟩;have HL5:=Hd (HL0.out.turn h1 h2 h3);clear h1 h2 h3 a1 a2 a3 a4)
       go_meet
       exact⟨rfl,by rw[if_pos (by have:=HNP.out;omega)];exact HL5.out⟩
     case rest=>
      obtain⟨h5,hl1⟩:=hcut
      subst h5
      obtain⟨gA,hgA⟩:∃ gA,(if 0<P.plan.length then Gt.new.arm P.plan else Gt.new)=gA:=⟨_,rfl⟩
      rw[hgA] at hl1
      have HGA:=Hd hgA
      have HL1:=Hd hl1
      obtain⟨x0,x1,x2⟩:=hl1.tri.cells
      have hz4:T+1<=wc.heap.size:=by have:=hl1.tri.kept.size;have:=HZS.out;omega
      clear hl1 hgA
      have y4:_=_:=(HL1.out.tri.cell (p:=⟨T,4,none⟩) HZS.out HTN.out).trans (show wS.cell? ⟨T,4,none⟩=some (.bool P.off) from HRS.out 4 (.bool P.off) (by rw[<-HR.out];rfl))
      go_upto_if 77 with (fail)
      go_cut [5] from 76 to 81 (fun v5 wc=>v5 = .int .i64 (i:Int)/\Lay wS wc U V (V+1) i g0 c0 g1 c1 g2 c2 d e f S p dd q r D 1048576 P.fs.length (if P.off then gA.offl true else gA))
      case first=>
       cases hoff:P.off with
       | false=>
        rw[hoff] at y4
        go_wp2
        go_meet
        exact⟨rfl,by rw[hoff];exact HL1.out⟩
       | true=>
        rw[hoff] at y4
        go_wp2_with (go_at_call 28;obtain⟨a1,a2,a3,a4⟩:=HL1.out.args;go_loud (refine (do_off (by omega) (by omega) (by omega) a1 a2 a3 a4 HL1.out.two.wd HL1.out.two.dk).mono ?_);rintro x w5 ⟨rfl,h1,h2,h3⟩;have HL5:=Hd (HL1.out.turn h1 h2 h3);clear h1 h2 h3 a1 a2 a3 a4)
        go_meet
        exact⟨rfl,by rw[hoff];exact HL5.out⟩
      case rest=>
       obtain⟨h5,hl2⟩:=hcut
       subst h5
       obtain⟨gB,hgB⟩:∃ gB,(if P.off then gA.offl true else gA)=gB:=⟨_,rfl⟩
       rw[hgB] at hl2
       have HGB:=Hd hgB
       have HL2:=Hd hl2
       obtain⟨x0,x1,x2⟩:=hl2.tri.cells
       have hz5:T+1<=wc.heap.size:=by have:=hl2.tri.kept.size;have:=HZS.out;omega
       clear hl2 hgB
       have y5:_=_:=(HL2.out.tri.cell (p:=⟨T,5,none⟩) HZS.out HTN.out).trans (show wS.cell? ⟨T,5,none⟩=some (.bool P.laid) from HRS.out 5 (.bool P.laid) (by rw[<-HR.out];rfl))
       have y6:_=_:=(HL2.out.tri.cell (p:=⟨T,6,none⟩) HZS.out HTN.out).trans (show wS.cell? ⟨T,6,none⟩=some (.int .i64 P.rd) from HRS.out 6 (.int .i64 P.rd) (by rw[<-HR.out];rfl))
       have y7:_=_:=(HL2.out.tri.cell (p:=⟨T,7,none⟩) HZS.out HTN.out).trans (show wS.cell? ⟨T,7,none⟩=some (.int .i64 P.call) from HRS.out 7 (.int .i64 P.call) (by rw[<-HR.out];rfl))
       have y8:_=_:=(HL2.out.tri.cell (p:=⟨T,8,none⟩) HZS.out HTN.out).trans (show wS.cell? ⟨T,8,none⟩=some (.int .i64 P.ins) from HRS.out 8 (.int .i64 P.ins) (by rw[<-HR.out];rfl))
       have HFS:=Hd (show ((Ps[i]?).map Plm.fs).getD []=P.fs by rw[HPI.out];rfl)
       have hgg:gg=P.gate:=made_gate HMD.out
       have HON:=Hd (show (Ps[i]?).bind Plm.made=some (D,if P.laid then gB.fuse P.rd P.call P.ins else gB) by rw[HPI.out];show P.made=_;rw[HMD.out,hgg,<-HGB.out,<-HGA.out];rfl)
       clear hgg
       cases hlaid:P.laid with
       | false=>
        rw[hlaid] at y5
        have HON2:=HON.out
        rw[hlaid] at HON2
        have HON3:=Hd HON2
        clear HON2
        have hL:=HL2.out
        rw[<-HU.out] at hL
        have HR3:=Hd (hL.done HRW.out (by rw[HFS.out]) HON3.out)
        have HB3:=Hd (HBV.out.trans (HL2.out.tri.kept.to_below (by have:=HZS.out;omega) (fun k hk=>(HUT.out k hk).1)))
        have hz6:=HL2.out.tri.kept.size
        have HZ6:=Hd hz6
        clear hL hz6 x0 x1 x2
        go_wp2
        go_roundw
        case rel=>exact⟨i+1,by go_num,by omega,⟨_,_,_,_,_,_,HR3.out⟩,HB3.out,by have:=HZ6.out;have:=HZS.out;omega⟩
        case measure=>simp[intOf];omega
       | true=>
        rw[hlaid] at y5
        have HON2:=HON.out
        rw[hlaid] at HON2
        have HON3:=Hd HON2
        clear HON2
        go_upto_region 4 with (go_at_call 28;obtain⟨a1,a2,a3,a4⟩:=HL2.out.args;go_loud (refine (do_fuse (by omega) (by omega) (by omega) a1 a2 a3 a4 HL2.out.two.wd HL2.out.two.dk).mono ?_);rintro x w5 ⟨rfl,h1,h2,h3⟩;have HL5:=Hd (HL2.out.turn h1 h2 h3);clear h1 h2 h3 a1 a2 a3 a4)
        have hL:=HL5.out
        rw[<-HU.out] at hL
        have HR3:=Hd (hL.done HRW.out (by rw[HFS.out]) HON3.out)
        have HB3:=Hd (HBV.out.trans (HL5.out.tri.kept.to_below (by have:=HZS.out;omega) (fun k hk=>(HUT.out k hk).1)))
        have hz6:=HL5.out.tri.kept.size
        have HZ6:=Hd hz6
        clear hL hz6 x0 x1 x2
        go_wp2
        go_roundw
        case rel=>exact⟨i+1,by go_num,by omega,⟨_,_,_,_,_,_,HR3.out⟩,HB3.out,by have:=HZ6.out;have:=HZS.out;omega⟩
        case measure=>simp[intOf];omega
  ·obtain rfl:i=n:=by omega
   obtain⟨vd,vw,vm,d,e,f,hrows⟩:=HINV.out
   obtain⟨cs0,hcz,hcV⟩:=hrows.res
   obtain⟨Ad,cd,rfl,_,_⟩:=own_form hrows.rd
   obtain⟨Aw,cw,rfl,_,_⟩:=own_form hrows.rw_
   obtain⟨Am,cm,rfl,_,_⟩:=own_form hrows.rm
   obtain⟨C,hC⟩:∃ C:List Value,[.slice Ad i cd,.slice Aw i cw,.slice Am i cm]=C:=⟨_,rfl⟩
   have hbx:wr.heap[V+1]?=some (.cells C.toArray tBoth (0,0)):=by rw[<-hC];exact hrows.box
   have hCl:C.length=3:=by rw[<-hC];rfl
   obtain⟨wF,hwF⟩:∃ wF,wr.setRow V C.toArray=wF:=⟨_,rfl⟩
   have hst:(Instr.storeAt tBoth (.pointer (some ⟨V,0,none⟩)) (.agg C.toArray)).run Tryz.prog wr = .ok () wF:=by
    have h:=run_storeVar_row (P:=Tryz.prog) wr V tBoth tBoth cs0 C.toArray hcV (by rw[<-hC];kernel_rfl) (by rw[<-hC];exact hcz) (by rw[<-hC];simp[Value.oneCell'])
    simp only[Instr.storeAt,Instr.sureAddr,Sem.run_bind,Sem.run_pure,Result.andThen_ok]
    rw[<-hwF]
    exact h
   have hrF:RowsOf wF V (V+1) (fun j=>((Ps[j]?).map Plm.fs).getD []) (fun j=>(Ps[j]?).bind Plm.made) i (.slice Ad i cd) (.slice Aw i cw) (.slice Am i cm) d e f:=by rw[<-hwF];exact hrows.setV _ (by rw[<-hC];rfl)
   have hbF:Below V w wF:=by
    rw[<-hwF]
    exact HB.out.trans ((show Kept wr (wr.setRow V C.toArray) (fun k=>k=V) from⟨rfl,rfl,rfl,by simp[World.setRow],fun k _ hk=>setRow_other wr V k _ hk⟩).to_below (by omega) (fun k e=>by omega))
   have hcF:wF.heap[V]?=some (.cells C.toArray tBoth (0,0)):=by rw[<-hwF];exact setRow_heap wr V _ _ _ _ hcV
   have HRC:=Hd (show wr.rangeAt (V+1) 0 C from fun j u hu=>by rw[cell_of_row _ _ _ _ _ _ hbx];simpa using hu)
   have HRF:=Hd (show wF.rangeAt V 0 C from fun j u hu=>by rw[cell_of_row _ _ _ _ _ _ hcF];simpa using hu)
   have HCI:=Hd (show (Tryz.prog.info? tBoth).map (fun i=>i.size)=some C.length by rw[hCl];kernel_rfl)
   have HST:=Hd hst
   have HRW:=Hd hrF
   have HBF:=Hd hbF
   have HC:=Hd hC
   clear hrows hcV hcz hC hbx hCl hwF hst hrF hbF hcF
   go_wp2_with (first | (refine wpList_load_mid rfl tBoth (.tmp 4) rfl (V+1) 0 rfl C _ HRC.out Tryz.underlying40 rfl HCI.out ?_) | (refine wpList_store_by rfl tBoth (.tmp 2) (.tmp 94) rfl _ _ rfl rfl HST.out ?_))
   refine bodyPost_ret (v:=.tuple #[.agg C.toArray,.bool true]) (results_cell_tmp Tryz.results12 rfl (run_loadVar_mid wF V 0 tBoth C _ HRF.out Tryz.underlying40 rfl HCI.out) rfl) rfl ?_
   exact⟨_,_,_,_,_,_,V+1,by rw[<-HC.out],by rw[HV.out];exact HRW.out,by rw[HV.out];exact HBF.out⟩
end Go.Proofs.YtmgljaecmchgaaaGreat.Gf
namespace Go.Proofs.YtmgljaecmchgaaaGreat.Gf
open Go.RowKit Go.Proofs
abbrev tSets:TypeId:=44
abbrev tPset:TypeId:=29
abbrev tAset:TypeId:=59
abbrev tMset:TypeId:=61
def bI (b:List UInt8) (k:Nat):Int:=((b.getD k 0).toNat:Int)
def setC (v:Value) (K M Bk:Int) (b:List UInt8) (ep ct:Int):List Value:=
 [v,.int .i64 K,.int .i64 M,.int .i64 Bk,.int .u8 (bI b 0),.int .u8 (bI b 1),.int .u8 (bI b 2),.int .u8 (bI b 3),.int .u8 (bI b 4),.int .u8 (bI b 5),.int .u8 (bI b 6),.int .u8 (bI b 7),.int .i64 ep,.int .i64 ct]
theorem both_storeAt (w:World) (a b c:Value) (ha:a.oneCell'=true) (hb:b.oneCell'=true) (hc:c.oneCell'=true):(Instr.storeAt tBoth (.pointer (some ⟨w.heap.size,0,none⟩)) (.agg #[a,b,c])).run Tryz.prog (w.alloc (.cells #[.slice none 0 0,.slice none 0 0,.slice none 0 0] tBoth)) = .ok () (w.alloc (.cells #[a,b,c] tBoth)):=by
 have h:=run_storeVar_new (P:=Tryz.prog) w tBoth #[.slice none 0 0,.slice none 0 0,.slice none 0 0] #[a,b,c] (by kernel_rfl) rfl (by simp[ha,hb,hc])
 simp only[Instr.storeAt,Instr.sureAddr,Sem.run_bind,Sem.run_pure,Result.andThen_ok]
 exact h
structure SetsAt (w:World) (fs:Nat->List (Dr.Bs×Dr.Bs)) (o:Nat->Option (Dr.D×Gt)) (n p q:Nat) (K M Bk:Int) (b:List UInt8) (ep ct:Int) (vd vw vm:Value):Prop where
 rows:∃ V G d e f,RowsOf w V G fs o n vd vw vm d e f
 prog:w.heap[p]?=some (.cells (setC vd K M Bk b ep ct).toArray tAset (0,0))
 doc:w.heap[q]?=some (.cells (setC vm K M Bk b ep ct).toArray tMset (0,0))
theorem SetsAt.below {w w':World} {fs:Nat->List (Dr.Bs×Dr.Bs)} {o:Nat->Option (Dr.D×Gt)} {n p q:Nat} {K M Bk:Int} {b:List UInt8} {ep ct:Int} {vd vw vm:Value} (h:SetsAt w fs o n p q K M Bk b ep ct vd vw vm) (hb:Below w.heap.size w w'):SetsAt w' fs o n p q K M Bk b ep ct vd vw vm:=by
 obtain⟨⟨V,G,d,e,f,h1⟩,h2,h3⟩:=h
 exact⟨⟨V,G,d,e,f,h1.below hb⟩,(hb.block p (Array.getElem?_eq_some_iff.1 h2).1).trans h2,(hb.block q (Array.getElem?_eq_some_iff.1 h3).1).trans h3⟩
set_option maxRecDepth 100000 in
set_option maxHeartbeats 16000000 in
theorem makeSet_any {w:World} {B g o n c:Nat} {A:Option Addr} {Ps:List Plm} {K M Bk ep ct:Int} {b:List UInt8} (hl:Ps.length=n) (hn:n<=1048576) (hs:∀ P∈Ps,P.Small) (hA:0<n->A=some ⟨g,o,none⟩/\g<B) (hB:B<=w.heap.size)
  (hP:∀ (i:Nat) (P:Plm),Ps[i]?=some P->PlmAt w B ⟨g,o+i*9,none⟩ P) :
  Calls Tryz.prog 4 #[.agg (setC (.slice A n c) K M Bk b ep ct).toArray] w fun x w'=>∃ vd vw vm p q,x = .returned (.tuple #[.agg #[vd,vw,vm,.pointer (some ⟨p,0,none⟩),.pointer (some ⟨q,0,none⟩)],.bool true])/\
   SetsAt w' (fun j=>((Ps[j]?).map Plm.fs).getD []) (fun j=>(Ps[j]?).bind Plm.made) n p q K M Bk b ep ct vd vw vm/\Below w.heap.size w w':=by
 obtain⟨U,hU⟩:∃ U,w.heap.size=U:=⟨_,rfl⟩
 obtain⟨w0,hw0⟩:∃ w0,(w.alloc (.cells (setC (.slice A n c) K M Bk b ep ct).toArray tPset)).alloc (.cells #[.slice none 0 0,.slice none 0 0,.slice none 0 0,.pointer none,.pointer none] tSets)=w0:=⟨_,rfl⟩
 have hb0:Below w.heap.size w w0:=by rw[<-hw0];exact ((Below.refl _ _).alloc (Nat.le_refl _) _).alloc (by simp) _
 have hs0:w0.heap.size=U+2:=by rw[<-hw0,<-hU];simp
 have hp0:w0.heap[U]?=some (.cells (setC (.slice A n c) K M Bk b ep ct).toArray tPset (0,0)):=by
  rw[<-hw0,heap_alloc_old _ _ (by simp;omega),<-hU]
  exact heap_alloc_last w _
 have hr0:w0.heap[U+1]?=some (.cells #[.slice none 0 0,.slice none 0 0,.slice none 0 0,.pointer none,.pointer none] tSets (0,0)):=by
  have h:=heap_alloc_last (w.alloc (.cells (setC (.slice A n c) K M Bk b ep ct).toArray tPset)) (.cells #[.slice none 0 0,.slice none 0 0,.slice none 0 0,.pointer none,.pointer none] tSets)
  rw[hw0,show (w.alloc (.cells (setC (.slice A n c) K M Bk b ep ct).toArray tPset)).heap.size=U+1 by simp[hU]] at h
  exact h
 have x0:w0.cell? ⟨U,0,none⟩=some (.slice A n c):=by rw[cell_of_row _ _ _ _ _ _ hp0];rfl
 have HMK:=Hd (make_any (w:=w0) (c:=c) hl hn hs hA (by have:=hb0.size;omega) (fun i P h=>by
  obtain⟨Af,nf,cf,Ap,np,cp,h1,h2,h3,h4⟩:=(hP i P h).cells
  have hg:g<B:=(hA (by have:=(List.getElem?_eq_some_iff.1 h).1;omega)).2
  exact⟨Af,nf,cf,Ap,np,cp,fun j u hu=>(hb0.cell (p:=⟨g,o+i*9+j,none⟩) (by show g<w.heap.size;omega)).trans (h1 j u hu),filesRo_below h2 hb0,h3.below (hb0.mono hB),h4⟩))
 have HB0:=Hd hb0
 have HU:=Hd hU
 have HW0:=Hd hw0
 have HS0:=Hd hs0
 have HP0:=Hd hp0
 have HR0:=Hd hr0
 clear hl hn hs hA hB hP hU hw0 hb0 hs0 hp0 hr0
 unfold setC at HW0 ⊢
 go_enter Tryz.func4,Tryz.ntmps4
 go_upto_region 1 with (fail)
 rw[HW0.out,HU.out]
 go_upto_region 2 with (first | (go_at_call 12;refine HMK.out.mono ?_;rintro x w1 ⟨vd,vw,vm,d,e,f,G,rfl,hr,hb1⟩;obtain⟨Ad,cd,rfl,_,_⟩:=own_form hr.rd;obtain⟨Aw,cw,rfl,_,_⟩:=own_form hr.rw_;obtain⟨Am,cm,rfl,_,_⟩:=own_form hr.rm;have HR1:=Hd hr;have HB1:=Hd hb1;clear hr hb1) | (refine wpList_store_by rfl tBoth (.tmp 4) (.tmp 10) rfl _ _ rfl rfl (both_storeAt w1 _ _ _ rfl rfl rfl) ?_))
 obtain⟨W1,hW1⟩:∃ W1,w1.heap.size=W1:=⟨_,rfl⟩
 obtain⟨w2,hw2⟩:∃ w2,w1.alloc (.cells #[.slice Ad n cd,.slice Aw n cw,.slice Am n cm] tBoth)=w2:=⟨_,rfl⟩
 have hb2:Below w1.heap.size w1 w2:=by rw[<-hw2];exact (Below.refl _ _).alloc (Nat.le_refl _) _
 have hs2:w2.heap.size=W1+1:=by rw[<-hw2,<-hW1];simp
 have hx2:w2.heap[W1]?=some (.cells #[.slice Ad n cd,.slice Aw n cw,.slice Am n cm] tBoth (0,0)):=by
  rw[<-hw2,<-hW1]
  exact heap_alloc_last w1 _
 have hUW:U+2<=W1:=by have:=HB1.out.size;have:=HS0.out;omega
 have hp2:w2.heap[U]?=some (.cells (setC (.slice A n c) K M Bk b ep ct).toArray tPset (0,0)):=(hb2.block U (by omega)).trans ((HB1.out.block U (by have:=HS0.out;omega)).trans HP0.out)
 have hr2:w2.heap[U+1]?=some (.cells #[.slice none 0 0,.slice none 0 0,.slice none 0 0,.pointer none,.pointer none] tSets (0,0)):=(hb2.block (U+1) (by omega)).trans ((HB1.out.block (U+1) (by have:=HS0.out;omega)).trans HR0.out)
 obtain⟨w4,hw4⟩:∃ w4,(w2.alloc (.cells (setC (.slice Ad n cd) K M Bk b ep ct).toArray tAset)).alloc (.cells (setC (.slice Am n cm) K M Bk b ep ct).toArray tMset)=w4:=⟨_,rfl⟩
 have hb4:Below w2.heap.size w2 w4:=by rw[<-hw4];exact ((Below.refl _ _).alloc (Nat.le_refl _) _).alloc (by simp) _
 have hs4:w4.heap.size=W1+3:=by rw[<-hw4];simp[hs2]
 have hp4:w4.heap[W1+1]?=some (.cells (setC (.slice Ad n cd) K M Bk b ep ct).toArray tAset (0,0)):=by
  rw[<-hw4,heap_alloc_old _ _ (by simp;omega),<-hs2]
  exact heap_alloc_last w2 _
 have hq4:w4.heap[W1+2]?=some (.cells (setC (.slice Am n cm) K M Bk b ep ct).toArray tMset (0,0)):=by
  have h:=heap_alloc_last (w2.alloc (.cells (setC (.slice Ad n cd) K M Bk b ep ct).toArray tAset)) (.cells (setC (.slice Am n cm) K M Bk b ep ct).toArray tMset)
  rw[hw4,show (w2.alloc (.cells (setC (.slice Ad n cd) K M Bk b ep ct).toArray tAset)).heap.size=W1+2 by simp[hs2]] at h
  exact h
 have hr4:w4.heap[U+1]?=some (.cells #[.slice none 0 0,.slice none 0 0,.slice none 0 0,.pointer none,.pointer none] tSets (0,0)):=(hb4.block (U+1) (by omega)).trans hr2
 obtain⟨C,hC⟩:∃ C:Array Value,#[.slice Ad n cd,.slice Aw n cw,.slice Am n cm,.pointer (some ⟨W1+1,0,none⟩),.pointer (some ⟨W1+2,0,none⟩)]=C:=⟨_,rfl⟩
 have hCz:C.size=5:=by rw[<-hC];rfl
 obtain⟨wF,hwF⟩:∃ wF,w4.setRow (U+1) C=wF:=⟨_,rfl⟩
 have hst:(Instr.storeAt tSets (.pointer (some ⟨U+1,0,none⟩)) (.agg C)).run Tryz.prog w4 = .ok () wF:=by
  have h:=run_storeVar_row (P:=Tryz.prog) w4 (U+1) tSets tSets _ C hr4 (by rw[hCz];kernel_rfl) (by rw[hCz];rfl) (by rw[<-hC];simp[Value.oneCell'])
  simp only[Instr.storeAt,Instr.sureAddr,Sem.run_bind,Sem.run_pure,Result.andThen_ok]
  rw[<-hwF]
  exact h
 have hkF:Kept w4 wF (fun k=>k=U+1):=by rw[<-hwF];exact⟨rfl,rfl,rfl,by simp[World.setRow],fun k _ hk=>setRow_other w4 (U+1) k _ hk⟩
 have hcF:wF.heap[U+1]?=some (.cells C tSets (0,0)):=by rw[<-hwF];exact setRow_heap w4 (U+1) _ _ _ _ hr4
 have hbF:Below w.heap.size w wF:=(HB0.out.trans ((HB1.out.trans ((hb2.trans (hb4.mono (by omega))).mono (by have:=HB1.out.size;omega))).mono (by have:=HB0.out.size;omega))).trans (hkF.to_below (by have:=HU.out;omega) (fun k e=>by have:=HU.out;omega))
 have hset:SetsAt wF (fun j=>((Ps[j]?).map Plm.fs).getD []) (fun j=>(Ps[j]?).bind Plm.made) n (W1+1) (W1+2) K M Bk b ep ct (.slice Ad n cd) (.slice Aw n cw) (.slice Am n cm):=by
  have hne:∀ {k:Nat} {x:Obj},w4.heap[k]?=some x->k≠U+1->wF.heap[k]?=some x:=fun {k x} hx hk=>(hkF.block k (Array.getElem?_eq_some_iff.1 hx).1 hk).trans hx
  refine⟨⟨w0.heap.size,G,d,e,f,?_⟩,hne hp4 (by omega),hne hq4 (by omega)⟩
  exact ((HR1.out.below hb2).below hb4).elder hkF (by have:=HS0.out;omega) hr4 (by decide)
 have hrF:wF.rangeAt (U+1) 0 C.toList:=fun j u hu=>by rw[cell_of_row _ _ _ _ _ _ hcF,Nat.zero_add];simpa using hu
 have k1:w2.cell? ⟨U,1,none⟩=some (.int .i64 K):=by rw[cell_of_row _ _ _ _ _ _ hp2];rfl
 have k2:w2.cell? ⟨U,2,none⟩=some (.int .i64 M):=by rw[cell_of_row _ _ _ _ _ _ hp2];rfl
 have k3:w2.cell? ⟨U,3,none⟩=some (.int .i64 Bk):=by rw[cell_of_row _ _ _ _ _ _ hp2];rfl
 have k4:w2.cell? ⟨U,4,none⟩=some (.int .u8 (bI b 0)):=by rw[cell_of_row _ _ _ _ _ _ hp2];rfl
 have k5:w2.cell? ⟨U,5,none⟩=some (.int .u8 (bI b 1)):=by rw[cell_of_row _ _ _ _ _ _ hp2];rfl
 have k6:w2.cell? ⟨U,6,none⟩=some (.int .u8 (bI b 2)):=by rw[cell_of_row _ _ _ _ _ _ hp2];rfl
 have k7:w2.cell? ⟨U,7,none⟩=some (.int .u8 (bI b 3)):=by rw[cell_of_row _ _ _ _ _ _ hp2];rfl
 have k8:w2.cell? ⟨U,8,none⟩=some (.int .u8 (bI b 4)):=by rw[cell_of_row _ _ _ _ _ _ hp2];rfl
 have k9:w2.cell? ⟨U,9,none⟩=some (.int .u8 (bI b 5)):=by rw[cell_of_row _ _ _ _ _ _ hp2];rfl
 have k10:w2.cell? ⟨U,10,none⟩=some (.int .u8 (bI b 6)):=by rw[cell_of_row _ _ _ _ _ _ hp2];rfl
 have k11:w2.cell? ⟨U,11,none⟩=some (.int .u8 (bI b 7)):=by rw[cell_of_row _ _ _ _ _ _ hp2];rfl
 have k12:w2.cell? ⟨U,12,none⟩=some (.int .i64 ep):=by rw[cell_of_row _ _ _ _ _ _ hp2];rfl
 have k13:w2.cell? ⟨U,13,none⟩=some (.int .i64 ct):=by rw[cell_of_row _ _ _ _ _ _ hp2];rfl
 have b0:w2.cell? ⟨W1,0,none⟩=some (.slice Ad n cd):=by rw[cell_of_row _ _ _ _ _ _ hx2];rfl
 have b1:w2.cell? ⟨W1,1,none⟩=some (.slice Aw n cw):=by rw[cell_of_row _ _ _ _ _ _ hx2];rfl
 have b2:w2.cell? ⟨W1,2,none⟩=some (.slice Am n cm):=by rw[cell_of_row _ _ _ _ _ _ hx2];rfl
 have HRF:=Hd hrF
 have HCI:=Hd (show (Tryz.prog.info? tSets).map (fun i=>i.size)=some C.toList.length by rw[Array.length_toList,hCz];kernel_rfl)
 have HSET:=Hd hset
 have HBF:=Hd hbF
 have hU1:U<W1+1:=by omega
 rw[hw2,hW1]
 rw[<-hC] at hst
 unfold setC at hw4
 have HST:=Hd hst
 have HW4:=Hd hw4
 have HC:=Hd hC
 clear hb2 hx2 hp2 hr2 hw4 hb4 hs4 hp4 hq4 hr4 hCz hwF hst hkF hcF hbF hset hrF hC hW1 hw2 x0
 go_wp2_with (go_loud (refine wpList_store_by rfl tSets (.tmp 2) (.tmp 33) rfl _ _ rfl rfl (by rw[HW4.out];exact HST.out) ?_))
 refine bodyPost_ret (v:=.tuple #[.agg C.toList.toArray,.bool true]) (results_cell_tmp Tryz.results4 rfl (run_loadVar_mid wF (U+1) 0 tSets C.toList _ HRF.out Tryz.underlying44 rfl HCI.out) rfl) rfl ?_
 exact⟨_,_,_,W1+1,W1+2,by rw[Array.toArray_toList,<-HC.out],HSET.out,HBF.out⟩
end Go.Proofs.YtmgljaecmchgaaaGreat.Gf
