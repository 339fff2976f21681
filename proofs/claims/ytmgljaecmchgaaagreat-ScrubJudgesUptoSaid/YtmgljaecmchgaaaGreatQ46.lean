/- XRc5: merged by tools/merge.py. -/
import Derived.Test.YtmgljaecmchgaaaGreatQ42
import Derived.Test.YtmgljaecmchgaaaGreatQ45
set_option linter.unusedVariables false
set_option linter.unusedSimpArgs false
set_option linter.unusedSectionVars false
namespace Go.Proofs.YtmgljaecmchgaaaGreat.Gf
open Go.RowKit Go.Proofs
set_option maxRecDepth 100000 in
set_option maxHeartbeats 8000000 in
theorem judgeR_nil {w:World} {n c:Nat} {A:Option Addr} {key:List UInt8} {v:Vd} {pl:Value} :
  Calls Tryz.prog 5 #[.pointer none,.string ⟨key.toArray⟩,.agg #[.int .i64 v.kind,.int .i64 v.ep,.int .i64 v.ct,.int .i64 v.size,pl],.slice A n c] w fun x w'=>JudgeOk w w' key [] x:=by
 obtain⟨w0,hw0⟩:∃ w0,w.alloc (.cells #[.int .i64 v.kind,.int .i64 v.ep,.int .i64 v.ct,.int .i64 v.size,pl] tVd)=w0:=⟨_,rfl⟩
 have hb0:Below w.heap.size w w0:=by rw[<-hw0];exact (Below.refl _ _).alloc (Nat.le_refl _) _
 have HW0:=Hd hw0
 have HB0:=Hd hb0
 clear hw0 hb0
 go_enter Tryz.func5,Tryz.ntmps5
 go_upto_region 1 with (fail)
 rw[HW0.out]
 go_wp2_with (go_at_call 13;refine (rawR_nil _).mono ?_;rintro x w1 ⟨rfl,rfl⟩)
 go_ret
 exact⟨⟨none,0,rfl,rfl,fun h=>by simp at h⟩,HB0.out⟩
set_option maxRecDepth 100000 in
set_option maxHeartbeats 8000000 in
theorem judgeR_bad {w:World} {n nd c g:Nat} {A:Option Addr} {Kx M Bk ep ct:Int} {key:List UInt8} {v:Vd} {pl:Value} (hS:SetAt w g nd Kx M Bk ep ct) (hnd:nd<=1099511627776) (hbad:rawB Kx M Bk nd ep ct=false\/n≠nd) :
  Calls Tryz.prog 5 #[.pointer (some ⟨g,0,none⟩),.string ⟨key.toArray⟩,.agg #[.int .i64 v.kind,.int .i64 v.ep,.int .i64 v.ct,.int .i64 v.size,pl],.slice A n c] w fun x w'=>JudgeOk w w' key [] x:=by
 obtain⟨w0,hw0⟩:∃ w0,w.alloc (.cells #[.int .i64 v.kind,.int .i64 v.ep,.int .i64 v.ct,.int .i64 v.size,pl] tVd)=w0:=⟨_,rfl⟩
 have hb0:Below w.heap.size w w0:=by rw[<-hw0];exact (Below.refl _ _).alloc (Nat.le_refl _) _
 have HW0:=Hd hw0
 have HB0:=Hd hb0
 have HSET0:=Hd (hS.below hb0)
 clear hw0 hb0 hS
 cases hr:rawB Kx M Bk nd ep ct with
 | false=>
  have HRAW:=Hd hr
  clear hbad hr
  go_enter Tryz.func5,Tryz.ntmps5
  go_upto_region 1 with (fail)
  rw[HW0.out]
  go_wp2_with (go_at_call 13;obtain⟨_,_,c0⟩:=HSET0.out.c0;refine (rawR_any HSET0.out.lt c0 HSET0.out.c1 HSET0.out.c2 HSET0.out.c3 HSET0.out.c12 HSET0.out.c13 hnd).mono ?_;rintro x w1 ⟨rfl,hb1⟩;rw[HRAW.out];have HB1:=Hd hb1;obtain⟨_,_,cc0⟩:=(HSET0.out.below hb1).c0;have hg1:=(HSET0.out.below hb1).lt;clear hb1)
  go_ret
  exact⟨⟨none,0,rfl,rfl,fun h=>by simp at h⟩,HB0.out.trans (HB1.out.mono HB0.out.size)⟩
 | true=>
  have hne:n≠nd:=by
   rcases hbad with h | h
   ·rw[hr] at h;cases h
   ·exact h
  have hne2:((n:Int) != (nd:Int))=true:=by rw[bne_iff_ne];omega
  have hne3:(n != nd)=true:=by simpa using hne
  have HRAW:=Hd hr
  clear hbad hr hne
  go_enter Tryz.func5,Tryz.ntmps5
  go_upto_region 1 with (fail)
  rw[HW0.out]
  go_wp2_with (go_at_call 13;obtain⟨_,_,c0⟩:=HSET0.out.c0;refine (rawR_any HSET0.out.lt c0 HSET0.out.c1 HSET0.out.c2 HSET0.out.c3 HSET0.out.c12 HSET0.out.c13 hnd).mono ?_;rintro x w1 ⟨rfl,hb1⟩;rw[HRAW.out];have HB1:=Hd hb1;obtain⟨_,_,cc0⟩:=(HSET0.out.below hb1).c0;have hg1:=(HSET0.out.below hb1).lt;clear hb1)
  go_ret
  exact⟨⟨none,0,rfl,rfl,fun h=>by simp at h⟩,HB0.out.trans (HB1.out.mono HB0.out.size)⟩
set_option maxRecDepth 100000 in
set_option maxHeartbeats 8000000 in
theorem judgeR_no {w:World} {B n c g:Nat} {A:Option Addr} {Kx M Bk ep ct:Int} {key:List UInt8} {v:Vd} {pl:Value} {L:List Sn} (hL:SnsRd w B A n L) (hB:B<=w.heap.size)
  (hS:SetAt w g n Kx M Bk ep ct) (hraw:rawB Kx M Bk n ep ct=true) (hk:v.kind≠1) :
  Calls Tryz.prog 5 #[.pointer (some ⟨g,0,none⟩),.string ⟨key.toArray⟩,.agg (vdC v pl).toArray,.slice A n c] w fun x w'=>JudgeOk w w' key (judgeL Kx v L) x:=by
 have hkn:(v.kind != 1)=true:=by simpa using hk
 have hn255:n<=255:=by
  unfold rawB at hraw
  have h2:=fitB_bd (K:=Kx) (M:=M) (B:=Bk) (by cases h:fitB Kx M Bk<;>simp_all)
  have h3:(n:Int)=Kx+M:=by
   have:=(Bool.and_eq_true _ _▸hraw).2
   simp at this
   exact this.1
  omega
 obtain⟨G,hG⟩:∃ G,w.heap.size=G:=⟨_,rfl⟩
 obtain⟨D,hD⟩:∃ D,vdC v pl=D:=⟨_,rfl⟩
 have hDl:D.length=5:=by rw[<-hD];rfl
 have hDi:(Tryz.prog.info? tVd).map (fun i=>i.size)=some D.length:=by rw[hDl];kernel_rfl
 obtain⟨w0,hw0⟩:∃ w0,w.alloc (.cells D.toArray tVd)=w0:=⟨_,rfl⟩
 have hb0:Below w.heap.size w w0:=by rw[<-hw0];exact (Below.refl _ _).alloc (Nat.le_refl _) _
 have hs0:w0.heap.size=G+1:=by rw[<-hw0,<-hG];simp
 have hd0:w0.rangeAt G 0 D:=fun q u hu=>by
  have h:=new_cells w D tVd q u hu
  rw[Addr.add_mid,hw0,hG] at h
  exact h
 have hdv:w0.rangeAt G 0 (vdC v pl):=by rw[hD];exact hd0
 have HG:=Hd hG
 have HW0:=Hd hw0
 have HB0:=Hd hb0
 have HS0:=Hd hs0
 have HD:=Hd hD
 have HDI:=Hd hDi
 have HD0:=Hd hd0
 have HDV:=Hd hdv
 have HL0:=Hd (show SnsRd w0 B A n L from hL.below (hb0.mono hB))
 have HSET0:=Hd (hS.below hb0)
 have HRAW:=Hd hraw
 have HWI:=Hd (show ∀ W,SnsRd W B A n L->B<=W.heap.size->Calls Tryz.prog 14 #[.string ⟨key.toArray⟩,.agg D.toArray,.slice A n c] W fun x w'=>JudgeOk W w' key (judgeL Kx v L) x from fun W h1 h2=>by
  rw[<-hD]
  by_cases h3:v.kind=2
  ·exact without_abs h1 h2 (by omega) h3
  ·exact without_else h1 h2 (by omega) ⟨hk,h3⟩)
 have hBG:B<=G:=by omega
 rw[hD]
 clear hL hG hD hDl hDi hw0 hb0 hs0 hd0 hdv hS hraw hk
 go_enter Tryz.func5,Tryz.ntmps5
 go_upto_region 1 with (fail)
 rw[HW0.out,HG.out]
 go_wp2_with (first | (go_at_call 13;obtain⟨_,_,c0⟩:=HSET0.out.c0;refine (rawR_any HSET0.out.lt c0 HSET0.out.c1 HSET0.out.c2 HSET0.out.c3 HSET0.out.c12 HSET0.out.c13 (by omega)).mono ?_;rintro x w1 ⟨rfl,hb1⟩;rw[HRAW.out];have HB1:=Hd hb1;have HSET1:=Hd (HSET0.out.below hb1);obtain⟨_,_,cc0⟩:=HSET1.out.c0;have hd1:w1.rangeAt G 0 (vdC v pl):=range_below HDV.out (by rw[HS0.out];omega) hb1;have HD1:=Hd (show w1.rangeAt G 0 D by rw[<-HD.out];exact hd1);have vc0:w1.cell? ⟨G,0,none⟩=some (.int .i64 v.kind):=hd1 0 _ rfl;have hg1:G+1<=w1.heap.size:=(by have:=hb1.size;rw[HS0.out] at this;exact this);have HL1:=Hd (HL0.out.below (hb1.mono (by rw[HS0.out];omega)));clear hb1 hd1) | (refine wpList_load_mid rfl tVd (.tmp 6) rfl G 0 rfl D _ HD1.out Tryz.underlying32 rfl HDI.out ?_) | (go_at_call 14;refine (HWI.out _ HL1.out (by omega)).mono ?_;rintro x w2 ⟨⟨A9,c9,rfl,hr9⟩,hb9⟩;have HR9:=Hd hr9;have HB9:=Hd hb9;clear hr9 hb9))
 go_ret
 exact⟨⟨A9,c9,rfl,HR9.out⟩,HB0.out.trans ((HB1.out.mono HB0.out.size).trans (HB9.out.mono (by rw[HG.out];omega)))⟩
theorem judgeR_any {w:World} {B n nd c g:Nat} {A:Option Addr} {Kx M Bk ep ct:Int} {key:List UInt8} {v:Vd} {pl:Value} {L:List Sn} (hL:SnsRd w B A n L) (hB:B<=w.heap.size)
  (hS:SetAt w g nd Kx M Bk ep ct) (hnd:nd<=1099511627776) (hbn:∀ s∈L,s.blocks.length<=1099511627776) (hlen:∀ s∈L,∀ b∈s.blocks,b.length<=1099511627776) :
  Calls Tryz.prog 5 #[.pointer (some ⟨g,0,none⟩),.string ⟨key.toArray⟩,.agg #[.int .i64 v.kind,.int .i64 v.ep,.int .i64 v.ct,.int .i64 v.size,pl],.slice A n c] w fun x w'=>JudgeOk w w' key (judged (askB Kx M Bk nd ep ct n) Kx v L) x:=by
 cases hr:rawB Kx M Bk nd ep ct with
 | false=>
  rw[show askB Kx M Bk nd ep ct n=false by unfold askB;rw[hr];rfl]
  exact judgeR_bad hS hnd (.inl hr)
 | true=>
  by_cases hn:n=nd
  ·subst hn
   rw[show askB Kx M Bk n ep ct n=true by unfold askB;rw[hr];simp]
   by_cases h1:v.kind=1
   ·exact judgeR_val hL hB hS hr hbn hlen h1
   ·exact judgeR_no hL hB hS hr h1
  ·rw[show askB Kx M Bk nd ep ct n=false by unfold askB;rw[hr];simp[hn]]
   exact judgeR_bad hS hnd (.inr hn)
end Go.Proofs.YtmgljaecmchgaaaGreat.Gf
