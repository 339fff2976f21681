/- XPo10: merged by tools/merge.py. -/
import Derived.Test.YtmgljaecmchgaaaGreatQ18
import Derived.Deep.MidRow
import Derived.Laws.CopyRow
set_option linter.unusedVariables false
set_option linter.unusedSimpArgs false
set_option linter.unusedSectionVars false
namespace Go.Proofs.YtmgljaecmchgaaaGreat.Gf
open Go.RowKit Go.Proofs
abbrev tRow:TypeId:=238
def Tri (W:World) (b:Nat) (g u v:Value):Prop:=W.heap[b]?=some (.cells #[g,u,v] tRow (0,0))
section
variable {W W':World} {b:Nat} {g u v g' u' v':Value}
theorem Tri.cells (h:Tri W b g u v):W.cell? ⟨b,0,none⟩=some g/\W.cell? ⟨b,1,none⟩=some u/\W.cell? ⟨b,2,none⟩=some v:=by
 refine⟨?_,?_,?_⟩<;>(rw[cell_of_row W b _ _ _ _ h];rfl)
theorem Tri.lt (h:Tri W b g u v):b<W.heap.size:=(Array.getElem?_eq_some_iff.1 h).1
theorem Tri.below (h:Tri W b g u v) (hb:Below W.heap.size W W'):Tri W' b g u v:=(hb.block b h.lt).trans h
theorem tri_range (h1:W.cell? ⟨b,0,none⟩=some g) (h2:W.cell? ⟨b,1,none⟩=some u) (h3:W.cell? ⟨b,2,none⟩=some v):W.rangeAt b 0 [g,u,v]:=by
 intro j x hj
 match j,hj with
 | 0,hj=>simp at hj;subst hj;exact h1
 | 1,hj=>simp at hj;subst hj;exact h2
 | 2,hj=>simp at hj;subst hj;exact h3
theorem Tri.store (h:Tri W b g u v) (h1:g'.oneCell'=true) (h2:u'.oneCell'=true) (h3:v'.oneCell'=true):(storeCells ⟨b,0,none⟩ [g',u',v'] 0).run Tryz.prog W = .ok () (W.setRow b #[g',u',v']):=by
 have:=run_storeCells_at (P:=Tryz.prog) b 0 tRow [g',u',v'] 0 #[g,u,v] W h (by simp) (by simp[h1,h2,h3])
 simpa using this
theorem Tri.set (h:Tri W b g u v):Tri (W.setRow b #[g',u',v']) b g' u' v':=setRow_heap W b _ _ _ _ h
theorem Tri.froz (h:Tri W b g u v):W.frozen? ⟨b,0,none⟩=false/\W.frozen? ⟨b,1,none⟩=false/\W.frozen? ⟨b,2,none⟩=false:=
 ⟨frozen_of_row W b 0 _ _ h,frozen_of_row W b 1 _ _ h,frozen_of_row W b 2 _ _ h⟩
theorem Tri.set3 (h:Tri W b g u v):((W.setCell ⟨b,0,none⟩ g').setCell ⟨b,1,none⟩ u').setCell ⟨b,2,none⟩ v'=W.setRow b #[g',u',v']:=by
 rw[setCell_eq_setRow W b 0 _ _ _ g' h]
 have h1:=setRow_heap W b _ (#[g,u,v].setIfInBounds 0 g') _ _ h
 rw[setCell_eq_setRow _ b 1 _ _ _ u' h1,setRow_setRow]
 have h2:=setRow_heap W b _ ((#[g,u,v].setIfInBounds 0 g').setIfInBounds 1 u') _ _ h
 rw[setCell_eq_setRow _ b 2 _ _ _ v' h2,setRow_setRow]
 rfl
theorem Tri.other {b2:Nat} {cs:Array Value} (h:Tri W b g u v) (hne:b≠b2):Tri (W.setRow b2 cs) b g u v:=(setRow_other W b2 b cs hne).trans h
theorem polV_set {A1 A2 A3:Option Addr} {n1 n2 n3 c1 c2 c3:Nat} {cs:Array Value} {x:Value} {l:List E} (hx:PolV W x l) (h:Tri W b (.slice A1 n1 c1) (.slice A2 n2 c2) (.slice A3 n3 c3)):PolV (W.setRow b cs) x l:=by
 obtain⟨A,c,e1,e2,e3,e4⟩:=hx.form
 refine⟨A,c,e1,⟨e2.1,fun hn=>?_⟩,e3,e4⟩
 obtain⟨ad,f1,f2,f3⟩:=e2.2 hn
 refine⟨ad,f1,by simpa using f2,fun j y hj=>?_⟩
 have hc:=f3 j y hj
 rw[cell_setRow_other _ _ _ _ ?_]
 ·exact hc
 ·intro e
  obtain⟨z,_,rfl⟩:∃ z:E,l[j]?=some z/\Value.int .u8 ((unE z).toNat:Int)=y:=by
   rw[List.getElem?_map] at hj
   cases hl:l[j]? with
   | none=>rw[hl] at hj;cases hj
   | some z=>rw[hl] at hj;exact⟨z,rfl,by simpa using hj⟩
  unfold World.cell? at hc
  rw[show W.heap[(ad.add j).block]?=_ from e▸h] at hc
  dsimp only at hc
  split at hc
  ·cases hc
  ·rcases hof:(ad.add j).off with _ | _ | _ | k<;>simp[hof] at hc
end
theorem eInv_small {n:Nat} {L:List (E×E)} {ag au av bg bu bv:List E} (h:EInv n L ag au av bg bu bv) (hn:n<=1024):ag.length<=1025/\au.length<=1026/\av.length<=1026/\bg.length<=1025/\bu.length<=1026/\bv.length<=1026:=by
 have:=h.lt;have:=h.sum;have:=h.less;have:=h.le;have:=h.bu_;have:=h.au_
 exact⟨by omega,by omega,by omega,by omega,by omega,by omega⟩
theorem tl_trd {l:List E} (h:Trd l):tl l=l.length:=by
 have:trimP l=l:=Trd.unique (trimP_eq l) (trimP_trd l) h
 unfold tl;rw[this]
def lenAt0 (W:World) (b:Nat):Nat:=match W.cell? ⟨b,0,none⟩ with
 | some (.slice _ n _)=>n
 | _=>0
theorem lenAt0_eq {W:World} {b n c:Nat} {A:Option Addr} (h:W.cell? ⟨b,0,none⟩=some (.slice A n c)):lenAt0 W b=n:=by unfold lenAt0;rw[h]
structure ParM (w W:World) (Ba n0 e k Bl:Nat) (L:List (E×E)) (ag au av bg bu bv:List E) (vag vau vav vbg vbu vbv:Value):Prop where
 ta:Tri W Ba vag vau vav
 tb:Tri W (Ba+1) vbg vbu vbv
 ag_:PolV W vag ag
 au_:PolV W vau au
 av_:PolV W vav av
 bg_:PolV W vbg bg
 bu_:PolV W vbu bu
 bv_:PolV W vbv bv
 inv:EInv n0 L ag au av bg bu bv
 pos:0<av.length\/Bl<ag.length
 vle:av.length<=e+1
 big:w.heap.size<=Ba
 back:Below w.heap.size w W
set_option maxRecDepth 100000 in
set_option maxHeartbeats 8000000 in
theorem partial_poly {w:World} {B n m c d:Nat} {A1 A2:Option Addr} {p q:List E} {Bl e k n0:Nat} {L:List (E×E)} (hp:Rd w B 1 A1 n (cE p)) (hq:Rd w B 1 A2 m (cE q)) (hB:B<=w.heap.size) (hn:n<=1025) (hm:m<=1024) (hnc:n<=c) (hmd:m<=d) (hA1:A1=none->c=0) (hA2:A2=none->d=0)
  (hE:EInv n0 L (trimP p) [1] [] (trimP q) [] [1]) (hn0:n0<=1024) (hL:L.length=n0) (hnd:(L.map (·.1)).Nodup) (hk:k+2*e<=n0) (hBe:Bl+e=n0) (hag:Bl<(trimP p).length) :
  Calls Tryz.prog 108 #[.slice A1 n c,.slice A2 m d,.int .i64 (Bl:Int)] w fun x w'=>∃ gv uv vv g v,x = .returned (.tuple #[gv,uv,vv,.int .i64 0])/\PolV w' gv g/\PolV w' vv v/\Key e k Bl L g v/\Below w.heap.size w w':=by
 have hl1:=run_lit1
 have hp0:Rd (w.alloc (.cells #[.int .u8 1] tEl)) B 1 A1 n (cE p):=hp.alloc hB _
 have hq0:Rd (w.alloc (.cells #[.int .u8 1] tEl)) B 1 A2 m (cE q):=hq.alloc hB _
 have hs0:(w.alloc (.cells #[.int .u8 1] tEl)).heap.size=w.heap.size+1:=by simp
 have hone:=polV_new w [1]
 have hbw:Below w.heap.size w (w.alloc (.cells #[.int .u8 1] tEl)):=(Below.refl _ w).alloc (Nat.le_refl _) _
 have hb0:¬ (Bl:Int)<0:=by omega
 have HP:=Hd hp0
 have HQ:=Hd hq0
 have HS0:=Hd hs0
 have HONE:=Hd hone
 have HBW:=Hd hbw
 have HE:=Hd hE
 have HL:=Hd hL
 have HND:=Hd hnd
 have HAG:=Hd hag
 have HK:=Hd hk
 have HBE:=Hd hBe
 clear hp hq hp0 hq0 hs0 hone hbw hE hL hnd hag hk hBe
 go_enter Tryz.func108,Tryz.ntmps108
 go_wp2_with (first
  | (go_at_call 121;refine (trim_any HP.out (by have:=HS0.out;omega) (by omega) hnc hA1).mono ?_;rintro x w1 ⟨v1,rfl,h1,b1⟩;obtain⟨Ag,cg,rfl,_,_⟩:=own_form h1;have H1:=Hd h1;have B1:=Hd b1;clear HP h1 b1)
  | (go_at_call 121;refine (trim_any (HQ.out.below (B1.out.mono (by have:=HS0.out;omega))) (by have:=HS0.out;have:=B1.out.size;omega) (by omega) hmd hA2).mono ?_;rintro x w2 ⟨v2,rfl,h2,b2⟩;obtain⟨Ag2,cg2,rfl,_,_⟩:=own_form h2;have H2:=Hd h2;have B2:=Hd b2;clear HQ h2 b2))
 obtain⟨Ba,hBa⟩:∃ Ba,w2.heap.size=Ba:=⟨_,rfl⟩
 obtain⟨w3,hw3⟩:∃ w3,(w2.alloc (.cells #[.slice Ag (tl p) cg,.slice (some ⟨w.heap.size,0,none⟩) 1 1,.slice none 0 0] tRow)).alloc (.cells #[.slice Ag2 (tl q) cg2,.slice none 0 0,.slice (some ⟨w.heap.size,0,none⟩) 1 1] tRow)=w3:=⟨_,rfl⟩
 have hM0:ParM w w3 Ba n0 e k Bl L (trimP p) [1] [] (trimP q) [] [1] (.slice Ag (tl p) cg) (.slice (some ⟨w.heap.size,0,none⟩) 1 1) (.slice none 0 0) (.slice Ag2 (tl q) cg2) (.slice none 0 0) (.slice (some ⟨w.heap.size,0,none⟩) 1 1):=by
  have b12:=bch B1.out B2.out
  have b03:Below w2.heap.size w2 w3:=by rw[<-hw3];exact ((Below.refl _ w2).alloc (Nat.le_refl _) _).alloc (by simp) _
  have p1:PolV w2 (.slice Ag (tl p) cg) (trimP p):=by
   have h:=own_below H1.out B2.out
   obtain⟨_,_,e,h3,_⟩:=own_form h
   injection e with e1 _ e3
   subst e1 e3
   exact⟨_,_,rfl,Rd.of_own h,h3,own_none h⟩
  have p2:PolV w2 (.slice Ag2 (tl q) cg2) (trimP q):=by
   have h:=H2.out
   obtain⟨_,_,e,h3,_⟩:=own_form h
   injection e with e1 _ e3
   subst e1 e3
   exact⟨_,_,rfl,Rd.of_own h,h3,own_none h⟩
  have p3:PolV w2 (.slice (some ⟨w.heap.size,0,none⟩) 1 1) [1]:=HONE.out.below b12
  have p4:PolV w3 (.slice none 0 0) []:=⟨none,0,rfl,Rd.none_,Nat.le_refl _,fun _=>rfl⟩
  have hsz:=b12.size
  have hs1:=HS0.out
  refine⟨?_,?_,p1.below b03,p3.below b03,p4,p2.below b03,p4,p3.below b03,HE.out,.inr HAG.out,by simp,by omega,HBW.out.trans ((bch b12 b03).mono (by omega))⟩
  ·rw[<-hw3,<-hBa]
   unfold Tri
   rw[Below.heap_alloc _ _ _ (by simp)]
   exact heap_alloc_new w2 _
  ·rw[<-hw3,<-hBa]
   have:=heap_alloc_new (w2.alloc (.cells #[.slice Ag (tl p) cg,.slice (some ⟨w.heap.size,0,none⟩) 1 1,.slice none 0 0] tRow)) (.cells #[.slice Ag2 (tl q) cg2,.slice none 0 0,.slice (some ⟨w.heap.size,0,none⟩) 1 1] tRow)
   rwa [World.size_alloc] at this
 rw[hw3,hBa]
 have HM0:=Hd hM0
 clear hM0 hw3 hBa H1 H2 B1 B2 HONE HBW HS0 HE HAG hl1
 go_loopw [13] (fun _ wr=>∃ ag au av bg bu bv vag vau vav vbg vbu vbv,ParM w wr Ba n0 e k Bl L ag au av bg bu bv vag vau vav vbg vbu vbv) (fun _ wr=>lenAt0 wr Ba)
 case atStart=>exact⟨_,_,_,_,_,_,_,_,_,_,_,_,HM0.out⟩
 case round=>
  obtain⟨ag,au,av,bg,bu,bv,vag,vau,vav,vbg,vbu,vbv,hM⟩:=hrel
  obtain⟨s1,s2,s3,s4,s5,s6⟩:=eInv_small hM.inv hn0
  obtain⟨Aag,cag,rfl,rag,qag,zag⟩:=hM.ag_.form
  obtain⟨Aau,cau,rfl,rau,qau,zau⟩:=hM.au_.form
  obtain⟨Aav,cav,rfl,rav,qav,zav⟩:=hM.av_.form
  obtain⟨Abg,cbg,rfl,rbg,qbg,zbg⟩:=hM.bg_.form
  obtain⟨Abu,cbu,rfl,rbu,qbu,zbu⟩:=hM.bu_.form
  obtain⟨Abv,cbv,rfl,rbv,qbv,zbv⟩:=hM.bv_.form
  obtain⟨x0,x1,x2⟩:=hM.ta.cells
  obtain⟨y0,y1,y2⟩:=hM.tb.cells
  have hmeas:=lenAt0_eq x0
  have HMS:=Hd hmeas
  clear hmeas
  have HM:=Hd hM
  clear rau rav rbu rbv
  have RAG:=Hd rag
  have RBG:=Hd rbg
  clear rag rbg
  by_cases hge:(Bl:Int)<=(ag.length:Int) - 1
  ·by_cases hz:(bg.length:Int)=0
   ·have hld:=run_loadVar_mid (P:=Tryz.prog) wr (Ba+1) 0 tRow [.slice Abg bg.length cbg,.slice Abu bu.length cbu,.slice Abv bv.length cbv] _ (tri_range y0 y1 y2) Tryz.underlying238 rfl (by kernel_rfl)
    obtain⟨f0,f1,f2⟩:=HM.out.ta.froz
    clear hM
    go_upto_region 10 with (fail)
    rw[HM.out.ta.set3]
    obtain⟨w5,hw5⟩:∃ w5,wr.setRow Ba #[.slice Abg bg.length cbg,.slice Abu bu.length cbu,.slice Abv bv.length cbv]=w5:=⟨_,rfl⟩
    have hM:=HM.out
    have hkey:Key e k Bl L bg bv:=EInv.key HND.out (by rw[HL.out];exact HK.out) (by rw[HL.out];exact HBE.out) hM.inv.at_b (by omega) hM.inv.bv_ (by have:=hM.inv.less;omega) (by have:=hM.inv.sum;have:=HBE.out;omega)
    have t5:Tri w5 Ba (.slice Abg bg.length cbg) (.slice Abu bu.length cbu) (.slice Abv bv.length cbv):=by rw[<-hw5];exact hM.ta.set
    have g5:PolV w5 (.slice Abg bg.length cbg) bg:=by rw[<-hw5];exact polV_set hM.bg_ hM.ta
    have u5:PolV w5 (.slice Abu bu.length cbu) bu:=by rw[<-hw5];exact polV_set hM.bu_ hM.ta
    have v5:PolV w5 (.slice Abv bv.length cbv) bv:=by rw[<-hw5];exact polV_set hM.bv_ hM.ta
    have b5:Below w.heap.size w w5:=by rw[<-hw5];exact below_setRow hM.back hM.big _
    rw[hw5]
    clear hld f0 f1 f2 hM hw5 x0 x1 x2 y0 y1 y2
    have HT5:=Hd t5
    have HG5:=Hd g5
    have HU5:=Hd u5
    have HV5:=Hd v5
    have HB5:=Hd b5
    have HKEY:=Hd hkey
    obtain⟨_,_,e1,ru5,_,_⟩:=u5.form
    injection e1 with e1 _ e2
    subst e1 e2
    obtain⟨_,_,e1,rv5,_,_⟩:=v5.form
    injection e1 with e1 _ e2
    subst e1 e2
    have HRU:=Hd ru5
    have HRV:=Hd rv5
    have HSX:=Hd (show ∀ wx,Below w5.heap.size w5 wx->wx.cell? ⟨Ba,0,none⟩=some (.slice Abg bg.length cbg)/\wx.cell? ⟨Ba,1,none⟩=some (.slice Abu bu.length cbu)/\wx.cell? ⟨Ba,2,none⟩=some (.slice Abv bv.length cbv) from fun wx hx=>(HT5.out.below hx).cells)
    have HS0:=Hd (HSX.out (World.drew w5) (Below.refl _ w5).drew)
    clear t5 g5 u5 v5 b5 hkey ru5 rv5
    refine wp_region_any (by kernel_rfl) ?_
    change wpAny _ _ _ _ _ _ _ (World.drew _)
    refine wpAny_of_P (S:=fun wx=>wx.cell? ⟨Ba,0,none⟩=some (.slice Abg bg.length cbg)/\wx.cell? ⟨Ba,1,none⟩=some (.slice Abu bu.length cbu)/\wx.cell? ⟨Ba,2,none⟩=some (.slice Abv bv.length cbv)) (late:=[11]) _ _ _ _ ?_
    refine tT 0 HS0.out ?_
    try go_frame
    refine tP 8 1 rfl HS0.out (fun w hw=>by obtain⟨k0,k1,k2⟩:=hw;go_simp;try with_reducible rfl) ?_
    try go_frame
    refine tT 2 HS0.out ?_
    try go_frame
    refine tP 8 3 rfl HS0.out (fun w hw=>by obtain⟨k0,k1,k2⟩:=hw;go_simp;try with_reducible rfl) ?_
    try go_frame
    refine tT 5 HS0.out ?_
    try go_frame
    refine tP 8 6 rfl HS0.out (fun w hw=>by obtain⟨k0,k1,k2⟩:=hw;go_simp;try with_reducible rfl) ?_
    try go_frame
    refine fP 4 fun K hK=>?_
    go_simp
    refine (cloneE_any (w:=World.drew w5) HRU.out (Nat.le_refl _) (by omega) zbu).mono ?_;rintro x w6 ⟨v6,rfl,h6,b6⟩;have HB6:=Hd (show Below w5.heap.size w5 w6 from below_undrew b6);have HS6:=Hd (HSX.out w6 HB6.out);clear h6 b6
    refine hK _ _ (HS6.out) ?_;clear hK K
    try go_frame
    refine fP 7 fun K hK=>?_
    go_simp
    refine (cloneE_any (HRV.out.next HB6.out) (Nat.le_refl _) (by omega) zbv).mono ?_;rintro x w7 ⟨v7,rfl,h7,b7⟩;have H7:=Hd h7;have HB7:=Hd (bch HB6.out b7);have HS7:=Hd (HSX.out w7 HB7.out);clear h7 b7
    refine hK _ _ (HS7.out) ?_;clear hK K
    try go_frame
    refine tT 8 HS7.out ?_
    try go_frame
    refine tT 9 HS7.out ?_
    try go_frame
    refine tT 10 HS7.out ?_
    try go_frame
    refine lP 11 fun K hK=>?_
    go_simp
    refine hK _ _ ?_;clear hK K
    try go_frame
    refine wpAny_done (by kernel_rfl) ?_ _
    have h7:=H7.out
    obtain⟨A7,c7,rfl,q7,_⟩:=own_form h7
    have hpv:PolV w7 (.slice A7 bv.length c7) bv:=⟨_,_,rfl,Rd.of_own h7,q7,own_none h7⟩
    have HPV:=Hd hpv
    clear h7 hpv
    go_wp2
    refine bodyPost_ret (v:=.tuple #[.slice Abg bg.length cbg,v6,.slice A7 bv.length c7,.int .i64 0]) (by simp[results,Tryz.results108,go_sem]) rfl ?_
    exact⟨_,_,_,rfl,_,HG5.out.below HB7.out,_,HPV.out,HKEY.out,HB5.out.trans (HB7.out.mono HB5.out.size)⟩
   ·have hld:=run_loadVar_mid (P:=Tryz.prog) wr (Ba+1) 0 tRow [.slice Abg bg.length cbg,.slice Abu bu.length cbu,.slice Abv bv.length cbv] _ (tri_range y0 y1 y2) Tryz.underlying238 rfl (by kernel_rfl)
    clear hld
    have hbg0:0<bg.length:=by omega
    have htag:=tl_trd HM.out.inv.ag_
    have HTAG:=Hd htag
    have HBG0:=Hd hbg0
    clear hM htag hbg0
    go_upto_region 9 with (go_at_call 110;refine (callsIn_wide.1 (divide_in 9 (Nat.le_refl _) RAG.out RBG.out (Nat.le_refl _) (by omega) (by omega) qag zag HM.out.inv.bg_ HBG0.out)).mono ?_;rintro x w3 ⟨sv,rv,s,r,rfl,hsv,hrv,hok,hb3⟩;obtain⟨As,cs,rfl,rs,qs,zs⟩:=hsv.form;obtain⟨Ar,cr,rfl,rr,qr,zr⟩:=hrv.form;have HOK:=Hd hok;have HRS:=Hd rs;have HRV:=Hd hrv;have HB3:=Hd hb3;clear hsv hrv hok hb3 rs rr)
    have hsl:s.length<=1026:=by have:=HOK.out.len;rw[HTAG.out] at this;have:=HM.out.inv.lt;omega
    have hM:=HM.out
    have HT1:=Hd (hM.ta.below HB3.out)
    have HT2:=Hd (hM.tb.below HB3.out)
    have HAU:=Hd (hM.au_.below HB3.out)
    have HAV:=Hd (hM.av_.below HB3.out)
    have HBU:=Hd (hM.bu_.below HB3.out)
    have HBV:=Hd (hM.bv_.below HB3.out)
    have HBGV:=Hd (hM.bg_.below HB3.out)
    have HINV:=Hd hM.inv
    have HSX:=Hd (show ∀ wx,Below w3.heap.size w3 wx->wx.cell? ⟨Ba,0,none⟩=some (.slice Aag ag.length cag)/\wx.cell? ⟨Ba,1,none⟩=some (.slice Aau au.length cau)/\wx.cell? ⟨Ba,2,none⟩=some (.slice Aav av.length cav)/\wx.cell? ⟨Ba+1,0,none⟩=some (.slice Abg bg.length cbg)/\wx.cell? ⟨Ba+1,1,none⟩=some (.slice Abu bu.length cbu)/\wx.cell? ⟨Ba+1,2,none⟩=some (.slice Abv bv.length cbv) from fun wx hx=>by
     obtain⟨a0,a1,a2⟩:=(HT1.out.below hx).cells
     obtain⟨b0,b1,b2⟩:=(HT2.out.below hx).cells
     exact⟨a0,a1,a2,b0,b1,b2⟩)
    have HS0:=Hd (HSX.out (World.drew w3) (Below.refl _ w3).drew)
    clear hM x0 x1 x2 y0 y1 y2
    obtain⟨_,_,e1,rbu,_,_⟩:=HBU.out.form
    injection e1 with e1 _ e2
    subst e1 e2
    obtain⟨_,_,e1,rbv,_,_⟩:=HBV.out.form
    injection e1 with e1 _ e2
    subst e1 e2
    obtain⟨_,_,e1,rau,_,_⟩:=HAU.out.form
    injection e1 with e1 _ e2
    subst e1 e2
    obtain⟨_,_,e1,rav,_,_⟩:=HAV.out.form
    injection e1 with e1 _ e2
    subst e1 e2
    have RBU:=Hd rbu
    have RBV:=Hd rbv
    have RAU:=Hd rau
    have RAV:=Hd rav
    clear rbu rbv rau rav
    refine wp_region_any (by kernel_rfl) ?_
    change wpAny _ _ _ _ _ _ _ (World.drew _)
    refine wpAny_of_P (S:=fun wx=>wx.cell? ⟨Ba,0,none⟩=some (.slice Aag ag.length cag)/\wx.cell? ⟨Ba,1,none⟩=some (.slice Aau au.length cau)/\wx.cell? ⟨Ba,2,none⟩=some (.slice Aav av.length cav)/\wx.cell? ⟨Ba+1,0,none⟩=some (.slice Abg bg.length cbg)/\wx.cell? ⟨Ba+1,1,none⟩=some (.slice Abu bu.length cbu)/\wx.cell? ⟨Ba+1,2,none⟩=some (.slice Abv bv.length cbv)) (late:=[17]) _ _ _ _ ?_
    refine tP 8 0 rfl HS0.out (fun w hw=>by obtain⟨k0,k1,k2,k3,k4,k5⟩:=hw;have hld:=run_loadVar_mid (P:=Tryz.prog) w (Ba+1) 0 tRow [.slice Abg bg.length cbg,.slice Abu bu.length cbu,.slice Abv bv.length cbv] _ (tri_range k3 k4 k5) Tryz.underlying238 rfl (by kernel_rfl);go_simp;try with_reducible rfl) ?_
    try go_frame
    refine tT 1 HS0.out ?_
    try go_frame
    refine tT 2 HS0.out ?_
    try go_frame
    refine tP 8 3 rfl HS0.out (fun w hw=>by obtain⟨k0,k1,k2,k3,k4,k5⟩:=hw;have hld:=run_loadVar_mid (P:=Tryz.prog) w (Ba+1) 0 tRow [.slice Abg bg.length cbg,.slice Abu bu.length cbu,.slice Abv bv.length cbv] _ (tri_range k3 k4 k5) Tryz.underlying238 rfl (by kernel_rfl);go_simp;try with_reducible rfl) ?_
    try go_frame
    refine tT 4 HS0.out ?_
    try go_frame
    refine tT 5 HS0.out ?_
    try go_frame
    refine tP 8 6 rfl HS0.out (fun w hw=>by obtain⟨k0,k1,k2,k3,k4,k5⟩:=hw;have hld:=run_loadVar_mid (P:=Tryz.prog) w (Ba+1) 0 tRow [.slice Abg bg.length cbg,.slice Abu bu.length cbu,.slice Abv bv.length cbv] _ (tri_range k3 k4 k5) Tryz.underlying238 rfl (by kernel_rfl);go_simp;try with_reducible rfl) ?_
    try go_frame
    refine tT 9 HS0.out ?_
    try go_frame
    refine tP 8 10 rfl HS0.out (fun w hw=>by obtain⟨k0,k1,k2,k3,k4,k5⟩:=hw;have hld:=run_loadVar_mid (P:=Tryz.prog) w (Ba+1) 0 tRow [.slice Abg bg.length cbg,.slice Abu bu.length cbu,.slice Abv bv.length cbv] _ (tri_range k3 k4 k5) Tryz.underlying238 rfl (by kernel_rfl);go_simp;try with_reducible rfl) ?_
    try go_frame
    refine tT 11 HS0.out ?_
    try go_frame
    refine tT 12 HS0.out ?_
    try go_frame
    refine tP 8 13 rfl HS0.out (fun w hw=>by obtain⟨k0,k1,k2,k3,k4,k5⟩:=hw;have hld:=run_loadVar_mid (P:=Tryz.prog) w (Ba+1) 0 tRow [.slice Abg bg.length cbg,.slice Abu bu.length cbu,.slice Abv bv.length cbv] _ (tri_range k3 k4 k5) Tryz.underlying238 rfl (by kernel_rfl);go_simp;try with_reducible rfl) ?_
    try go_frame
    refine fP 7 fun K hK=>?_
    go_simp
    refine (timesP_any (w:=World.drew w3) HRS.out RBU.out (Nat.le_refl _) (by omega) (by omega)).mono ?_;rintro x w4 ⟨v4,rfl,h4⟩;obtain⟨h4v,h4b⟩:=h4.val;obtain⟨A4,c4,rfl,r4,_,_⟩:=h4v.form;have HR4:=Hd r4;have HB4:=Hd (show Below w3.heap.size w3 w4 from below_undrew h4b);have HS4:=Hd (HSX.out w4 HB4.out);clear h4 h4v h4b r4
    refine hK _ _ (HS4.out) ?_;clear hK K
    try go_frame
    refine fP 8 fun K hK=>?_
    go_simp
    refine (plusP_any (RAU.out.next HB4.out) HR4.out (Nat.le_refl _) (by omega) (by have:=trimP_le (mulP s bu);have:=length_mulP s bu;omega)).mono ?_;rintro x w5 ⟨v5,rfl,h5⟩;obtain⟨h5v,h5b⟩:=h5.val;obtain⟨l5,hl5⟩:∃ l5,trimP (addP au (trimP (mulP s bu)))=l5:=⟨_,rfl⟩;rw[hl5] at h5v;obtain⟨A5,c5,rfl,_,_,_⟩:=h5v.form;have HL5:=Hd hl5;have HV5x:=Hd h5v;have HB5:=Hd (bch HB4.out h5b);have HS5:=Hd (HSX.out w5 HB5.out);clear h5 h5v h5b hl5
    refine hK _ _ (HS5.out) ?_;clear hK K
    try go_frame
    refine fP 14 fun K hK=>?_
    go_simp
    refine (timesP_any (HRS.out.next HB5.out) (RBV.out.next HB5.out) (Nat.le_refl _) (by omega) (by omega)).mono ?_;rintro x w6 ⟨v6,rfl,h6⟩;obtain⟨h6v,h6b⟩:=h6.val;obtain⟨A6,c6,rfl,r6,_,_⟩:=h6v.form;have HR6:=Hd r6;have HB56:=Hd h6b;have HB6:=Hd (bch HB5.out h6b);have HS6:=Hd (HSX.out w6 HB6.out);clear h6 h6v h6b r6
    refine hK _ _ (HS6.out) ?_;clear hK K
    try go_frame
    refine fP 15 fun K hK=>?_
    go_simp
    refine (plusP_any (RAV.out.next HB6.out) HR6.out (Nat.le_refl _) (by omega) (by have:=trimP_le (mulP s bv);have:=length_mulP s bv;omega)).mono ?_;rintro x w7 ⟨v7,rfl,h7⟩;obtain⟨h7v,h7b⟩:=h7.val;obtain⟨l7,hl7⟩:∃ l7,trimP (addP av (trimP (mulP s bv)))=l7:=⟨_,rfl⟩;rw[hl7] at h7v;obtain⟨A7,c7,rfl,_,_,_⟩:=h7v.form;have HL7:=Hd hl7;have HV7:=Hd h7v;have HV5:=Hd (HV5x.out.below (bch HB56.out h7b));have HB7:=Hd (bch HB6.out h7b);have HS7:=Hd (HSX.out w7 HB7.out);clear h7 h7v h7b hl7
    refine hK _ _ (HS7.out) ?_;clear hK K
    try go_frame
    refine tT 16 HS7.out ?_
    try go_frame
    refine lP 17 fun K hK=>?_
    obtain⟨f0,f1,f2⟩:=(HT1.out.below HB7.out).froz
    obtain⟨k0,k1,k2⟩:=(HT1.out.below HB7.out).cells
    go_simp
    refine hK _ _ ?_;clear hK K
    try go_frame
    refine fL 18 fun K hK=>?_
    rw[(HT1.out.below HB7.out).set3]
    clear f0 f1 f2 k0 k1 k2
    obtain⟨f0,f1,f2⟩:=((HT2.out.below HB7.out).other (cs:=#[.slice Abg bg.length cbg,.slice Abu bu.length cbu,.slice Abv bv.length cbv]) (Nat.ne_of_gt (Nat.lt_succ_self Ba))).froz
    obtain⟨k0,k1,k2⟩:=((HT2.out.below HB7.out).other (cs:=#[.slice Abg bg.length cbg,.slice Abu bu.length cbu,.slice Abv bv.length cbv]) (Nat.ne_of_gt (Nat.lt_succ_self Ba))).cells
    go_simp
    refine hK _ _ ?_;clear hK K
    try go_frame
    refine wpAny_done (by kernel_rfl) ?_ _
    rw[((HT2.out.below HB7.out).other (cs:=#[.slice Abg bg.length cbg,.slice Abu bu.length cbu,.slice Abv bv.length cbv]) (Nat.ne_of_gt (Nat.lt_succ_self Ba))).set3]
    clear f0 f1 f2 k0 k1 k2
    have hbb:=HB7.out
    have ht1:=HT1.out.below hbb
    have ht2:=HT2.out.below hbb
    have hne:Ba≠Ba+1:=by omega
    have hinv:=HINV.out.step HBG0.out HOK.out.st HOK.out.rt HOK.out.lt (by have:=HOK.out.len;rw[HTAG.out] at this;exact this (by have:=HINV.out.lt;omega)) HOK.out.eq
    obtain⟨w8,hw8⟩:∃ w8,(w7.setRow Ba #[.slice Abg bg.length cbg,.slice Abu bu.length cbu,.slice Abv bv.length cbv]).setRow (Ba+1) #[.slice Ar r.length cr,.slice A5 l5.length c5,.slice A7 l7.length c7]=w8:=⟨_,rfl⟩
    have hset:∀ {x l},PolV w7 x l->PolV w8 x l:=fun hx=>by rw[<-hw8];exact polV_set (polV_set hx ht1) (ht2.other (Nat.ne_of_gt (Nat.lt_succ_self _)))
    have hM8:ParM w w8 Ba n0 e k Bl L bg bu bv r (trimP (addP au (trimP (mulP s bu)))) (trimP (addP av (trimP (mulP s bv)))) (.slice Abg bg.length cbg) (.slice Abu bu.length cbu) (.slice Abv bv.length cbv) (.slice Ar r.length cr) (.slice A5 l5.length c5) (.slice A7 l7.length c7):=by
     refine⟨?_,?_,hset (HBGV.out.below hbb),hset (HBU.out.below hbb),hset (HBV.out.below hbb),hset (HRV.out.below hbb),?_,?_,hinv,.inl (by have:=HINV.out.less;omega),(by have:=HINV.out.sum;have:=HBE.out;omega),HM.out.big,?_⟩
     ·rw[<-hw8];exact ht1.set.other hne
     ·rw[<-hw8];exact (ht2.other (Nat.ne_of_gt (Nat.lt_succ_self _))).set
     ·rw[HL5.out];exact hset HV5.out
     ·rw[HL7.out];exact hset HV7.out
     ·rw[<-hw8]
      exact below_setRow (below_setRow (HM.out.back.trans ((bch HB3.out hbb).mono HM.out.back.size)) HM.out.big _) (by have:=HM.out.big;omega) _
    rw[hw8]
    have HM8:=Hd hM8
    have hms8:=lenAt0_eq hM8.ta.cells.1
    have HMS8:=Hd hms8
    have hlt8:=HINV.out.lt
    clear hM8 hw8 hset ht1 ht2 hinv hbb hms8
    go_wp2
    go_roundw
    case rel=>exact⟨_,_,_,_,_,_,_,_,_,_,_,_,HM8.out⟩
    case measure=>rw[HMS.out,HMS8.out];exact hlt8
  ·have hM2:=hM
   have hkey:Key e k Bl L ag av:=EInv.key HND.out (by rw[HL.out];exact HK.out) (by rw[HL.out];exact HBE.out) hM.inv.at_a (by omega) hM.inv.av_ (by rcases hM.pos with h | h<;>omega) hM.vle
   have t5:=hM.ta
   have g5:=hM.ag_
   have u5:=hM.au_
   have v5:=hM.av_
   have b5:=hM.back
   clear hM hM2 y0 y1 y2
   go_upto_region 10 with (fail)
   clear x0 x1 x2
   have HT5:=Hd t5
   have HG5:=Hd g5
   have HU5:=Hd u5
   have HV5:=Hd v5
   have HB5:=Hd b5
   have HKEY:=Hd hkey
   obtain⟨_,_,e1,ru5,_,_⟩:=u5.form
   injection e1 with e1 _ e2
   subst e1 e2
   obtain⟨_,_,e1,rv5,_,_⟩:=v5.form
   injection e1 with e1 _ e2
   subst e1 e2
   have HRU:=Hd ru5
   have HRV:=Hd rv5
   have HSX:=Hd (show ∀ wx,Below wr.heap.size wr wx->wx.cell? ⟨Ba,0,none⟩=some (.slice Aag ag.length cag)/\wx.cell? ⟨Ba,1,none⟩=some (.slice Aau au.length cau)/\wx.cell? ⟨Ba,2,none⟩=some (.slice Aav av.length cav) from fun wx hx=>(HT5.out.below hx).cells)
   have HS0:=Hd (HSX.out (World.drew wr) (Below.refl _ wr).drew)
   clear t5 g5 u5 v5 b5 hkey ru5 rv5
   refine wp_region_any (by kernel_rfl) ?_
   change wpAny _ _ _ _ _ _ _ (World.drew _)
   refine wpAny_of_P (S:=fun wx=>wx.cell? ⟨Ba,0,none⟩=some (.slice Aag ag.length cag)/\wx.cell? ⟨Ba,1,none⟩=some (.slice Aau au.length cau)/\wx.cell? ⟨Ba,2,none⟩=some (.slice Aav av.length cav)) (late:=[11]) _ _ _ _ ?_
   refine tT 0 HS0.out ?_
   try go_frame
   refine tP 8 1 rfl HS0.out (fun w hw=>by obtain⟨k0,k1,k2⟩:=hw;go_simp;try with_reducible rfl) ?_
   try go_frame
   refine tT 2 HS0.out ?_
   try go_frame
   refine tP 8 3 rfl HS0.out (fun w hw=>by obtain⟨k0,k1,k2⟩:=hw;go_simp;try with_reducible rfl) ?_
   try go_frame
   refine tT 5 HS0.out ?_
   try go_frame
   refine tP 8 6 rfl HS0.out (fun w hw=>by obtain⟨k0,k1,k2⟩:=hw;go_simp;try with_reducible rfl) ?_
   try go_frame
   refine fP 4 fun K hK=>?_
   go_simp
   refine (cloneE_any (w:=World.drew wr) HRU.out (Nat.le_refl _) (by omega) zau).mono ?_;rintro x w6 ⟨v6,rfl,h6,b6⟩;have HB6:=Hd (show Below wr.heap.size wr w6 from below_undrew b6);have HS6:=Hd (HSX.out w6 HB6.out);clear h6 b6
   refine hK _ _ (HS6.out) ?_;clear hK K
   try go_frame
   refine fP 7 fun K hK=>?_
   go_simp
   refine (cloneE_any (HRV.out.next HB6.out) (Nat.le_refl _) (by omega) zav).mono ?_;rintro x w7 ⟨v7,rfl,h7,b7⟩;have H7:=Hd h7;have HB7:=Hd (bch HB6.out b7);have HS7:=Hd (HSX.out w7 HB7.out);clear h7 b7
   refine hK _ _ (HS7.out) ?_;clear hK K
   try go_frame
   refine tT 8 HS7.out ?_
   try go_frame
   refine tT 9 HS7.out ?_
   try go_frame
   refine tT 10 HS7.out ?_
   try go_frame
   refine lP 11 fun K hK=>?_
   go_simp
   refine hK _ _ ?_;clear hK K
   try go_frame
   refine wpAny_done (by kernel_rfl) ?_ _
   have h7:=H7.out
   obtain⟨A7,c7,rfl,q7,_⟩:=own_form h7
   have hpv:PolV w7 (.slice A7 av.length c7) av:=⟨_,_,rfl,Rd.of_own h7,q7,own_none h7⟩
   have HPV:=Hd hpv
   clear h7 hpv
   go_wp2
   refine bodyPost_ret (v:=.tuple #[.slice Aag ag.length cag,v6,.slice A7 av.length c7,.int .i64 0]) (by simp[results,Tryz.results108,go_sem]) rfl ?_
   exact⟨_,_,_,rfl,_,HG5.out.below HB7.out,_,HPV.out,HKEY.out,HB5.out.trans (HB7.out.mono HB5.out.size)⟩
end Go.Proofs.YtmgljaecmchgaaaGreat.Gf
