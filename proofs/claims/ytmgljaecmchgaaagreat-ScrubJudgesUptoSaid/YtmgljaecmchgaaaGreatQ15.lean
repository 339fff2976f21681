/- XPo3, XPo4: merged by tools/merge.py. -/
import Derived.Test.YtmgljaecmchgaaaGreatQ14
import Derived.Test.YtmgljaecmchgaaaGreatQ07
import Derived.Great.BuildSlice
set_option linter.unusedVariables false
set_option linter.unusedSimpArgs false
set_option linter.unusedSectionVars false
namespace Go.Proofs.YtmgljaecmchgaaaGreat.Gf
open Go.RowKit Go.Proofs
def fO (p q:List E) (i:Nat):Nat->E:=fun m=>co (mulP (p.take i) q) m
def fI (p q:List E) (i:Nat) (a:E) (j:Nat):Nat->E:=fun m=>co (mulP (p.take i) q) m+(if m<i then 0 else a*(if m - i<j then co q (m - i) else 0))
theorem fI_zero (p q:List E) (i:Nat) (a:E):fI p q i a 0=fO p q i:=by
 funext m
 unfold fI fO
 simp only[Nat.not_lt_zero,if_false,mul_zero]
 split<;>exact Fld.add_zero _
theorem fI_step {p q:List E} {i j:Nat} {a y z:E} (hz:fI p q i a j (i+j)=z) (hy:co q j=y):(fun m=>if m=i+j then z+a*y else fI p q i a j m)=fI p q i a (j+1):=by
 funext m
 by_cases e:m=i+j
 ·subst e
  rw[if_pos rfl,<-hz]
  unfold fI
  rw[if_neg (by omega),if_neg (by omega),Nat.add_sub_cancel_left,if_neg (by omega),if_pos (by omega),hy,mul_zero,Fld.add_zero]
 ·rw[if_neg e]
  unfold fI
  by_cases h1:m<i
  ·rw[if_pos h1,if_pos h1]
  ·rw[if_neg h1,if_neg h1]
   by_cases h2:m - i<j
   ·rw[if_pos h2,if_pos (by omega)]
   ·rw[if_neg h2,if_neg (by omega)]
theorem take_one {p:List E} {i:Nat} (hi:i<p.length):p.take (i+1)=p.take i++[co p i]:=by
 rw[List.take_succ_eq_append_getElem hi,co_get hi]
theorem fI_all {p q:List E} {i:Nat} (hi:i<p.length):fI p q i (co p i) q.length=fO p q (i+1):=by
 funext m
 unfold fI fO
 rw[take_one hi,mulP_snoc _ _ _ m,co_addP,co_upP,List.length_take,Nat.min_eq_left (by omega),co_scP]
 by_cases h1:m<i
 ·rw[if_pos h1,if_pos h1]
 ·rw[if_neg h1,if_neg h1]
  by_cases h2:m - i<q.length
  ·rw[if_pos h2]
  ·rw[if_neg h2,co_ge (p:=q) (by omega)]
theorem fO_skip {p q:List E} {i:Nat} (hi:i<p.length) (h0:co p i=0):fO p q (i+1)=fO p q i:=by
 rw[<-fI_all hi,h0]
 funext m
 unfold fI fO
 simp only[zero_mul]
 split<;>exact Fld.add_zero _
theorem fO_zero (p q:List E):fO p q 0=fun _=>0:=rfl
theorem fO_all (p q:List E):trimP (fromN (p.length+q.length) (fO p q p.length))=trimP (mulP p q):=by
 refine trimP_congr fun m=>?_
 rw[co_fromN]
 unfold fO
 rw[List.take_length]
 split
 ·rfl
 ·exact (co_ge (by have:=length_mulP p q;omega)).symm
set_option maxRecDepth 100000 in
set_option maxHeartbeats 4000000 in
theorem timesP_any {w:World} {B n m c d:Nat} {A1 A2:Option Addr} {p q:List E} (hp:Rd w B 1 A1 n (cE p)) (hq:Rd w B 1 A2 m (cE q)) (hB:B<=w.heap.size) (hn:n<=65536) (hm:m<=65536) :
  Calls Tryz.prog 120 #[.slice A1 n c,.slice A2 m d] w fun e w'=>∃ v,e = .returned v/\PolR w w' v (trimP (mulP p q)):=by
 have hpl:=rd_len hp
 have hql:=rd_len hq
 have hfin:trimP (fromN (n+m) (fO p q n))=trimP (mulP p q):=by have:=fO_all p q;rw[hpl,hql] at this;exact this
 obtain⟨N,hN⟩:∃ N,n+m=N:=⟨_,rfl⟩
 have hN2:N<=131072:=by omega
 have hsum:(n:Int)+(m:Int)=(N:Int):=by omega
 obtain⟨V,hV⟩:∃ V,w.heap.size=V:=⟨_,rfl⟩
 have hmk:=fun W=>run_makeE W N (by omega)
 have hrow0:(w.alloc (.cells (cE (fromN N fun _=>0)).toArray tEl)).ownsRow V tEl 1 (.slice (some ⟨V,0,none⟩) N N) N (cE (fromN N (fO p q 0))):=by
  rw[<-hV,fO_zero];exact Dr.own_new w (Nat.le_refl _) tEl 1 N _ (by simp[fromN]) (by unfold maxLen;omega)
 have hb0:Below V w (w.alloc (.cells (cE (fromN N fun _=>0)).toArray tEl)):=by rw[<-hV];exact (Below.refl _ w).alloc (Nat.le_refl _) _
 obtain⟨Z,hZ⟩:∃ Z:List Value,cE (fromN N fun _=>0)=Z:=⟨_,rfl⟩
 rw[hZ] at hmk hrow0 hb0
 have HP:=Hd hp
 have HQ:=Hd hq
 have HR0:=Hd hrow0
 have HB0:=Hd hb0
 have HPL:=Hd hpl
 have HQL:=Hd hql
 have HN:=Hd hN
 have HFIN:=Hd hfin
 have HVV:=Hd hV
 clear hp hq hrow0 hb0 hpl hql hZ hfin hN
 go_enter Tryz.func120,Tryz.ntmps120
 go_wp2
 obtain⟨w0,hw0⟩:∃ w0,w.alloc (.cells Z.toArray tEl)=w0:=⟨_,rfl⟩
 have HR1:=HR0.out
 have HB1:=HB0.out
 rw[hw0] at HR1 HB1
 rw[hw0]
 clear hw0 hV hmk hsum
 go_loopw [18] (fun iv wr=>∃ i:Nat,iv = .int .i64 (i:Int)/\i<=n/\wr.ownsRow V tEl 1 (.slice (some ⟨V,0,none⟩) N N) N (cE (fromN N (fO p q i)))/\Below V w wr) (fun iv _=>n - (intOf iv).toNat)
 case atStart=>exact⟨0,rfl,Nat.zero_le _,HR1,HB1⟩
 case round=>
  obtain⟨i,rfl,hi,hown,hb⟩:=hrel
  by_cases hlt:i<n
  ·have hlt2:(i:Int)<(n:Int):=by omega
   obtain⟨ad,rfl,had,hcd⟩:=rd_at HP.out hlt
   obtain⟨a,ha⟩:∃ a,co p i=a:=⟨_,rfl⟩
   rw[ha] at hcd
   have hcd2:wr.cell? (ad.add i)=some (.int .u8 ((unE a).toNat:Int)):=(hb.cell (by rw[add_block];have:=HVV.out;omega)).trans hcd
   have HA:=Hd ha
   have HO:=Hd hown
   have HB:=Hd hb
   clear ha hown hb hcd
   by_cases ha0:a=0
   ·have hd:decide (unE a=0)=true:=decide_eq_true ha0
    have HA0:=Hd ha0
    clear ha0
    go_wp2_with (go_at_call 130;refine (isZero_any (unE a) _).mono ?_;rintro e w2 ⟨rfl,rfl⟩;rw[hd];clear hd)
    go_roundw
    case rel=>exact⟨i+1,by go_num,by omega,by rw[fO_skip (by have:=HPL.out;omega) (HA.out.trans HA0.out)];exact HO.out,HB.out⟩
    case measure=>simp[intOf];omega
   ·have hd:decide (unE a=0)=false:=decide_eq_false ha0
    clear ha0
    go_wp2_with (go_at_call 130;refine (isZero_any (unE a) _).mono ?_;rintro e w2 ⟨rfl,rfl⟩;rw[hd];clear hd)
    go_loopw [27] (fun jv wq=>∃ j:Nat,jv = .int .i64 (j:Int)/\j<=m/\wq.ownsRow V tEl 1 (.slice (some ⟨V,0,none⟩) N N) N (cE (fromN N (fI p q i a j)))/\Below V w wq) (fun jv _=>m - (intOf jv).toNat)
    case atStart=>exact⟨0,rfl,Nat.zero_le _,by rw[fI_zero];exact HO.out,HB.out⟩
    case round=>
     obtain⟨j,rfl,hj,hown,hb⟩:=hrel
     by_cases hlj:j<m
     ·have hlj2:(j:Int)<(m:Int):=by omega
      obtain⟨aq,rfl,haq,hcq⟩:=rd_at HQ.out hlj
      obtain⟨y,hy⟩:∃ y,co q j=y:=⟨_,rfl⟩
      rw[hy] at hcq
      have hcq2:=(hb.cell (p:=aq.add j) (by rw[add_block];have:=HVV.out;omega)).trans hcq
      obtain⟨s,hs⟩:∃ s,i+j=s:=⟨_,rfl⟩
      have hij:s<N:=by have:=HN.out;omega
      obtain⟨z,hz⟩:∃ z,fI p q i a j s=z:=⟨_,rfl⟩
      have hc0:=ow_cell hown hij (cE_get (by rw[fromN_get hij,hz]))
      have hf0:wr.frozen? ⟨V,s,none⟩=false:=ow_free hown
      have hnew:=ow_store (i:=s) hown (.int .u8 ((unE (z+a*y)).toNat:Int))
      have hst:=fI_step (p:=p) (q:=q) (i:=i) (j:=j) (a:=a) (y:=y) (z:=z) (by rw[hs];exact hz) hy
      rw[hs] at hst
      rw[cE_set,hst] at hnew
      have hb2:=hb.setCell (p:=⟨V,s,none⟩) (Nat.le_refl _) (.int .u8 ((unE (z+a*y)).toNat:Int))
      have hij2:(i:Int)+(j:Int)=(s:Int):=by omega
      have hijN:(s:Int)<(N:Int):=by omega
      have hwr:IntKind.i64.wrap (s:Int)=(s:Int):=by rw[IntKind.wrap_i64];omega
      have hs0:(0:Int)<=(s:Int):=by omega
      have HC0:=Hd hc0
      have HF0:=Hd hf0
      have HNW:=Hd hnew
      have HB2:=Hd hb2
      clear hc0 hf0 hnew hb2 hown hb hz hy hcq hij hs hst
      go_upto_region 9 with (fail)
      refine wp_region_any (by kernel_rfl) ?_
      change wpAny _ _ _ _ _ _ _ (World.drew _)
      refine wpAny_of_P (S:=fun w'=>w'.cell? ⟨V,s,none⟩=some (.int .u8 ((unE z).toNat:Int))/\w'.frozen? ⟨V,s,none⟩=false) (late:=[15]) _ _ _ _ ?_
      refine tT 0 ⟨HC0.out,HF0.out⟩ ?_
      try go_frame
      refine tT 1 ⟨HC0.out,HF0.out⟩ ?_
      try go_frame
      refine tT 2 ⟨HC0.out,HF0.out⟩ ?_
      try go_frame
      refine tT 3 ⟨HC0.out,HF0.out⟩ ?_
      try go_frame
      refine tT 4 ⟨HC0.out,HF0.out⟩ ?_
      try go_frame
      refine tT 5 ⟨HC0.out,HF0.out⟩ ?_
      try go_frame
      refine tT 6 ⟨HC0.out,HF0.out⟩ ?_
      try go_frame
      refine tT 7 ⟨HC0.out,HF0.out⟩ ?_
      try go_frame
      refine tT 8 ⟨HC0.out,HF0.out⟩ ?_
      try go_frame
      refine tP 8 9 rfl ⟨HC0.out,HF0.out⟩ (fun w hw=>by obtain⟨y1,y2⟩:=hw;go_simp;try with_reducible rfl) ?_
      try go_frame
      refine tT 10 ⟨HC0.out,HF0.out⟩ ?_
      try go_frame
      refine tT 11 ⟨HC0.out,HF0.out⟩ ?_
      try go_frame
      refine fP 12 fun K hK=>?_
      go_simp
      refine (times_any (unE a) (unE y) _).mono ?_;rintro e w5 ⟨rfl,rfl⟩
      refine hK _ _ (⟨HC0.out,HF0.out⟩) ?_;clear hK K
      try go_frame
      refine fP 13 fun K hK=>?_
      go_simp
      refine (plus_any (unE z) (mul8 (unE a) (unE y)) _).mono ?_;rintro e w5 ⟨rfl,rfl⟩
      refine hK _ _ (⟨HC0.out,HF0.out⟩) ?_;clear hK K
      try go_frame
      refine tT 14 ⟨HC0.out,HF0.out⟩ ?_
      try go_frame
      refine lP 15 fun K hK=>?_
      have y1:(World.drew wr).cell? ⟨V,s,none⟩=some (.int .u8 ((unE z).toNat:Int)):=HC0.out;have y2:(World.drew wr).frozen? ⟨V,s,none⟩=false:=HF0.out
      go_simp
      refine hK _ _ ?_;clear hK K
      try go_frame
      refine wpAny_done (by kernel_rfl) ?_ _
      go_wp2
      go_roundw
      case rel=>exact⟨j+1,by go_num,by omega,HNW.out,HB2.out.os,HB2.out.tape,HB2.out.output,HB2.out.size,HB2.out.block⟩
      case measure=>simp[intOf];omega
     ·obtain rfl:j=m:=by omega
      have hall:=fI_all (p:=p) (q:=q) (i:=i) (by rw[HPL.out];exact hlt)
      rw[HA.out,HQL.out] at hall
      rw[hall] at hown
      have HO2:=Hd hown
      have HB2:=Hd hb
      clear hown hb hall
      go_wp2
      go_roundw
      case rel=>exact⟨i+1,by go_num,by omega,HO2.out,HB2.out⟩
      case measure=>simp[intOf];omega
  ·obtain rfl:i=n:=by omega
   obtain⟨R,hR⟩:∃ R,fromN N (fO p q i)=R:=⟨_,rfl⟩
   rw[hR] at hown
   have hRl:R.length=N:=by rw[<-hR];simp[fromN]
   obtain⟨t,ht⟩:∃ t,tl R=t:=⟨_,rfl⟩
   have htk:t<=N:=by rw[<-ht,<-hRl];exact tl_le R
   have hrd:=Rd.of_own hown
   have hadd:(t:Int) - 1+1=t:=by omega
   have hsl:∀ wx:World,(Instr.slice 181 (.slice (some ⟨V,0,none⟩) N N) none (some (.int .i64 (t:Int))) none).run Tryz.prog wx = .ok (.slice (some ⟨V,0,none⟩) t N) wx:=fun wx=>slice_to wx htk
   have HRD2:=Hd hrd
   have HT:=Hd ht
   have HO:=Hd hown
   have HBB:=Hd hb
   have HRR:=Hd hR
   clear hrd ht hown hb hR hRl
   go_wp2_with (go_at_call 123;refine (degree_any HRD2.out (by omega)).mono ?_;rintro e w2 ⟨rfl,rfl⟩;rw[HT.out])
   go_ret
   refine⟨_,rfl,?_⟩
   have hV:=HVV.out
   rw[<-HFIN.out,HN.out,HRR.out]
   refine PolR.of_part (l:=R) (by rw[hV];exact HO.out) (by rw[hV];exact HBB.out) htk (Nat.le_refl _) ?_ HT.out
   rw[take_tl R,HT.out]
end Go.Proofs.YtmgljaecmchgaaaGreat.Gf
namespace Go.Proofs.YtmgljaecmchgaaaGreat.Gf
open Go.RowKit Go.Proofs
def vn (pts:List E):Nat->List E
 | 0=>[1]
 | i+1=>trimP (mulP (vn pts i) [co pts i,1])
theorem lin_trd (a:E):Trd [a,1]:=fun _=>Fld.one_ne
theorem vn_trd (pts:List E):∀ i,Trd (vn pts i)
 | 0=>fun _=>Fld.one_ne
 | i+1=>trimP_trd _
theorem vn_len (pts:List E):∀ i,(vn pts i).length=i+1
 | 0=>rfl
 | i+1=>by
  have ih:=vn_len pts i
  have:=length_trim_mulP (vn_trd pts i) (lin_trd (co pts i)) (by omega) (by simp)
  rw[vn,this,ih]
  rfl
theorem ev_lin (a x:E):ev [a,1] x=a+x:=by
 show a+x*(1+x*0)=_
 rw[mul_zero,Fld.add_zero,Fld.mul_one]
theorem vn_zero (pts:List E):∀ i,i<=pts.length->∀ x,ev (vn pts i) x=0↔x∈pts.take i
 | 0,_,x=>by
  show (1:E)+x*0=0↔_
  rw[mul_zero,Fld.add_zero]
  simp[Fld.one_ne]
 | i+1,hi,x=>by
  have ih:=vn_zero pts i (by omega) x
  rw[vn,ev_trimP,ev_mulP,ev_lin,take_one (by omega)]
  constructor
  ·intro h
   rcases mul_eq_zero h with h | h
   ·exact List.mem_append_left _ (ih.1 h)
   ·rw[add_eq_zero] at h
    exact List.mem_append_right _ (by simp[h])
  ·intro h
   rcases List.mem_append.1 h with h | h
   ·rw[ih.2 h,zero_mul]
   ·rw[List.mem_singleton.1 h,Fld.add_self,mul_zero]
structure PolV (w:World) (v:Value) (l:List E):Prop where
 form:∃ A c,v = .slice A l.length c/\Rd w w.heap.size 1 A l.length (cE l)/\l.length<=c/\(A=none->c=0)
theorem PolR.val {w w':World} {v:Value} {l:List E} (h:PolR w w' v l):PolV w' v l/\Below w.heap.size w w':=by
 obtain⟨A,c,h1,h2,h3,h4,h5⟩:=h
 exact⟨⟨A,c,h1,h2,h3,h4⟩,h5⟩
theorem PolV.below {w w':World} {v:Value} {l:List E} (h:PolV w v l) (hb:Below w.heap.size w w'):PolV w' v l:=by
 obtain⟨A,c,h1,h2,h3,h4⟩:=h.form
 exact⟨A,c,h1,h2.next hb,h3,h4⟩
theorem PolV.back {w w':World} {v:Value} {l:List E} (h:PolV w' v l) (hb:Below w.heap.size w w'):PolR w w' v l:=by
 obtain⟨A,c,h1,h2,h3,h4⟩:=h.form
 exact⟨A,c,h1,h2,h3,h4,hb⟩
theorem run_lit1 (W:World):(Instr.buildSlice 181 1 #[(0,.int .u8 1)]).run Tryz.prog W = .ok (.slice (some ⟨W.heap.size,0,none⟩) 1 1) (W.alloc (.cells #[.int .u8 1] tEl)):=by
 obtain⟨i0,hi,hz0,hz1,hz2⟩:=info_parts infoEl
 have:=run_buildSlice (P:=Tryz.prog) W 181 tEl 1 #[(0,.int .u8 1)] #[.int .u8 1] i0 (.int .u8 0) Tryz.underlying181 hi hz0 (by rw[hz1];decide) (by rw[hz1];decide) (by rw[hz1];exact Great.fill_flat [.int .u8 1] _ (fun v hv=>by rw[List.mem_singleton.1 hv];rfl) (by simp))
 exact this
theorem run_lit2 (W:World) (a:Value) (ha:a.cells=#[a]):(Instr.buildSlice 181 2 #[(0,a),(1,.int .u8 1)]).run Tryz.prog W = .ok (.slice (some ⟨W.heap.size,0,none⟩) 2 2) (W.alloc (.cells #[a,.int .u8 1] tEl)):=by
 obtain⟨i0,hi,hz0,hz1,hz2⟩:=info_parts infoEl
 have:=run_buildSlice (P:=Tryz.prog) W 181 tEl 2 #[(0,a),(1,.int .u8 1)] #[a,.int .u8 1] i0 (.int .u8 0) Tryz.underlying181 hi hz0 (by rw[hz1];decide) (by rw[hz1];decide) (by rw[hz1];exact Great.fill_flat [a,.int .u8 1] _ (fun v hv=>by rcases List.mem_cons.1 hv with h | h;(· rw[h];exact ha);(· rw[List.mem_singleton.1 h];rfl)) (by simp))
 exact this
theorem polV_new (W:World) (l:List E):PolV (W.alloc (.cells (cE l).toArray tEl)) (.slice (some ⟨W.heap.size,0,none⟩) l.length l.length) l:=by
 refine⟨_,_,rfl,⟨by simp,fun _=>⟨_,rfl,by simp,?_⟩⟩,Nat.le_refl _,fun h=>by cases h⟩
 exact new_cells W _ _
set_option maxRecDepth 100000 in
set_option maxHeartbeats 2000000 in
theorem vanish_any {w:World} {B n c:Nat} {A1:Option Addr} {p:List E} (hp:Rd w B 1 A1 n (cE p)) (hB:B<=w.heap.size) (hn:n<=1024) :
  Calls Tryz.prog 109 #[.slice A1 n c] w fun e w'=>∃ v,e = .returned v/\PolR w w' v (vn p n):=by
 have hpl:=rd_len hp
 have HP:=Hd hp
 have HPL:=Hd hpl
 have hl1:=run_lit1
 have hv0:=polV_new w [1]
 have hb0:Below w.heap.size w (w.alloc (.cells #[.int .u8 1] tEl)):=(Below.refl _ w).alloc (Nat.le_refl _) _
 have HV0:=Hd hv0
 have HB0:=Hd hb0
 clear hp hpl hv0 hb0
 go_enter Tryz.func109,Tryz.ntmps109
 go_wp2
 go_loopw [3,9] (fun v iv wr=>∃ i:Nat,iv = .int .i64 (i:Int)/\i<=n/\PolV wr v (vn p i)/\Below w.heap.size w wr) (fun _ iv _=>n - (intOf iv).toNat)
 case atStart=>exact⟨0,rfl,Nat.zero_le _,HV0.out,HB0.out⟩
 case round=>
  obtain⟨i,rfl,hi,hv,hb⟩:=hrel
  by_cases hlt:i<n
  ·have hlt2:(i:Int)<(n:Int):=by omega
   obtain⟨ad,rfl,had,hcd⟩:=rd_at HP.out hlt
   obtain⟨a,ha⟩:∃ a,co p i=a:=⟨_,rfl⟩
   rw[ha] at hcd
   have hcd2:wr.cell? (ad.add i)=some (.int .u8 ((unE a).toNat:Int)):=(hb.cell (by rw[add_block];omega)).trans hcd
   have hl2:=fun W=>run_lit2 W (.int .u8 ((unE a).toNat:Int)) rfl
   obtain⟨Av,cv,rfl,hr,hcv,hnc⟩:=hv.form
   have hla:=vn_len p i
   rw[hla] at hr ⊢
   have hstep:vn p (i+1)=trimP (mulP (vn p i) [a,1]):=by rw[vn,ha]
   have hr2:Rd (wr.alloc (.cells #[.int .u8 ((unE a).toNat:Int),.int .u8 1] tEl)) wr.heap.size 1 Av (i+1) (cE (vn p i)):=hr.alloc (Nat.le_refl _) _
   have hr3:=(polV_new wr [a,1])
   have hb2:Below w.heap.size w (wr.alloc (.cells #[.int .u8 ((unE a).toNat:Int),.int .u8 1] tEl)):=hb.alloc hb.size _
   have HR2:=Hd hr2
   have HB2:=Hd hb2
   have HS:=Hd hstep
   obtain⟨A2,c2,e2,hr4,_,_⟩:=hr3.form
   injection e2 with e2 _ _
   have HR4:=Hd hr4
   clear hv hb hr hr2 hb2 hr3 hstep ha hcd hr4 hla
   subst e2
   go_wp2_with (go_at_call 120;go_loud (refine (timesP_any (HR2.out.more (by simp)) HR4.out (by simp) (by omega) (by simp)).mono ?_);rintro e w2 ⟨v,rfl,hv⟩;have hvv:=hv.val;rw[<-HS.out] at hvv;have HVV:=Hd hvv;clear hv hvv)
   obtain⟨A3,c3,e3,hr5,h6,h7⟩:=HVV.out.1.form
   subst e3
   go_roundw
   case rel=>exact⟨i+1,by go_num,by omega,⟨A3,c3,rfl,hr5,h6,h7⟩,HB2.out.trans (HVV.out.2.mono HB2.out.size)⟩
   case measure=>simp[intOf];omega
  ·obtain rfl:i=n:=by omega
   have HVX:=Hd hv
   have HBX:=Hd hb
   obtain⟨Av,cv,rfl,_,_,_⟩:=hv.form
   clear hv hb
   go_wp2
   go_ret
   exact⟨_,rfl,HVX.out.back HBX.out⟩
end Go.Proofs.YtmgljaecmchgaaaGreat.Gf
