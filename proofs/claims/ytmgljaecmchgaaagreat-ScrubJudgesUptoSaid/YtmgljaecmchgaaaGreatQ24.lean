/- XRa2, XRa3, XRa4: merged by tools/merge.py. -/
import Derived.Test.YtmgljaecmchgaaaGreatQ06
import Derived.Test.YtmgljaecmchgaaaGreatQ23
set_option linter.unusedVariables false
set_option linter.unusedSimpArgs false
set_option linter.unusedSectionVars false
namespace Go.Proofs.YtmgljaecmchgaaaGreat.Gf
open Go.RowKit Go.Proofs
theorem PolR.of_ownU {w w':World} {v:Value} {l:List E} (h:w'.ownsRow w.heap.size Dr.tU8 1 v l.length (cE l)) (hb:Below w.heap.size w w'):PolR w w' v l:=by
 obtain⟨A,c,rfl,h1,_⟩:=own_form h
 exact⟨A,c,rfl,Rd.of_own h,h1,own_none h,hb⟩
set_option maxRecDepth 100000 in
set_option maxHeartbeats 4000000 in
theorem trimR_any {w:World} {B n c:Nat} {A:Option Addr} {l:List E} (h:Rd w B 1 A n (cE l)) (hB:B<=w.heap.size) (hn:n<=65536) :
  Calls Tryz.prog 102 #[.slice A n c] w fun e w'=>∃ v,e = .returned v/\PolR w w' v (trimP l):=by
 obtain⟨i0,hi0,hz0,hz1,hz2⟩:=info_parts Dr.infoU8
 have hl:=rd_len h
 have H:=Lib.hid h
 have HL:=Hd hl
 obtain⟨V,hV⟩:∃ V,w.heap.size=V:=⟨_,rfl⟩
 have HV:=Hd hV
 clear h hl hV
 go_enter Tryz.func102,Tryz.ntmps102
 go_wp2
 go_loop [3] (fun nv=>∃ q:Nat,nv = .int .i64 (q:Int)/\q<=n/\∀ j,q<=j->co l j=0) (fun nv=>(intOf nv).toNat)
 case atStart=>exact⟨n,rfl,Nat.le_refl _,fun j hj=>co_ge (by rw[HL.out];exact hj)⟩
 case round=>
  obtain⟨q,rfl,hq,hz⟩:=hrel
  rcases Nat.eq_zero_or_pos q with h0 | h0
  ·subst h0
   have ht:=(tl_eq (p:=l) (k:=0) (Nat.zero_le _) (fun i hi=>hz i hi) (.inl rfl)).1
   have htl:trimP l=[]:=List.eq_nil_of_length_eq_zero ht
   have HT:=Hd htl
   clear hz ht htl
   have hnil:¬ (0:Int)<0:=by omega
   go_wp2
   go_loopw [4,5] (fun v iv wr=>v = .slice none 0 0/\iv = .int .i64 0/\wr=w) (fun _ _ _=>0)
   case atStart=>exact⟨rfl,rfl,rfl⟩
   case round=>
    obtain⟨rfl,rfl,rfl⟩:=hrel
    go_wp2
    go_ret
    rw[HT.out]
    exact⟨_,rfl,none,0,rfl,Rd.none_,Nat.le_refl _,fun _=>rfl,Below.refl _ _⟩
  ·have hq0:(0:Int)<(q:Int):=by omega
   have hq1:(0:Int)<=(q:Int) - 1:=by omega
   have hqn:(q:Int) - 1<(n:Int):=by omega
   obtain⟨r,hr⟩:∃ r,q=r+1:=⟨q - 1,by omega⟩
   subst hr
   obtain⟨ad,rfl,had,hcd⟩:=rd_at H.out (show r<n by omega)
   obtain⟨x,hx⟩:∃ x,co l r=x:=⟨_,rfl⟩
   rw[hx] at hcd
   have hri:((r+1:Nat):Int) - 1=(r:Int):=by omega
   have hr0:(0:Int)<=(r:Int):=by omega
   have hrn:(r:Int)<(n:Int):=by omega
   have hrt:((r:Int)).toNat=r:=by omega
   by_cases hx0:x=0
   ·have hxi:((unE x).toNat:Int)=0:=by rw[hx0];rfl
    have hxb:(((unE x).toNat:Int)==0)=true:=by simp[hxi]
    have HZ2:=Hd (show ∀ j,r<=j->co l j=0 from fun j hj=>by
     by_cases e:j=r
     ·rw[e,hx,hx0]
     ·exact hz j (by omega))
    clear hz hx0 hx
    go_wp2
    go_round
    case rel=>exact⟨r,rfl,by omega,HZ2.out⟩
    case measure=>simp[intOf]
   ·have hxi:¬ ((unE x).toNat:Int)=0:=fun h=>hx0 (UInt8.toNat_inj.1 (show (unE x).toNat=0 by omega))
    have hxb:(((unE x).toNat:Int)==0)=false:=by simpa using hxi
    have ht:=(tl_eq (p:=l) (k:=r+1) (by rw[HL.out];exact hq) (fun i hi=>hz i hi) (.inr (by rw[Nat.add_sub_cancel,hx];exact hx0)))
    have HT:=Hd ht.2
    clear hz hx0 hx ht
    go_wp2
    go_loopw [4,5] (fun v iv wr=>∃ i:Nat,iv = .int .i64 (i:Int)/\i<=r+1/\wr.ownsRow V Dr.tU8 1 v i (cE (l.take i))/\Below V w wr) (fun _ iv _=>r+1 - (intOf iv).toNat)
    case atStart=>exact⟨0,rfl,Nat.zero_le _,by rw[List.take_zero];exact World.ownsRow_nil _ _ _ _,Below.refl _ _⟩
    case round=>
     obtain⟨i,rfl,hi,hown,hb⟩:=hrel
     by_cases hir:i<r+1
     ·have hir2:(i:Int)<((r+1:Nat):Int):=by omega
      have hir3:(i:Int)<(r:Int)+1:=by omega
      have hi00:(0:Int)<=(i:Int):=by omega
      have hinn:(i:Int)<(n:Int):=by omega
      obtain⟨ad2,had2,hblk2,hcd2⟩:=rd_at H.out (show i<n by omega)
      injection had2 with had2
      subst had2
      obtain⟨y,hy⟩:∃ y,co l i=y:=⟨_,rfl⟩
      rw[hy] at hcd2
      have hV:=HV.out
      have e1:=(hb.cell (p:=ad.add i) (by rw[add_block];omega)).trans hcd2
      have hVs:V<=wr.heap.size:=by have:=hb.size;omega
      obtain⟨Ao,co',rfl,hco,_⟩:=own_form hown
      have hl1:=run_litV wr 79 Dr.tU8 (.int .u8 0) (.int .u8 ((unE y).toNat:Int)) 1 Tryz.underlying79 Dr.infoU8 rfl
      have HO1:=Hd (Dr.own_alloc hown (.cells #[.int .u8 ((unE y).toNat:Int)] Dr.tU8))
      have HRX:=Hd (rd_new wr (.int .u8 ((unE y).toNat:Int)) Dr.tU8)
      have HBX:=Hd (hb.alloc hVs (.cells #[.int .u8 ((unE y).toNat:Int)] Dr.tU8))
      have HS:=Hd (show l.take (i+1)=l.take i++[y] by rw[<-hy];exact take_one (by rw[HL.out];omega))
      clear hown hb hy hcd2 hV
      go_wp2_with (at_builtin;go_loud (refine wpList_append_rd _ rfl (.tmp 25) (.tmp 30) 79 rfl V Dr.tU8 i0 (.int .u8 0) 1 1 Tryz.underlying79 hi0 hz0 hz1 hz2 rfl (by decide) (.slice Ao i co') i (cE (l.take i)) rfl HO1.out _ (some ⟨wr.heap.size,0,none⟩) 1 1 [.int .u8 ((unE y).toNat:Int)] rfl HRX.out (fun h=>by cases h) (by simp[Value.oneCell']) (by unfold maxLen;omega) (by omega) (by simp;omega) ?_);intro v' w' hrow hg;go_loud (have hb2:=HBX.out.grown hg (by simp;omega) (fun j hj=>Dr.own_ge HO1.out hj));have HROW:=Hd hrow;have HB2X:=Hd hb2;clear hrow hg hb2)
      have hrow:=HROW.out
      have hcs:cE (l.take (i+1))=cE (l.take i)++[.int .u8 ((unE y).toNat:Int)]:=by rw[HS.out];simp
      obtain⟨A3x,c3x,rfl,_,_⟩:=own_form hrow
      go_roundw
      case rel=>exact⟨i+1,by go_num,by omega,by rw[hcs];exact hrow,HB2X.out⟩
      case measure=>simp[intOf];omega
     ·obtain rfl:i=r+1:=by omega
      rw[<-HT.out] at hown
      obtain⟨Ao,co',rfl,hco,_⟩:=own_form hown
      have hlt:(trimP l).length=r+1:=by have:=hown.1;simpa using this
      have HPR:=Hd (show PolR w wr (.slice Ao (r+1) co') (trimP l) from PolR.of_ownU (by rw[hlt,HV.out];exact hown) (by rw[HV.out];exact hb))
      clear hown hb hlt
      go_wp2
      go_ret
      exact⟨_,rfl,HPR.out⟩
end Go.Proofs.YtmgljaecmchgaaaGreat.Gf
namespace Go.Proofs.YtmgljaecmchgaaaGreat.Gf
open Go.RowKit Go.Proofs
theorem bxE (a b:E):bits .xor .u8 ((unE a).toNat:Int) ((unE b).toNat:Int)=((unE (a+b)).toNat:Int):=by rw[bx8,add_unE]
set_option maxRecDepth 100000 in
theorem coef_any {w:World} {B n c:Nat} {A:Option Addr} {p:List E} (h:Rd w B 1 A n (cE p)) (i:Nat):Calls Tryz.prog 116 #[.slice A n c,.int .i64 (i:Int)] w fun e w'=>e = .returned (.int .u8 ((unE (co p i)).toNat:Int))/\w=w':=by
 have hl:=rd_len h
 have hi00:(0:Int)<=(i:Int):=by omega
 by_cases hi:i<n
 ·obtain⟨ad,rfl,had,hcd⟩:=rd_at h hi
  have hi2:(i:Int)<(n:Int):=by omega
  clear h
  go_enter Tryz.func116,Tryz.ntmps116
  go_wp2
  go_ret
  exact⟨rfl,rfl⟩
 ·have hi2:¬ (i:Int)<(n:Int):=by omega
  have hz:co p i=0:=co_ge (by omega)
  rw[hz]
  clear h
  go_enter Tryz.func116,Tryz.ntmps116
  go_wp2
  go_ret
  exact⟨rfl,rfl⟩
theorem fromN_succ (f:Nat->E) (i:Nat):fromN (i+1) f=fromN i f++[f i]:=by unfold fromN;rw[List.range_succ,List.map_append];rfl
set_option maxRecDepth 100000 in
set_option maxHeartbeats 4000000 in
theorem plusR_any {w:World} {B n m c d:Nat} {A1 A2:Option Addr} {p q:List E} (hp:Rd w B 1 A1 n (cE p)) (hq:Rd w B 1 A2 m (cE q)) (hB:B<=w.heap.size) (hn:n<=32768) (hm:m<=32768) :
  Calls Tryz.prog 104 #[.slice A1 n c,.slice A2 m d] w fun e w'=>∃ v,e = .returned v/\PolR w w' v (trimP (addP p q)):=by
 obtain⟨i0,hi0,hz0,hz1,hz2⟩:=info_parts Dr.infoU8
 have hpl:=rd_len hp
 have hql:=rd_len hq
 have hfin:trimP (fromN (max n m) fun i=>co p i+co q i)=trimP (addP p q):=by rw[<-hpl,<-hql];exact trimP_congr (addP_fromN p q)
 obtain⟨M,hM⟩:∃ M,max n m=M:=⟨_,rfl⟩
 rw[hM] at hfin
 obtain⟨V,hV⟩:∃ V,w.heap.size=V:=⟨_,rfl⟩
 obtain⟨f,hf⟩:∃ f:Nat->E,(fun i=>co p i+co q i)=f:=⟨_,rfl⟩
 have hfi:∀ i,f i=co p i+co q i:=fun i=>by rw[<-hf]
 rw[hf] at hfin
 have HP:=Hd hp
 have HQ:=Hd hq
 have HFIN:=Hd hfin
 have HV:=Hd hV
 have HF:=Hd hfi
 have hMl:M<=32768:=by omega
 clear hp hq hfin hV hf hfi hpl hql
 go_enter Tryz.func104,Tryz.ntmps104
 by_cases hnm:(n:Int)<(m:Int)
 ·obtain rfl:M=m:=by omega
  clear hM
  go_wp2
  go_loopw [6,7] (fun v iv wr=>∃ i:Nat,iv = .int .i64 (i:Int)/\i<=M/\wr.ownsRow V Dr.tU8 1 v i (cE (fromN i f))/\Below V w wr) (fun _ iv _=>M - (intOf iv).toNat)
  case atStart=>exact⟨0,rfl,Nat.zero_le _,World.ownsRow_nil _ _ _ _,Below.refl _ _⟩
  case round=>
   obtain⟨i,rfl,hi,hown,hb⟩:=hrel
   have hV:=HV.out
   by_cases hiM:i<M
   ·have hiM2:(i:Int)<(M:Int):=by omega
    have hVs:V<=wr.heap.size:=by have:=hb.size;omega
    obtain⟨Ao,co',rfl,hco,_⟩:=own_form hown
    obtain⟨y,hy⟩:∃ y,co p i=y:=⟨_,rfl⟩
    obtain⟨z,hz⟩:∃ z,co q i=z:=⟨_,rfl⟩
    obtain⟨u,hu⟩:∃ u,y+z=u:=⟨_,rfl⟩
    have hxo:bits .xor .u8 ((unE y).toNat:Int) ((unE z).toNat:Int)=((unE u).toNat:Int):=by rw[bxE,hu]
    have HRP:=Hd (HP.out.below (hb.mono (by omega)))
    have HRQ:=Hd (HQ.out.below (hb.mono (by omega)))
    have hl1:=run_litV wr 79 Dr.tU8 (.int .u8 0) (.int .u8 ((unE u).toNat:Int)) 1 Tryz.underlying79 Dr.infoU8 rfl
    have HO1:=Hd (Dr.own_alloc hown (.cells #[.int .u8 ((unE u).toNat:Int)] Dr.tU8))
    have HRX:=Hd (rd_new wr (.int .u8 ((unE u).toNat:Int)) Dr.tU8)
    have HBX:=Hd (hb.alloc hVs (.cells #[.int .u8 ((unE u).toNat:Int)] Dr.tU8))
    have HS:=Hd (show fromN (i+1) f=fromN i f++[u] by rw[fromN_succ,HF.out,hy,hz,hu])
    have HY:=Hd hy
    have HZ:=Hd hz
    clear hown hb hy hz hu hV
    go_wp2_with (first | (have hyx:=HY.out;go_at_call 116;refine (coef_any HRP.out i).mono ?_;rw[hyx];rintro e w5 ⟨rfl,rfl⟩;clear HY hyx) | (go_at_call 116;refine (coef_any HRQ.out i).mono ?_;rw[HZ.out];rintro e w5 ⟨rfl,rfl⟩) | (at_builtin;go_loud (refine wpList_append_rd _ rfl (.tmp 21) (.tmp 29) 79 rfl V Dr.tU8 i0 (.int .u8 0) 1 1 Tryz.underlying79 hi0 hz0 hz1 hz2 rfl (by decide) (.slice Ao i co') i (cE (fromN i f)) rfl HO1.out _ (some ⟨wr.heap.size,0,none⟩) 1 1 [.int .u8 ((unE u).toNat:Int)] rfl HRX.out (fun h=>by cases h) (by simp[Value.oneCell']) (by unfold maxLen;omega) (by omega) (by simp;omega) ?_);intro v' w' hrow hg;go_loud (have hb2:=HBX.out.grown hg (by simp;omega) (fun j hj=>Dr.own_ge HO1.out hj));have HROW:=Hd hrow;have HB2X:=Hd hb2;clear hrow hg hb2))
    have hrow:=HROW.out
    have hcs:cE (fromN (i+1) f)=cE (fromN i f)++[.int .u8 ((unE u).toNat:Int)]:=by rw[HS.out];simp
    obtain⟨A3x,c3x,rfl,_,_⟩:=own_form hrow
    go_roundw
    case rel=>exact⟨i+1,by go_num,by omega,by rw[hcs];exact hrow,HB2X.out⟩
    case measure=>simp[intOf];omega
   ·obtain rfl:i=M:=by omega
    obtain⟨Ao,co',rfl,hco,_⟩:=own_form hown
    have HRO:=Hd (Rd.of_own hown)
    have HBX:=Hd hb
    clear hown hb hV
    go_wp2_with (go_at_call 102;refine (trimR_any HRO.out (Nat.le_refl _) (by omega)).mono ?_;rintro e w1 ⟨v1,rfl,h1⟩;obtain⟨h1v,h1b⟩:=h1.val;have H1:=Hd h1v;have HB1:=Hd h1b;clear h1 h1v h1b)
    have h1v:=H1.out
    obtain⟨A1',c1',rfl,_,_,_⟩:=h1v.form
    go_ret
    have hfin:=HFIN.out
    rw[hfin] at h1v
    refine⟨_,rfl,?_⟩
    rw[<-hfin]
    exact H1.out.back (by rw[HV.out];exact HBX.out.trans (HB1.out.mono (by have:=HBX.out.size;have:=HV.out;omega)))
 ·obtain rfl:M=n:=by omega
  clear hM
  go_wp2
  go_loopw [6,7] (fun v iv wr=>∃ i:Nat,iv = .int .i64 (i:Int)/\i<=M/\wr.ownsRow V Dr.tU8 1 v i (cE (fromN i f))/\Below V w wr) (fun _ iv _=>M - (intOf iv).toNat)
  case atStart=>exact⟨0,rfl,Nat.zero_le _,World.ownsRow_nil _ _ _ _,Below.refl _ _⟩
  case round=>
   obtain⟨i,rfl,hi,hown,hb⟩:=hrel
   have hV:=HV.out
   by_cases hiM:i<M
   ·have hiM2:(i:Int)<(M:Int):=by omega
    have hVs:V<=wr.heap.size:=by have:=hb.size;omega
    obtain⟨Ao,co',rfl,hco,_⟩:=own_form hown
    obtain⟨y,hy⟩:∃ y,co p i=y:=⟨_,rfl⟩
    obtain⟨z,hz⟩:∃ z,co q i=z:=⟨_,rfl⟩
    obtain⟨u,hu⟩:∃ u,y+z=u:=⟨_,rfl⟩
    have hxo:bits .xor .u8 ((unE y).toNat:Int) ((unE z).toNat:Int)=((unE u).toNat:Int):=by rw[bxE,hu]
    have HRP:=Hd (HP.out.below (hb.mono (by omega)))
    have HRQ:=Hd (HQ.out.below (hb.mono (by omega)))
    have hl1:=run_litV wr 79 Dr.tU8 (.int .u8 0) (.int .u8 ((unE u).toNat:Int)) 1 Tryz.underlying79 Dr.infoU8 rfl
    have HO1:=Hd (Dr.own_alloc hown (.cells #[.int .u8 ((unE u).toNat:Int)] Dr.tU8))
    have HRX:=Hd (rd_new wr (.int .u8 ((unE u).toNat:Int)) Dr.tU8)
    have HBX:=Hd (hb.alloc hVs (.cells #[.int .u8 ((unE u).toNat:Int)] Dr.tU8))
    have HS:=Hd (show fromN (i+1) f=fromN i f++[u] by rw[fromN_succ,HF.out,hy,hz,hu])
    have HY:=Hd hy
    have HZ:=Hd hz
    clear hown hb hy hz hu hV
    go_wp2_with (first | (have hyx:=HY.out;go_at_call 116;refine (coef_any HRP.out i).mono ?_;rw[hyx];rintro e w5 ⟨rfl,rfl⟩;clear HY hyx) | (go_at_call 116;refine (coef_any HRQ.out i).mono ?_;rw[HZ.out];rintro e w5 ⟨rfl,rfl⟩) | (at_builtin;go_loud (refine wpList_append_rd _ rfl (.tmp 21) (.tmp 29) 79 rfl V Dr.tU8 i0 (.int .u8 0) 1 1 Tryz.underlying79 hi0 hz0 hz1 hz2 rfl (by decide) (.slice Ao i co') i (cE (fromN i f)) rfl HO1.out _ (some ⟨wr.heap.size,0,none⟩) 1 1 [.int .u8 ((unE u).toNat:Int)] rfl HRX.out (fun h=>by cases h) (by simp[Value.oneCell']) (by unfold maxLen;omega) (by omega) (by simp;omega) ?_);intro v' w' hrow hg;go_loud (have hb2:=HBX.out.grown hg (by simp;omega) (fun j hj=>Dr.own_ge HO1.out hj));have HROW:=Hd hrow;have HB2X:=Hd hb2;clear hrow hg hb2))
    have hrow:=HROW.out
    have hcs:cE (fromN (i+1) f)=cE (fromN i f)++[.int .u8 ((unE u).toNat:Int)]:=by rw[HS.out];simp
    obtain⟨A3x,c3x,rfl,_,_⟩:=own_form hrow
    go_roundw
    case rel=>exact⟨i+1,by go_num,by omega,by rw[hcs];exact hrow,HB2X.out⟩
    case measure=>simp[intOf];omega
   ·obtain rfl:i=M:=by omega
    obtain⟨Ao,co',rfl,hco,_⟩:=own_form hown
    have HRO:=Hd (Rd.of_own hown)
    have HBX:=Hd hb
    clear hown hb hV
    go_wp2_with (go_at_call 102;refine (trimR_any HRO.out (Nat.le_refl _) (by omega)).mono ?_;rintro e w1 ⟨v1,rfl,h1⟩;obtain⟨h1v,h1b⟩:=h1.val;have H1:=Hd h1v;have HB1:=Hd h1b;clear h1 h1v h1b)
    have h1v:=H1.out
    obtain⟨A1',c1',rfl,_,_,_⟩:=h1v.form
    go_ret
    have hfin:=HFIN.out
    rw[hfin] at h1v
    refine⟨_,rfl,?_⟩
    rw[<-hfin]
    exact H1.out.back (by rw[HV.out];exact HBX.out.trans (HB1.out.mono (by have:=HBX.out.size;have:=HV.out;omega)))
set_option maxRecDepth 100000 in
set_option maxHeartbeats 4000000 in
theorem shiftedR_any {w:World} {B n c:Nat} {A:Option Addr} {p:List E} (hp:Rd w B 1 A n (cE p)) (s:E) (k:Nat) (hB:B<=w.heap.size) (hn:n<=32768) (hk:k<=32768) :
  Calls Tryz.prog 105 #[.slice A n c,.int .u8 ((unE s).toNat:Int),.int .i64 (k:Int)] w fun e w'=>∃ v,e = .returned v/\PolR w w' v (upP k (scP s p)):=by
 obtain⟨i0,hi0,hz0,hz1,hz2⟩:=info_parts Dr.infoU8
 have hpl:=rd_len hp
 obtain⟨V,hV⟩:∃ V,w.heap.size=V:=⟨_,rfl⟩
 have hmk:=run_makeV w 79 Dr.tU8 (.int .u8 0) 1 Tryz.underlying79 Dr.infoU8 rfl (by decide) k (by omega)
 obtain⟨Z,hZ⟩:∃ Z,(fromV k fun _=>Value.int .u8 0)=Z:=⟨_,rfl⟩
 rw[hZ] at hmk
 have hZc:Z=cE (List.replicate k 0):=by
  rw[<-hZ]
  apply List.ext_getElem?
  intro j
  by_cases hj:j<k
  ·rw[fromV_get hj,List.getElem?_map,List.getElem?_replicate,if_pos hj];rfl
  ·rw[List.getElem?_eq_none (by rw[fromV_len];omega),List.getElem?_eq_none (by simp;omega)]
 have hr0:(w.alloc (.cells Z.toArray Dr.tU8)).ownsRow V Dr.tU8 1 (.slice (some ⟨w.heap.size,0,none⟩) k k) (k+0) (cE (List.replicate k 0++(scP s p).take 0)):=by
  rw[List.take_zero,List.append_nil,<-hZc,<-hV]
  exact Dr.own_new w (Nat.le_refl _) Dr.tU8 1 k Z (by rw[<-hZ];simp[fromV]) (by unfold maxLen;omega)
 have hb0:Below V w (w.alloc (.cells Z.toArray Dr.tU8)):=by rw[<-hV];exact (Below.refl _ w).alloc (Nat.le_refl _) _
 have HP:=Hd hp
 have HR0:=Hd hr0
 have HB0:=Hd hb0
 have HV:=Hd hV
 have HPL:=Hd hpl
 clear hp hr0 hb0 hV hpl hZ hZc
 go_enter Tryz.func105,Tryz.ntmps105
 go_wp2
 clear hmk
 go_loopw [7,8] (fun v iv wr=>∃ i:Nat,iv = .int .i64 (i:Int)/\i<=n/\wr.ownsRow V Dr.tU8 1 v (k+i) (cE (List.replicate k 0++(scP s p).take i))/\Below V w wr) (fun _ iv _=>n - (intOf iv).toNat)
 case atStart=>exact⟨0,rfl,Nat.zero_le _,HR0.out,HB0.out⟩
 case round=>
  obtain⟨i,rfl,hi,hown,hb⟩:=hrel
  by_cases hin:i<n
  ·have hin2:(i:Int)<(n:Int):=by omega
   have hi00:(0:Int)<=(i:Int):=by omega
   obtain⟨ad,rfl,had,hcd⟩:=rd_at HP.out hin
   obtain⟨y,hy⟩:∃ y,co p i=y:=⟨_,rfl⟩
   rw[hy] at hcd
   have hV:=HV.out
   have e1:=(hb.cell (p:=ad.add i) (by rw[add_block];omega)).trans hcd
   have hVs:V<=wr.heap.size:=by have:=hb.size;omega
   obtain⟨Ao,co',rfl,hco,_⟩:=own_form hown
   obtain⟨z,hz⟩:∃ z,s*y=z:=⟨_,rfl⟩
   have hm1:mul8 (unE y) (unE s)=unE z:=by rw[mul_unE,Fld.mul_comm,hz]
   have hl1:=run_litV wr 79 Dr.tU8 (.int .u8 0) (.int .u8 ((unE z).toNat:Int)) 1 Tryz.underlying79 Dr.infoU8 rfl
   have HO1:=Hd (Dr.own_alloc hown (.cells #[.int .u8 ((unE z).toNat:Int)] Dr.tU8))
   have HRX:=Hd (rd_new wr (.int .u8 ((unE z).toNat:Int)) Dr.tU8)
   have HBX:=Hd (hb.alloc hVs (.cells #[.int .u8 ((unE z).toNat:Int)] Dr.tU8))
   have HS:=Hd (show (scP s p).take (i+1)=(scP s p).take i++[z] by
    rw[take_one (by rw[length_scP,HPL.out];exact hin),co_scP,hy,hz])
   have HM1:=Hd hm1
   have hxs:∃ XS,List.replicate k (0:E)++(scP s p).take i=XS:=⟨_,rfl⟩
   obtain⟨XS,hXS⟩:=hxs
   have HXS:=Hd hXS
   rw[hXS] at HO1
   clear hown hb hy hcd hV hz hm1 hXS
   go_wp2_with (first | (go_at_call 72;refine (mulR_any (unE y) (unE s) _).mono ?_;rw[HM1.out];rintro e w5 ⟨rfl,rfl⟩) | (at_builtin;go_loud (refine wpList_append_rd _ rfl (.tmp 17) (.tmp 24) 79 rfl V Dr.tU8 i0 (.int .u8 0) 1 1 Tryz.underlying79 hi0 hz0 hz1 hz2 rfl (by decide) (.slice Ao (k+i) co') (k+i) (cE XS) rfl HO1.out _ (some ⟨wr.heap.size,0,none⟩) 1 1 [.int .u8 ((unE z).toNat:Int)] rfl HRX.out (fun h=>by cases h) (by simp[Value.oneCell']) (by unfold maxLen;omega) (by omega) (by simp;omega) ?_);intro v' w' hrow hg;go_loud (have hb2:=HBX.out.grown hg (by simp;omega) (fun j hj=>Dr.own_ge HO1.out hj));have HROW:=Hd hrow;have HB2X:=Hd hb2;clear hrow hg hb2))
   have hrow:=HROW.out
   have hcs:cE (List.replicate k 0++(scP s p).take (i+1))=cE XS++[.int .u8 ((unE z).toNat:Int)]:=by rw[HS.out,<-List.append_assoc,HXS.out];simp
   obtain⟨A3x,c3x,rfl,_,_⟩:=own_form hrow
   go_roundw
   case rel=>exact⟨i+1,by go_num,by omega,by rw[hcs];exact hrow,HB2X.out⟩
   case measure=>simp[intOf];omega
  ·obtain rfl:i=n:=by omega
   have e:(scP s p).take i=scP s p:=List.take_of_length_le (by rw[length_scP,HPL.out];exact Nat.le_refl _)
   rw[e] at hown
   obtain⟨Ao,co',rfl,hco,_⟩:=own_form hown
   have hlt:(upP k (scP s p)).length=k+i:=by rw[length_upP,length_scP,HPL.out]
   have HPR:=Hd (show PolR w wr (.slice Ao (k+i) co') (upP k (scP s p)) from PolR.of_ownU (by rw[hlt,HV.out];exact hown) (by rw[HV.out];exact hb))
   clear hown hb hlt e
   go_wp2
   go_ret
   exact⟨_,rfl,HPR.out⟩
end Go.Proofs.YtmgljaecmchgaaaGreat.Gf
namespace Go.Proofs.YtmgljaecmchgaaaGreat.Gf
open Go.RowKit Go.Proofs
structure QuoOk (w w':World) (p d:List E) (x:Ending):Prop where
 out:∃ sv rv s r,x = .returned (.tuple #[sv,rv,.int .i64 0])/\PolV w' sv s/\PolV w' rv r/\Peq p (addP (mulP s d) r)/\Trd s/\Trd r/\r.length<d.length
 back:Below w.heap.size w w'
theorem scP_one (c:E):scP c [1]=[c]:=by
 show [c*1]=[c]
 rw[Fld.mul_one]
set_option maxRecDepth 100000 in
set_option maxHeartbeats 8000000 in
theorem divideR_any {w:World} {B n m c d0:Nat} {A1 A2:Option Addr} {p q d:List E} (hp:Rd w B 1 A1 n (cE p)) (hq:Rd w B 1 A2 m (cE q)) (hB:B<=w.heap.size) (hn:n<=8192) (hm:m<=8192) (hd:trimP q=d) (hd0:0<d.length) :
  Calls Tryz.prog 91 #[.slice A1 n c,.slice A2 m d0] w fun x w'=>QuoOk w w' p d x:=by
 have hpl:=rd_len hp
 have hql:=rd_len hq
 obtain⟨e,he⟩:∃ e,d.length=e+1:=⟨d.length - 1,by omega⟩
 have hdt:Trd d:=by rw[<-hd];exact trimP_trd _
 have hdm:d.length<=8192:=by rw[<-hd];have:=trimP_le q;omega
 have hdn:co d e≠0:=by have:=hdt hd0;rwa [he,Nat.add_sub_cancel] at this
 obtain⟨x,hx⟩:∃ x,co d e=x:=⟨_,rfl⟩
 rw[hx] at hdn
 obtain⟨ld,hld⟩:∃ ld:E,Fld.inv x=ld:=⟨_,rfl⟩
 have hpw:pow254 (unE x)=unE ld:=by rw[inv_unE (unE x) hdn,<-hld];rfl
 have HP:=Hd hp
 have HQ:=Hd hq
 have HD:=Hd hd
 have HDT:=Hd hdt
 have HX:=Hd hx
 have HXN:=Hd (show unE x≠0 from hdn)
 have HLD:=Hd hld
 have HPW:=Hd hpw
 have HE:=Hd he
 have HPL:=Hd hpl
 clear hp hq hd hdt hdn hx hld hpw hpl hql
 go_enter Tryz.func91,Tryz.ntmps91
 go_upto_region 2 with (go_at_call 102;refine (trimR_any HQ.out hB (by omega)).mono ?_;rintro e w1 ⟨v1,rfl,h1⟩;obtain⟨h1v,h1b⟩:=h1.val;rw[HD.out] at h1v;obtain⟨Ad,cd,rfl,rd,qd,zd⟩:=h1v.form;have HRD:=Hd rd;have HB1:=Hd h1b;clear h1 h1v h1b rd)
 have hrd:=HRD.out
 rw[he] at hrd
 obtain⟨ad,rfl,had,hcd⟩:=rd_at hrd (show e<e+1 by omega)
 rw[HX.out] at hcd
 have he1:((e+1:Nat):Int) - 1=(e:Int):=by omega
 have he00:(0:Int)<=(e:Int):=by omega
 have he11:(e:Int)<((e+1:Nat):Int):=by omega
 have he12:(e:Int)<(e:Int)+1:=by omega
 have he2:¬ (((e+1:Nat):Int)=0):=by omega
 have he3:((((e+1:Nat):Int))==0)=false:=by simpa using he2
 have he4:¬ ((e:Int)+1=0):=by omega
 have he5:(((e:Int)+1)==0)=false:=by simpa using he4
 have HRD1:=Hd hrd
 have HCD:=Hd hcd
 clear hrd hcd
 go_wp2_with (first
  | (go_at_call 102;refine (trimR_any (HP.out.below (HB1.out.mono hB)) (Nat.le_trans hB HB1.out.size) (by omega)).mono ?_;rintro e w2 ⟨v2,rfl,h2⟩;obtain⟨h2v,h2b⟩:=h2.val;have H2:=Hd h2v;obtain⟨Ar,cr,rfl,_,_,_⟩:=h2v.form;have HB2:=Hd h2b;have hcd2:=(h2b.cell (p:=ad.add e) (by rw[add_block];exact had)).trans HCD.out;clear h2 h2v h2b)
  | (go_at_call 103;refine (invR_any (unE x) HXN.out _).mono ?_;rintro e w3 ⟨rfl,rfl⟩;rw[HPW.out]))
 have hrl:(trimP p).length<=n:=by have:=trimP_le p;have:=HPL.out;omega
 have HB12:=Hd (bch HB1.out HB2.out)
 have HRL:=Hd hrl
 clear hcd2 hrl
 go_loopw [8,10] (fun rv sv wr=>∃ r s:List E,PolV wr rv r/\PolV wr sv s/\Peq p (addP (mulP s d) r)/\Trd s/\Trd r/\r.length<=n/\s.length<=n/\Below w2.heap.size w2 wr) (fun rv _ _=>match rv with | .slice _ m _=>m | _=>0)
 case atStart=>
  refine⟨trimP p,[],H2.out,⟨none,0,rfl,Rd.none_,Nat.le_refl _,fun _=>rfl⟩,fun i=>?_,Trd.nil,trimP_trd _,HRL.out,Nat.zero_le _,Below.refl _ _⟩
  rw[co_addP,trimP_eq]
  exact (zero_add _).symm
 case round=>
  obtain⟨r,s,hrv,hsv,heq,hst,hrt,hrn,hsn,hb⟩:=hrel
  obtain⟨Arr,crr,rfl,rr,qr,zr⟩:=hrv.form
  obtain⟨As,cs,rfl,rs,qs,zs⟩:=hsv.form
  by_cases hge:e+1<=r.length
  ·obtain⟨k,hk⟩:∃ k,r.length=e+1+k:=⟨r.length - (e+1),by omega⟩
   have hrd:=rr
   rw[hk] at hrd
   obtain⟨ar,rfl,har,hcr⟩:=rd_at hrd (show e+k<e+1+k by omega)
   obtain⟨y,hy⟩:∃ y,co r (e+k)=y:=⟨_,rfl⟩
   rw[hy] at hcr
   obtain⟨cc,hcc⟩:∃ cc,y*ld=cc:=⟨_,rfl⟩
   have hround:=div_round HDT.out hd0 hrt (by rw[HE.out];exact hge) heq (c:=cc) (by
    rw[<-hcc,HE.out,hk,show e+1+k - 1=e+k by omega,hy,Nat.add_sub_cancel,HX.out,HLD.out])
   rw[HE.out,hk,Nat.add_sub_cancel_left] at hround
   have hm1:mul8 (unE y) (unE ld)=unE cc:=by rw[mul_unE,hcc]
   rw[hk]
   have hge2:((e+1:Nat):Int)<=((e+1+k:Nat):Int):=by omega
   have hge3:(e:Int)+1<=(e:Int)+1+(k:Int):=by omega
   have hs1:((e+1+k:Nat):Int) - ((e+1:Nat):Int)=(k:Int):=by omega
   have hs2:(e:Int)+1+(k:Int) - ((e:Int)+1)=(k:Int):=by omega
   obtain⟨ek,hek⟩:∃ ek,e+k=ek:=⟨_,rfl⟩
   rw[hek] at hcr
   have hs3:((e+1+k:Nat):Int) - 1=(ek:Int):=by omega
   have hs4:(e:Int)+1+(k:Int) - 1=(ek:Int):=by omega
   have hkw:IntKind.i64.wrap (k:Int)=(k:Int):=by rw[IntKind.wrap_i64];omega
   have hekw:IntKind.i64.wrap (ek:Int)=(ek:Int):=by rw[IntKind.wrap_i64];omega
   have hkw2:=hkw
   have hekw2:=hekw
   rw[IntKind.wrap_i64] at hkw2 hekw2
   have hek0:(0:Int)<=(ek:Int):=by omega
   have hek1:(ek:Int)<((e+1+k:Nat):Int):=by omega
   have hek2:(ek:Int)<(e:Int)+1+(k:Int):=by omega
   have hl1:=run_litV wr 79 Dr.tU8 (.int .u8 0) (.int .u8 1) 1 Tryz.underlying79 Dr.infoU8 rfl
   have hone:Rd (wr.alloc (.cells #[.int .u8 1] Dr.tU8)) (wr.alloc (.cells #[.int .u8 1] Dr.tU8)).heap.size 1 (some ⟨wr.heap.size,0,none⟩) 1 (cE [1]):=rd_new wr (.int .u8 1) Dr.tU8
   have HONE:=Hd hone
   have HSV:=Hd (rs.alloc (Nat.le_refl _) (.cells #[.int .u8 1] Dr.tU8))
   have HRV:=Hd hrd
   have HDV:=Hd (show Rd wr wr.heap.size 1 (some ad) (e+1) (cE d) from ((HRD1.out.below HB2.out).below (hb.mono HB2.out.size)).more (by have h1:=HB2.out.size;have h2:=hb.size;omega))
   have HBL:=Hd (show Below wr.heap.size wr (wr.alloc (.cells #[.int .u8 1] Dr.tU8)) from (Below.refl _ _).alloc (Nat.le_refl _) _)
   have HBX:=Hd hb
   have HRD2:=Hd hround
   have HM1:=Hd hm1
   have HST:=Hd hst
   have HK:=Hd hk
   have hkl:k+e+1<=8192:=by omega
   have T1:=Hd True.intro
   have T2:=Hd True.intro
   have hsz:(wr.alloc (.cells #[.int .u8 1] Dr.tU8)).heap.size=wr.heap.size+1:=by simp
   have HSZ:=Hd hsz
   clear hone rs hrd hb hround hm1 hrv hsv heq hst hrt rr hk hsz
   go_wp2_with (first
    | (go_at_call 72;refine (mulR_any (unE y) (unE ld) _).mono ?_;rw[HM1.out];rintro x w3 ⟨rfl,rfl⟩)
    | (have t1:=T1.out;go_at_call 105;go_loud (refine (shiftedR_any HONE.out cc k (Nat.le_refl _) (by omega) (by omega)).mono ?_);rw[scP_one];rintro x w3 ⟨v3,rfl,h3⟩;obtain⟨h3v,h3b⟩:=h3.val;obtain⟨A3,c3,rfl,r3,_,_⟩:=h3v.form;have HR3:=Hd r3;have HB3:=Hd h3b;clear h3 h3v h3b r3 T1 t1)
    | (have t1:=HSV.out;go_at_call 104;go_loud (refine (plusR_any ((HSV.out.below (HB3.out.mono (by have:=HSZ.out;omega))).more (by have h1:=HB3.out.size;have:=HSZ.out;omega)) HR3.out (Nat.le_refl _) (by omega) (by rw[length_upP];simp;omega)).mono ?_);rintro x w4 ⟨v4,rfl,h4⟩;obtain⟨h4v,h4b⟩:=h4.val;have H4:=Hd h4v;obtain⟨A4,c4,rfl,_,_,_⟩:=h4v.form;have HB4:=Hd (bch HBL.out (bch HB3.out h4b));have HDV4:=Hd (HDV.out.next (bch HBL.out (bch HB3.out h4b)));have HRV4:=Hd (HRV.out.next (bch HBL.out (bch HB3.out h4b)));clear h4 h4v h4b t1 HSV)
    | (have t1:=T2.out;go_at_call 105;refine (shiftedR_any HDV4.out cc k (Nat.le_refl _) (by omega) (by omega)).mono ?_;rintro x w5 ⟨v5,rfl,h5⟩;obtain⟨h5v,h5b⟩:=h5.val;obtain⟨A5,c5,rfl,r5,_,_⟩:=h5v.form;have HR5:=Hd r5;have HB5:=Hd h5b;clear h5 h5v h5b r5 T2 t1)
    | (go_at_call 104;refine (plusR_any (HRV4.out.next HB5.out) HR5.out (Nat.le_refl _) (by omega) (by rw[length_upP,length_scP];omega)).mono ?_;rintro x w6 ⟨v6,rfl,h6⟩;obtain⟨h6v,h6b⟩:=h6.val;have H6:=Hd h6v;obtain⟨A6,c6,rfl,_,_,_⟩:=h6v.form;have HB6:=Hd (bch HB5.out h6b);clear h6 h6v h6b))
   have hs4v:=H4.out.below HB6.out
   obtain⟨_,_,e9,r9,q9,z9⟩:=hs4v.form
   injection e9 with e9 _ e10
   subst e9 e10
   obtain⟨_,_,e9,r10,q10,z10⟩:=H6.out.form
   injection e9 with e9 _ e10
   subst e9 e10
   have hlen6:=HRD2.out.2
   have hslen:(trimP (addP s (upP k [cc]))).length<=n:=by
    have h1:=trimP_le (addP s (upP k [cc]))
    rw[length_addP,length_upP] at h1
    simp at h1
    have:=HK.out
    omega
   go_roundw
   case rel=>exact⟨_,_,⟨_,_,rfl,r10,q10,z10⟩,⟨_,_,rfl,r9,q9,z9⟩,HRD2.out.1,trimP_trd _,trimP_trd _,by have:=HK.out;omega,hslen,HBX.out.trans ((bch HB4.out HB6.out).mono HBX.out.size)⟩
   case measure=>exact hlen6
  ·have hge2:¬ ((e+1:Nat):Int)<=(r.length:Int):=by omega
   have hge3:¬ (e:Int)+1<=(r.length:Int):=by omega
   have HRV:=Hd hrv
   have HSV:=Hd hsv
   have HQ2:=Hd (And.intro heq (And.intro hst hrt))
   have HBX:=Hd (HB12.out.trans (hb.mono HB12.out.size))
   clear hrv hsv heq hst hrt hb rr rs
   go_wp2
   refine bodyPost_ret (v:=.tuple #[.slice As s.length cs,.slice Arr r.length crr,.int .i64 0]) (by simp[results,Tryz.results91,go_sem]) rfl ?_
   exact⟨⟨_,_,s,r,rfl,HSV.out,HRV.out,HQ2.out.1,HQ2.out.2.1,HQ2.out.2.2,by rw[HE.out];omega⟩,HBX.out⟩
end Go.Proofs.YtmgljaecmchgaaaGreat.Gf
