/- XK07: merged by tools/merge.py. -/
import Derived.Test.YtmgljaecmchgaaaGreatQ10
set_option linter.unusedVariables false
set_option linter.unusedSimpArgs false
set_option linter.unusedSectionVars false
namespace Go.Proofs.YtmgljaecmchgaaaGreat.Dr
open Go.RowKit Go.Proofs Go.Proofs.YtmgljaecmchgaaaGreat.Ring
set_option maxRecDepth 100000 in
theorem rnamed_any (n:Bs) (w:World):Calls Tryz.prog 51 #[encStr n] w fun x w'=>x = .returned (.bool (Dr.named n))/\w=w':=by
 unfold Dr.named
 by_cases h1:1<=n.length
 ·by_cases h2:n.length<=1024
  ·have e:decide (1<=n.length/\n.length<=1024)=true:=by simp[h1,h2]
   have h3:(1:Int)<=(n.length:Int):=by omega
   have h4:(n.length:Int)<=1024:=by omega
   rw[e]
   clear e
   go_enter Tryz.func51,Tryz.ntmps51
   go_wp2
   go_ret
   exact⟨rfl,rfl⟩
  ·have e:decide (1<=n.length/\n.length<=1024)=false:=by simp[h2]
   have h3:(1:Int)<=(n.length:Int):=by omega
   have h4:¬ (n.length:Int)<=1024:=by omega
   rw[e]
   clear e
   go_enter Tryz.func51,Tryz.ntmps51
   go_wp2
   go_ret
   exact⟨rfl,rfl⟩
 ·have e:decide (1<=n.length/\n.length<=1024)=false:=by simp[h1]
  have h3:¬ (1:Int)<=(n.length:Int):=by omega
  rw[e]
  clear e
  go_enter Tryz.func51,Tryz.ntmps51
  go_wp2
  go_ret
  exact⟨rfl,rfl⟩
section
variable {w:World} {base:Nat}
theorem ent_cells {A:Option Addr} {n c i:Nat} {l:Ents} {p:Bs×Int} (h:EntAt w base (.slice A n c) l) (hp:l[i]?=some p):∃ g,A=some ⟨g,0,none⟩/\g<w.heap.size/\base<=g/\w.cell? ⟨g,i*2,none⟩=some (encStr p.1)/\w.cell? ⟨g,i*2+1,none⟩=some (.int .i64 p.2):=by
 have hn:n=l.length:=by
  rcases h.2 with ⟨h1,h2⟩ | ⟨_,_,_,h1,_⟩
  ·injection h1 with _ h1 _;omega
  ·injection h1 with _ h1 _
 subst hn
 have hi:=(List.getElem?_eq_some_iff.1 hp).1
 obtain⟨g,rfl⟩:=own_some h (by omega)
 obtain⟨c0,c1⟩:=cE_at l i p hp
 obtain⟨cur,h1⟩:=own_lt h (g:=g) rfl
 exact⟨g,rfl,(Array.getElem?_eq_some_iff.1 h1).1,own_ge h rfl,own_cellS h c0,own_cellS h c1⟩
theorem EntAt.len {v:Value} {l:Ents} (h:EntAt w base v l):l.length<=9223372036854775807:=by
 obtain⟨A,c,rfl,h1,h2⟩:=own_form h
 unfold maxLen at h2
 omega
theorem EntAt.form {v:Value} {l:Ents} (h:EntAt w base v l):∃ A c,v = .slice A l.length c:=by
 obtain⟨A,c,rfl,_,_⟩:=own_form h
 exact⟨A,c,rfl⟩
set_option maxRecDepth 100000 in
set_option maxHeartbeats 4000000 in
theorem rfind_any {A:Option Addr} {n c:Nat} {l:Ents} (hn:n=l.length) (h:EntAt w base (.slice A n c) l) (nm:Bs) {z:Int} (hz:findE l nm=z):Calls Tryz.prog 52 #[.slice A n c,encStr nm] w fun x w'=>x = .returned (.int .i64 z)/\w=w':=by
 subst hn
 have hml:=h.len
 have H:=Lib.hid h
 have HZ:=Hd hz
 clear h hz
 go_enter Tryz.func52,Tryz.ntmps52
 go_upto_region 2 with (fail)
 go_loopw [5] (fun iv wr=>∃ i:Nat,iv = .int .i64 (i:Int)/\w=wr/\i<=l.length/\∀ (j:Nat) p,j<i->l[j]?=some p->p.1≠nm) (fun iv _=>l.length - (intOf iv).toNat)
 case atStart=>exact⟨0,rfl,rfl,by omega,fun j p hj=>by omega⟩
 case round=>
  obtain⟨i,rfl,rfl,hi,hno⟩:=hrel
  by_cases hlt:i<l.length
  ·obtain⟨p,hp⟩:∃ p,l[i]?=some p:=⟨_,List.getElem?_eq_getElem hlt⟩
   obtain⟨g,rfl,_,_,e0,e1⟩:=ent_cells H.out hp
   have hlt2:(i:Int)<(l.length:Int):=by omega
   have HP:=Hd hp
   have HNO:=Hd hno
   clear hp hno
   by_cases hpn:p.1=nm
   ·subst hpn
    go_wp2
    go_ret
    refine⟨?_,rfl⟩
    have hf:l.find? (fun q=>decide (q.1=p.1))=some p:=by
     rw[List.find?_eq_some_iff_getElem]
     obtain⟨h1,h2⟩:=List.getElem?_eq_some_iff.1 HP.out
     refine⟨by simp,i,h1,h2,fun j hj=>?_⟩
     have:=HNO.out j _ hj (List.getElem?_eq_getElem (by omega))
     simpa using this
    have hz:p.2=z:=by have h0:=HZ.out;unfold findE at h0;rw[hf] at h0;exact h0
    exact ret_int hz
   ·have hq:(p.1==nm)=false:=by simpa using hpn
    go_wp2
    go_roundw
    case rel=>
     refine⟨i+1,by go_num,trivial,by omega,fun j p' hj hp'=>?_⟩
     rcases Nat.lt_or_ge j i with h1 | h1
     ·exact HNO.out j p' h1 hp'
     ·obtain rfl:j=i:=by omega
      rw[HP.out] at hp'
      injection hp' with hp'
      rw[<-hp'];exact hpn
    case measure=>simp[intOf];omega
  ·obtain rfl:i=l.length:=by omega
   have hf:l.find? (fun q=>decide (q.1=nm))=none:=by
    rw[List.find?_eq_none]
    intro q hq
    obtain⟨j,hj⟩:=List.mem_iff_getElem?.1 hq
    have:=hno j q (List.getElem?_eq_some_iff.1 hj).1 hj
    simpa using this
   have hz:-1=z:=by have h0:=HZ.out;unfold findE at h0;rw[hf] at h0;exact h0
   have HZ2:=Hd hz
   clear hz hf hno
   go_wp2
   go_ret
   exact⟨ret_int HZ2.out,rfl⟩
theorem less_before:∀ x y:Bs,Op.bytesLess x y=bytesBefore x y
 | [],[]=>rfl
 | [],_::_=>rfl
 | _::_,[]=>rfl
 | x::a,y::b=>by
  unfold Op.bytesLess bytesBefore
  rw[less_before a b]
  try rfl
set_option maxRecDepth 100000 in
set_option maxHeartbeats 8000000 in
theorem rset_any {A:Option Addr} {n c:Nat} {l:Ents} (hn:n=l.length) (h:EntAt w base (.slice A n c) l) (hl:l.length<=4398046511104) (nm:Bs) (z:Int) {r:Ents} (hr:setE l nm z=r) :
  Calls Tryz.prog 54 #[.slice A n c,encStr nm,.int .i64 z] w fun x w'=>∃ A' c',x = .returned (.slice A' r.length c')/\EntAt w' w.heap.size (.slice A' r.length c') r/\Below w.heap.size w w':=by
 subst hn
 obtain⟨e0,he0,hz0,hz1,hz2⟩:=info_parts infoEnt
 obtain⟨V,hV⟩:∃ V,w.heap.size=V:=⟨_,rfl⟩
 rw[hV]
 have hab:∀ wr,Below V w wr->EntAt wr base (.slice A l.length c) l:=fun wr hb=>own_below h (hV▸hb)
 have HAB:=Hd hab
 have HR:=Hd hr
 have HV:=Hd hV
 clear h hr hab hV
 go_enter Tryz.func54,Tryz.ntmps54
 go_upto_region 3 with (fail)
 go_loopw [7,8] (fun v iv wr=>∃ i:Nat,iv = .int .i64 (i:Int)/\i<=l.length/\EntAt wr V v (l.take i)/\Below V w wr/\∀ (j:Nat) p,j<i->l[j]?=some p->bytesBefore p.1 nm=true) (fun _ iv _=>l.length - (intOf iv).toNat)
 case atStart=>exact⟨0,rfl,by omega,by rw[List.take_zero];exact World.ownsRow_nil _ _ _ _,Below.refl _ _,fun j p hj=>by omega⟩
 case round=>
  obtain⟨i,rfl,hi,hrow,hb,hall⟩:=hrel
  by_cases hlt:i<l.length
  ·obtain⟨p,hp⟩:∃ p,l[i]?=some p:=⟨_,List.getElem?_eq_getElem hlt⟩
   obtain⟨g,rfl,hgl,_,e1,e2⟩:=ent_cells (HAB.out wr hb) hp
   have hlt2:(i:Int)<(l.length:Int):=by omega
   by_cases hbf:bytesBefore p.1 nm=true
   ·have hbf2:Op.bytesLess p.1 nm=true:=by rw[less_before];exact hbf
    obtain⟨Ao,co,rfl⟩:=hrow.form
    have hio:(l.take i).length=i:=by simp;omega
    rw[hio] at hrow ⊢
    unfold EntAt at hrow
    rw[hio] at hrow
    have hrange:wr.rangeAt g (i*2) [encStr p.1,.int .i64 p.2]:=by
     intro j v hv
     match j,hv with
     | 0,hv=>cases hv;exact e1
     | 1,hv=>cases hv;exact e2
     | j+2,hv=>cases hv
    have HROW:=Hd hrow
    have HB:=Hd hb
    have HP:=Hd hp
    have HRG:=Hd hrange
    have HALL:=Hd (show ∀ (j:Nat) q,j<i+1->l[j]?=some q->bytesBefore q.1 nm=true from fun j q hj hq=>by
     rcases Nat.lt_or_ge j i with h1 | h1
     ·exact hall j q h1 hq
     ·obtain rfl:j=i:=by omega
      rw[hp] at hq
      injection hq with hq
      rw[<-hq];exact hbf)
    have HVB:=Hd (show V<=wr.heap.size from by have:=hb.size;have:=HV.out;omega)
    clear hrow hb hp hrange hall hbf e2 hgl
    go_wp2_with (first
     | (refine wpList_load_mid rfl tEnt (.tmp 25) rfl g (i*2) rfl [encStr p.1,.int .i64 p.2] _ HRG.out Tryz.underlying136 rfl (by kernel_rfl) ?_)
     | (at_builtin;go_loud (refine wpList_append_keeps _ rfl (.tmp 22) (.tmp 27) 138 rfl V tEnt e0 (.agg #[.string ⟨#[]⟩,.int .i64 0]) 2 24 Tryz.underlying138 he0 hz0 hz1 hz2 rfl (by decide) _ i (cE (l.take i)) rfl (own_alloc HROW.out _) ⟨wr.heap.size,0,none⟩ 1 1 [encStr p.1,.int .i64 p.2] rfl rfl (new_cells _ [encStr p.1,.int .i64 p.2] tEnt) (by simp[Value.oneCell']) (by omega) (by unfold maxLen;omega) (by omega) (Nat.le_trans HVB.out (by simp)) ?_);go_loud (intro g2 cap2 w3 hg hgr hat hlt9 _);have HG:=Hd hg;have HGR:=Hd hgr;clear hg hgr hat hlt9))
    have hb3:Below V w w3:=(HB.out.alloc HVB.out _).grown HGR.out (by simp;have:=HVB.out;omega) fun k hk=>own_ge HROW.out hk
    have HB3:=Hd hb3
    clear hb3
    go_roundw
    case rel=>
     refine⟨i+1,by go_num,by omega,?_,HB3.out,HALL.out⟩
     unfold EntAt
     rw[take_snoc_f HP.out,cE_append,List.length_append,List.length_take,Nat.min_eq_left (by omega)]
     exact HG.out
    case measure=>simp[intOf];omega
   ·have hbf2:Op.bytesLess p.1 nm=false:=by rw[less_before];simpa using hbf
    have he:=ahead_of (l:=l) (n:=nm) (i:=i) (by omega) hall (fun q hq=>by rw[hp] at hq;injection hq with hq;rw[<-hq];simpa using hbf)
    obtain⟨Ao,co,rfl⟩:=hrow.form
    have hio:(l.take i).length=i:=by simp;omega
    rw[hio] at hrow ⊢
    unfold EntAt at hrow
    rw[hio] at hrow
    have HROW:=Hd hrow
    have HB:=Hd hb
    have HE:=Hd he
    have HVB:=Hd (show V<=wr.heap.size from by have:=hb.size;have:=HV.out;omega)
    obtain⟨wo,rfl⟩:∃ wo,wo=wr:=⟨_,rfl⟩
    have HP:=Hd hp
    clear hrow hb he hp hall hbf hio
    by_cases hz0':0<=z
    ·go_upto_region 8 with (at_builtin;go_loud (refine wpList_append_keeps _ rfl (.tmp 33) (.tmp 37) 138 rfl V tEnt e0 (.agg #[.string ⟨#[]⟩,.int .i64 0]) 2 24 Tryz.underlying138 he0 hz0 hz1 hz2 rfl (by decide) _ i (cE (l.take i)) rfl (own_alloc HROW.out _) ⟨wo.heap.size,0,none⟩ 1 1 [encStr nm,.int .i64 z] rfl rfl (new_cells _ [encStr nm,.int .i64 z] tEnt) (by simp[Value.oneCell']) (by omega) (by unfold maxLen;omega) (by omega) (Nat.le_trans HVB.out (by simp)) ?_);go_loud (intro g2 cap2 w4 hg hgr hat hlt9 _);have HG:=Hd hg;have HGR:=Hd hgr;clear hg hgr hat hlt9)
     have HB2:=Hd (show Below V w w4 from (HB.out.alloc HVB.out _).grown HGR.out (by simp;have:=HVB.out;omega) fun k hk=>own_ge HROW.out hk)
     obtain⟨pre,hpe⟩:∃ pre,l.take i++[(nm,z)]=pre:=⟨_,rfl⟩
     have hpn2:pre.length=i+1:=by rw[<-hpe];simp;omega
     have hpre:EntAt w4 V (.slice (some ⟨g2,0,none⟩) (i+1) cap2) pre:=by
      unfold EntAt
      rw[hpn2,<-hpe,cE_append]
      exact HG.out
     have HMID:=Hd (show l.take i++(if 0<=z then [(nm,z)] else [])=pre from by rw[if_pos hz0',hpe])
     clear hpe HG HGR HROW HB
     clear e1
     obtain⟨g,hgA,_,_,e1,_⟩:=ent_cells (HAB.out w4 HB2.out) HP.out
     first | subst hgA | (obtain rfl:_=g:=by injection hgA with hgA;injection hgA) | skip
     by_cases hpn:p.1=nm
     ·have hq:(p.1==nm)=true:=by simpa using hpn
      have hfin:pre++l.drop (i+1)=setE l nm z:=by
       have hs:=skip_of (l:=l) (n:=nm) (i:=i)
       rw[HP.out,if_pos (by simpa using hpn)] at hs
       unfold setE
       rw[HE.out.1,HE.out.2,hs,HMID.out]
      clear hpn
      go_upto_region 10 with (fail)
      clear e1 hq
      have hpl2:pre.length+(l.drop (i+1)).length<=l.length+1:=by simp;omega
      have HPL:=Hd hpl2
      have HPRE:=Hd hpre
      have HFIN:=Hd hfin
      clear hpl2 hpre hfin
      go_loopw [7,8] (fun v iv wr=>∃ k:Nat,iv = .int .i64 (k:Int)/\i+1<=k/\k<=l.length/\EntAt wr V v (pre++(l.drop (i+1)).take (k - (i+1)))/\Below V w wr) (fun _ iv _=>l.length - (intOf iv).toNat)
      case atStart=>exact⟨i+1,by first | rfl | go_num,Nat.le_refl _,by omega,by rw[Nat.sub_self,List.take_zero,List.append_nil];exact HPRE.out,HB2.out⟩
      case round=>
       obtain⟨k,rfl,hk1,hk2,hrow,hb⟩:=hrel
       by_cases hlt:k<l.length
       ·obtain⟨p3,hp3⟩:∃ p,l[k]?=some p:=⟨_,List.getElem?_eq_getElem hlt⟩
        obtain⟨g,hgA,hgl,_,e1,e2⟩:=ent_cells (HAB.out wr hb) hp3
        have hlt2:(k:Int)<(l.length:Int):=by omega
        obtain⟨Ao,co,rfl⟩:=hrow.form
        obtain⟨n3,hn3⟩:∃ n3,pre.length+(k - (i+1))=n3:=⟨_,rfl⟩
        have hio:(pre++(l.drop (i+1)).take (k - (i+1))).length=n3:=by rw[<-hn3];simp;omega
        rw[hio] at hrow ⊢
        unfold EntAt at hrow
        rw[hio] at hrow
        have hrange:wr.rangeAt g (k*2) [encStr p3.1,.int .i64 p3.2]:=by
         intro j v hv
         match j,hv with
         | 0,hv=>cases hv;exact e1
         | 1,hv=>cases hv;exact e2
         | j+2,hv=>cases hv
        have HROW:=Hd hrow
        have HB:=Hd hb
        have HP:=Hd hp3
        have HRG:=Hd hrange
        have HVB:=Hd (show V<=wr.heap.size from by have:=hb.size;have:=HV.out;omega)
        have hpl3:n3<=l.length+1:=by have:=HPL.out;simp at this;omega
        have HN3:=Hd hn3
        clear hn3
        clear hrow hb hp3 hrange e1 e2 hgl hio
        first | subst hgA | (obtain rfl:_=g:=by injection hgA with hgA;injection hgA) | skip
        go_wp2_with (first
         | (refine wpList_load_mid rfl tEnt (.tmp 61) rfl g (k*2) rfl [encStr p3.1,.int .i64 p3.2] _ HRG.out Tryz.underlying136 rfl (by kernel_rfl) ?_)
         | (at_builtin;go_loud (refine wpList_append_keeps _ rfl (.tmp 58) (.tmp 63) 138 rfl V tEnt e0 (.agg #[.string ⟨#[]⟩,.int .i64 0]) 2 24 Tryz.underlying138 he0 hz0 hz1 hz2 rfl (by decide) _ n3 (cE (pre++(l.drop (i+1)).take (k - (i+1)))) rfl (own_alloc HROW.out _) ⟨wr.heap.size,0,none⟩ 1 1 [encStr p3.1,.int .i64 p3.2] rfl rfl (new_cells _ [encStr p3.1,.int .i64 p3.2] tEnt) (by simp[Value.oneCell']) (by omega) (by unfold maxLen;omega) (by omega) (Nat.le_trans HVB.out (by simp)) ?_);go_loud (intro g3 cap3 w5 hg hgr hat hlt9 _);have HG:=Hd hg;have HGR:=Hd hgr;clear hg hgr hat hlt9))
        have HB3:=Hd (show Below V w w5 from (HB.out.alloc HVB.out _).grown HGR.out (by simp;have:=HVB.out;omega) fun k hk=>own_ge HROW.out hk)
        go_roundw
        case rel=>
         refine⟨k+1,by go_num,by omega,by omega,?_,HB3.out⟩
         have e:(l.drop (i+1)).take (k+1 - (i+1))=(l.drop (i+1)).take (k - (i+1))++[p3]:=by
          rw[show k+1 - (i+1)=k - (i+1)+1 by omega]
          refine take_snoc_f ?_
          rw[List.getElem?_drop,show i+1+(k - (i+1))=k by omega]
          exact HP.out
         unfold EntAt
         rw[e,<-List.append_assoc,cE_append,show (pre++(l.drop (i+1)).take (k - (i+1))++[p3]).length=n3+1 by have:=HN3.out;simp;omega]
         exact HG.out
        case measure=>simp[intOf];omega
       ·obtain rfl:k=l.length:=by omega
        rw[List.take_of_length_le (by simp),HFIN.out,HR.out] at hrow
        obtain⟨Ao,co,rfl⟩:=hrow.form
        have HROW:=Hd hrow
        have HB:=Hd hb
        clear hrow hb
        go_wp2
        go_ret
        exact⟨Ao,co,rfl,HROW.out,HB.out⟩
     ·have hq:(p.1==nm)=false:=by simpa using hpn
      have hfin:pre++l.drop i=setE l nm z:=by
       have hs:=skip_of (l:=l) (n:=nm) (i:=i)
       rw[HP.out,if_neg (by simpa using hpn)] at hs
       unfold setE
       rw[HE.out.1,HE.out.2,hs,HMID.out]
      clear hpn
      go_upto_region 10 with (fail)
      clear e1 hq
      have hpl2:pre.length+(l.drop (i)).length<=l.length+1:=by simp;omega
      have HPL:=Hd hpl2
      have HPRE:=Hd hpre
      have HFIN:=Hd hfin
      clear hpl2 hpre hfin
      go_loopw [7,8] (fun v iv wr=>∃ k:Nat,iv = .int .i64 (k:Int)/\i<=k/\k<=l.length/\EntAt wr V v (pre++(l.drop (i)).take (k - (i)))/\Below V w wr) (fun _ iv _=>l.length - (intOf iv).toNat)
      case atStart=>exact⟨i,by first | rfl | go_num,Nat.le_refl _,by omega,by rw[Nat.sub_self,List.take_zero,List.append_nil];exact HPRE.out,HB2.out⟩
      case round=>
       obtain⟨k,rfl,hk1,hk2,hrow,hb⟩:=hrel
       by_cases hlt:k<l.length
       ·obtain⟨p3,hp3⟩:∃ p,l[k]?=some p:=⟨_,List.getElem?_eq_getElem hlt⟩
        obtain⟨g,hgA,hgl,_,e1,e2⟩:=ent_cells (HAB.out wr hb) hp3
        have hlt2:(k:Int)<(l.length:Int):=by omega
        obtain⟨Ao,co,rfl⟩:=hrow.form
        obtain⟨n3,hn3⟩:∃ n3,pre.length+(k - (i))=n3:=⟨_,rfl⟩
        have hio:(pre++(l.drop (i)).take (k - (i))).length=n3:=by rw[<-hn3];simp;omega
        rw[hio] at hrow ⊢
        unfold EntAt at hrow
        rw[hio] at hrow
        have hrange:wr.rangeAt g (k*2) [encStr p3.1,.int .i64 p3.2]:=by
         intro j v hv
         match j,hv with
         | 0,hv=>cases hv;exact e1
         | 1,hv=>cases hv;exact e2
         | j+2,hv=>cases hv
        have HROW:=Hd hrow
        have HB:=Hd hb
        have HP:=Hd hp3
        have HRG:=Hd hrange
        have HVB:=Hd (show V<=wr.heap.size from by have:=hb.size;have:=HV.out;omega)
        have hpl3:n3<=l.length+1:=by have:=HPL.out;simp at this;omega
        have HN3:=Hd hn3
        clear hn3
        clear hrow hb hp3 hrange e1 e2 hgl hio
        first | subst hgA | (obtain rfl:_=g:=by injection hgA with hgA;injection hgA) | skip
        go_wp2_with (first
         | (refine wpList_load_mid rfl tEnt (.tmp 61) rfl g (k*2) rfl [encStr p3.1,.int .i64 p3.2] _ HRG.out Tryz.underlying136 rfl (by kernel_rfl) ?_)
         | (at_builtin;go_loud (refine wpList_append_keeps _ rfl (.tmp 58) (.tmp 63) 138 rfl V tEnt e0 (.agg #[.string ⟨#[]⟩,.int .i64 0]) 2 24 Tryz.underlying138 he0 hz0 hz1 hz2 rfl (by decide) _ n3 (cE (pre++(l.drop (i)).take (k - (i)))) rfl (own_alloc HROW.out _) ⟨wr.heap.size,0,none⟩ 1 1 [encStr p3.1,.int .i64 p3.2] rfl rfl (new_cells _ [encStr p3.1,.int .i64 p3.2] tEnt) (by simp[Value.oneCell']) (by omega) (by unfold maxLen;omega) (by omega) (Nat.le_trans HVB.out (by simp)) ?_);go_loud (intro g3 cap3 w5 hg hgr hat hlt9 _);have HG:=Hd hg;have HGR:=Hd hgr;clear hg hgr hat hlt9))
        have HB3:=Hd (show Below V w w5 from (HB.out.alloc HVB.out _).grown HGR.out (by simp;have:=HVB.out;omega) fun k hk=>own_ge HROW.out hk)
        go_roundw
        case rel=>
         refine⟨k+1,by go_num,by omega,by omega,?_,HB3.out⟩
         have e:(l.drop (i)).take (k+1 - (i))=(l.drop (i)).take (k - (i))++[p3]:=by
          rw[show k+1 - (i)=k - (i)+1 by omega]
          refine take_snoc_f ?_
          rw[List.getElem?_drop,show i+(k - (i))=k by omega]
          exact HP.out
         unfold EntAt
         rw[e,<-List.append_assoc,cE_append,show (pre++(l.drop (i)).take (k - (i))++[p3]).length=n3+1 by have:=HN3.out;simp;omega]
         exact HG.out
        case measure=>simp[intOf];omega
       ·obtain rfl:k=l.length:=by omega
        rw[List.take_of_length_le (by simp),HFIN.out,HR.out] at hrow
        obtain⟨Ao,co,rfl⟩:=hrow.form
        have HROW:=Hd hrow
        have HB:=Hd hb
        clear hrow hb
        go_wp2
        go_ret
        exact⟨Ao,co,rfl,HROW.out,HB.out⟩
    ·go_upto_region 8 with (fail)
     have HB2:=HB
     obtain⟨pre,hpe⟩:∃ pre,l.take i=pre:=⟨_,rfl⟩
     have hpn2:pre.length=i:=by rw[<-hpe];simp;omega
     have hpre:EntAt wo V (.slice Ao i co) pre:=by
      unfold EntAt
      rw[hpn2,<-hpe]
      exact HROW.out
     have HMID:=Hd (show l.take i++(if 0<=z then [(nm,z)] else [])=pre from by rw[if_neg hz0',List.append_nil,hpe])
     clear hpe HROW HB
     clear e1
     obtain⟨g,hgA,_,_,e1,_⟩:=ent_cells (HAB.out wo HB2.out) HP.out
     first | subst hgA | (obtain rfl:_=g:=by injection hgA with hgA;injection hgA) | skip
     by_cases hpn:p.1=nm
     ·have hq:(p.1==nm)=true:=by simpa using hpn
      have hfin:pre++l.drop (i+1)=setE l nm z:=by
       have hs:=skip_of (l:=l) (n:=nm) (i:=i)
       rw[HP.out,if_pos (by simpa using hpn)] at hs
       unfold setE
       rw[HE.out.1,HE.out.2,hs,HMID.out]
      clear hpn
      go_upto_region 10 with (fail)
      clear e1 hq
      have hpl2:pre.length+(l.drop (i+1)).length<=l.length+1:=by simp;omega
      have HPL:=Hd hpl2
      have HPRE:=Hd hpre
      have HFIN:=Hd hfin
      clear hpl2 hpre hfin
      go_loopw [7,8] (fun v iv wr=>∃ k:Nat,iv = .int .i64 (k:Int)/\i+1<=k/\k<=l.length/\EntAt wr V v (pre++(l.drop (i+1)).take (k - (i+1)))/\Below V w wr) (fun _ iv _=>l.length - (intOf iv).toNat)
      case atStart=>exact⟨i+1,by first | rfl | go_num,Nat.le_refl _,by omega,by rw[Nat.sub_self,List.take_zero,List.append_nil];exact HPRE.out,HB2.out⟩
      case round=>
       obtain⟨k,rfl,hk1,hk2,hrow,hb⟩:=hrel
       by_cases hlt:k<l.length
       ·obtain⟨p3,hp3⟩:∃ p,l[k]?=some p:=⟨_,List.getElem?_eq_getElem hlt⟩
        obtain⟨g,hgA,hgl,_,e1,e2⟩:=ent_cells (HAB.out wr hb) hp3
        have hlt2:(k:Int)<(l.length:Int):=by omega
        obtain⟨Ao,co,rfl⟩:=hrow.form
        obtain⟨n3,hn3⟩:∃ n3,pre.length+(k - (i+1))=n3:=⟨_,rfl⟩
        have hio:(pre++(l.drop (i+1)).take (k - (i+1))).length=n3:=by rw[<-hn3];simp;omega
        rw[hio] at hrow ⊢
        unfold EntAt at hrow
        rw[hio] at hrow
        have hrange:wr.rangeAt g (k*2) [encStr p3.1,.int .i64 p3.2]:=by
         intro j v hv
         match j,hv with
         | 0,hv=>cases hv;exact e1
         | 1,hv=>cases hv;exact e2
         | j+2,hv=>cases hv
        have HROW:=Hd hrow
        have HB:=Hd hb
        have HP:=Hd hp3
        have HRG:=Hd hrange
        have HVB:=Hd (show V<=wr.heap.size from by have:=hb.size;have:=HV.out;omega)
        have hpl3:n3<=l.length+1:=by have:=HPL.out;simp at this;omega
        have HN3:=Hd hn3
        clear hn3
        clear hrow hb hp3 hrange e1 e2 hgl hio
        first | subst hgA | (obtain rfl:_=g:=by injection hgA with hgA;injection hgA) | skip
        go_wp2_with (first
         | (refine wpList_load_mid rfl tEnt (.tmp 61) rfl g (k*2) rfl [encStr p3.1,.int .i64 p3.2] _ HRG.out Tryz.underlying136 rfl (by kernel_rfl) ?_)
         | (at_builtin;go_loud (refine wpList_append_keeps _ rfl (.tmp 58) (.tmp 63) 138 rfl V tEnt e0 (.agg #[.string ⟨#[]⟩,.int .i64 0]) 2 24 Tryz.underlying138 he0 hz0 hz1 hz2 rfl (by decide) _ n3 (cE (pre++(l.drop (i+1)).take (k - (i+1)))) rfl (own_alloc HROW.out _) ⟨wr.heap.size,0,none⟩ 1 1 [encStr p3.1,.int .i64 p3.2] rfl rfl (new_cells _ [encStr p3.1,.int .i64 p3.2] tEnt) (by simp[Value.oneCell']) (by omega) (by unfold maxLen;omega) (by omega) (Nat.le_trans HVB.out (by simp)) ?_);go_loud (intro g3 cap3 w5 hg hgr hat hlt9 _);have HG:=Hd hg;have HGR:=Hd hgr;clear hg hgr hat hlt9))
        have HB3:=Hd (show Below V w w5 from (HB.out.alloc HVB.out _).grown HGR.out (by simp;have:=HVB.out;omega) fun k hk=>own_ge HROW.out hk)
        go_roundw
        case rel=>
         refine⟨k+1,by go_num,by omega,by omega,?_,HB3.out⟩
         have e:(l.drop (i+1)).take (k+1 - (i+1))=(l.drop (i+1)).take (k - (i+1))++[p3]:=by
          rw[show k+1 - (i+1)=k - (i+1)+1 by omega]
          refine take_snoc_f ?_
          rw[List.getElem?_drop,show i+1+(k - (i+1))=k by omega]
          exact HP.out
         unfold EntAt
         rw[e,<-List.append_assoc,cE_append,show (pre++(l.drop (i+1)).take (k - (i+1))++[p3]).length=n3+1 by have:=HN3.out;simp;omega]
         exact HG.out
        case measure=>simp[intOf];omega
       ·obtain rfl:k=l.length:=by omega
        rw[List.take_of_length_le (by simp),HFIN.out,HR.out] at hrow
        obtain⟨Ao,co,rfl⟩:=hrow.form
        have HROW:=Hd hrow
        have HB:=Hd hb
        clear hrow hb
        go_wp2
        go_ret
        exact⟨Ao,co,rfl,HROW.out,HB.out⟩
     ·have hq:(p.1==nm)=false:=by simpa using hpn
      have hfin:pre++l.drop i=setE l nm z:=by
       have hs:=skip_of (l:=l) (n:=nm) (i:=i)
       rw[HP.out,if_neg (by simpa using hpn)] at hs
       unfold setE
       rw[HE.out.1,HE.out.2,hs,HMID.out]
      clear hpn
      go_upto_region 10 with (fail)
      clear e1 hq
      have hpl2:pre.length+(l.drop (i)).length<=l.length+1:=by simp;omega
      have HPL:=Hd hpl2
      have HPRE:=Hd hpre
      have HFIN:=Hd hfin
      clear hpl2 hpre hfin
      go_loopw [7,8] (fun v iv wr=>∃ k:Nat,iv = .int .i64 (k:Int)/\i<=k/\k<=l.length/\EntAt wr V v (pre++(l.drop (i)).take (k - (i)))/\Below V w wr) (fun _ iv _=>l.length - (intOf iv).toNat)
      case atStart=>exact⟨i,by first | rfl | go_num,Nat.le_refl _,by omega,by rw[Nat.sub_self,List.take_zero,List.append_nil];exact HPRE.out,HB2.out⟩
      case round=>
       obtain⟨k,rfl,hk1,hk2,hrow,hb⟩:=hrel
       by_cases hlt:k<l.length
       ·obtain⟨p3,hp3⟩:∃ p,l[k]?=some p:=⟨_,List.getElem?_eq_getElem hlt⟩
        obtain⟨g,hgA,hgl,_,e1,e2⟩:=ent_cells (HAB.out wr hb) hp3
        have hlt2:(k:Int)<(l.length:Int):=by omega
        obtain⟨Ao,co,rfl⟩:=hrow.form
        obtain⟨n3,hn3⟩:∃ n3,pre.length+(k - (i))=n3:=⟨_,rfl⟩
        have hio:(pre++(l.drop (i)).take (k - (i))).length=n3:=by rw[<-hn3];simp;omega
        rw[hio] at hrow ⊢
        unfold EntAt at hrow
        rw[hio] at hrow
        have hrange:wr.rangeAt g (k*2) [encStr p3.1,.int .i64 p3.2]:=by
         intro j v hv
         match j,hv with
         | 0,hv=>cases hv;exact e1
         | 1,hv=>cases hv;exact e2
         | j+2,hv=>cases hv
        have HROW:=Hd hrow
        have HB:=Hd hb
        have HP:=Hd hp3
        have HRG:=Hd hrange
        have HVB:=Hd (show V<=wr.heap.size from by have:=hb.size;have:=HV.out;omega)
        have hpl3:n3<=l.length+1:=by have:=HPL.out;simp at this;omega
        have HN3:=Hd hn3
        clear hn3
        clear hrow hb hp3 hrange e1 e2 hgl hio
        first | subst hgA | (obtain rfl:_=g:=by injection hgA with hgA;injection hgA) | skip
        go_wp2_with (first
         | (refine wpList_load_mid rfl tEnt (.tmp 61) rfl g (k*2) rfl [encStr p3.1,.int .i64 p3.2] _ HRG.out Tryz.underlying136 rfl (by kernel_rfl) ?_)
         | (at_builtin;go_loud (refine wpList_append_keeps _ rfl (.tmp 58) (.tmp 63) 138 rfl V tEnt e0 (.agg #[.string ⟨#[]⟩,.int .i64 0]) 2 24 Tryz.underlying138 he0 hz0 hz1 hz2 rfl (by decide) _ n3 (cE (pre++(l.drop (i)).take (k - (i)))) rfl (own_alloc HROW.out _) ⟨wr.heap.size,0,none⟩ 1 1 [encStr p3.1,.int .i64 p3.2] rfl rfl (new_cells _ [encStr p3.1,.int .i64 p3.2] tEnt) (by simp[Value.oneCell']) (by omega) (by unfold maxLen;omega) (by omega) (Nat.le_trans HVB.out (by simp)) ?_);go_loud (intro g3 cap3 w5 hg hgr hat hlt9 _);have HG:=Hd hg;have HGR:=Hd hgr;clear hg hgr hat hlt9))
        have HB3:=Hd (show Below V w w5 from (HB.out.alloc HVB.out _).grown HGR.out (by simp;have:=HVB.out;omega) fun k hk=>own_ge HROW.out hk)
        go_roundw
        case rel=>
         refine⟨k+1,by go_num,by omega,by omega,?_,HB3.out⟩
         have e:(l.drop (i)).take (k+1 - (i))=(l.drop (i)).take (k - (i))++[p3]:=by
          rw[show k+1 - (i)=k - (i)+1 by omega]
          refine take_snoc_f ?_
          rw[List.getElem?_drop,show i+(k - (i))=k by omega]
          exact HP.out
         unfold EntAt
         rw[e,<-List.append_assoc,cE_append,show (pre++(l.drop (i)).take (k - (i))++[p3]).length=n3+1 by have:=HN3.out;simp;omega]
         exact HG.out
        case measure=>simp[intOf];omega
       ·obtain rfl:k=l.length:=by omega
        rw[List.take_of_length_le (by simp),HFIN.out,HR.out] at hrow
        obtain⟨Ao,co,rfl⟩:=hrow.form
        have HROW:=Hd hrow
        have HB:=Hd hb
        clear hrow hb
        go_wp2
        go_ret
        exact⟨Ao,co,rfl,HROW.out,HB.out⟩
  ·have hlt2:¬ (i:Int)<(l.length:Int):=by omega
   have he:=ahead_of (l:=l) (n:=nm) (i:=i) (by omega) hall (fun q hq=>by rw[List.getElem?_eq_none (by omega)] at hq;cases hq)
   obtain⟨Ao,co,rfl⟩:=hrow.form
   have hio:(l.take i).length=i:=by simp;omega
   rw[hio] at hrow ⊢
   unfold EntAt at hrow
   rw[hio] at hrow
   have HROW:=Hd hrow
   have HB:=Hd hb
   have HE:=Hd he
   have HVB:=Hd (show V<=wr.heap.size from by have:=hb.size;have:=HV.out;omega)
   obtain⟨wo,rfl⟩:∃ wo,wo=wr:=⟨_,rfl⟩
   clear hrow hb he hall hio
   by_cases hz0':0<=z
   ·go_upto_region 8 with (at_builtin;go_loud (refine wpList_append_keeps _ rfl (.tmp 33) (.tmp 37) 138 rfl V tEnt e0 (.agg #[.string ⟨#[]⟩,.int .i64 0]) 2 24 Tryz.underlying138 he0 hz0 hz1 hz2 rfl (by decide) _ i (cE (l.take i)) rfl (own_alloc HROW.out _) ⟨wo.heap.size,0,none⟩ 1 1 [encStr nm,.int .i64 z] rfl rfl (new_cells _ [encStr nm,.int .i64 z] tEnt) (by simp[Value.oneCell']) (by omega) (by unfold maxLen;omega) (by omega) (Nat.le_trans HVB.out (by simp)) ?_);go_loud (intro g2 cap2 w4 hg hgr hat hlt9 _);have HG:=Hd hg;have HGR:=Hd hgr;clear hg hgr hat hlt9)
    have HB2:=Hd (show Below V w w4 from (HB.out.alloc HVB.out _).grown HGR.out (by simp;have:=HVB.out;omega) fun k hk=>own_ge HROW.out hk)
    obtain⟨pre,hpe⟩:∃ pre,l.take i++[(nm,z)]=pre:=⟨_,rfl⟩
    have hpn2:pre.length=i+1:=by rw[<-hpe];simp;omega
    have hpre:EntAt w4 V (.slice (some ⟨g2,0,none⟩) (i+1) cap2) pre:=by
     unfold EntAt
     rw[hpn2,<-hpe,cE_append]
     exact HG.out
    have HMID:=Hd (show l.take i++(if 0<=z then [(nm,z)] else [])=pre from by rw[if_pos hz0',hpe])
    clear hpe HG HGR HROW HB
    have hfin:pre++l.drop i=setE l nm z:=by
     have hs:=skip_of (l:=l) (n:=nm) (i:=i)
     rw[List.getElem?_eq_none (by omega),if_neg (by simp)] at hs
     unfold setE
     rw[HE.out.1,HE.out.2,hs,HMID.out]
    go_upto_region 10 with (fail)
    have hpl2:pre.length+(l.drop (i)).length<=l.length+1:=by simp;omega
    have HPL:=Hd hpl2
    have HPRE:=Hd hpre
    have HFIN:=Hd hfin
    clear hpl2 hpre hfin
    go_loopw [7,8] (fun v iv wr=>∃ k:Nat,iv = .int .i64 (k:Int)/\i<=k/\k<=l.length/\EntAt wr V v (pre++(l.drop (i)).take (k - (i)))/\Below V w wr) (fun _ iv _=>l.length - (intOf iv).toNat)
    case atStart=>exact⟨i,by first | rfl | go_num,Nat.le_refl _,by omega,by rw[Nat.sub_self,List.take_zero,List.append_nil];exact HPRE.out,HB2.out⟩
    case round=>
     obtain⟨k,rfl,hk1,hk2,hrow,hb⟩:=hrel
     by_cases hlt:k<l.length
     ·obtain⟨p3,hp3⟩:∃ p,l[k]?=some p:=⟨_,List.getElem?_eq_getElem hlt⟩
      obtain⟨g,hgA,hgl,_,e1,e2⟩:=ent_cells (HAB.out wr hb) hp3
      have hlt2:(k:Int)<(l.length:Int):=by omega
      obtain⟨Ao,co,rfl⟩:=hrow.form
      obtain⟨n3,hn3⟩:∃ n3,pre.length+(k - (i))=n3:=⟨_,rfl⟩
      have hio:(pre++(l.drop (i)).take (k - (i))).length=n3:=by rw[<-hn3];simp;omega
      rw[hio] at hrow ⊢
      unfold EntAt at hrow
      rw[hio] at hrow
      have hrange:wr.rangeAt g (k*2) [encStr p3.1,.int .i64 p3.2]:=by
       intro j v hv
       match j,hv with
       | 0,hv=>cases hv;exact e1
       | 1,hv=>cases hv;exact e2
       | j+2,hv=>cases hv
      have HROW:=Hd hrow
      have HB:=Hd hb
      have HP:=Hd hp3
      have HRG:=Hd hrange
      have HVB:=Hd (show V<=wr.heap.size from by have:=hb.size;have:=HV.out;omega)
      have hpl3:n3<=l.length+1:=by have:=HPL.out;simp at this;omega
      have HN3:=Hd hn3
      clear hn3
      clear hrow hb hp3 hrange e1 e2 hgl hio
      first | subst hgA | (obtain rfl:_=g:=by injection hgA with hgA;injection hgA) | skip
      go_wp2_with (first
       | (refine wpList_load_mid rfl tEnt (.tmp 61) rfl g (k*2) rfl [encStr p3.1,.int .i64 p3.2] _ HRG.out Tryz.underlying136 rfl (by kernel_rfl) ?_)
       | (at_builtin;go_loud (refine wpList_append_keeps _ rfl (.tmp 58) (.tmp 63) 138 rfl V tEnt e0 (.agg #[.string ⟨#[]⟩,.int .i64 0]) 2 24 Tryz.underlying138 he0 hz0 hz1 hz2 rfl (by decide) _ n3 (cE (pre++(l.drop (i)).take (k - (i)))) rfl (own_alloc HROW.out _) ⟨wr.heap.size,0,none⟩ 1 1 [encStr p3.1,.int .i64 p3.2] rfl rfl (new_cells _ [encStr p3.1,.int .i64 p3.2] tEnt) (by simp[Value.oneCell']) (by omega) (by unfold maxLen;omega) (by omega) (Nat.le_trans HVB.out (by simp)) ?_);go_loud (intro g3 cap3 w5 hg hgr hat hlt9 _);have HG:=Hd hg;have HGR:=Hd hgr;clear hg hgr hat hlt9))
      have HB3:=Hd (show Below V w w5 from (HB.out.alloc HVB.out _).grown HGR.out (by simp;have:=HVB.out;omega) fun k hk=>own_ge HROW.out hk)
      go_roundw
      case rel=>
       refine⟨k+1,by go_num,by omega,by omega,?_,HB3.out⟩
       have e:(l.drop (i)).take (k+1 - (i))=(l.drop (i)).take (k - (i))++[p3]:=by
        rw[show k+1 - (i)=k - (i)+1 by omega]
        refine take_snoc_f ?_
        rw[List.getElem?_drop,show i+(k - (i))=k by omega]
        exact HP.out
       unfold EntAt
       rw[e,<-List.append_assoc,cE_append,show (pre++(l.drop (i)).take (k - (i))++[p3]).length=n3+1 by have:=HN3.out;simp;omega]
       exact HG.out
      case measure=>simp[intOf];omega
     ·obtain rfl:k=l.length:=by omega
      rw[List.take_of_length_le (by simp),HFIN.out,HR.out] at hrow
      obtain⟨Ao,co,rfl⟩:=hrow.form
      have HROW:=Hd hrow
      have HB:=Hd hb
      clear hrow hb
      go_wp2
      go_ret
      exact⟨Ao,co,rfl,HROW.out,HB.out⟩
   ·go_upto_region 8 with (fail)
    have HB2:=HB
    obtain⟨pre,hpe⟩:∃ pre,l.take i=pre:=⟨_,rfl⟩
    have hpn2:pre.length=i:=by rw[<-hpe];simp;omega
    have hpre:EntAt wo V (.slice Ao i co) pre:=by
     unfold EntAt
     rw[hpn2,<-hpe]
     exact HROW.out
    have HMID:=Hd (show l.take i++(if 0<=z then [(nm,z)] else [])=pre from by rw[if_neg hz0',List.append_nil,hpe])
    clear hpe HROW HB
    have hfin:pre++l.drop i=setE l nm z:=by
     have hs:=skip_of (l:=l) (n:=nm) (i:=i)
     rw[List.getElem?_eq_none (by omega),if_neg (by simp)] at hs
     unfold setE
     rw[HE.out.1,HE.out.2,hs,HMID.out]
    go_upto_region 10 with (fail)
    have hpl2:pre.length+(l.drop (i)).length<=l.length+1:=by simp;omega
    have HPL:=Hd hpl2
    have HPRE:=Hd hpre
    have HFIN:=Hd hfin
    clear hpl2 hpre hfin
    go_loopw [7,8] (fun v iv wr=>∃ k:Nat,iv = .int .i64 (k:Int)/\i<=k/\k<=l.length/\EntAt wr V v (pre++(l.drop (i)).take (k - (i)))/\Below V w wr) (fun _ iv _=>l.length - (intOf iv).toNat)
    case atStart=>exact⟨i,by first | rfl | go_num,Nat.le_refl _,by omega,by rw[Nat.sub_self,List.take_zero,List.append_nil];exact HPRE.out,HB2.out⟩
    case round=>
     obtain⟨k,rfl,hk1,hk2,hrow,hb⟩:=hrel
     by_cases hlt:k<l.length
     ·obtain⟨p3,hp3⟩:∃ p,l[k]?=some p:=⟨_,List.getElem?_eq_getElem hlt⟩
      obtain⟨g,hgA,hgl,_,e1,e2⟩:=ent_cells (HAB.out wr hb) hp3
      have hlt2:(k:Int)<(l.length:Int):=by omega
      obtain⟨Ao,co,rfl⟩:=hrow.form
      obtain⟨n3,hn3⟩:∃ n3,pre.length+(k - (i))=n3:=⟨_,rfl⟩
      have hio:(pre++(l.drop (i)).take (k - (i))).length=n3:=by rw[<-hn3];simp;omega
      rw[hio] at hrow ⊢
      unfold EntAt at hrow
      rw[hio] at hrow
      have hrange:wr.rangeAt g (k*2) [encStr p3.1,.int .i64 p3.2]:=by
       intro j v hv
       match j,hv with
       | 0,hv=>cases hv;exact e1
       | 1,hv=>cases hv;exact e2
       | j+2,hv=>cases hv
      have HROW:=Hd hrow
      have HB:=Hd hb
      have HP:=Hd hp3
      have HRG:=Hd hrange
      have HVB:=Hd (show V<=wr.heap.size from by have:=hb.size;have:=HV.out;omega)
      have hpl3:n3<=l.length+1:=by have:=HPL.out;simp at this;omega
      have HN3:=Hd hn3
      clear hn3
      clear hrow hb hp3 hrange e1 e2 hgl hio
      first | subst hgA | (obtain rfl:_=g:=by injection hgA with hgA;injection hgA) | skip
      go_wp2_with (first
       | (refine wpList_load_mid rfl tEnt (.tmp 61) rfl g (k*2) rfl [encStr p3.1,.int .i64 p3.2] _ HRG.out Tryz.underlying136 rfl (by kernel_rfl) ?_)
       | (at_builtin;go_loud (refine wpList_append_keeps _ rfl (.tmp 58) (.tmp 63) 138 rfl V tEnt e0 (.agg #[.string ⟨#[]⟩,.int .i64 0]) 2 24 Tryz.underlying138 he0 hz0 hz1 hz2 rfl (by decide) _ n3 (cE (pre++(l.drop (i)).take (k - (i)))) rfl (own_alloc HROW.out _) ⟨wr.heap.size,0,none⟩ 1 1 [encStr p3.1,.int .i64 p3.2] rfl rfl (new_cells _ [encStr p3.1,.int .i64 p3.2] tEnt) (by simp[Value.oneCell']) (by omega) (by unfold maxLen;omega) (by omega) (Nat.le_trans HVB.out (by simp)) ?_);go_loud (intro g3 cap3 w5 hg hgr hat hlt9 _);have HG:=Hd hg;have HGR:=Hd hgr;clear hg hgr hat hlt9))
      have HB3:=Hd (show Below V w w5 from (HB.out.alloc HVB.out _).grown HGR.out (by simp;have:=HVB.out;omega) fun k hk=>own_ge HROW.out hk)
      go_roundw
      case rel=>
       refine⟨k+1,by go_num,by omega,by omega,?_,HB3.out⟩
       have e:(l.drop (i)).take (k+1 - (i))=(l.drop (i)).take (k - (i))++[p3]:=by
        rw[show k+1 - (i)=k - (i)+1 by omega]
        refine take_snoc_f ?_
        rw[List.getElem?_drop,show i+(k - (i))=k by omega]
        exact HP.out
       unfold EntAt
       rw[e,<-List.append_assoc,cE_append,show (pre++(l.drop (i)).take (k - (i))++[p3]).length=n3+1 by have:=HN3.out;simp;omega]
       exact HG.out
      case measure=>simp[intOf];omega
     ·obtain rfl:k=l.length:=by omega
      rw[List.take_of_length_le (by simp),HFIN.out,HR.out] at hrow
      obtain⟨Ao,co,rfl⟩:=hrow.form
      have HROW:=Hd hrow
      have HB:=Hd hb
      clear hrow hb
      go_wp2
      go_ret
      exact⟨Ao,co,rfl,HROW.out,HB.out⟩
end
end Go.Proofs.YtmgljaecmchgaaaGreat.Dr
namespace Go.Proofs.YtmgljaecmchgaaaGreat.Dr
open Go.RowKit Go.Proofs Go.Proofs.YtmgljaecmchgaaaGreat.Ring
section
variable {w:World} {base base2:Nat}
set_option maxRecDepth 100000 in
theorem rcopied_any {A:Option Addr} {n c:Nat} {l:Bs} (h:Rd w w.heap.size 1 A n (cU8 l)) (hc:A=none->c=0) (hn:n<=140737488355328) :
  Calls Tryz.prog 53 #[.slice A n c] w fun x w'=>∃ A' c',x = .returned (.slice A' n c')/\w'.ownsRow w.heap.size tU8 1 (.slice A' n c') n (cU8 l)/\Below w.heap.size w w':=by
 obtain⟨i0,hi,hz0,hz1,hz2⟩:=info_parts infoU8
 have hrd:Rd (w.alloc (.cells #[] tU8)) w.heap.size 1 A n (cU8 l):=h.alloc (Nat.le_refl _) _
 have HRD:=Hd hrd
 have HC:=Hd hc
 clear h hc hrd
 go_enter Tryz.func53,Tryz.ntmps53
 go_wp2_with (at_builtin;refine wpList_append_rd _ rfl (.tmp 3) (.tmp 4) 79 rfl w.heap.size tU8 i0 (.int .u8 0) 1 1 Tryz.underlying79 hi hz0 hz1 hz2 rfl (by decide) (.slice (some ⟨w.heap.size,0,none⟩) 0 0) 0 [] rfl (own_new w (Nat.le_refl _) tU8 1 0 [] rfl (Nat.zero_le _)) w.heap.size A n c (cU8 l) rfl HRD.out HC.out (cU8_one l) (by unfold maxLen;omega) (by omega) (by simp) ?_;intro v1 w1 hrow1 hg1;rw[Nat.zero_add,List.nil_append] at hrow1;obtain⟨A1,c1,rfl,_,_⟩:=own_form hrow1;have HROW1:=Hd hrow1;have HB1:=Hd ((((Below.refl w.heap.size w).alloc (Nat.le_refl _) (.cells #[] tU8)).grown hg1 (by simp) (fun j hj=>(by simp[Value.ownBlock] at hj;omega))));clear hrow1 hg1)
 go_ret
 exact⟨A1,c1,rfl,HROW1.out,HB1.out⟩
end
end Go.Proofs.YtmgljaecmchgaaaGreat.Dr
namespace Go.Proofs.YtmgljaecmchgaaaGreat.Dr
open Go.RowKit Go.Proofs Go.Proofs.YtmgljaecmchgaaaGreat.Ring
section
variable {w:World} {S:Nat->Prop} {r m N:Nat} {D:Dr.D}
theorem rcells {a b c d e:Value} (h:w.heap[r]?=some (.cells #[a,b,c,d,e] tRef (0,0))) :
  w.cell? ⟨r,0,none⟩=some a/\w.cell? ⟨r,1,none⟩=some b/\w.cell? ⟨r,2,none⟩=some c/\w.cell? ⟨r,3,none⟩=some d/\w.cell? ⟨r,4,none⟩=some e:=by
 refine⟨?_,?_,?_,?_,?_⟩<;>(rw[cell_of_row w r _ _ _ _ h];rfl)
theorem rfroz {cs:Array Value} {e:TypeId} (h:w.heap[r]?=some (.cells cs e (0,0))) (j:Nat):w.frozen? ⟨r,j,none⟩=false:=frozen_of_row w r j _ _ h
theorem dirE_len (l:Dir):(dirE l).length=l.length:=by simp[dirE]
theorem RefAt.open {vb vn vk vc:Value} {ds cs:List Value} (h:RefAt w S r D vb vn vk vc ds cs):∃ Ab cb An cn Ak ck Ac cc,vb = .slice Ab D.bd.length cb/\vn = .slice An D.now.length cn/\vk = .slice Ak D.kept.length ck/\vc = .slice Ac D.pend.length cc:=by
 obtain⟨Ab,cb,h1,_,_⟩:=own_form h.bod
 obtain⟨An,cn,h2,_,_⟩:=own_form h.now
 obtain⟨Ak,ck,h3,_,_⟩:=own_form h.kept
 obtain⟨Ac,cc,h4,_,_⟩:=own_form h.chg
 rw[dirE_len] at h2 h3
 exact⟨Ab,cb,An,cn,Ak,ck,Ac,cc,h1,h2,h3,h4⟩
def atZ (d:Dr.D) (n:Bs):Int:=match d.look n with
 | .ok i=>(i:Int)
 | .error _=>-1
def atE (d:Dr.D) (n:Bs):Int:=match d.look n with
 | .ok _=>0
 | .error e=>e
set_option maxRecDepth 100000 in
set_option maxHeartbeats 4000000 in
theorem rat_any (h:Rv w S r D m N) (n:Bs) {z e:Int} (hz:atZ D n=z) (he:atE D n=e):Calls Tryz.prog 84 #[.pointer (some ⟨r,0,none⟩),encStr n] w fun x w'=>x = .returned (.tuple #[.int .i64 z,.int .i64 e])/\w=w':=by
 obtain⟨_,_,vb,vn,vk,vc,ds,cs,h⟩:=h
 obtain⟨Ab,cb,An,cn,Ak,ck,Ad,cd,rfl,rfl,rfl,rfl⟩:=h.open
 obtain⟨_,_,x2,_,_⟩:=rcells h.head
 have H:=Lib.hid h
 unfold atZ at hz
 unfold atE at he
 unfold Dr.D.look at hz he
 cases hn:Dr.named n with
 | false=>
  rw[if_neg (by simp[hn])] at hz he
  dsimp only at hz he
  subst hz he
  have HN:=Hd hn
  clear hn h
  go_enter Tryz.func84,Tryz.ntmps84
  go_wp2_with (go_at_call 51;refine (rnamed_any n _).mono ?_;rw[HN.out];rintro x w1 ⟨rfl,rfl⟩)
  refine bodyPost_ret (v:=.tuple #[.int .i64 (-1),.int .i64 91]) (by simp[results,Tryz.results84,go_sem]) rfl ?_
  exact⟨rfl,rfl⟩
 | true=>
  rw[if_pos hn] at hz he
  have HN:=Hd hn
  clear hn
  cases hf:find D.now n with
  | none=>
   rw[hf] at hz he
   dsimp only at hz he
   subst hz he
   have hfz:findE (dirE D.now) n = -1:=by rw[findE_dir,hf];rfl
   obtain⟨y,hy⟩:∃ y:Int,findE (dirE D.now) n=y:=⟨_,rfl⟩
   have hy1:y<0:=by rw[<-hy,hfz];decide
   have HY:=Hd hy
   clear hf h hfz hy
   go_enter Tryz.func84,Tryz.ntmps84
   go_wp2_with (first
    | (go_at_call 51;refine (rnamed_any n _).mono ?_;rw[HN.out];rintro x w1 ⟨rfl,rfl⟩)
    | (go_at_call 52;refine (rfind_any (dirE_len _).symm H.out.now n HY.out).mono ?_;rintro x w1 ⟨rfl,rfl⟩))
   refine bodyPost_ret (v:=.tuple #[.int .i64 (-1),.int .i64 110]) (by simp[results,Tryz.results84,go_sem]) rfl ?_
   exact⟨rfl,rfl⟩
  | some i=>
   rw[hf] at hz he
   dsimp only at hz he
   subst hz he
   have hfz:findE (dirE D.now) n=(i:Int):=by rw[findE_dir,hf];rfl
   have HY:=Hd hfz
   clear hf h hfz
   go_enter Tryz.func84,Tryz.ntmps84
   go_wp2_with (first
    | (go_at_call 51;refine (rnamed_any n _).mono ?_;rw[HN.out];rintro x w1 ⟨rfl,rfl⟩)
    | (go_at_call 52;refine (rfind_any (dirE_len _).symm H.out.now n HY.out).mono ?_;rintro x w1 ⟨rfl,rfl⟩))
   refine bodyPost_ret (v:=.tuple #[.int .i64 (i:Int),.int .i64 0]) (by simp[results,Tryz.results84,go_sem]) rfl ?_
   exact⟨rfl,rfl⟩
theorem refAt_new (w:World) (room:Nat):RefAt (w.alloc (.cells #[.int .i64 (room:Int),.slice none 0 0,.slice none 0 0,.slice none 0 0,.slice none 0 0] tRef)) (fun k=>k=w.heap.size) w.heap.size (Dr.D.fresh room) (.slice none 0 0) (.slice none 0 0) (.slice none 0 0) (.slice none 0 0) [] []:=
 ⟨heap_alloc_new _ _,World.ownsRow_nil _ _ _ _,rfl,fun i b v h=>(by cases h),World.ownsRow_nil _ _ _ _,World.ownsRow_nil _ _ _ _,World.ownsRow_nil _ _ _ _,fun j c v h=>(by cases h),rfl,fun g h=>(by cases h),fun g h=>(by cases h),fun g h=>(by cases h),fun g h=>(by cases h),fun v h=>(by cases h),fun v h=>(by cases h),fun k hk=>(by subst hk;simp)⟩
set_option maxRecDepth 100000 in
theorem rnew_any (room:Nat) (hroom:room<=1073741824) (w:World):Calls Tryz.prog 50 #[.int .i64 (room:Int)] w fun x w'=>∃ r,x = .returned (.pointer (some ⟨r,0,none⟩))/\r=w.heap.size/\RefAt w' (fun k=>k=w.heap.size) r (Dr.D.fresh room) (.slice none 0 0) (.slice none 0 0) (.slice none 0 0) (.slice none 0 0) [] []/\Below w.heap.size w w':=by
 have h1:(room:Int)<=1073741824:=by omega
 have h2:¬ (room:Int)<0:=by omega
 go_enter Tryz.func50,Tryz.ntmps50
 go_wp2
 refine bodyPost_ret (v:=.pointer (some ⟨w.heap.size,0,none⟩)) (by simp[results,Tryz.results50,go_sem]) rfl ?_
 exact⟨_,rfl,rfl,refAt_new w room,(Below.refl _ _).alloc (Nat.le_refl _) _⟩
set_option maxRecDepth 100000 in
theorem rnew_not (room:Int) (hroom:okRoom room=false) (w:World):Calls Tryz.prog 50 #[.int .i64 room] w fun x w'=>x = .returned (.pointer none)/\w=w':=by
 unfold okRoom at hroom
 by_cases h0:room<0
 ·clear hroom
  go_enter Tryz.func50,Tryz.ntmps50
  go_wp2
  go_ret
  exact⟨rfl,rfl⟩
 ·have h1:¬ room<=1073741824:=by simp at hroom;omega
  clear hroom
  go_enter Tryz.func50,Tryz.ntmps50
  go_wp2
  go_ret
  exact⟨rfl,rfl⟩
end
end Go.Proofs.YtmgljaecmchgaaaGreat.Dr
namespace Go.Proofs.YtmgljaecmchgaaaGreat.Dr
open Go.RowKit Go.Proofs Go.Proofs.YtmgljaecmchgaaaGreat.Ring
section
variable {w:World} {S:Nat->Prop} {r m N:Nat} {D:Dr.D}
theorem RefAt.body {vb vn vk vc:Value} {ds cs:List Value} (h:RefAt w S r D vb vn vk vc ds cs) {i:Nat} (hi:i<D.bd.length):D.bd[i]?=some (D.at i)/\∃ gb c Av cv,vb = .slice (some ⟨gb,0,none⟩) D.bd.length c/\ds[i]?=some (.slice Av (D.at i).data.length cv)/\
  w.ownsRow 0 tU8 1 (.slice Av (D.at i).data.length cv) (D.at i).data.length (cU8 (D.at i).data)/\w.cell? ⟨gb,i*2,none⟩=some (.slice Av (D.at i).data.length cv)/\w.cell? ⟨gb,i*2+1,none⟩=some (.int .i64 ((D.at i).safe:Int))/\w.frozen? ⟨gb,i*2,none⟩=false/\w.frozen? ⟨gb,i*2+1,none⟩=false:=by
 have hb:D.bd[i]?=some (D.at i):=by
  unfold Dr.D.at
  rw[List.getD_eq_getElem?_getD,List.getElem?_eq_getElem hi];rfl
 obtain⟨v,hv⟩:∃ v,ds[i]?=some v:=⟨_,List.getElem?_eq_getElem (by have:=h.dl;omega)⟩
 have hrow:=h.dat i _ v hb hv
 obtain⟨Av,cv,rfl,_,_⟩:=own_form hrow
 obtain⟨Ab,cb,rfl,_,_⟩:=own_form h.bod
 obtain⟨gb,rfl⟩:=own_some h.bod (by omega)
 obtain⟨c0,c1⟩:=cB_at D.bd ds i _ _ hb hv
 exact⟨hb,gb,cb,Av,cv,rfl,hv,hrow,own_cellS h.bod c0,own_cellS h.bod c1,h.bod.frozenAt _,h.bod.frozenAt _⟩
set_option maxRecDepth 100000 in
theorem rpending_any (h:Rv w S r D m N):Calls Tryz.prog 43 #[.pointer (some ⟨r,0,none⟩)] w fun x w'=>x = .returned (.int .i64 (D.pend.length:Int))/\w=w':=by
 obtain⟨_,_,vb,vn,vk,vc,ds,cs,h⟩:=h
 obtain⟨Ab,cb,An,cn,Ak,ck,Ad,cd,rfl,rfl,rfl,rfl⟩:=h.open
 obtain⟨_,_,_,_,x4⟩:=rcells h.head
 clear h
 go_enter Tryz.func43,Tryz.ntmps43
 go_wp2
 go_ret
 exact⟨rfl,rfl⟩
end
end Go.Proofs.YtmgljaecmchgaaaGreat.Dr
namespace Go.Proofs.YtmgljaecmchgaaaGreat.Dr
open Go.RowKit Go.Proofs Go.Proofs.YtmgljaecmchgaaaGreat.Ring
theorem dirE_at {l:Dir} {i:Nat} {p:Bs×Nat} (h:l[i]?=some p):(dirE l)[i]?=some (p.1,(p.2:Int)):=by
 unfold dirE
 rw[List.getElem?_map,h];rfl
section
variable {w:World} {S:Nat->Prop} {r m N:Nat} {D:Dr.D}
set_option maxRecDepth 100000 in
theorem rloose_no (h:Rv w S r D m N) {n:Bs} {e:Int} (hl:D.look n = .error e):Calls Tryz.prog 49 #[.pointer (some ⟨r,0,none⟩),encStr n] w fun x w'=>x = .returned (.tuple #[.int .i64 0,.int .i64 e])/\w=w':=by
 have H:=Lib.hid h
 have hne:=look_ne hl
 have hz:atZ D n = -1:=by unfold atZ;rw[hl]
 have he:atE D n=e:=by unfold atE;rw[hl]
 have HZ:=Hd hz
 have HE:=Hd he
 clear h hl hz he
 go_enter Tryz.func49,Tryz.ntmps49
 go_wp2_with (go_at_call 84;refine (rat_any H.out n HZ.out HE.out).mono ?_;rintro x w1 ⟨rfl,rfl⟩)
 refine bodyPost_ret (v:=.tuple #[.int .i64 0,.int .i64 e]) (by simp[results,Tryz.results49,go_sem]) rfl ?_
 exact⟨rfl,rfl⟩
set_option maxRecDepth 100000 in
theorem rloose_ok (h:Rv w S r D m N) {n:Bs} {i:Nat} (hl:D.look n = .ok i) (hm:m<=140737488355328):Calls Tryz.prog 49 #[.pointer (some ⟨r,0,none⟩),encStr n] w fun x w'=>x = .returned (.tuple #[.int .i64 (((D.at i).data.length:Int) - (D.at i).safe),.int .i64 0])/\Below w.heap.size w w':=by
 have H:=Lib.hid h
 obtain⟨ho,hbn,vb,vn,vk,vc,ds,cs,h⟩:=h
 have hz:atZ D n=(i:Int):=by unfold atZ;rw[hl]
 have he:atE D n=0:=by unfold atE;rw[hl]
 have hil:=(look_in ho hl).2
 have hdm:=(ho.at_ok i).2
 have hds:=(ho.at_ok i).1
 obtain⟨_,gb,cb,Av,cv,rfl,_,_,e0,e1,_,_⟩:=h.body hil
 obtain⟨_,x1,_,_,_⟩:=rcells h.head
 have hlt:(i:Int)<(D.bd.length:Int):=by omega
 have HZ:=Hd hz
 have HE:=Hd he
 clear h hl hz he hil
 go_enter Tryz.func49,Tryz.ntmps49
 go_upto_region 4 with (go_at_call 84;refine (rat_any H.out n HZ.out HE.out).mono ?_;rintro x w1 ⟨rfl,rfl⟩)
 go_quiet (fail)
 go_wp2
 refine bodyPost_ret (v:=.tuple #[.int .i64 (((D.at i).data.length:Int) - (D.at i).safe),.int .i64 0]) (by simp[results,Tryz.results49,go_sem]) rfl ?_
 exact⟨rfl,below_drewN (Below.refl _ _) _⟩
end
end Go.Proofs.YtmgljaecmchgaaaGreat.Dr
