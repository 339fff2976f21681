/- XRb1: merged by tools/merge.py. -/
import Derived.Test.YtmgljaecmchgaaaGreatQ24
set_option linter.unusedVariables false
set_option linter.unusedSimpArgs false
set_option linter.unusedSectionVars false
namespace Go.Proofs.YtmgljaecmchgaaaGreat.Gf
open Go.RowKit Go.Proofs
structure Tbl (W:World) (B:Nat) (A:Option Addr):Prop where
 get:∀ a b:E,∃ (ad Ar:Addr) (cr:Nat),A=some ad/\ad.block<B/\W.cell? (ad.add (unE a).toNat)=some (.slice (some Ar) 256 cr)/\Ar.block<B/\W.cell? (Ar.add (unE b).toNat)=some (.int .u8 ((unE (a*b)).toNat:Int))
theorem Tbl.below {W W':World} {B:Nat} {A:Option Addr} (h:Tbl W B A) (hb:Below B W W'):Tbl W' B A:=
 ⟨fun a b=>by obtain⟨ad,Ar,cr,e,h1,h2,h3,h4⟩:=h.get a b;exact⟨ad,Ar,cr,e,h1,(hb.cell (by rw[add_block];exact h1)).trans h2,h3,(hb.cell (by rw[add_block];exact h3)).trans h4⟩⟩
theorem Tbl.more {W:World} {B B':Nat} {A:Option Addr} (h:Tbl W B A) (hb:B<=B'):Tbl W B' A:=
 ⟨fun a b=>by obtain⟨ad,Ar,cr,e,h1,h2,h3,h4⟩:=h.get a b;exact⟨ad,Ar,cr,e,by omega,h2,by omega,h4⟩⟩
theorem ptE_unE (a:E):ptE (unE a).toNat=a:=by
 exact UInt8.ofNat_toNat
def tbR (a:Nat):List E:=fromN 256 fun b=>ptE a*ptE b
structure TblM (W:World) (base i:Nat) (A:Option Addr) (c:Nat) (g:Nat->Nat):Prop where
 out:W.ownsRow base tRs 1 (.slice A i c) i (fromV i fun x=>slE (g x) 256)
 rows:∀ x,x<i->W.ownsRow base Dr.tU8 1 (slE (g x) 256) 256 (cE (tbR x))
theorem TblM.tbl {W:World} {base c:Nat} {A:Option Addr} {g:Nat->Nat} (h:TblM W base 256 A c g):Tbl W W.heap.size A:=by
 refine⟨fun a b=>?_⟩
 have ha:(unE a).toNat<256:=UInt8.toNat_lt _
 have hb:(unE b).toNat<256:=UInt8.toNat_lt _
 obtain⟨ad,e,h1,h2⟩:=rd_get (Rd.of_own h.out) ha (fromV_get ha)
 have hr:=h.rows _ ha
 have hc:=ow_cell hr hb (cE_get (fromN_get hb))
 refine⟨ad,⟨g (unE a).toNat,0,none⟩,256,e,h1,h2,(ow_lt hr).2,?_⟩
 rw[show (⟨g (unE a).toNat,0,none⟩:Addr).add (unE b).toNat=⟨g (unE a).toNat,(unE b).toNat,none⟩ by unfold Addr.add;split<;>simp<;>omega,hc,ptE_unE,ptE_unE]
theorem fromV_succ (f:Nat->Value) (i:Nat):fromV (i+1) f=fromV i f++[f i]:=by unfold fromV;rw[List.range_succ,List.map_append];rfl
theorem wrap8i {i:Nat} (h:i<256):IntKind.u8.wrap (i:Int)=(i:Int):=by
 simp[IntKind.wrap,IntKind.bits,IntKind.signed]
 omega
theorem rows_ne {W:World} {b1 b2 s1 s2 n1 n2:Nat} {e1 e2:TypeId} {v1 v2:Value} {x1 x2:List Value} (h1:W.ownsRow b1 e1 s1 v1 n1 x1) (h2:W.ownsRow b2 e2 s2 v2 n2 x2) (he:e1≠e2) {g:Nat} (hg:v1.ownBlock=some g):v1.ownBlock≠v2.ownBlock:=by
 intro e
 obtain⟨c1,k1⟩:=Dr.own_lt h1 hg
 obtain⟨c2,k2⟩:=Dr.own_lt h2 (e▸hg)
 rw[k1] at k2
 injection k2 with k2
 injection k2 with _ k2 _
 exact he k2
set_option maxRecDepth 100000 in
set_option maxHeartbeats 8000000 in
theorem table_any (w:World):Calls Tryz.prog 31 #[] w fun e w'=>∃ A c,e = .returned (.slice A 256 c)/\Tbl w' w'.heap.size A/\Below w.heap.size w w':=by
 obtain⟨i0,hi0,hz0,hz1,hz2⟩:=info_parts infoRs
 obtain⟨V,hV⟩:∃ V,w.heap.size=V:=⟨_,rfl⟩
 have hmk:=fun W=>run_makeV W 79 Dr.tU8 (.int .u8 0) 1 Tryz.underlying79 Dr.infoU8 rfl (by decide) 256 (by omega)
 obtain⟨Z,hZ⟩:∃ Z,(fromV 256 fun _=>Value.int .u8 0)=Z:=⟨_,rfl⟩
 rw[hZ] at hmk
 have hZc:Z=cE (fromN 256 fun _=>0):=by
  rw[<-hZ]
  apply List.ext_getElem?
  intro j
  by_cases hj:j<256
  ·rw[fromV_get hj,List.getElem?_map,fromN_get hj];rfl
  ·rw[List.getElem?_eq_none (by rw[fromV_len];omega),List.getElem?_eq_none (by rw[List.length_map,length_fromN];omega)]
 have hZl:Z.length=256:=by rw[<-hZ];simp[fromV]
 have HV:=Hd hV
 have HZ:=Hd hZc
 have HZL:=Hd hZl
 have HMK:=Hd (show ∀ W:World,(Instr.makeSlice 79 (.int .i64 256) (.int .i64 256)).run Tryz.prog W = .ok (.slice (some ⟨W.heap.size,0,none⟩) 256 256) (W.alloc (.cells Z.toArray Dr.tU8)) from hmk)
 clear hV hZ hmk hZc hZl
 rw[HV.out]
 go_enter Tryz.func31,Tryz.ntmps31
 go_wp2
 go_loopw [1,2] (fun v iv wr=>∃ (i:Nat) (A:Option Addr) (c:Nat) (g:Nat->Nat),iv = .int .i64 (i:Int)/\i<=256/\v = .slice A i c/\TblM wr V i A c g/\Below V w wr) (fun _ iv _=>256 - (intOf iv).toNat)
 case atStart=>exact⟨0,none,0,fun _=>0,rfl,Nat.zero_le _,rfl,⟨World.ownsRow_nil _ _ _ _,fun x hx=>by omega⟩,Below.refl _ _⟩
 case round=>
  obtain⟨i,A,c,g,rfl,hi,rfl,hM,hb⟩:=hrel
  by_cases hin:i<256
  ·have hin2:(i:Int)<256:=by omega
   have hmk:=HMK.out
   have hVs:V<=wr.heap.size:=by have:=hb.size;have:=HV.out;omega
   obtain⟨b,hbs⟩:∃ b,wr.heap.size=b:=⟨_,rfl⟩
   obtain⟨w1,hw1⟩:∃ w1,wr.alloc (.cells Z.toArray Dr.tU8)=w1:=⟨_,rfl⟩
   have hrow:w1.ownsRow V Dr.tU8 1 (slE b 256) 256 (cE (fromN 256 (upto (fun q=>ptE i*ptE q) 0 0))):=by
    rw[upto_zero,<-HZ.out,<-hw1,<-hbs]
    exact Dr.own_new wr hVs Dr.tU8 1 256 Z HZL.out (by unfold maxLen;omega)
   have hM1:TblM w1 V i A c g:=by rw[<-hw1];exact⟨Dr.own_alloc hM.out _,fun x hx=>Dr.own_alloc (hM.rows x hx) _⟩
   have hgb:∀ x,x<i->g x≠b:=fun x hx e=>by have:=(ow_lt (hM.rows x hx)).2;omega
   have hAb:(Value.slice A i c).ownBlock≠some b:=fun e=>by
    obtain⟨cur,h⟩:=Dr.own_lt hM.out e
    have:=(Array.getElem?_eq_some_iff.1 h).1
    omega
   have hb1:Below V w w1:=by rw[<-hw1];exact hb.alloc hVs _
   have HROW:=Hd hrow
   have HM1:=Hd hM1
   have HGB:=Hd hgb
   have HAB:=Hd hAb
   have HB1:=Hd hb1
   have HBS:=Hd hbs
   clear hrow hM1 hgb hAb hb1 hM hb
   go_wp2
   clear hw1 hmk hbs
   go_loopw [4] (fun jv wq=>∃ j:Nat,jv = .int .i64 (j:Int)/\j<=256/\wq.ownsRow V Dr.tU8 1 (slE b 256) 256 (cE (fromN 256 (upto (fun q=>ptE i*ptE q) 0 j)))/\TblM wq V i A c g/\Below V w wq) (fun jv _=>256 - (intOf jv).toNat)
   case atStart=>exact⟨0,rfl,Nat.zero_le _,HROW.out,HM1.out,HB1.out⟩
   case round=>
    obtain⟨j,rfl,hj,hrow,hM,hb⟩:=hrel
    by_cases hjn:j<256
    ·have hjn2:(j:Int)<256:=by omega
     obtain⟨u,hu⟩:∃ u,ptE i=u:=⟨_,rfl⟩
     obtain⟨v,hv⟩:∃ v,ptE j=v:=⟨_,rfl⟩
     have hui:(i:Int)=((unE u).toNat:Int):=by rw[<-hu];exact (ptE_nat hin).symm
     have hvj:(j:Int)=((unE v).toNat:Int):=by rw[<-hv];exact (ptE_nat hjn).symm
     have hw8:=wrap8i hin
     have hw9:=wrap8i hjn
     have c1:=ow_cell hrow hjn (cE_get (fromN_get hjn))
     have f1:=ow_free (i:=j) hrow
     have hnew:=ow_store (i:=j) hrow (.int .u8 ((unE (u*v)).toNat:Int))
     rw[cE_set,upto_step' (by rw[hu,hv])] at hnew
     have hbV:V<=b:=(ow_lt hrow).1
     have hM2:TblM (wr.setCell ⟨b,j,none⟩ (.int .u8 ((unE (u*v)).toNat:Int))) V i A c g:=⟨row_other hM.out HAB.out,fun x hx=>ow_other (hM.rows x hx) (HGB.out x hx) _⟩
     have HNEW:=Hd hnew
     have HM2:=Hd hM2
     have HB2:=Hd (hb.setCell (p:=⟨b,j,none⟩) hbV (.int .u8 ((unE (u*v)).toNat:Int)))
     have HUI:=Hd hui
     have HVJ:=Hd hvj
     have hmu:=mul_unE u v
     have HMU:=Hd hmu
     clear hrow hM hb hu hv hnew hM2 hui hvj hmu
     go_wp2_with (go_at_call 72;rw[HUI.out,HVJ.out];refine (mulR_any (unE u) (unE v) _).mono ?_;rw[HMU.out,<-HUI.out,<-HVJ.out];rintro e w5 ⟨rfl,rfl⟩)
     go_roundw
     case rel=>exact⟨j+1,by go_num,by omega,HNEW.out,HM2.out,HB2.out⟩
     case measure=>simp[intOf];omega
    ·obtain rfl:j=256:=by omega
     have e:fromN 256 (upto (fun q=>ptE i*ptE q) 0 256)=tbR i:=fromN_congr fun q hq=>upto_all hq
     rw[e] at hrow
     have hVs2:V<=wr.heap.size:=by have:=hb.size;have:=HV.out;omega
     have hl1:=run_litV wr 67 tRs (.slice none 0 0) (slE b 256) 24 Tryz.underlying67 infoRs rfl
     have HO1:=Hd (Dr.own_alloc hM.out (.cells #[slE b 256] tRs))
     have HRX:=Hd (rd_new wr (slE b 256) tRs)
     have HBX:=Hd (hb.alloc hVs2 (.cells #[slE b 256] tRs))
     have HRW:=Hd (Dr.own_alloc hrow (.cells #[slE b 256] tRs))
     have HRS:=Hd (show ∀ x,x<i->(wr.alloc (.cells #[slE b 256] tRs)).ownsRow V Dr.tU8 1 (slE (g x) 256) 256 (cE (tbR x)) from fun x hx=>Dr.own_alloc (hM.rows x hx) _)
     clear hrow hM hb e
     go_wp2_with (at_builtin;go_loud (refine wpList_append_rd _ rfl (.tmp 22) (.tmp 24) 67 rfl V tRs i0 (.slice none 0 0) 1 24 Tryz.underlying67 hi0 hz0 hz1 hz2 rfl (by decide) (.slice A i c) i (fromV i fun x=>slE (g x) 256) rfl HO1.out _ (some ⟨wr.heap.size,0,none⟩) 1 1 [slE b 256] rfl HRX.out (fun h=>by cases h) (by simp[Value.oneCell']) (by unfold maxLen;omega) (by omega) (by simp;omega) ?_);intro v' w' hrow hg;go_loud (have hb2:=HBX.out.grown hg (by simp;omega) (fun j hj=>Dr.own_ge HO1.out hj));have hrw:=HRW.out.kept hg (.inr (rows_ne HRW.out HO1.out (by decide) rfl));have hrs:=fun x hx=>(HRS.out x hx).kept hg (.inr (rows_ne (HRS.out x hx) HO1.out (by decide) rfl));have HROW:=Hd hrow;have HB2X:=Hd hb2;have HRW2:=Hd hrw;have HRS2:=Hd hrs;clear hrow hg hb2 hrw hrs)
     have hrow:=HROW.out
     have hcs:fromV (i+1) (fun x=>slE (if x=i then b else g x) 256)=(fromV i fun x=>slE (g x) 256)++[slE b 256]:=by
      rw[fromV_succ,if_pos rfl]
      congr 1
      exact fromV_congr fun x hx=>by rw[if_neg (by omega)]
     obtain⟨A3x,c3x,rfl,_,_⟩:=own_form hrow
     have hM3:TblM w' V (i+1) A3x c3x (fun x=>if x=i then b else g x):=⟨by rw[hcs];exact hrow,fun x hx=>by
      by_cases e:x=i
      ·subst e;rw[if_pos rfl];exact HRW2.out
      ·rw[if_neg e];exact HRS2.out x (by omega)⟩
     have HM3:=Hd hM3
     clear hrow hM3 hcs
     go_roundw
     case rel=>exact⟨i+1,A3x,c3x,_,by go_num,by omega,rfl,HM3.out,HB2X.out⟩
     case measure=>simp[intOf];omega
  ·obtain rfl:i=256:=by omega
   have HT:=Hd hM.tbl
   have HBX:=Hd hb
   clear hM hb
   go_wp2
   go_ret
   exact⟨_,_,rfl,HT.out,HBX.out⟩
set_option maxRecDepth 100000 in
theorem inverseT_any {w:World} {B c:Nat} {A:Option Addr} (hT:Tbl w B A) (a:E) (ha:a≠0):Calls Tryz.prog 101 #[.slice A 256 c,.int .u8 ((unE a).toNat:Int)] w fun e w'=>e = .returned (.int .u8 ((unE (Fld.inv a)).toNat:Int))/\w=w':=by
 obtain⟨ia,hia⟩:∃ ia:E,Fld.inv a=ia:=⟨_,rfl⟩
 have hone:a*ia=1:=by rw[<-hia];exact Fld.mul_inv a ha
 have huni:∀ x:E,a*x=1->x=ia:=fun x hx=>by rw[<-hia];exact inv_unique hx
 have h1:1<=(unE ia).toNat:=by
  rcases Nat.eq_zero_or_pos (unE ia).toNat with h | h
  ·exfalso
   have h0:ia=0:=UInt8.toNat_inj.1 (show (unE ia).toNat=0 from h)
   rw[h0,mul_zero] at hone
   exact Fld.one_ne hone.symm
  ·exact h
 have h2:(unE ia).toNat<256:=UInt8.toNat_lt _
 have ha256:(unE a).toNat<256:=UInt8.toNat_lt _
 have ha00:(0:Int)<=((unE a).toNat:Int):=by omega
 have ha01:((unE a).toNat:Int)<256:=by omega
 rw[hia]
 have HT:=Hd hT
 have HONE:=Hd hone
 have HUNI:=Hd huni
 clear hT hone huni hia
 obtain⟨ad,_,_,rfl,_⟩:=HT.out.get 0 0
 go_enter Tryz.func101,Tryz.ntmps101
 go_wp2
 go_loop [5] (fun iv=>∃ k:Nat,iv = .int .i64 (k:Int)/\1<=k/\k<=(unE ia).toNat) (fun iv=>256 - (intOf iv).toNat)
 case atStart=>exact⟨1,rfl,Nat.le_refl _,h1⟩
 case round=>
  obtain⟨k,rfl,hk1,hk2⟩:=hrel
  obtain⟨u,hu⟩:∃ u,ptE k=u:=⟨_,rfl⟩
  have huk:((unE u).toNat:Int)=(k:Int):=by rw[<-hu];exact ptE_nat (by omega)
  have hukn:(unE u).toNat=k:=by omega
  obtain⟨ad2,Ar,cr,e,_,e1,_,e2⟩:=HT.out.get a u
  injection e with e
  subst e
  rw[hukn] at e2
  have hk256:(k:Int)<256:=by omega
  have hk00:(0:Int)<=(k:Int):=by omega
  have hw8:=wrap8i (i:=k) (by omega)
  by_cases hx:a*u=1
  ·have hui:=HUNI.out u hx
   have hki:(k:Int)=((unE ia).toNat:Int):=by rw[<-hui];exact huk.symm
   have hv:((unE (a*u)).toNat:Int)=1:=by rw[hx];rfl
   have HKI:=Hd hki
   clear hui hki hu huk hukn hx
   go_wp2
   go_ret
   refine⟨?_,rfl⟩
   rw[<-HKI.out]
   rfl
  ·have hv:¬ ((unE (a*u)).toNat:Int)=1:=fun h=>hx (UInt8.toNat_inj.1 (show (unE (a*u)).toNat=1 by omega))
   have hvb:(((unE (a*u)).toNat:Int)==1)=false:=by simpa using hv
   have hlt:k<(unE ia).toNat:=by
    rcases Nat.lt_or_ge k (unE ia).toNat with h | h
    ·exact h
    ·exfalso
     apply hx
     have:u=ia:=UInt8.toNat_inj.1 (show (unE u).toNat=(unE ia).toNat by omega)
     rw[this]
     exact HONE.out
   clear hu huk hukn hx
   go_wp2
   go_round
   case rel=>exact⟨k+1,by go_num,by omega,by omega⟩
   case measure=>simp[intOf];omega
set_option maxRecDepth 100000 in
theorem thereT_any {w:World} {B n c:Nat} {A:Option Addr} {L:List Bool} (hL:Rd w B 1 A n (Dr.cBool L)) (hn:n<=1024):Calls Tryz.prog 30 #[.slice A n c] w fun e w'=>e = .returned (.int .i64 ((thB L n).length:Int))/\w=w':=by
 have HL:=Hd hL
 clear hL
 go_enter Tryz.func30,Tryz.ntmps30
 go_wp2
 go_loop [3,4] (fun nv iv=>∃ i:Nat,iv = .int .i64 (i:Int)/\i<=n/\nv = .int .i64 ((thB L i).length:Int)) (fun _ iv=>n - (intOf iv).toNat)
 case atStart=>exact⟨0,rfl,Nat.zero_le _,rfl⟩
 case round=>
  obtain⟨i,rfl,hi,rfl⟩:=hrel
  by_cases hin:i<n
  ·have hin2:(i:Int)<(n:Int):=by omega
   have hi00:(0:Int)<=(i:Int):=by omega
   obtain⟨ad,rfl,had,hcd⟩:=rd_bool HL.out hin
   obtain⟨b,hb⟩:∃ b,L.getD i false=b:=⟨_,rfl⟩
   rw[hb] at hcd
   have hs:=thB_succ L i
   rw[hb] at hs
   have hle:=thB_le L i
   cases b with
   | true=>
    rw[if_pos rfl] at hs
    have HS:=Hd hs
    clear hs hb
    go_wp2
    go_round
    case rel=>exact⟨i+1,by go_num,by omega,by rw[HS.out]⟩
    case measure=>simp[intOf];omega
   | false=>
    rw[if_neg (by simp)] at hs
    have hsl:((thB L (i+1)).length:Int)=((thB L i).length:Int)+1:=by rw[hs];simp
    have HS:=Hd hsl
    clear hs hb hsl
    go_wp2
    go_round
    case rel=>exact⟨i+1,by go_num,by omega,by rw[HS.out]⟩
    case measure=>simp[intOf];omega
  ·obtain rfl:i=n:=by omega
   go_wp2
   go_ret
   exact⟨rfl,rfl⟩
def evP (p:List E) (x:E) (i:Nat):E:=sumN i fun j=>pw x j*co p j
theorem evP_all {p:List E} {n:Nat} (h:p.length=n) (x:E):evP p x n=ev p x:=sum_pow x p n (Nat.le_of_eq h)
set_option maxRecDepth 100000 in
set_option maxHeartbeats 4000000 in
theorem atT_any {w:World} {B B' n c ct:Nat} {At A:Option Addr} {p:List E} (hT:Tbl w B At) (hp:Rd w B' 1 A n (cE p)) (hn:n<=65536) (x:E):Calls Tryz.prog 74 #[.slice At 256 ct,.slice A n c,.int .u8 ((unE x).toNat:Int)] w fun e w'=>e = .returned (.int .u8 ((unE (ev p x)).toNat:Int))/\w=w':=by
 have hpl:=rd_len hp
 have hfin:=evP_all hpl x
 have HT:=Hd hT
 have HP:=Hd hp
 have HFIN:=Hd hfin
 have u8i:=fun a:E=>(show ((unE a).toNat:Int)<256 by have:=UInt8.toNat_lt (unE a);omega)
 have hx1:=u8i x
 clear hT hp hfin hpl
 obtain⟨ad,_,_,rfl,_⟩:=HT.out.get 0 0
 go_enter Tryz.func74,Tryz.ntmps74
 have HU8:=Hd u8i
 clear u8i
 go_wp2
 go_loop [7,8,9] (fun sv pv iv=>∃ i:Nat,iv = .int .i64 (i:Int)/\i<=n/\sv = .int .u8 ((unE (evP p x i)).toNat:Int)/\pv = .int .u8 ((unE (pw x i)).toNat:Int)) (fun _ _ iv=>n - (intOf iv).toNat)
 case atStart=>exact⟨0,rfl,Nat.zero_le _,rfl,rfl⟩
 case round=>
  obtain⟨i,rfl,hi,rfl,rfl⟩:=hrel
  by_cases hin:i<n
  ·have hin2:(i:Int)<(n:Int):=by omega
   have hi00:(0:Int)<=(i:Int):=by omega
   obtain⟨ap,rfl,hap,hcp⟩:=rd_at HP.out hin
   obtain⟨y,hy⟩:∃ y,co p i=y:=⟨_,rfl⟩
   obtain⟨s,hs⟩:∃ s,evP p x i=s:=⟨_,rfl⟩
   obtain⟨q,hq⟩:∃ q,pw x i=q:=⟨_,rfl⟩
   rw[hy] at hcp
   rw[hs,hq]
   obtain⟨ad2,Ar,cr,e,_,e1,_,e2⟩:=HT.out.get y q
   injection e with e
   subst e
   obtain⟨ad3,Ar3,cr3,e,_,e3,_,e4⟩:=HT.out.get q x
   injection e with e
   subst e
   have hstep:evP p x (i+1)=s+y*q:=by
    show evP p x i+pw x i*co p i=_
    rw[hs,hq,hy,Fld.mul_comm]
   have hpow:pw x (i+1)=q*x:=by
    rw[pw,hq]
   have hxo:=bxE s (y*q)
   have t1:=HU8.out y
   have t2:=HU8.out q
   have t3:(0:Int)<=((unE y).toNat:Int):=by omega
   have t4:(0:Int)<=((unE q).toNat:Int):=by omega
   have t5:(0:Int)<=((unE x).toNat:Int):=by omega
   have HST:=Hd hstep
   have HPO:=Hd hpow
   clear hstep hpow hy hs hq
   go_wp2
   go_round
   case rel=>exact⟨i+1,by go_num,by omega,by rw[HST.out],by rw[HPO.out]⟩
   case measure=>simp[intOf];omega
  ·obtain rfl:i=n:=by omega
   rw[HFIN.out]
   go_wp2
   go_ret
   exact⟨rfl,rfl⟩
end Go.Proofs.YtmgljaecmchgaaaGreat.Gf
