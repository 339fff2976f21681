/- XRb7, XRb8: merged by tools/merge.py. -/
import Derived.Test.YtmgljaecmchgaaaGreatQ28
import Derived.Test.YtmgljaecmchgaaaGreatQ23
import Derived.Test.YtmgljaecmchgaaaGreatQ12
set_option linter.unusedVariables false
set_option linter.unusedSimpArgs false
set_option linter.unusedSectionVars false
namespace Go.Proofs.YtmgljaecmchgaaaGreat.Gf
open Go.RowKit Go.Proofs
theorem atT_i {w:World} {B B' n c ct i:Nat} {At A:Option Addr} {p:List E} (hT:Tbl w B At) (hp:Rd w B' 1 A n (cE p)) (hn:n<=65536) (hi:i<256) {px:E} (h:ev p (ptE i)=px):Calls Tryz.prog 74 #[.slice At 256 ct,.slice A n c,.int .u8 (i:Int)] w fun e w'=>e = .returned (.int .u8 ((unE px).toNat:Int))/\w=w':=by
 subst h
 rw[<-ptE_nat hi]
 exact atT_any hT hp hn (ptE i)
theorem kept_ne {w w':World} {b1 b2 s1 s2 n1 n2:Nat} {e1 e2:TypeId} {v1 v2:Value} {x1 x2:List Value} (h1:w.ownsRow b1 e1 s1 v1 n1 x1) (h2:w.ownsRow b2 e2 s2 v2 n2 x2) (he:e1≠e2) (hg:w.grownBy w' v2.ownBlock):w'.ownsRow b1 e1 s1 v1 n1 x1:=by
 refine h1.kept hg ?_
 cases h:v1.ownBlock with
 | none=>exact .inl rfl
 | some g=>exact .inr (by rw[<-h];exact rows_ne h1 h2 he h)
def wrB (L:List Bool) (W p:List E) (i:Nat):List Nat:=(thB L i).filter fun j=>decide (ev p (ptE j)≠co W j)
theorem wrB_true {L:List Bool} {W p:List E} {i:Nat} (h:L.getD i false=true):wrB L W p (i+1)=wrB L W p i:=by
 unfold wrB;rw[thB_succ,h,if_pos rfl]
theorem wrB_same {L:List Bool} {W p:List E} {i:Nat} (h:L.getD i false=false) (h2:ev p (ptE i)=co W i):wrB L W p (i+1)=wrB L W p i:=by
 unfold wrB;rw[thB_succ,h,if_neg (by simp),List.filter_append];simp[h2]
theorem wrB_new {L:List Bool} {W p:List E} {i:Nat} (h:L.getD i false=false) (h2:ev p (ptE i)≠co W i):wrB L W p (i+1)=wrB L W p i++[i]:=by
 unfold wrB;rw[thB_succ,h,if_neg (by simp),List.filter_append];simp[h2]
theorem wrB_le (L:List Bool) (W p:List E) (i:Nat):(wrB L W p i).length<=i:=Nat.le_trans (List.length_filter_le _ _) (thB_le L i)
theorem wrB_all (L:List Bool) (W p:List E) (n:Nat):wrB L W p n=missAt (thB L n) (fun i=>unE (co W i)) p:=by
 unfold wrB missAt
 rfl
structure ColD (w w':World) (n k:Nat) (AL:List Nat) (word:Nat->UInt8) (x:Ending):Prop where
 out:∃ (A B:Option Addr) (m c m2 c2:Nat) (e:Int),x = .returned (.tuple #[.slice A m c,.slice B m2 c2,.int .i64 e])/\((e=50/\colR k AL word=none)\/(e=0/\∃ (l:List E) (ws:List Nat),colR k AL word=some ws/\m=n/\m2=ws.length/\w'.ownsRow w.heap.size Dr.tU8 1 (.slice A n c) n (cE l)/\w'.ownsRow w.heap.size tInt 1 (.slice B ws.length c2) ws.length (cN ws)))
 back:Below w.heap.size w w'
set_option maxRecDepth 100000 in
set_option maxHeartbeats 16000000 in
theorem columnT_any {w:World} {B n k c2 c3 ct:Nat} {At A2 A3:Option Addr} {W:List E} {L:List Bool} (hT:Tbl w B At) (hW:Rd w B 1 A2 n (cE W)) (hL:Rd w B 1 A3 n (Dr.cBool L)) (hB:B<=w.heap.size) (hn:n<=255) (hk1:1<=k) (hk:k<=(thB L n).length) :
  Calls Tryz.prog 32 #[.slice At 256 ct,.int .i64 (k:Int),.slice A2 n c2,.slice A3 n c3] w fun x w'=>ColD w w' n k (thB L n) (fun i=>unE (co W i)) x:=by
 obtain⟨i0,hi0,hz0,hz1,hz2⟩:=info_parts Dr.infoU8
 obtain⟨j0,hj0,hy0,hy1,hy2⟩:=info_parts infoInt
 have HT:=Hd hT
 have HW:=Hd hW
 have HL:=Hd hL
 have HK:=Hd hk
 have hkn:k<=n:=Nat.le_trans hk (thB_le L n)
 clear hT hW hL hk
 go_enter Tryz.func32,Tryz.ntmps32
 go_upto_region 2 with (go_at_call 73;refine (nearT_any HT.out HW.out HL.out hB hn hk1 HK.out).mono ?_;rintro x w1 ⟨pv,b,rfl,b1,ht,hf⟩;have HB1:=Hd b1;have HT1:=Hd ht;have HF:=Hd hf;clear b1 ht hf)
 cases b with
 | false=>
  have HNO:=Hd (show colR k (thB L n) (fun i=>unE (co W i))=none from colR_none (HF.out rfl))
  clear HF HT1
  go_wp2
  refine bodyPost_ret (v:=.tuple #[.slice none 0 0,.slice none 0 0,.int .i64 50]) (by simp[results,Tryz.results32,go_sem]) rfl ?_
  exact⟨⟨_,_,_,_,_,_,_,rfl,.inl ⟨rfl,HNO.out⟩⟩,HB1.out⟩
 | true=>
  obtain⟨p,hpv,hnear⟩:=HT1.out rfl
  obtain⟨Ap,cp,rfl,rp,qp,zp⟩:=hpv.form
  have hpk:=hnear.1
  have hcol:colR k (thB L n) (fun i=>unE (co W i))=some (missAt (thB L n) (fun i=>unE (co W i)) p):=
   colR_some (thB_nodup L n) (fun i hi=>by have:=thB_lt hi;omega) HK.out hnear
  obtain⟨V,hV⟩:∃ V,w1.heap.size=V:=⟨_,rfl⟩
  obtain⟨m,hm⟩:∃ m,p.length=m:=⟨_,rfl⟩
  rw[hm] at hpk qp rp
  rw[hm]
  rw[hV] at rp
  have HRP:=Hd rp
  have HCOL:=Hd hcol
  have HV:=Hd hV
  have HSV:=Hd (show w.heap.size<=V by have:=HB1.out.size;omega)
  clear hpv hnear rp hcol hm HT1 HF hV zp
  go_wp2
  go_loopw [13,14,15] (fun vv wv iv wr=>∃ i:Nat,iv = .int .i64 (i:Int)/\i<=n/\(∃ l:List E,wr.ownsRow V Dr.tU8 1 vv i (cE l))/\wr.ownsRow V tInt 1 wv (wrB L W p i).length (cN (wrB L W p i))/\Below V w1 wr) (fun _ _ iv _=>n - (intOf iv).toNat)
  case atStart=>exact⟨0,rfl,Nat.zero_le _,⟨[],World.ownsRow_nil _ _ _ _⟩,World.ownsRow_nil _ _ _ _,Below.refl _ _⟩
  case round=>
   obtain⟨i,rfl,hi,⟨l,hvv⟩,hwv,hb⟩:=hrel
   obtain⟨Av,cv,rfl,hcv,_⟩:=own_form hvv
   obtain⟨Aw,cw,rfl,hcw,_⟩:=own_form hwv
   have hVs:V<=wr.heap.size:=by have:=hb.size;have:=HV.out;omega
   by_cases hin:i<n
   ·have hin2:(i:Int)<(n:Int):=by omega
    have hi00:(0:Int)<=(i:Int):=by omega
    have hw8:=wrap8i (i:=i) (by omega)
    have hwle:=wrB_le L W p i
    have hbw:Below w.heap.size w wr:=HB1.out.trans (hb.mono HSV.out)
    obtain⟨px,hpx⟩:∃ px,ev p (ptE i)=px:=⟨_,rfl⟩
    obtain⟨y,hy⟩:∃ y,co W i=y:=⟨_,rfl⟩
    have hlit:=run_litV wr 79 Dr.tU8 (.int .u8 0) (.int .u8 ((unE px).toNat:Int)) 1 Tryz.underlying79 Dr.infoU8 rfl
    have hlit2:=fun W'=>run_litV W' 30 tInt (.int .i64 0) (.int .i64 (i:Int)) 8 Tryz.underlying30 infoInt rfl
    obtain⟨w2,hw2⟩:∃ w2,wr.alloc (.cells #[.int .u8 ((unE px).toNat:Int)] Dr.tU8)=w2:=⟨_,rfl⟩
    have hv2:w2.ownsRow V Dr.tU8 1 (.slice Av i cv) i (cE l):=by rw[<-hw2];exact Dr.own_alloc hvv _
    have hwv2:w2.ownsRow V tInt 1 (.slice Aw (wrB L W p i).length cw) (wrB L W p i).length (cN (wrB L W p i)):=by rw[<-hw2];exact Dr.own_alloc hwv _
    have hb2:Below V w1 w2:=by rw[<-hw2];exact hb.alloc hVs _
    have hs2:V<=w2.heap.size:=by rw[<-hw2];simp;omega
    have HV2:=Hd hv2
    have HWV2:=Hd hwv2
    have HB2:=Hd hb2
    have HN2:=Hd (show Rd w2 w2.heap.size 1 (some ⟨wr.heap.size,0,none⟩) 1 [.int .u8 ((unE px).toNat:Int)] by rw[<-hw2];exact rd_new wr _ _)
    have HS2:=Hd hs2
    have HTX:=Hd (HT.out.below (hbw.mono hB))
    have HPX:=Hd (HRP.out.below hb)
    have HEX:=Hd hpx
    have HYX:=Hd hy
    obtain⟨a3,hA3,ha3,e3⟩:=rd_bool HL.out hin
    subst hA3
    obtain⟨a2,hA2,ha2,e2⟩:=rd_at HW.out hin
    subst hA2
    rw[hy] at e2
    obtain⟨bb,hbb⟩:∃ bb,L.getD i false=bb:=⟨_,rfl⟩
    rw[hbb] at e3
    have hold:∀ w':World,w2.grownBy w' (Value.slice Av i cv).ownBlock->Below V w1 w':=fun w' hg=>HB2.out.grown hg HS2.out (fun j hj=>Dr.own_ge HV2.out hj)
    have hce:∀ w':World,Below V w1 w'->w'.cell? (a3.add i)=some (.bool bb)/\w'.cell? (a2.add i)=some (.int .u8 ((unE y).toNat:Int)):=fun w' h=>by
     have h1:Below w.heap.size w w':=HB1.out.trans (h.mono HSV.out)
     exact⟨(h1.cell (by rw[add_block];omega)).trans e3,(h1.cell (by rw[add_block];omega)).trans e2⟩
    have HOLD:=Hd hold
    have HCE:=Hd hce
    have HBB:=Hd hbb
    have HPK:=Hd hpk
    have T1:=Hd True.intro
    clear hvv hwv hb hbw hpx hy hv2 hwv2 hb2 hs2 hold hce e3 e2 hbb
    go_upto_region 11 with (first
     | (go_at_call 74;refine (atT_i HTX.out HPX.out (by have:=HPK.out;omega) (by omega) HEX.out).mono ?_;rintro e w5 ⟨rfl,rfl⟩)
     | (have t1:=T1.out;at_builtin;go_loud (refine wpList_append_rd _ rfl (.tmp 38) (.tmp 40) 79 rfl V Dr.tU8 i0 (.int .u8 0) 1 1 Tryz.underlying79 hi0 hz0 hz1 hz2 rfl (by decide) (.slice Av i cv) i (cE l) rfl HV2.out _ (some ⟨wr.heap.size,0,none⟩) 1 1 [.int .u8 ((unE px).toNat:Int)] rfl HN2.out (fun h=>by cases h) (by simp[Value.oneCell']) (by unfold maxLen;omega) (by omega) (HS2.out) ?_);intro v3 w3 hrow hg;have HROW:=Hd hrow;have HB3:=Hd (HOLD.out w3 hg);have HWV3:=Hd (kept_ne HWV2.out HV2.out (by decide) hg);clear hrow hg T1 t1))
    obtain⟨e3,e2⟩:=HCE.out w3 HB3.out
    have hcl:cE l++[Value.int .u8 ((unE px).toNat:Int)]=cE (l++[px]):=(cE_snoc l px).symm
    rw[hcl] at HROW
    obtain⟨Av3,cv3,rfl,hcv3,_⟩:=own_form HROW.out
    cases bb with
    | true=>
     have HEND:=Hd (wrB_true (W:=W) (p:=p) HBB.out)
     clear HOLD HCE hcl
     go_wp2
     go_roundw
     case rel=>exact⟨i+1,by go_num,by omega,⟨_,HROW.out⟩,by rw[HEND.out];exact HWV3.out,HB3.out⟩
     case measure=>simp[intOf];omega
    | false=>
     by_cases hxy:px=y
     ·have HEND:=Hd (wrB_same (W:=W) (p:=p) HBB.out (by rw[HEX.out,HYX.out,hxy]))
      subst hxy
      clear HOLD HCE hcl
      go_wp2
      go_roundw
      case rel=>exact⟨i+1,by go_num,by omega,⟨_,HROW.out⟩,by rw[HEND.out];exact HWV3.out,HB3.out⟩
      case measure=>simp[intOf];omega
     ·have HEND:=Hd (wrB_new (W:=W) (p:=p) HBB.out (by rw[HEX.out,HYX.out];exact hxy))
      obtain⟨n1,n2,n3⟩:=neE hxy
      have HS3:=Hd (show V<=w3.heap.size by have:=HB3.out.size;have:=HV.out;omega)
      have HWV4:=Hd (Dr.own_alloc HWV3.out (.cells #[.int .i64 (i:Int)] tInt))
      have HRW4:=Hd (Dr.own_alloc HROW.out (.cells #[.int .i64 (i:Int)] tInt))
      have HB4:=Hd (HB3.out.alloc HS3.out (.cells #[.int .i64 (i:Int)] tInt))
      have HRD4:=Hd (rd_new w3 (.int .i64 (i:Int)) tInt)
      obtain⟨q,hq⟩:∃ q,(wrB L W p i).length=q:=⟨_,rfl⟩
      rw[hq] at hwle HWV4 hcw ⊢
      have HQ:=Hd hq
      clear HOLD HCE hcl hq
      go_wp2_with (at_builtin;go_loud (refine wpList_append_rd _ rfl (.tmp 55) (.tmp 57) 30 rfl V tInt j0 (.int .i64 0) 1 8 Tryz.underlying30 hj0 hy0 hy1 hy2 rfl (by decide) (.slice Aw q cw) q (cN (wrB L W p i)) rfl HWV4.out _ (some ⟨w3.heap.size,0,none⟩) 1 1 [.int .i64 (i:Int)] rfl HRD4.out (fun h=>by cases h) (by simp[Value.oneCell']) (by unfold maxLen;omega) (by omega) (by simp;have:=HS3.out;omega) ?_);intro v5 w5 hrow hg;have HW5:=Hd hrow;have HR5:=Hd (kept_ne HRW4.out HWV4.out (by decide) hg);have HB5:=Hd (HB4.out.grown hg (by simp;have:=HS3.out;omega) (fun j hj=>Dr.own_ge HWV4.out hj));clear hrow hg)
      have hlen:(wrB L W p (i+1)).length=q+1:=by rw[HEND.out,List.length_append,HQ.out];rfl
      have hcn:cN (wrB L W p (i+1))=cN (wrB L W p i)++[.int .i64 (i:Int)]:=by rw[HEND.out];unfold cN;rw[List.map_append];rfl
      obtain⟨A5,c5,rfl,_,_⟩:=own_form HW5.out
      go_roundw
      case rel=>exact⟨i+1,by go_num,by omega,⟨_,HR5.out⟩,by rw[hlen,hcn];exact HW5.out,HB5.out⟩
      case measure=>simp[intOf];omega
   ·obtain rfl:i=n:=by omega
    have HVV:=Hd hvv
    have HBX:=Hd (bch HB1.out (by rw[HV.out];exact hb))
    have hwv2:=hwv
    rw[wrB_all] at hwv2
    obtain⟨ws,hws⟩:∃ ws,wrB L W p i=ws:=⟨_,rfl⟩
    have HC2:=Hd (show colR k (thB L i) (fun i=>unE (co W i))=some ws by rw[HCOL.out,<-wrB_all,hws])
    rw[hws] at hwv ⊢
    have HWV:=Hd hwv
    clear hwv hwv2 hvv hb hws
    go_wp2
    refine bodyPost_ret (v:=.tuple #[.slice Av i cv,.slice Aw ws.length cw,.int .i64 0]) (by simp[results,Tryz.results32,go_sem]) rfl ?_
    exact⟨⟨_,_,_,_,_,_,_,rfl,.inr ⟨rfl,l,ws,HC2.out,rfl,rfl,own_base HVV.out HSV.out,own_base HWV.out HSV.out⟩⟩,HBX.out⟩
end Go.Proofs.YtmgljaecmchgaaaGreat.Gf
namespace Go.Proofs.YtmgljaecmchgaaaGreat.Gf
open Go.RowKit Go.Proofs
structure DocM (ws W:World) (base O Mb n:Nat) (v:Nat->Value) (ln:Nat->Nat) (f:Nat->Bool):Prop where
 below:Below base ws W
 out:W.ownsRow base tRs 1 (slE O n) n (fromV n v)
 rows:∀ x,x<n->∃ l,W.ownsRow base Dr.tU8 1 (v x) (ln x) (cE l)
 met:W.ownsRow base tBool 1 (slE Mb n) n (fromV n fun i=>.bool (f i))
 dis:∀ x y,x<n->y<n->x≠y->∀ b,(v x).ownBlock=some b->(v y).ownBlock≠some b
theorem block_ne {w:World} {b1 b2 s1 s2 n1 n2:Nat} {e1 e2:TypeId} {v1 v2:Value} {x1 x2:List Value} (h1:w.ownsRow b1 e1 s1 v1 n1 x1) (h2:w.ownsRow b2 e2 s2 v2 n2 x2) (he:e1≠e2) {g:Nat} (hg:v2.ownBlock=some g):v1.ownBlock≠some g:=
 fun h=>rows_ne h1 h2 he h (by rw[h,hg])
section
variable {ws W W':World} {base O Mb n:Nat} {v:Nat->Value} {ln:Nat->Nat} {f:Nat->Bool}
theorem DocM.next (h:DocM ws W base O Mb n v ln f) (hb:Below W.heap.size W W') (hs:base<=W.heap.size):DocM ws W' base O Mb n v ln f:=
 ⟨h.below.trans (hb.mono hs),own_below h.out hb,fun x hx=>by obtain⟨l,hl⟩:=h.rows x hx;exact⟨l,own_below hl hb⟩,own_below h.met hb,h.dis⟩
theorem DocM.cell (h:DocM ws W base O Mb n v ln f) {x:Nat} (hx:x<n):W.cell? ⟨O,x,none⟩=some (v x):=ow_cell h.out hx (fromV_get hx)
theorem DocM.metCell (h:DocM ws W base O Mb n v ln f) {x:Nat} (hx:x<n):W.cell? ⟨Mb,x,none⟩=some (.bool (f x)):=ow_cell h.met hx (fromV_get hx)
theorem DocM.congr {g:Nat->Bool} {ln':Nat->Nat} (h:DocM ws W base O Mb n v ln f) (hl:∀ i,i<n->ln i=ln' i) (hg:∀ i,i<n->f i=g i):DocM ws W base O Mb n v ln' g:=by
 refine⟨h.below,h.out,fun x hx=>by rw[<-hl x hx];exact h.rows x hx,?_,h.dis⟩
 have e:fromV n (fun i=>Value.bool (f i))=fromV n fun i=>.bool (g i):=fromV_congr fun i hi=>by rw[hg i hi]
 rw[<-e];exact h.met
theorem DocM.setMet (h:DocM ws W base O Mb n v ln f) (i:Nat) (b:Bool):DocM ws (W.setCell ⟨Mb,i,none⟩ (.bool b)) base O Mb n v ln (fun j=>if j=i then b else f j):=by
 refine⟨h.below.setCell (p:=⟨Mb,i,none⟩) (ow_lt h.met).1 _,row_other h.out (block_ne h.out h.met (by decide) rfl),fun x hx=>?_,?_,h.dis⟩
 ·obtain⟨l,hl⟩:=h.rows x hx
  exact⟨l,row_other hl (block_ne hl h.met (by decide) rfl)⟩
 ·have h1:=ow_store (i:=i) h.met (.bool b)
  rw[fromV_set] at h1
  have e:fromV n (fun j=>if j=i then Value.bool b else .bool (f j))=fromV n (fun j=>.bool (if j=i then b else f j)):=fromV_congr fun j _=>by split<;>rfl
  rw[e] at h1
  exact h1
theorem DocM.push (h:DocM ws W base O Mb n v ln f) (hs:base<=W.heap.size) {x:Nat} (hx:x<n) {g cap:Nat} {l:List E}
  (hg:W'.ownsRow base Dr.tU8 1 (.slice (some ⟨g,0,none⟩) (ln x+1) cap) (ln x+1) (cE l)) (hgr:W.grownBy W' (v x).ownBlock) (hor:(v x).ownBlock=some g\/g=W.heap.size)
  (hkeep:∀ b2 v2 n2 xs2,W.ownsRow b2 Dr.tU8 1 v2 n2 xs2->(v2.ownBlock=(v x).ownBlock->n2<=ln x)->W'.ownsRow b2 Dr.tU8 1 v2 n2 xs2) :
  DocM ws (W'.setCell ⟨O,x,none⟩ (.slice (some ⟨g,0,none⟩) (ln x+1) cap)) base O Mb n (fun y=>if y=x then .slice (some ⟨g,0,none⟩) (ln x+1) cap else v y) (fun y=>if y=x then ln x+1 else ln y) f:=by
 obtain⟨lx,hlx⟩:=h.rows x hx
 have ho:=kept_ne h.out hlx (by decide) hgr
 have hm:=kept_ne h.met hlx (by decide) hgr
 have hb:Below base ws W':=h.below.grown hgr hs (fun j hj=>Dr.own_ge hlx hj)
 have hgb:base<=g:=by
  rcases hor with h1 | h1
  ·exact Dr.own_ge hlx h1
  ·omega
 have hlt:∀ y,y<n->∀ b,(v y).ownBlock=some b->b<W.heap.size:=fun y hy b hb=>by
  obtain⟨l,hl⟩:=h.rows y hy
  obtain⟨cur,hc⟩:=Dr.own_lt hl hb
  exact (Array.getElem?_eq_some_iff.1 hc).1
 have hng:∀ y,y<n->y≠x->(v y).ownBlock≠some g:=fun y hy hyx e=>by
  rcases hor with h1 | h1
  ·exact h.dis x y hx hy (Ne.symm hyx) g h1 e
  ·have:=hlt y hy g e;omega
 refine⟨hb.setCell (p:=⟨O,x,none⟩) (ow_lt h.out).1 _,?_,fun y hy=>?_,row_other hm (block_ne hm ho (by decide) rfl),fun y z hy hz hyz b hyb hzb=>?_⟩
 ·have h1:=ow_store (i:=x) ho (.slice (some ⟨g,0,none⟩) (ln x+1) cap)
  rw[fromV_set] at h1
  exact h1
 ·by_cases e:y=x
  ·rw[if_pos e,if_pos e]
   exact⟨l,row_other hg (block_ne hg ho (by decide) rfl)⟩
  ·rw[if_neg e,if_neg e]
   obtain⟨ly,hly⟩:=h.rows y hy
   have h2:=hkeep _ _ _ _ hly (fun e2=>by
    cases h3:(v y).ownBlock with
    | none=>
     rcases hly.2 with ⟨_,h4⟩ | ⟨g',c',cu,h4,_⟩
     ·omega
     ·rw[h4] at h3;cases h3
    | some b=>exact absurd (e2▸h3) (h.dis y x hy hx e b h3))
   exact⟨ly,row_other h2 (block_ne h2 ho (by decide) rfl)⟩
 ·skip
  by_cases e:y=x
  ·rw[if_pos e] at hyb
   rw[if_neg (by omega)] at hzb
   have hbg:g=b:=by simpa [Value.ownBlock] using hyb
   subst hbg
   exact hng z hz (by omega) hzb
  ·rw[if_neg e] at hyb
   by_cases e2:z=x
   ·rw[if_pos e2] at hzb
    have hbg:g=b:=by simpa [Value.ownBlock] using hzb
    subst hbg
    exact hng y hy e hyb
   ·rw[if_neg e2] at hzb
    exact h.dis y z hy hz hyz b hyb hzb
theorem DocM.push' (h:DocM ws W base O Mb n v ln f) (hs:base<=W.heap.size) {x:Nat} (hx:x<n) {g cap c:Nat} {l:List E} {vx:Value} (hc:ln x=c) (hv:v x=vx)
  (hg:W'.ownsRow base Dr.tU8 1 (.slice (some ⟨g,0,none⟩) (c+1) cap) (c+1) (cE l)) (hgr:W.grownBy W' vx.ownBlock) (hor:vx.ownBlock=some g\/g=W.heap.size)
  (hkeep:∀ b2 v2 n2 xs2,W.ownsRow b2 Dr.tU8 1 v2 n2 xs2->(v2.ownBlock=vx.ownBlock->n2<=c)->W'.ownsRow b2 Dr.tU8 1 v2 n2 xs2) :
  DocM ws (W'.setCell ⟨O,x,none⟩ (.slice (some ⟨g,0,none⟩) (c+1) cap)) base O Mb n (fun y=>if y=x then .slice (some ⟨g,0,none⟩) (c+1) cap else v y) (fun y=>if y=x then c+1 else ln y) f:=by
 subst hc
 subst hv
 exact h.push hs hx hg hgr hor hkeep
end
end Go.Proofs.YtmgljaecmchgaaaGreat.Gf
