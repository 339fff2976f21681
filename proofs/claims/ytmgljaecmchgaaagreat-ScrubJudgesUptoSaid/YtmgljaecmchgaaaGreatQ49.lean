/- XKe3, XSd2: merged by tools/merge.py. -/
import Derived.Test.YtmgljaecmchgaaaGreatQ47
import Derived.Test.YtmgljaecmchgaaaGreatQ48
import Derived.Test.YtmgljaecmchgaaaGreatQ34
import Derived.Test.YtmgljaecmchgaaaGreatQ22
set_option linter.unusedVariables false
set_option linter.unusedSimpArgs false
set_option linter.unusedSectionVars false
namespace Go.Proofs.YtmgljaecmchgaaaGreat.Gf
open Go.RowKit Go.Proofs
theorem own_rd {w:World} {base g n c:Nat} {e:TypeId} {xs:List Value} (h:w.ownsRow base e 1 (.slice (some ⟨g,0,none⟩) n c) n xs) {q:Nat} {ys:List Value} (hq:q<=n) (hy:ys=xs.take q):Rd w w.heap.size 1 (some ⟨g,0,none⟩) q ys:=by
 subst hy
 exact ow_rd h hq
section
variable {W:World} {base gb cb:Nat} {R:List (List UInt8)}
theorem EntM.rows (h:EntM W base R gb cb):RowsRd W W.heap.size (some ⟨gb,0,none⟩) R.length R:=by
 obtain⟨gs,cs,ge,ce,h1,h2,h3⟩:=h.row
 refine⟨rfl,fromV R.length fun x=>.slice (some ⟨gs x,0,none⟩) (R.getD x []).length (cs x),own_rd h1 (Nat.le_succ _) ?_,fun i r hr=>?_⟩
 ·rw[List.take_left' (fromV_len _ _)]
 ·have hi:i<R.length:=(List.getElem?_eq_some_iff.1 hr).1
  have hd:R.getD i []=r:=by rw[List.getD_eq_getElem?_getD,hr];rfl
  refine⟨some ⟨gs i,0,none⟩,cs i,by rw[fromV_get hi,hd],?_⟩
  have h4:=h2 i hi
  rw[hd] at h4
  refine own_rd h4 (Nat.le_add_right _ _) ?_
  rw[cU8,cU8,List.map_append,List.take_left' (by simp)]
end
theorem LentRow.range {w:World} {base g c n i:Nat} {gbs cbs:Nat->Nat} {L:List Sn} {tl:List Value} (h:w.ownsRow base tSeen 19 (.slice (some ⟨g,0,none⟩) (n+2) c) (n+2) (((List.range n).flatMap fun x=>snC (L.getD x default) (.slice (some ⟨gbs x,0,none⟩) (L.getD x default).blocks.length (cbs x)))++tl)) (hi:i<n) :
  w.rangeAt g (i*19) (snC (L.getD i default) (.slice (some ⟨gbs i,0,none⟩) (L.getD i default).blocks.length (cbs i))):=fun j u hu=>by
 have hj:j<19:=(List.getElem?_eq_some_iff.1 hu).1
 have h1:=h.cells (g:=g) rfl (i*19+j) u (by
  rw[List.getElem?_append_left (by rw[flat_len (k:=19) (fun _=>rfl)];omega),flat_get (k:=19) (fun _=>rfl) hi hj]
  exact hu)
 rw[Addr.add_mid,Nat.zero_add] at h1
 exact h1
theorem LentRow.mark {w:World} {base g c n:Nat} {gbs cbs:Nat->Nat} {L:List Sn} {tl:List Value} (h:w.ownsRow base tSeen 19 (.slice (some ⟨g,0,none⟩) (n+2) c) (n+2) (((List.range n).flatMap fun x=>snC (L.getD x default) (.slice (some ⟨gbs x,0,none⟩) (L.getD x default).blocks.length (cbs x)))++tl)) {j:Nat} {u:Value} (hu:tl[j]?=some u) :
  w.cell? ⟨g,n*19+j,none⟩=some u:=by
 have h1:=h.cells (g:=g) rfl (n*19+j) u (by
  rw[List.getElem?_append_right (by rw[flat_len (k:=19) (fun _=>rfl)];omega),flat_len (k:=19) (fun _=>rfl)]
  rw[show n*19+j - n*19=j by omega]
  exact hu)
 rw[Addr.add_mid,Nat.zero_add] at h1
 exact h1
set_option maxRecDepth 100000 in
set_option maxHeartbeats 16000000 in
theorem kept_lent {w:World} {B n c c0 g base:Nat} {A:Option Addr} {gbs cbs:Nat->Nat} {L:List Sn} (hL:SnsRd w B A n L) (hB:B<=w.heap.size) (hn:n<=1048576) (hbn:∀ s∈L,s.blocks.length<=1048576) (hlen:∀ s∈L,∀ b∈s.blocks,b.length<=1048576)
  (hrow:w.ownsRow base tSeen 19 (.slice (some ⟨g,0,none⟩) (n+2) c) (n+2) (((List.range n).flatMap fun x=>snC (L.getD x default) (.slice (some ⟨gbs x,0,none⟩) (L.getD x default).blocks.length (cbs x)))++([.int .i64 77,.int .u8 0,.int .u8 0,.int .u8 0,.int .u8 0,.int .u8 0,.int .u8 0,.int .u8 0,.int .u8 0,.int .i64 0,.int .i64 0,.int .i64 0,.string ⟨#[]⟩,.int .i64 0,.int .i64 0,.int .i64 0,.int .i64 0,.slice none 0 0,.int .i64 0]++[.int .i64 78,.int .u8 0,.int .u8 0,.int .u8 0,.int .u8 0,.int .u8 0,.int .u8 0,.int .u8 0,.int .u8 0,.int .i64 0,.int .i64 0,.int .i64 0,.string ⟨#[]⟩,.int .i64 0,.int .i64 0,.int .i64 0,.int .i64 0,.slice none 0 0,.int .i64 0])))
  (heach:∀ x,x<n->EntM w base (L.getD x default).blocks (gbs x) (cbs x)) :
  Calls Tryz.prog 9 #[.slice (some ⟨g,0,none⟩) n c,.slice A n c0] w fun x w'=>ShowOk w w' true x:=by
 have hgl:g<w.heap.size:=by
  obtain⟨cur,hc⟩:=Dr.own_lt hrow (g:=g) rfl
  exact (Array.getElem?_eq_some_iff.1 hc).1
 have hc2:n+2<=c:=by
  obtain⟨_,_,e,h,_⟩:=own_form hrow
  injection e with _ _ e
  omega
 have m77:w.cell? ⟨g,n*19,none⟩=some (.int .i64 77):=LentRow.mark hrow (j:=0) rfl
 have m78:w.cell? ⟨g,n*19+19,none⟩=some (.int .i64 78):=LentRow.mark hrow (j:=19) rfl
 have HRNG:=Hd (fun i (hi:i<n)=>LentRow.range hrow hi)
 have HE:=Hd heach
 have HLL:=Hd hL.len
 have HIN:=Hd hL
 have HBN:=Hd hbn
 have HLEN:=Hd hlen
 have HM7:=Hd m77
 have HM8:=Hd m78
 have HBB:=Hd (Below.refl w.heap.size w)
 clear hL hbn hlen hrow heach m77 m78
 go_enter Tryz.func9,Tryz.ntmps9
 go_wp2
 go_loopw [5] (fun iv wr=>∃ i:Nat,iv = .int .i64 (i:Int)/\i<=n/\Below w.heap.size w wr) (fun iv _=>n - (intOf iv).toNat)
 case atStart=>exact⟨0,rfl,Nat.zero_le _,HBB.out⟩
 case round=>
  obtain⟨i,rfl,hi,hb⟩:=hrel
  have hwr:w.heap.size<=wr.heap.size:=hb.size
  by_cases hin:i<n
  ·have hin2:(i:Int)<(n:Int):=by omega
   have hinc:(i:Int)<(c:Int):=by omega
   have hi00:(0:Int)<=(i:Int):=by omega
   obtain⟨s,hs⟩:∃ s,L[i]?=some s:=⟨_,List.getElem?_eq_getElem (by rw[HLL.out];exact hin)⟩
   have hsd:L.getD i default=s:=by rw[List.getD_eq_getElem?_getD,hs];rfl
   have hsm:=List.mem_of_getElem? hs
   obtain⟨g',oo,Ab,cb0,hA,hgB,hrg,hrows⟩:=HIN.out.at_ i s hs
   subst hA
   have hlr:=HRNG.out i hin
   have hent:=HE.out i hin
   rw[hsd] at hlr hent
   obtain⟨gb,hgb⟩:∃ gb,gbs i=gb:=⟨_,rfl⟩
   obtain⟨cb,hcb⟩:∃ cb,cbs i=cb:=⟨_,rfl⟩
   rw[hgb,hcb] at hlr hent
   obtain⟨len,hlen⟩:∃ len,s.blocks.length=len:=⟨_,rfl⟩
   have hlen40:len<=1048576:=by rw[<-hlen];exact HBN.out s hsm
   have hrl:=hent.rows
   rw[hlen] at hlr hrg hrows hrl
   obtain⟨C,hC⟩:∃ C,snC s (.slice (some ⟨gb,0,none⟩) len cb)=C:=⟨_,rfl⟩
   obtain⟨D,hD⟩:∃ D,snC s (.slice Ab len cb0)=D:=⟨_,rfl⟩
   have hCi:(Tryz.prog.info? tSeen).map (fun i=>i.size)=some C.length:=by rw[<-hC];exact snC_size
   have hDi:(Tryz.prog.info? tSeen).map (fun i=>i.size)=some D.length:=by rw[<-hD];exact snC_size
   have hgw:g'<w.heap.size:=by omega
   have hsx:wr.rangeAt g (i*19) C/\wr.rangeAt g' (oo+i*19) D:=⟨by rw[<-hC];exact range_below hlr hgl hb,by rw[<-hD];exact range_below hrg hgw hb⟩
   have HAL:=Hd (alike_any (w:=World.drew wr) (s:=s) (ca:=cb) (cb:=cb0) ((hrl.below (hb.trans ⟨rfl,rfl,rfl,Nat.le_refl _,fun _ _=>rfl⟩))) ((hrows.more hB).below (hb.trans ⟨rfl,rfl,rfl,Nat.le_refl _,fun _ _=>rfl⟩)) hwr (by omega))
   rw[hC,hD] at HAL
   have HSX:=Hd hsx
   have HC:=Hd hC
   have HD:=Hd hD
   have HCI:=Hd hCi
   have HDI:=Hd hDi
   have HWB:=Hd hb
   have HLR:=Hd hlr
   have HRG:=Hd hrg
   have HENT:=Hd hent
   have HROWS:=Hd hrows
   have HLN:=Hd hlen
   have HBL:=Hd (HLEN.out s hsm)
   clear hb hlr hent hrl hrg hrows hC hD hCi hDi hsx hs hsm hsd hgb hcb hlen
   go_upto_region 6 with (fail)
   refine wp_region_any (by kernel_rfl) ?_
   change wpAny _ _ _ _ _ _ _ (World.drew _)
   refine wpAny_of_P (S:=fun wx=>wx.rangeAt g (i*19) C/\wx.rangeAt g' (oo+i*19) D) (late:=[9]) _ _ _ _ ?_
   refine tT 0 HSX.out ?_
   try go_frame
   refine tT 1 HSX.out ?_
   try go_frame
   refine tT 2 HSX.out ?_
   try go_frame
   refine tP 8 3 rfl HSX.out (fun w hw=>by obtain⟨k1,_⟩:=hw;refine Eq.trans (exec_load_mid tSeen (.tmp 26) (by rfl) g (i*19) (by rfl) C _ k1 Tryz.underlying72 rfl HCI.out) ?_;with_reducible rfl) ?_
   try go_frame
   refine tT 4 HSX.out ?_
   try go_frame
   refine tT 5 HSX.out ?_
   try go_frame
   refine tT 6 HSX.out ?_
   try go_frame
   refine tP 8 7 rfl HSX.out (fun w hw=>by obtain⟨_,k2⟩:=hw;refine Eq.trans (exec_load_mid tSeen (.tmp 30) (by rfl) g' (oo+i*19) (by rfl) D _ k2 Tryz.underlying72 rfl HDI.out) ?_;with_reducible rfl) ?_
   try go_frame
   refine fP 8 fun K hK=>?_
   go_simp
   refine HAL.out.mono ?_;rintro x w5 ⟨rfl,hb5⟩;have HB5:=Hd (show Below wr.heap.size wr w5 from⟨hb5.os,hb5.tape,hb5.output,hb5.size,hb5.block⟩);have hs5:w5.rangeAt g (i*19) C/\w5.rangeAt g' (oo+i*19) D:=⟨range_below HSX.out.1 (by omega) HB5.out,range_below HSX.out.2 (by omega) HB5.out⟩;have HS5:=Hd hs5;clear hb5 hs5
   refine hK _ _ (HS5.out) ?_;clear hK K
   try go_frame
   refine lP 9 fun K hK=>?_
   go_simp
   refine hK _ _ ?_;clear hK K
   try go_frame
   refine wpAny_done (by kernel_rfl) ?_ _
   have hb5:Below w.heap.size w w5:=HWB.out.trans (HB5.out.mono hwr)
   have hw5:w.heap.size<=w5.heap.size:=hb5.size
   have l17:w5.cell? ⟨g,i*19+17,none⟩=some (.slice (some ⟨gb,0,none⟩) len cb):=(hb5.cell (p:=⟨g,i*19+17,none⟩) hgl).trans (HLR.out 17 _ rfl)
   have o17:w5.cell? ⟨g',oo+i*19+17,none⟩=some (.slice Ab len cb0):=(hb5.cell (p:=⟨g',oo+i*19+17,none⟩) hgw).trans (HRG.out 17 _ rfl)
   have l17b:w5.cell? ⟨g,i*19+1+16,none⟩=some (.slice (some ⟨gb,0,none⟩) len cb):=l17
   have o17b:w5.cell? ⟨g',oo+i*19+1+16,none⟩=some (.slice Ab len cb0):=o17
   have HB5W:=Hd hb5
   clear hb5
   go_wp2
   go_loop [8] (fun kv=>∃ k:Nat,kv = .int .i64 (k:Int)/\k<=len) (fun kv=>len - (intOf kv).toNat)
   case atStart=>exact⟨0,rfl,Nat.zero_le _⟩
   case round=>
    obtain⟨k,rfl,hk⟩:=hrel
    obtain⟨gs,cs,ge,ce,e1,e2,e3⟩:=HENT.out.row
    rw[HLN.out] at e1 e2
    have hcbl:len+1<=cb:=by
     obtain⟨_,_,e,h,_⟩:=own_form e1
     injection e with _ _ e
     omega
    by_cases hkl:k<len
    ·have hkl2:(k:Int)<(len:Int):=by omega
     have hk00:(0:Int)<=(k:Int):=by omega
     obtain⟨ad,Ai,ci,rfl,had,hcell,_⟩:=HROWS.out.at_ hkl
     have hck:=e2 k hkl
     obtain⟨r,hr⟩:∃ r,s.blocks.getD k []=r:=⟨_,rfl⟩
     have hrm:r.length<=1048576:=by
      rw[<-hr,List.getD_eq_getElem?_getD]
      cases hb:s.blocks[k]? with
      | none=>simp
      | some b=>exact HBL.out b (List.mem_of_getElem? hb)
     obtain⟨gk,hgk⟩:∃ gk,gs k=gk:=⟨_,rfl⟩
     obtain⟨kc,hkc⟩:∃ kc,cs k=kc:=⟨_,rfl⟩
     have hgc:=ow_cell e1 (i:=k) (by omega) (by rw[List.getElem?_append_left (by rw[fromV_len];exact hkl),fromV_get hkl])
     rw[hr] at hcell hck hgc
     rw[hgk,hkc] at hck hgc
     obtain⟨m,hm⟩:∃ m,r.length=m:=⟨_,rfl⟩
     have hkcm:m+3<=kc:=by
      obtain⟨_,_,e,h,_⟩:=own_form hck
      injection e with _ _ e
      omega
     have hb5:=HB5W.out
     have k1:w5.cell? (ad.add k)=some (.slice Ai m ci):=by rw[<-hm];exact (hb5.cell (by rw[add_block];omega)).trans hcell
     have hgbl:gb<w.heap.size:=(ow_lt e1).2
     have hgkl:gk<w.heap.size:=(ow_lt hck).2
     have k2:w5.cell? ⟨gb,k,none⟩=some (.slice (some ⟨gk,0,none⟩) m kc):=by rw[<-hm];exact (hb5.cell (p:=⟨gb,k,none⟩) hgbl).trans hgc
     have kb:∀ j u,(r++[81,82,83])[j]?=some u->j<m+3->w5.cell? ⟨gk,j,none⟩=some (.int .u8 ((u:UInt8).toNat:Int)):=fun j u hu hj=>(hb5.cell (p:=⟨gk,j,none⟩) hgkl).trans (ow_cell hck (by omega) (by rw[List.getElem?_map,hu];rfl))
     have k3:w5.cell? ⟨gk,m,none⟩=some (.int .u8 81):=kb m 81 (by rw[List.getElem?_append_right (by omega),show m - r.length=0 by omega];rfl) (by omega)
     have k4:w5.cell? ⟨gk,m+1,none⟩=some (.int .u8 82):=kb (m+1) 82 (by rw[List.getElem?_append_right (by omega),show m+1 - r.length=1 by omega];rfl) (by omega)
     have k5:w5.cell? ⟨gk,m+2,none⟩=some (.int .u8 83):=kb (m+2) 83 (by rw[List.getElem?_append_right (by omega),show m+2 - r.length=2 by omega];rfl) (by omega)
     have hsl:(Instr.slice 79 (.slice (some ⟨gk,0,none⟩) m kc) none (some (.int .i64 ((m:Int)+3))) none).run Tryz.prog w5 = .ok (.slice (some ⟨gk,0,none⟩) (m+3) kc) w5:=by
      rw[show ((m:Int)+3)=((m+3:Nat):Int) by omega]
      exact slice_frontU w5 gk (n:=m) (c:=kc) (q:=m+3) hkcm
     have hm40:m<=1048576:=by omega
     have hm00:(0:Int)<=(m:Int):=by omega
     have q0:(m:Int)<(m:Int)+3:=by omega
     have q1:(m:Int)+1<(m:Int)+3:=by omega
     have q2:(m:Int)+2<(m:Int)+3:=by omega
     clear hb5 kb hcell hck hgc e1 e2 e3 hr hgk hkc hm had hgbl hgkl hrm
     go_wp2
     go_round
     case rel=>exact⟨k+1,by go_num,by omega⟩
     case measure=>simp[intOf];omega
    ·obtain rfl:k=len:=by omega
     have hb5:=HB5W.out
     have hgbl:gb<w.heap.size:=(ow_lt e1).2
     have hgel:ge<w.heap.size:=(ow_lt e3).2
     have k2:w5.cell? ⟨gb,k,none⟩=some (.slice (some ⟨ge,0,none⟩) 1 ce):=(hb5.cell (p:=⟨gb,k,none⟩) hgbl).trans (ow_cell e1 (i:=k) (by omega) (by rw[List.getElem?_append_right (by rw[fromV_len];exact Nat.le_refl _),fromV_len,Nat.sub_self];rfl))
     have k3:w5.cell? ⟨ge,0,none⟩=some (.int .u8 84):=(hb5.cell (p:=⟨ge,0,none⟩) hgel).trans (ow_cell e3 (i:=0) (by omega) rfl)
     have hsl:(Instr.slice 67 (.slice (some ⟨gb,0,none⟩) k cb) none (some (.int .i64 ((k:Int)+1))) none).run Tryz.prog w5 = .ok (.slice (some ⟨gb,0,none⟩) (k+1) cb) w5:=by
      rw[show ((k:Int)+1)=((k+1:Nat):Int) by omega]
      exact slice_frontR w5 gb (n:=k) (c:=cb) (q:=k+1) hcbl
     have hk00:(0:Int)<=(k:Int):=by omega
     have q0:(k:Int)<(k:Int)+1:=by omega
     clear hb5 e1 e2 e3 hgbl hgel
     go_wp2
     go_roundw
     case rel=>exact⟨i+1,by go_num,by omega,HB5W.out⟩
     case measure=>simp[intOf];omega
  ·obtain rfl:i=n:=by omega
   have m7:wr.cell? ⟨g,i*19,none⟩=some (.int .i64 77):=(hb.cell (p:=⟨g,i*19,none⟩) hgl).trans HM7.out
   have m8:wr.cell? ⟨g,(i+1)*19,none⟩=some (.int .i64 78):=by
    rw[show (i+1)*19=i*19+19 by omega]
    exact (hb.cell (p:=⟨g,i*19+19,none⟩) hgl).trans HM8.out
   have hsl:(Instr.slice 33 (.slice (some ⟨g,0,none⟩) i c) none (some (.int .i64 ((i:Int)+2))) none).run Tryz.prog wr = .ok (.slice (some ⟨g,0,none⟩) (i+2) c) wr:=by
    rw[show ((i:Int)+2)=((i+2:Nat):Int) by omega]
    exact slice_frontS wr g (n:=i) (c:=c) (q:=i+2) hc2
   have hi00:(0:Int)<=(i:Int):=by omega
   have q0:(i:Int)<(i:Int)+2:=by omega
   have q1:(i:Int)+1<(i:Int)+2:=by omega
   have HB:=Hd hb
   clear hb
   go_wp2
   go_ret
   exact⟨rfl,HB.out⟩
end Go.Proofs.YtmgljaecmchgaaaGreat.Gf
namespace Go.Proofs.YtmgljaecmchgaaaGreat.Gf
open Go.RowKit Go.Proofs
theorem cFd_cells {key:List UInt8} {l:List Fd} {i:Nat} {f:Fd} (h:l[i]?=some f):∀ j u,(fdC key f)[j]?=some u->(cFd key l)[i*5+j]?=some u:=by
 induction l generalizing i with
 | nil=>cases h
 | cons a l ih=>
  intro j u hu
  rw[cFd,List.flatMap_cons]
  cases i with
  | zero=>
   injection h with h
   subst h
   have hj:j<(fdC key a).length:=(List.getElem?_eq_some_iff.1 hu).1
   rw[Nat.zero_mul,Nat.zero_add,List.getElem?_append_left hj]
   exact hu
  | succ i=>
   have:=ih (i:=i) h j u hu
   rw[List.getElem?_append_right (by show 5<=_;omega)]
   show (cFd key l)[(i+1)*5+j - 5]?=_
   rw[show (i+1)*5+j - 5=i*5+j by omega]
   exact this
theorem rd_fd {w:World} {B n i:Nat} {A:Option Addr} {key:List UInt8} {l:List Fd} {f:Fd} (h:Rd w B 5 A n (cFd key l)) (hi:i<n) (hf:l[i]?=some f):∃ ad,A=some ad/\∀ j u,(fdC key f)[j]?=some u->w.cell? (ad.add (i*5+j))=some u:=by
 obtain⟨ad,e,_,hc⟩:=h.2 (by omega)
 exact⟨ad,e,fun j u hu=>hc _ _ (cFd_cells hf j u hu)⟩
theorem exec_load_list {P:Program} {a:Act} {o:Oper} {w:World} (ty:TypeId) (x:Operand) (ho:o.op = .load ty x) (ad:Addr) (hx:a.eval x = .pointer (some ad)) (cs:List Value) (d:TypeDesc) (hc:∀ j v,cs[j]?=some v->w.cell? (ad.add j)=some v)
  (hu:P.underlying ty=some d) (hd:d.isRow=true) (hi:(P.info? ty).map (·.size)=some cs.length):(execOp a.eval o).run P w = .ok (.value (.agg cs.toArray)) w:=by
 have hl:=run_loadCells_list (P:=P) w ad cs hc
 cases hq:P.info? ty with
 | none=>simp[hq] at hi
 | some i=>
  have hs:i.size=cs.length:=by simp[hq] at hi;exact hi
  have h2:(loadVar ty ad).run P w = .ok (.agg cs.toArray) w:=by
   cases d<;>simp_all[loadVar,isAgg,run_underlying hu,sizeOf,typeInfo,TypeDesc.isRow]
  unfold execOp
  simp only[ho,hx,Instr.loadAt,Instr.sureAddr,Sem.run_bind,Sem.run_pure,Result.andThen_ok,h2]
set_option maxRecDepth 100000 in
set_option maxHeartbeats 4000000 in
theorem sameFds_any {w:World} {B B':Nat} {A A':Option Addr} {n c c':Nat} {key:List UInt8} {l:List Fd} (h:Rd w B 5 A n (cFd key l)) (h':Rd w B' 5 A' n (cFd key l)) (hl:l.length=n) (hn:n<=17592186044416) :
  Calls Tryz.prog 8 #[.slice A n c,.slice A' n c'] w fun x w'=>x = .returned (.bool true)/\∃ k,w'=w.drewN k:=by
 have H:=Lib.hid h
 have H':=Hd h'
 have HL:=Hd hl
 clear h h' hl
 go_enter Tryz.func8,Tryz.ntmps8
 go_upto_region 4 with (fail)
 go_loopw [5] (fun iv wr=>∃ i:Nat,iv = .int .i64 (i:Int)/\i<=n/\∃ k,wr=w.drewN k) (fun iv _=>n - (intOf iv).toNat)
 case atStart=>exact⟨0,rfl,by omega,0,rfl⟩
 case round=>
  obtain⟨i,rfl,hi,k,rfl⟩:=hrel
  by_cases hlt:i<n
  ·obtain⟨f,hf⟩:∃ f,l[i]?=some f:=⟨_,List.getElem?_eq_getElem (by rw[HL.out];exact hlt)⟩
   obtain⟨ad,rfl,ha⟩:=rd_fd H.out hlt hf
   obtain⟨bd,rfl,hb⟩:=rd_fd H'.out hlt hf
   have hlt2:(i:Int)<(n:Int):=by omega
   have hi00:(0:Int)<=(i:Int):=by omega
   have hCi:(Tryz.prog.info? tFind).map (fun i=>i.size)=some ([.string ⟨key.toArray⟩,.int .i64 f.place,.int .i64 f.kind,.int .i64 f.ep,.int .i64 f.ct]:List Value).length:=by kernel_rfl
   have hSX:(∀ j u,([.string ⟨key.toArray⟩,.int .i64 f.place,.int .i64 f.kind,.int .i64 f.ep,.int .i64 f.ct]:List Value)[j]?=some u->w.cell? ((ad.add (i*5)).add j)=some u)/\(∀ j u,([.string ⟨key.toArray⟩,.int .i64 f.place,.int .i64 f.kind,.int .i64 f.ep,.int .i64 f.ct]:List Value)[j]?=some u->w.cell? ((bd.add (i*5)).add j)=some u):=
    ⟨fun j u hu=>(congrArg w.cell? (addr_two ad (i*5) j)).trans (ha j u hu),fun j u hu=>(congrArg w.cell? (addr_two bd (i*5) j)).trans (hb j u hu)⟩
   have HSX:=Hd hSX
   have HCI:=Hd hCi
   clear hf ha hb hSX hCi
   go_upto_region 6 with (fail)
   refine wp_region_any (by kernel_rfl) ?_
   change wpAny _ _ _ _ _ _ _ (World.drew _)
   refine wpAny_of_P (S:=fun wx=>(∀ j u,([.string ⟨key.toArray⟩,.int .i64 f.place,.int .i64 f.kind,.int .i64 f.ep,.int .i64 f.ct]:List Value)[j]?=some u->wx.cell? ((ad.add (i*5)).add j)=some u)/\(∀ j u,([.string ⟨key.toArray⟩,.int .i64 f.place,.int .i64 f.kind,.int .i64 f.ep,.int .i64 f.ct]:List Value)[j]?=some u->wx.cell? ((bd.add (i*5)).add j)=some u)) (late:=[8]) _ _ _ _ ?_
   refine tT 0 HSX.out ?_
   try go_frame
   refine tT 1 HSX.out ?_
   try go_frame
   refine tT 2 HSX.out ?_
   try go_frame
   refine tP 8 3 rfl HSX.out (fun w hw=>by obtain⟨k1,_⟩:=hw;refine Eq.trans (exec_load_list tFind (.tmp 19) (by rfl) (ad.add (i*5)) (by rfl) ([.string ⟨key.toArray⟩,.int .i64 f.place,.int .i64 f.kind,.int .i64 f.ep,.int .i64 f.ct]:List Value) _ k1 Tryz.underlying78 rfl HCI.out) ?_;with_reducible rfl) ?_
   try go_frame
   refine tT 4 HSX.out ?_
   try go_frame
   refine tT 5 HSX.out ?_
   try go_frame
   refine tT 6 HSX.out ?_
   try go_frame
   refine tP 8 7 rfl HSX.out (fun w hw=>by obtain⟨_,k2⟩:=hw;refine Eq.trans (exec_load_list tFind (.tmp 23) (by rfl) (bd.add (i*5)) (by rfl) ([.string ⟨key.toArray⟩,.int .i64 f.place,.int .i64 f.kind,.int .i64 f.ep,.int .i64 f.ct]:List Value) _ k2 Tryz.underlying78 rfl HCI.out) ?_;with_reducible rfl) ?_
   try go_frame
   refine lP 8 fun K hK=>?_
   go_simp
   refine hK _ _ ?_;clear hK K
   try go_frame
   refine wpAny_done (by kernel_rfl) ?_ _
   go_wp2
   go_roundw
   case rel=>exact⟨i+1,by go_num,by omega,_,rfl⟩
   case measure=>simp[intOf];omega
  ·obtain rfl:n=i:=by omega
   go_wp2
   go_ret
   exact⟨rfl,_,rfl⟩
end Go.Proofs.YtmgljaecmchgaaaGreat.Gf
