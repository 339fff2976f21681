/- XK08: merged by tools/merge.py. -/
import Derived.Test.YtmgljaecmchgaaaGreatQ11
import Derived.Deep.WholeRow
import Derived.Deep.CutRange
import Derived.Deep.CutBlock
import Derived.Test.YtmgljaecmchgaaaGreatQ09
import Derived.Test.YtmgljaecmchgaaaGreatQ10
import Derived.Test.YtmgljaecmchgaaaGreatQ01
import Derived.Test.YtmgljaecmchgaaaGreatQ07
set_option linter.unusedVariables false
set_option linter.unusedSimpArgs false
set_option linter.unusedSectionVars false
namespace Go.Proofs.YtmgljaecmchgaaaGreat.Dr
open Go.RowKit Go.Proofs Go.Proofs.YtmgljaecmchgaaaGreat.Ring
theorem rd_part {w:World} {B n m:Nat} {A:Option Addr} {l:Bs} (h:Rd w B 1 A n (cU8 l)) (hm:m<=n):Rd w B 1 A m (cU8 (l.take m)):=by
 have hl:l.length=n:=by simpa using h.1
 refine⟨by simp;omega,fun h0=>?_⟩
 obtain⟨ad,e,hb,hc⟩:=h.2 (by omega)
 refine⟨ad,e,hb,fun j u hu=>hc j u ?_⟩
 have hj:j<m:=by
  have:=(List.getElem?_eq_some_iff.1 hu).1
  simp at this;omega
 rw[<-hu]
 unfold cU8
 rw[List.map_take,List.getElem?_take_of_lt hj]
end Go.Proofs.YtmgljaecmchgaaaGreat.Dr
namespace Go.Proofs.YtmgljaecmchgaaaGreat.Dr
open Go.RowKit Go.Proofs Go.Proofs.YtmgljaecmchgaaaGreat.Ring
section
variable {P:Program} (w:World)
theorem wp_append_keeps {o:Oper} {a:Act} {K:Act->World->Prop} {Q:Exit->Act->World->Prop} (s x:Operand) (t:TypeId)
  (ho:o.op = .call {callee:=.builtin .append,args:=#[s,x],argTypes:=#[t,t]})
  (base:Nat) (e:TypeId) (i:TypeInfo) (z:Value) (size bytes:Nat) (ht:P.underlying t=some (.slice e)) (hi:P.info? e=some i) (hz:i.zero=some z)
  (hsize:i.size=size) (hby:i.bytes=bytes) (hzs:z.cells.size=size) (hsz:0<size)
  (v:Value) (n:Nat) (xs:List Value) (hs:a.eval s=v) (hown:w.ownsRow base e size v n xs)
  (ad:Addr) (m c:Nat) (news:List Value) (hx:a.eval x = .slice (some ad) m c) (hl:news.length=m*size) (hnews:∀ j u,news[j]?=some u->w.cell? (ad.add j)=some u) (h1:∀ u∈news,u.oneCell'=true)
  (hm:0<m) (h63:n+m<=maxLen) (hbytes:(n+m)*bytes<=140737488355328) (hbase:base<=w.heap.size)
  (h:∀ g cap w',w'.ownsRow base e size (.slice (some ⟨g,0,none⟩) (n+m) cap) (n+m) (xs++news)->w.grownBy w' v.ownBlock->(v.ownBlock=some g\/g=w.heap.size)->g<w'.heap.size->
   (∀ b2 v2 n2 xs2,w.ownsRow b2 e size v2 n2 xs2->(v2.ownBlock=v.ownBlock->n2<=n)->w'.ownsRow b2 e size v2 n2 xs2)->K (a.put o.dst (.slice (some ⟨g,0,none⟩) (n+m) cap)) w'):o.wp P a w K Q:=by
 obtain⟨g,cap,w',hr,h2,h3,h4,h5,h6⟩:=run_append_keeps (P:=P) w t o.type base e i z size bytes ht hi hz hsize hby hzs hsz v n xs hown ad m c news hl hnews h1 hm h63 hbytes hbase
 unfold Oper.wp execOp
 simp only[ho,resolve,invoke,builtin,Sem.run_bind,Sem.run_pure,Result.andThen_ok,List.map_toArray,List.map_cons,List.map_nil,hs,hx,hr]
 exact h g cap w' h2 h3 h4 h5 h6
end
end Go.Proofs.YtmgljaecmchgaaaGreat.Dr
namespace Go.Proofs.YtmgljaecmchgaaaGreat.Dr
open Go.RowKit Go.Proofs Go.Proofs.YtmgljaecmchgaaaGreat.Ring
theorem files_take {D:Dr.D} {l:Dir} {f:Bd->Bs} {i:Nat} {p:Bs×Nat} (hp:l[i]?=some p):D.files (l.take (i+1)) f=D.files (l.take i) f++[(p.1,f (D.at p.2))]:=by
 unfold Dr.D.files
 rw[take_snoc_f hp]
 simp
theorem files_len {D:Dr.D} {l:Dir} {f:Bd->Bs}:(D.files l f).length=l.length:=by simp[Dr.D.files]
section
variable {w:World} {S:Nat->Prop} {r m N:Nat} {D:Dr.D}
set_option maxRecDepth 100000 in
set_option maxHeartbeats 8000000 in
theorem rimage_any (h:Rv w S r D m N) (hm:m<=140737488355328) (hN:N<=1099511627776) {fs0:List (Bs×Bs)} (hfs:D.image=fs0) {n0:Nat} (hn0:fs0.length=n0):Calls Tryz.prog 37 #[.pointer (some ⟨r,0,none⟩)] w fun x w'=>∃ A c dv,x = .returned (.slice A n0 c)/\FilesAt w' w.heap.size (.slice A n0 c) dv fs0/\Below w.heap.size w w':=by
 subst hfs
 have hn1:D.now.length=n0:=by rw[<-hn0];exact files_len.symm
 clear hn0
 have hh:∀ wr,Below w.heap.size w wr->Rv wr S r D m N:=fun wr hb=>h.below hb
 have hnl:D.now.length<=N:=h.1.lenN
 have HIN:=Hd h.1.inN
 have HDM:=Hd (fun i=>(h.1.at_ok i).2)
 have HH:=Hd hh
 obtain⟨f0,hf0,hz0,hz1,hz2⟩:=info_parts infoFile
 obtain⟨V,hV⟩:∃ V,w.heap.size=V:=⟨_,rfl⟩
 rw[hV] at HH ⊢
 have HV:=Hd hV
 have HN1:=Hd hn1
 clear hh h hV hn1
 go_enter Tryz.func37,Tryz.ntmps37
 go_upto_region 5 with (fail)
 go_loopw [3,4] (fun v iv wr=>∃ (i:Nat) (dv:List Value),iv = .int .i64 (i:Int)/\i<=D.now.length/\FilesAt wr V v dv (D.files (D.now.take i) (·.data))/\Below V w wr) (fun _ iv _=>D.now.length - (intOf iv).toNat)
 case atStart=>exact⟨0,[],rfl,by omega,by rw[List.take_zero];exact FilesAt.nil _ _,Below.refl _ _⟩
 case round=>
  obtain⟨i,dv,rfl,hi,hfa,hb⟩:=hrel
  obtain⟨_,_,vb,vn,vk,vc,ds,cs,hA⟩:=HH.out wr hb
  obtain⟨Ab,cb,An,cn,Ak,ck,Ad,cd,rfl,rfl,rfl,rfl⟩:=hA.open
  obtain⟨_,x1,x2,_,_⟩:=rcells hA.head
  by_cases hlt:i<D.now.length
  ·obtain⟨p,hp⟩:∃ p,D.now[i]?=some p:=⟨_,List.getElem?_eq_getElem hlt⟩
   obtain⟨gn,rfl,hgn,_,e0,e1⟩:=ent_cells hA.now (dirE_at hp)
   have hpl:p.2<D.bd.length:=HIN.out p (List.mem_of_getElem? hp)
   obtain⟨_,gb,cb',Av,cv,hvb,_,hrow,c0,_,_,_⟩:=hA.body hpl
   injection hvb with hvb _ hcb
   subst hvb hcb
   have hlt2:(i:Int)<(D.now.length:Int):=by omega
   have hpl2:(p.2:Int)<(D.bd.length:Int):=by omega
   dsimp only at e0 e1
   have hpm:=HDM.out p.2
   obtain⟨fs,hfsd⟩:∃ fs,D.files (D.now.take i) (·.data)=fs:=⟨_,rfl⟩
   have hfl:fs.length=i:=by rw[<-hfsd,files_len];simp;omega
   rw[hfsd] at hfa
   obtain⟨Ao,co,rfl,_,_⟩:=own_form hfa.row
   rw[hfl]
   rw[hfl] at hfa
   have hgb:gb<wr.heap.size:=hA.low gb (hA.inB gb rfl)
   have hrl:r<wr.heap.size:=hA.low r hA.inR
   have HKEEP:=Hd (show ∀ wx,Below wr.heap.size wr wx->wx.cell? ⟨r,1,none⟩=some (.slice (some ⟨gb,0,none⟩) D.bd.length cb)/\wx.cell? ⟨r,2,none⟩=some (.slice (some ⟨gn,0,none⟩) D.now.length cn)/\wx.cell? ⟨gn,i*2,none⟩=some (encStr p.1)/\wx.cell? ⟨gn,i*2+1,none⟩=some (.int .i64 (p.2:Int))/\wx.cell? ⟨gb,p.2*2,none⟩=some (.slice Av (D.at p.2).data.length cv) from fun wx hx=>
    ⟨(hx.cell (p:=⟨r,1,none⟩) hrl).trans x1,(hx.cell (p:=⟨r,2,none⟩) hrl).trans x2,(hx.cell (p:=⟨gn,i*2,none⟩) hgn).trans e0,(hx.cell (p:=⟨gn,i*2+1,none⟩) hgn).trans e1,(hx.cell (p:=⟨gb,p.2*2,none⟩) hgb).trans c0⟩)
   have HS0:=Hd (HKEEP.out wr.drew (Below.refl _ _).drew)
   have HRD:=Hd (show Rd wr.drew wr.drew.heap.size 1 Av (D.at p.2).data.length (cU8 (D.at p.2).data) from Rd.of_own hrow)
   have HNL:=Hd (own_none hrow)
   have HFA:=Hd hfa
   have HFL:=Hd hfl
   have HFD:=Hd hfsd
   have HB:=Hd hb
   have HP:=Hd hp
   have HVB:=Hd (show V<=wr.heap.size from by have:=hb.size;have:=HV.out;omega)
   clear hfa hb hp hA hrow hfl hfsd e1 c0 hgn hgb hrl
   go_upto_region 7 with (fail)
   refine wp_region_any (by kernel_rfl) ?_
   change wpAny _ _ _ _ _ _ _ (World.drew _)
   refine wpAny_of_P (S:=fun w'=>w'.cell? ⟨r,1,none⟩=some (.slice (some ⟨gb,0,none⟩) D.bd.length cb)/\w'.cell? ⟨r,2,none⟩=some (.slice (some ⟨gn,0,none⟩) D.now.length cn)/\w'.cell? ⟨gn,i*2,none⟩=some (encStr p.1)/\w'.cell? ⟨gn,i*2+1,none⟩=some (.int .i64 (p.2:Int))/\w'.cell? ⟨gb,p.2*2,none⟩=some (.slice Av (D.at p.2).data.length cv)) (late:=[27]) _ _ _ _ ?_
   refine tT 0 HS0.out ?_
   try go_frame
   refine tT 1 HS0.out ?_
   try go_frame
   refine tT 2 HS0.out ?_
   try go_frame
   refine tT 3 HS0.out ?_
   try go_frame
   refine tP 8 4 rfl HS0.out (fun w hw=>by obtain⟨hw1,hw2,hw3,hw4,hw5⟩:=hw;go_simp;try with_reducible rfl) ?_
   try go_frame
   refine tT 5 HS0.out ?_
   try go_frame
   refine tT 6 HS0.out ?_
   try go_frame
   refine tT 7 HS0.out ?_
   try go_frame
   refine tP 8 8 rfl HS0.out (fun w hw=>by obtain⟨hw1,hw2,hw3,hw4,hw5⟩:=hw;go_simp;try with_reducible rfl) ?_
   try go_frame
   refine tT 9 HS0.out ?_
   try go_frame
   refine tT 10 HS0.out ?_
   try go_frame
   refine tT 11 HS0.out ?_
   try go_frame
   refine tP 8 12 rfl HS0.out (fun w hw=>by obtain⟨hw1,hw2,hw3,hw4,hw5⟩:=hw;go_simp;try with_reducible rfl) ?_
   try go_frame
   refine tT 13 HS0.out ?_
   try go_frame
   refine tT 14 HS0.out ?_
   try go_frame
   refine tT 15 HS0.out ?_
   try go_frame
   refine tP 8 16 rfl HS0.out (fun w hw=>by obtain⟨hw1,hw2,hw3,hw4,hw5⟩:=hw;go_simp;try with_reducible rfl) ?_
   try go_frame
   refine tT 17 HS0.out ?_
   try go_frame
   refine tT 18 HS0.out ?_
   try go_frame
   refine tT 19 HS0.out ?_
   try go_frame
   refine tP 8 20 rfl HS0.out (fun w hw=>by obtain⟨hw1,hw2,hw3,hw4,hw5⟩:=hw;go_simp;try with_reducible rfl) ?_
   try go_frame
   refine tT 21 HS0.out ?_
   try go_frame
   refine tT 22 HS0.out ?_
   try go_frame
   refine tP 8 23 rfl HS0.out (fun w hw=>by obtain⟨hw1,hw2,hw3,hw4,hw5⟩:=hw;go_simp;try with_reducible rfl) ?_
   try go_frame
   refine fP 24 fun K hK=>?_
   go_simp
   refine (rcopied_any HRD.out HNL.out (by omega)).mono ?_
   rintro y w1 ⟨A1,c1,rfl,hrow1,hb1⟩
   have hS1:=HKEEP.out w1 ((Below.refl wr.heap.size wr).drew.trans hb1)
   refine hK _ _ (hS1) ?_;clear hK K
   try go_frame
   refine tT 25 hS1 ?_
   try go_frame
   refine fP 26 fun K hK=>?_
   go_simp
   have hS2:=HKEEP.out (w1.alloc (.cells #[encStr p.1,.slice A1 (D.at p.2).data.length c1] tFile)) (((Below.refl wr.heap.size wr).drew.trans hb1).alloc hb1.size _)
   refine hK _ _ (hS2) ?_;clear hK K
   try go_frame
   have HFW:=Hd ((HFA.out.below ((Below.refl wr.heap.size wr).drew.trans hb1)).below ((Below.refl w1.heap.size w1).alloc (Nat.le_refl _) (.cells #[encStr p.1,.slice A1 (D.at p.2).data.length c1] tFile)))
   have hfr:=HFW.out.row
   rw[HFL.out] at hfr
   have HVB9:=Hd (show V<=(w1.alloc (.cells #[encStr p.1,.slice A1 (D.at p.2).data.length c1] tFile)).heap.size from by have h1:=hb1.size;have h2:=HVB.out;simp at h1 ⊢;omega)
   refine lP 27 fun K hK=>?_
   refine wp_append_keeps _ (.tmp 16) (.tmp 42) 90 rfl V tFile f0 (.agg #[.string ⟨#[]⟩,.slice none 0 0]) 2 40 Tryz.underlying90 hf0 hz0 hz1 hz2 rfl (by decide) (.slice Ao i co) i (cF fs dv) rfl hfr ⟨w1.heap.size,0,none⟩ 1 1 [encStr p.1,.slice A1 (D.at p.2).data.length c1] rfl rfl (new_cells _ [encStr p.1,.slice A1 (D.at p.2).data.length c1] tFile) (by simp[Value.oneCell']) (by omega) (by unfold maxLen;omega) (by omega) HVB9.out ?_
   intro g2 cap2 w3 hg hgr hat2 hlt9 _
   go_simp
   refine hK _ _ ?_;clear hK K
   try go_frame
   refine tL 28 ?_
   try go_frame
   refine wpAny_done (by kernel_rfl) ?_ _
   have hsn:=HFW.out.snoc (f:=(p.1,(D.at p.2).data)) (x:=.slice A1 (D.at p.2).data.length c1) (own_base (own_alloc hrow1 _) (by have h1:=HVB.out;simp;omega)) (fun g hg=>(HFA.out.fresh (by have:=own_ge hrow1 hg;simpa using this))) (by rw[HFL.out];exact hg) hgr
   have hb3:Below V w w3:=((HB.out.trans (((Below.refl V wr).drew.trans (hb1.mono HVB.out)))).alloc (by have h1:=hb1.size;have h2:=HVB.out;simp at h1;omega) _).grown hgr (by have h1:=hb1.size;have h2:=HVB.out;simp at h1 ⊢;omega) (fun k hk=>own_ge HFA.out.row hk)
   have HSN:=Hd hsn
   have HB3:=Hd hb3
   clear hsn hb3 hg hgr hat2 hlt9 hrow1 hb1 hS1 hS2 HFW hfr
   go_wp2
   go_roundw
   case rel=>
    refine⟨i+1,dv++[.slice A1 (D.at p.2).data.length c1],by go_num,by omega,?_,HB3.out⟩
    rw[files_take HP.out,HFD.out]
    exact HSN.out
   case measure=>simp[intOf];omega
  ·obtain rfl:i=D.now.length:=by omega
   rw[List.take_length] at hfa
   have hfl:(D.files D.now (·.data)).length=n0:=by rw[files_len];exact HN1.out
   obtain⟨Ao,co,rfl,_,_⟩:=own_form hfa.row
   rw[hfl] at hfa ⊢
   have HFA:=Hd hfa
   have HB:=Hd hb
   clear hfa hb hA hfl
   go_wp2
   refine bodyPost_ret (v:=.slice Ao n0 co) (by simp[results,Tryz.results37,go_sem]) rfl ?_
   exact⟨Ao,co,dv,rfl,HFA.out,HB.out⟩
end
end Go.Proofs.YtmgljaecmchgaaaGreat.Dr
namespace Go.Proofs.YtmgljaecmchgaaaGreat.Dr
open Go.RowKit Go.Proofs Go.Proofs.YtmgljaecmchgaaaGreat.Ring
theorem body_store (w:World) (A:Option Addr) (n c:Nat) (s:Int):(storeCells ⟨w.heap.size,0,none⟩ [.slice A n c,.int .i64 s] 0).run Tryz.prog (w.alloc (.cells #[.slice none 0 0,.int .i64 0] tBd)).drew = .ok () (w.alloc (.cells #[.slice A n c,.int .i64 s] tBd)).drew:=
 run_storeCells_new (P:=Tryz.prog) w.drew tBd #[.slice none 0 0,.int .i64 0] #[.slice A n c,.int .i64 s] (by kernel_rfl) rfl (by simp[Value.oneCell'])
theorem slice_front (w:World) {A:Option Addr} {n c q:Nat} (hq:q<=c):(Instr.slice 79 (.slice A n c) none (some (.int .i64 (q:Int))) none).run Tryz.prog w = .ok (.slice A q c) w:=by
 rw[run_slice_h (P:=Tryz.prog) w 79 A n c (by kernel_rfl) .i64 (q:Int) (by omega) (by omega)]
 have hs:(sizeOf (Tryz.prog.elem 79)).run Tryz.prog w = .ok 1 w:=by kernel_rfl
 rw[hs]
 unfold sliced
 cases A with
 | none=>simp[Result.andThen]
 | some ad=>
  simp[Result.andThen]
  intro _
  unfold Addr.add
  simp
theorem body_range {w:World} {b o:Nat} {x y:Value} (h1:w.cell? ⟨b,o,none⟩=some x) (h2:w.cell? ⟨b,o+1,none⟩=some y):w.rangeAt b o [x,y]:=by
 intro j v hv
 match j,hv with
 | 0,hv=>cases hv;exact h1
 | 1,hv=>cases hv;exact h2
 | j+2,hv=>cases hv
section
variable {w:World} {S:Nat->Prop} {r m N:Nat} {D:Dr.D}
set_option maxRecDepth 100000 in
set_option maxHeartbeats 8000000 in
theorem rsafe_any (h:Rv w S r D m N) (hm:m<=140737488355328) (hN:N<=1099511627776) {fs0:List (Bs×Bs)} (hfs:D.safe=fs0) {n0:Nat} (hn0:fs0.length=n0):Calls Tryz.prog 41 #[.pointer (some ⟨r,0,none⟩)] w fun x w'=>∃ A c dv,x = .returned (.slice A n0 c)/\FilesAt w' w.heap.size (.slice A n0 c) dv fs0/\Below w.heap.size w w':=by
 subst hfs
 have hn1:D.kept.length=n0:=by rw[<-hn0];exact files_len.symm
 clear hn0
 have hh:∀ wr,Below w.heap.size w wr->Rv wr S r D m N:=fun wr hb=>h.below hb
 have hnl:D.kept.length<=N:=by have:=h.1.lenK;omega
 have HIN:=Hd h.1.inK
 have HDM:=Hd (fun i=>(h.1.at_ok i).2)
 have HSF:=Hd (fun i=>(h.1.at_ok i).1)
 have HH:=Hd hh
 obtain⟨f0,hf0,hz0,hz1,hz2⟩:=info_parts infoFile
 obtain⟨V,hV⟩:∃ V,w.heap.size=V:=⟨_,rfl⟩
 rw[hV] at HH ⊢
 have HV:=Hd hV
 have HN1:=Hd hn1
 clear hh h hV hn1
 go_enter Tryz.func41,Tryz.ntmps41
 go_upto_region 5 with (fail)
 go_loopw [3,4] (fun v iv wr=>∃ (i:Nat) (dv:List Value),iv = .int .i64 (i:Int)/\i<=D.kept.length/\FilesAt wr V v dv (D.files (D.kept.take i) (fun b=>b.data.take b.safe))/\Below V w wr) (fun _ iv _=>D.kept.length - (intOf iv).toNat)
 case atStart=>exact⟨0,[],rfl,by omega,by rw[List.take_zero];exact FilesAt.nil _ _,Below.refl _ _⟩
 case round=>
  obtain⟨i,dv,rfl,hi,hfa,hb⟩:=hrel
  obtain⟨_,_,vb,vn,vk,vc,ds,cs,hA⟩:=HH.out wr hb
  obtain⟨Ab,cb,An,cn,Ak,ck,Ad,cd,rfl,rfl,rfl,rfl⟩:=hA.open
  obtain⟨_,x1,_,x2,_⟩:=rcells hA.head
  by_cases hlt:i<D.kept.length
  ·obtain⟨p,hp⟩:∃ p,D.kept[i]?=some p:=⟨_,List.getElem?_eq_getElem hlt⟩
   obtain⟨gn,rfl,hgn,_,e0,e1⟩:=ent_cells hA.kept (dirE_at hp)
   have hpl:p.2<D.bd.length:=HIN.out p (List.mem_of_getElem? hp)
   obtain⟨_,gb,cb',Av,cv,hvb,_,hrow,c0,c1,_,_⟩:=hA.body hpl
   injection hvb with hvb _ hcb
   subst hvb hcb
   have hlt2:(i:Int)<(D.kept.length:Int):=by omega
   have hpl2:(p.2:Int)<(D.bd.length:Int):=by omega
   dsimp only at e0 e1
   have hpm:=HDM.out p.2
   have hsf:=HSF.out p.2
   obtain⟨fs,hfsd⟩:∃ fs,D.files (D.kept.take i) (fun b=>b.data.take b.safe)=fs:=⟨_,rfl⟩
   have hfl:fs.length=i:=by rw[<-hfsd,files_len];simp;omega
   rw[hfsd] at hfa
   obtain⟨Ao,co,rfl,_,_⟩:=own_form hfa.row
   rw[hfl]
   rw[hfl] at hfa
   have hgb:gb<wr.heap.size:=hA.low gb (hA.inB gb rfl)
   have hrl:r<wr.heap.size:=hA.low r hA.inR
   have HKEEP:=Hd (show ∀ wx,Below wr.heap.size wr wx->wx.cell? ⟨r,1,none⟩=some (.slice (some ⟨gb,0,none⟩) D.bd.length cb)/\wx.cell? ⟨r,3,none⟩=some (.slice (some ⟨gn,0,none⟩) D.kept.length ck)/\wx.cell? ⟨gn,i*2,none⟩=some (encStr p.1)/\wx.cell? ⟨gn,i*2+1,none⟩=some (.int .i64 (p.2:Int))/\wx.cell? ⟨gb,p.2*2,none⟩=some (.slice Av (D.at p.2).data.length cv)/\wx.cell? ⟨gb,p.2*2+1,none⟩=some (.int .i64 ((D.at p.2).safe:Int)) from fun wx hx=>
    ⟨(hx.cell (p:=⟨r,1,none⟩) hrl).trans x1,(hx.cell (p:=⟨r,3,none⟩) hrl).trans x2,(hx.cell (p:=⟨gn,i*2,none⟩) hgn).trans e0,(hx.cell (p:=⟨gn,i*2+1,none⟩) hgn).trans e1,(hx.cell (p:=⟨gb,p.2*2,none⟩) hgb).trans c0,(hx.cell (p:=⟨gb,p.2*2+1,none⟩) hgb).trans c1⟩)
   have HS0:=Hd (HKEEP.out wr.drew (Below.refl _ _).drew)
   have HROW:=Hd hrow
   have HNL:=Hd (own_none hrow)
   have HFA:=Hd hfa
   have HFL:=Hd hfl
   have HFD:=Hd hfsd
   have HB:=Hd hb
   have HP:=Hd hp
   have HVB:=Hd (show V<=wr.heap.size from by have:=hb.size;have:=HV.out;omega)
   clear hfa hb hp hA hrow hfl hfsd e1 c0 c1 hgn hgb hrl
   go_upto_region 7 with (fail)
   refine wp_region_any (by kernel_rfl) ?_
   change wpAny _ _ _ _ _ _ _ (World.drew _)
   refine wpAny_of_P (S:=fun w'=>w'.cell? ⟨r,1,none⟩=some (.slice (some ⟨gb,0,none⟩) D.bd.length cb)/\w'.cell? ⟨r,3,none⟩=some (.slice (some ⟨gn,0,none⟩) D.kept.length ck)/\w'.cell? ⟨gn,i*2,none⟩=some (encStr p.1)/\w'.cell? ⟨gn,i*2+1,none⟩=some (.int .i64 (p.2:Int))/\w'.cell? ⟨gb,p.2*2,none⟩=some (.slice Av (D.at p.2).data.length cv)/\w'.cell? ⟨gb,p.2*2+1,none⟩=some (.int .i64 ((D.at p.2).safe:Int))) (late:=[15]) _ _ _ _ ?_
   refine tT 0 HS0.out ?_
   try go_frame
   refine tT 1 HS0.out ?_
   try go_frame
   refine tT 2 HS0.out ?_
   try go_frame
   refine tP 8 3 rfl HS0.out (fun w hw=>by obtain⟨hw1,hw2,hw3,hw4,hw5,hw6⟩:=hw;have hld:=run_loadVar_mid (P:=Tryz.prog) w gb (p.2*2) tBd [.slice Av (D.at p.2).data.length cv,.int .i64 ((D.at p.2).safe:Int)] _ (body_range hw5 hw6) Tryz.underlying145 rfl (by kernel_rfl);go_simp;try with_reducible rfl) ?_
   try go_frame
   refine tT 4 HS0.out ?_
   try go_frame
   refine tT 5 HS0.out ?_
   try go_frame
   refine tT 6 HS0.out ?_
   try go_frame
   refine tP 8 7 rfl HS0.out (fun w hw=>by obtain⟨hw1,hw2,hw3,hw4,hw5,hw6⟩:=hw;have hld:=run_loadVar_mid (P:=Tryz.prog) w gb (p.2*2) tBd [.slice Av (D.at p.2).data.length cv,.int .i64 ((D.at p.2).safe:Int)] _ (body_range hw5 hw6) Tryz.underlying145 rfl (by kernel_rfl);go_simp;try with_reducible rfl) ?_
   try go_frame
   refine tT 8 HS0.out ?_
   try go_frame
   refine tT 9 HS0.out ?_
   try go_frame
   refine tT 10 HS0.out ?_
   try go_frame
   refine tP 8 11 rfl HS0.out (fun w hw=>by obtain⟨hw1,hw2,hw3,hw4,hw5,hw6⟩:=hw;have hld:=run_loadVar_mid (P:=Tryz.prog) w gb (p.2*2) tBd [.slice Av (D.at p.2).data.length cv,.int .i64 ((D.at p.2).safe:Int)] _ (body_range hw5 hw6) Tryz.underlying145 rfl (by kernel_rfl);go_simp;try with_reducible rfl) ?_
   try go_frame
   refine tT 12 HS0.out ?_
   try go_frame
   refine tP 8 13 rfl HS0.out (fun w hw=>by obtain⟨hw1,hw2,hw3,hw4,hw5,hw6⟩:=hw;have hld:=run_loadVar_mid (P:=Tryz.prog) w gb (p.2*2) tBd [.slice Av (D.at p.2).data.length cv,.int .i64 ((D.at p.2).safe:Int)] _ (body_range hw5 hw6) Tryz.underlying145 rfl (by kernel_rfl);go_simp;try with_reducible rfl) ?_
   try go_frame
   refine fP 14 fun K hK=>?_
   go_simp
   refine hK _ _ (HKEEP.out _ (((Below.refl wr.heap.size wr).alloc (Nat.le_refl _) (.cells #[.slice none 0 0,.int .i64 0] tBd)).drew)) ?_;clear hK K
   try go_frame
   have hst:=body_store wr Av (D.at p.2).data.length cv ((D.at p.2).safe:Int)
   refine lP 15 fun K hK=>?_
   go_simp
   refine hK _ _ ?_;clear hK K
   try go_frame
   refine wpAny_done (by kernel_rfl) ?_ _
   obtain⟨P,hP⟩:∃ P,wr.heap.size=P:=⟨_,rfl⟩
   obtain⟨wq,hwq⟩:∃ wq,(wr.alloc (.cells #[.slice Av (D.at p.2).data.length cv,.int .i64 ((D.at p.2).safe:Int)] tBd)).drew=wq:=⟨_,rfl⟩
   have hbq:Below wr.heap.size wr wq:=by rw[<-hwq];exact ((Below.refl _ _).alloc (Nat.le_refl _) _).drew
   have hbx:wq.heap[P]?=some (.cells #[.slice Av (D.at p.2).data.length cv,.int .i64 ((D.at p.2).safe:Int)] tBd (0,0)):=by rw[<-hwq,<-hP];exact heap_alloc_new wr _
   rw[hwq]
   have HP2:=Hd hP
   clear hst
   rw[hP]
   have hPl:P<wq.heap.size:=(Array.getElem?_eq_some_iff.1 hbx).1
   have hKq:=HKEEP.out wq hbq
   have hrl2:r<wq.heap.size:=block_of_cell (a:=⟨r,3,none⟩) hKq.2.1
   have hgn2:gn<wq.heap.size:=block_of_cell (a:=⟨gn,i*2,none⟩) hKq.2.2.1
   have HKEEP8:=Hd (show ∀ wx,Below wq.heap.size wq wx->wx.cell? ⟨r,3,none⟩=some (.slice (some ⟨gn,0,none⟩) D.kept.length ck)/\wx.cell? ⟨gn,i*2,none⟩=some (encStr p.1)/\wx.cell? ⟨P,0,none⟩=some (.slice Av (D.at p.2).data.length cv)/\wx.cell? ⟨P,1,none⟩=some (.int .i64 ((D.at p.2).safe:Int)) from fun wx hx=>
    ⟨(hx.cell (p:=⟨r,3,none⟩) hrl2).trans hKq.2.1,(hx.cell (p:=⟨gn,i*2,none⟩) hgn2).trans hKq.2.2.1,(hx.cell (p:=⟨P,0,none⟩) hPl).trans (by rw[cell_of_row wq P _ _ _ _ hbx];rfl),(hx.cell (p:=⟨P,1,none⟩) hPl).trans (by rw[cell_of_row wq P _ _ _ _ hbx];rfl)⟩)
   have HS8:=Hd (HKEEP8.out wq.drew (Below.refl _ _).drew)
   have HRD:=Hd (show Rd wq.drew wq.drew.heap.size 1 Av (D.at p.2).safe (cU8 ((D.at p.2).data.take (D.at p.2).safe)) from rd_part (Rd.of_own (own_below HROW.out hbq.drew)) hsf)
   have HBQ:=Hd hbq
   have hqc:(D.at p.2).safe<=cv:=by
    obtain⟨A',c',e',h1,_⟩:=own_form HROW.out
    injection e' with _ _ e'
    omega
   have hsl:∀ wx:World,(Instr.slice 79 (.slice Av (D.at p.2).data.length cv) none (some (.int .i64 ((D.at p.2).safe:Int))) none).run Tryz.prog wx = .ok (.slice Av (D.at p.2).safe cv) wx:=fun wx=>slice_front wx hqc
   clear hwq hP hbq hbx hPl hKq hrl2 hgn2 x1 x2 e0 hpl hpl2
   go_upto_region 8 with (fail)
   refine wp_region_any (by kernel_rfl) ?_
   change wpAny _ _ _ _ _ _ _ (World.drew _)
   refine wpAny_of_P (S:=fun w'=>w'.cell? ⟨r,3,none⟩=some (.slice (some ⟨gn,0,none⟩) D.kept.length ck)/\w'.cell? ⟨gn,i*2,none⟩=some (encStr p.1)/\w'.cell? ⟨P,0,none⟩=some (.slice Av (D.at p.2).data.length cv)/\w'.cell? ⟨P,1,none⟩=some (.int .i64 ((D.at p.2).safe:Int))) (late:=[17]) _ _ _ _ ?_
   refine tT 0 HS8.out ?_
   try go_frame
   refine tT 1 HS8.out ?_
   try go_frame
   refine tT 2 HS8.out ?_
   try go_frame
   refine tT 3 HS8.out ?_
   try go_frame
   refine tP 8 4 rfl HS8.out (fun w hw=>by obtain⟨hw1,hw2,hw3,hw4⟩:=hw;go_simp;try with_reducible rfl) ?_
   try go_frame
   refine tT 5 HS8.out ?_
   try go_frame
   refine tT 6 HS8.out ?_
   try go_frame
   refine tT 7 HS8.out ?_
   try go_frame
   refine tP 8 8 rfl HS8.out (fun w hw=>by obtain⟨hw1,hw2,hw3,hw4⟩:=hw;go_simp;try with_reducible rfl) ?_
   try go_frame
   refine tT 9 HS8.out ?_
   try go_frame
   refine tP 8 10 rfl HS8.out (fun w hw=>by obtain⟨hw1,hw2,hw3,hw4⟩:=hw;go_simp;try with_reducible rfl) ?_
   try go_frame
   refine tT 11 HS8.out ?_
   try go_frame
   refine tP 8 12 rfl HS8.out (fun w hw=>by obtain⟨hw1,hw2,hw3,hw4⟩:=hw;go_simp;try with_reducible rfl) ?_
   try go_frame
   refine tT 13 HS8.out ?_
   try go_frame
   refine fP 14 fun K hK=>?_
   go_simp
   refine (rcopied_any HRD.out HNL.out (by omega)).mono ?_
   rintro y w1 ⟨A1,c1,rfl,hrow1,hb1⟩
   have hS1:=HKEEP8.out w1 ((Below.refl wq.heap.size wq).drew.trans hb1)
   refine hK _ _ (hS1) ?_;clear hK K
   try go_frame
   refine tT 15 hS1 ?_
   try go_frame
   refine fP 16 fun K hK=>?_
   go_simp
   have hS2:=HKEEP8.out (w1.alloc (.cells #[encStr p.1,.slice A1 (D.at p.2).safe c1] tFile)) (((Below.refl wq.heap.size wq).drew.trans hb1).alloc hb1.size _)
   refine hK _ _ (hS2) ?_;clear hK K
   try go_frame
   have HFW:=Hd ((HFA.out.below (HBQ.out.trans (((Below.refl wr.heap.size wq).drew.trans (hb1.mono (by show wr.heap.size<=wq.drew.heap.size;exact HBQ.out.size)))))).below ((Below.refl w1.heap.size w1).alloc (Nat.le_refl _) (.cells #[encStr p.1,.slice A1 (D.at p.2).safe c1] tFile)))
   have hfr:=HFW.out.row
   rw[HFL.out] at hfr
   have HVB9:=Hd (show V<=(w1.alloc (.cells #[encStr p.1,.slice A1 (D.at p.2).safe c1] tFile)).heap.size from by have h1:=hb1.size;have h2:=HVB.out;have h3:=HBQ.out.size;simp at h1 ⊢;omega)
   refine lP 17 fun K hK=>?_
   refine wp_append_keeps _ (.tmp 31) (.tmp 47) 90 rfl V tFile f0 (.agg #[.string ⟨#[]⟩,.slice none 0 0]) 2 40 Tryz.underlying90 hf0 hz0 hz1 hz2 rfl (by decide) (.slice Ao i co) i (cF fs dv) rfl hfr ⟨w1.heap.size,0,none⟩ 1 1 [encStr p.1,.slice A1 (D.at p.2).safe c1] rfl rfl (new_cells _ [encStr p.1,.slice A1 (D.at p.2).safe c1] tFile) (by simp[Value.oneCell']) (by omega) (by unfold maxLen;omega) (by omega) HVB9.out ?_
   intro g2 cap2 w3 hg hgr hat2 hlt9 _
   go_simp
   refine hK _ _ ?_;clear hK K
   try go_frame
   refine tL 18 ?_
   try go_frame
   refine wpAny_done (by kernel_rfl) ?_ _
   have hsn:=HFW.out.snoc (f:=(p.1,(D.at p.2).data.take (D.at p.2).safe)) (x:=.slice A1 (D.at p.2).safe c1) (by rw[List.length_take,Nat.min_eq_left hsf];exact own_base (own_alloc hrow1 _) (by have h1:=HVB.out;have h3:=HBQ.out.size;simp;omega)) (fun g hg=>(HFA.out.fresh (by have:=own_ge hrow1 hg;have h3:=HBQ.out.size;simp at this;omega))) (by rw[HFL.out];exact hg) hgr
   have hb3:Below V w w3:=((HB.out.trans ((HBQ.out.mono HVB.out).trans ((Below.refl V wq).drew.trans (hb1.mono (by have h3:=HBQ.out.size;have h2:=HVB.out;show V<=wq.heap.size;omega))))).alloc (by have h1:=hb1.size;have h2:=HVB.out;have h3:=HBQ.out.size;simp at h1;omega) _).grown hgr (by have h1:=hb1.size;have h2:=HVB.out;have h3:=HBQ.out.size;simp at h1 ⊢;omega) (fun k hk=>own_ge HFA.out.row hk)
   have HSN:=Hd hsn
   have HB3:=Hd hb3
   clear hsn hb3 hg hgr hat2 hlt9 hrow1 hb1 hS1 hS2 HFW hfr hsl
   go_wp2
   go_roundw
   case rel=>
    refine⟨i+1,dv++[.slice A1 (D.at p.2).safe c1],by go_num,by omega,?_,HB3.out⟩
    rw[files_take HP.out,HFD.out]
    exact HSN.out
   case measure=>simp[intOf];omega
  ·obtain rfl:i=D.kept.length:=by omega
   rw[List.take_length] at hfa
   have hfl:(D.files D.kept (fun b=>b.data.take b.safe)).length=n0:=by rw[files_len];exact HN1.out
   obtain⟨Ao,co,rfl,_,_⟩:=own_form hfa.row
   rw[hfl] at hfa ⊢
   have HFA:=Hd hfa
   have HB:=Hd hb
   clear hfa hb hA hfl
   go_wp2
   refine bodyPost_ret (v:=.slice Ao n0 co) (by simp[results,Tryz.results41,go_sem]) rfl ?_
   exact⟨Ao,co,dv,rfl,HFA.out,HB.out⟩
end
end Go.Proofs.YtmgljaecmchgaaaGreat.Dr
namespace Go.Proofs.YtmgljaecmchgaaaGreat.Dr
open Go.RowKit Go.Proofs Go.Proofs.YtmgljaecmchgaaaGreat.Ring
theorem grown_keep {w w':World} {b b' size size' n n':Nat} {e e':TypeId} {v v':Value} {xs xs':List Value} (h:w.ownsRow b e size v n xs) (h':w.ownsRow b' e' size' v' n' xs') (he:e≠e') (hg:w.grownBy w' v'.ownBlock):w'.ownsRow b e size v n xs:=by
 refine own_same h fun k hk=>?_
 obtain⟨cur,h1⟩:=own_lt h hk
 exact hg.block k (Array.getElem?_eq_some_iff.1 h1).1 fun e2=>typ_of h' e2.symm he cur h1
end Go.Proofs.YtmgljaecmchgaaaGreat.Dr
