/- XK09: merged by tools/merge.py. -/
import Derived.Test.YtmgljaecmchgaaaGreatQ12
import Derived.Test.YtmgljaecmchgaaaGreatQ09
import Derived.Test.YtmgljaecmchgaaaGreatQ01
set_option linter.unusedVariables false
set_option linter.unusedSimpArgs false
set_option linter.unusedSectionVars false
namespace Go.Proofs.YtmgljaecmchgaaaGreat.Dr
open Go.RowKit Go.Proofs Go.Proofs.YtmgljaecmchgaaaGreat.Ring
theorem put_lastE {l:Dir} (h:Rise l) {n:Bs} (ha:∀ p∈l,bytesBefore p.1 n=true) {i:Nat}:dirE (put l n (some i))=dirE l++[(n,(i:Int))]:=by
 rw[<-setE_dir h n (some i)]
 obtain⟨h1,h2⟩:=ahead_of (l:=dirE l) (n:=n) (i:=(dirE l).length) (Nat.le_refl _) (fun j p _ hp=>by
  obtain⟨q,hq,rfl⟩:=List.mem_map.1 (List.mem_of_getElem? hp)
  exact ha q hq) (fun p hp=>by rw[List.getElem?_eq_none (Nat.le_refl _)] at hp;cases hp)
 unfold setE
 rw[h1,h2,List.take_length,List.drop_length]
 simp[zOf,skipE]
theorem find_last {l:Dir} {n:Bs} (ha:∀ p∈l,bytesBefore p.1 n=true):find l n=none:=by
 unfold find
 rw[Option.map_eq_none_iff,List.find?_eq_none]
 intro p hp h
 exact before_ne (ha p hp) (by simpa using h)
theorem rise_last {l:Dir} (h:Rise l) {n:Bs} {j:Nat} {p:Bs×Nat} (hp:l[j]?=some p) (hj:l.length=j+1) (hb:bytesBefore p.1 n=true):∀ q∈l,bytesBefore q.1 n=true:=by
 intro q hq
 obtain⟨k,hk⟩:=List.getElem?_of_mem hq
 obtain⟨hkl,hke⟩:=List.getElem?_eq_some_iff.1 hk
 obtain⟨hjl,hje⟩:=List.getElem?_eq_some_iff.1 hp
 rcases Nat.lt_or_ge k j with h1 | h1
 ·have:=(List.pairwise_iff_getElem.1 h) k j hkl hjl h1
  rw[hke,hje] at this
  exact before_trans this hb
 ·obtain rfl:k=j:=by omega
  rw[<-hke,hje];exact hb
theorem loadAt_lens:∀ (fs:List (Bs×Bs)) {d d':Dr.D},loadAt d fs=some d'->d'.bd.length=d.bd.length+fs.length
 | [],_,_,e=>by injection e with e;subst e;rfl
 | (n,x)::r,d,d',e=>by
  unfold loadAt at e
  split at e
  ·cases e
  ·have:=loadAt_lens r e
   rw[this];simp;omega
theorem RefAt.putNow {w w':World} {S S':Nat->Prop} {r:Nat} {D:Dr.D} {vb vn vk vc:Value} {ds cs:List Value} (h:RefAt w S r D vb vn vk vc ds cs) (hS:∀ k,S k->S' k) (hlow:∀ k,S' k->k<w'.heap.size) (hh:w'.heap[r]?=w.heap[r]?) (hr:∀ {e base size n u xs},w.ownsRow base e size u n xs->e≠tEnt->w'.ownsRow base e size u n xs)
  (hk:EntAt w' 0 vk (dirE D.kept)) (hE:∀ (j:Nat) c v,D.pend[j]?=some c->cs[j]?=some v->EntAt w' 0 v (chgE c)) {v:Value} {l:Dir} (hv:EntAt w' 0 v (dirE l)) (hs:∀ g,v.ownBlock=some g->S' g) :
  RefAt (w'.setCell ⟨r,2,none⟩ v) S' r {D with now:=l} vb v vk vc ds cs:=by
 have hr2:∀ {e base size n u xs},w'.ownsRow base e size u n xs->e≠tRef->(w'.setCell ⟨r,2,none⟩ v).ownsRow base e size u n xs:=fun h1 he=>row_other h1 (g:=r) (set_block (a:=⟨r,2,none⟩)) (fun cur hc=>by
  rw[hh,h.head] at hc
  injection hc with hc
  injection hc with _ hc _
  exact he hc.symm)
 exact⟨heap_same (hh.trans h.head) v,hr2 (hr h.bod (by decide)) (by decide),h.dl,fun i b v hb hv=>hr2 (hr (h.dat i b v hb hv) (by decide)) (by decide),hr2 hv (by decide),hr2 hk (by decide),hr2 (hr h.chg (by decide)) (by decide),fun j c v hc hv=>hr2 (hE j c v hc hv) (by decide),hS r h.inR,fun g hg=>hS g (h.inB g hg),hs,fun g hg=>hS g (h.inK g hg),fun g hg=>hS g (h.inC g hg),fun v hv g hg=>hS g (h.inD v hv g hg),fun v hv g hg=>hS g (h.inE v hv g hg),fun k hk=>by have:=hlow k hk;simpa [World.setCell] using this⟩
def FilesRo (w:World) (A:Option Addr) (n:Nat) (fs:List (Bs×Bs)):Prop:=
 fs.length=n/\∀ (i:Nat) (f:Bs×Bs),fs[i]?=some f->∃ g o Af cf,A=some ⟨g,o,none⟩/\g<w.heap.size/\w.cell? ⟨g,o+i*2,none⟩=some (encStr f.1)/\w.cell? ⟨g,o+i*2+1,none⟩=some (.slice Af f.2.length cf)/\Rd w w.heap.size 1 Af f.2.length (cU8 f.2)/\(Af=none->cf=0)
def LdR (w w':World) (o:Option Dr.D) (m n:Nat) (p:Option Addr):Prop:=(o=none/\p=none)\/∃ D d S,o=some D/\p=some ⟨d,0,none⟩/\Rv w' S d D m n/\∀ k,S k->w.heap.size<=k
set_option maxRecDepth 100000 in
set_option maxHeartbeats 16000000 in
theorem rload_any (r:Int) {w:World} {A:Option Addr} {n c m:Nat} {fs:List (Bs×Bs)} (hf:FilesRo w A n fs) (hm:∀ f∈fs,f.2.length<=m) (hm2:m<=140737488355328) (hn:n<=4398046511103) :
  Calls Tryz.prog 24 #[.int .i64 r,.slice A n c] w fun x w'=>Below w.heap.size w w'/\∃ p,x = .returned (.pointer p)/\LdR w w' (Dr.D.load r fs) m n p:=by
 cases hr:okRoom r with
 | false=>
  have he:Dr.D.load r fs=none:=by unfold Dr.D.load;rw[if_neg (by simp[hr])]
  go_enter Tryz.func24,Tryz.ntmps24
  go_wp2_with (go_at_call 50;refine (rnew_not r hr _).mono ?_;rintro x w1 ⟨rfl,rfl⟩)
  go_ret
  have h9:LdR w w (Dr.D.load r fs) m n none:=.inl ⟨he,rfl⟩
  first | exact⟨Below.refl _ _,none,rfl,h9⟩ | exact⟨Below.refl _ _,h9⟩
 | true=>
  obtain⟨q,rfl⟩:∃ q:Nat,r=(q:Int):=⟨r.toNat,by have:=of_decide_eq_true hr;omega⟩
  have hq:q<=1073741824:=by have:=of_decide_eq_true hr;omega
  have he:Dr.D.load (q:Int) fs=loadAt (Dr.D.fresh q) fs:=by unfold Dr.D.load;rw[if_pos hr];rfl
  rw[he]
  obtain⟨b0,hb0,hz0,hz1,hz2⟩:=info_parts infoBd
  obtain⟨e0,he0,hy0,hy1,hy2⟩:=info_parts infoEnt
  have HF:=Hd hf
  have HM:=Hd hm
  clear hf he hr hm
  go_enter Tryz.func24,Tryz.ntmps24
  go_upto_region 5 with (go_at_call 50;refine (rnew_any q hq _).mono ?_;rintro x w1 ⟨d,rfl,hd,hD,hb⟩;clear hd)
  go_loopw [6] (fun iv wr=>∃ (i:Nat) (Di:Dr.D) (Si:Nat->Prop) (vb vn:Value) (ds:List Value),iv = .int .i64 (i:Int)/\i<=n/\loadAt (Dr.D.fresh q) (fs.take i)=some Di/\RefAt wr Si d ⟨Di.room,Di.bd,Di.now,[],Di.pend⟩ vb vn (.slice none 0 0) (.slice none 0 0) ds []/\(∀ k,Si k->w.heap.size<=k)/\Below w.heap.size w wr) (fun iv _=>n - (intOf iv).toNat)
  case atStart=>exact⟨0,_,_,_,_,_,rfl,by omega,rfl,hD,fun k hk=>(by rw[hk];exact Nat.le_refl _),hb⟩
  case round=>
   clear hD hb
   obtain⟨i,Di,Si,vb,vn,ds,rfl,hi,hld,hDi,hlow,hbr⟩:=hrel
   have hpend:=(loadAt_joined _ rfl rfl hld).2
   have hlen:Di.bd.length=min i fs.length:=by have:=loadAt_lens _ hld;rw[this,List.length_take];simp[Dr.D.fresh]
   have hnlen:Di.now.length=Di.bd.length:=(loadAt_whole _ (by rfl) (fun b hb=>(by cases hb)) hld).1
   have hok:=loadAt_ok (fs.take i) (D.Ok.fresh hq 0 0) rfl hld
   have hfl:=HF.out.1
   rw[hfl,Nat.min_eq_left hi] at hlen
   rw[hlen] at hnlen
   obtain⟨Ab,cb,An,cn,_,_,_,_,rfl,rfl,hvk,hvc⟩:=hDi.open
   dsimp only at hvk hvc hDi
   rw[hlen,hnlen] at hDi
   obtain⟨_,x1,x2,_,_⟩:=rcells hDi.head
   have f2:=rfroz hDi.head 2
   have f3:=rfroz hDi.head 3
   by_cases hlt:i<n
   ·obtain⟨f,hfi⟩:∃ f,fs[i]?=some f:=⟨_,List.getElem?_eq_getElem (by omega)⟩
    obtain⟨nm,x⟩:=f
    obtain⟨g,o,Af,cf,rfl,hg,c0,c1,hx,hnl⟩:=HF.out.2 i _ hfi
    simp only at c0 c1 hx
    have hgb:wr.heap[g]?=w.heap[g]?:=hbr.block g hg
    have d0:wr.cell? ⟨g,o+i*2,none⟩=some (encStr nm):=(World.cell?_of_block hgb).trans c0
    have d1:wr.cell? ⟨g,o+i*2+1,none⟩=some (.slice Af x.length cf):=(World.cell?_of_block hgb).trans c1
    have hlt2:(i:Int)<(n:Int):=by omega
    have hxl:x.length<=m:=HM.out _ (List.mem_of_getElem? hfi)
    have hxm:x.length<=140737488355328:=by omega
    have HX:=Hd hx
    have HA:=Hd hDi
    have HB:=Hd hbr
    have HLD:=Hd hld
    have HLOW:=Hd hlow
    have HFI:=Hd hfi
    have HPE:=Hd hpend
    have HBL:=Hd hlen
    have HNL3:=Hd hnlen.symm
    have HNL2:=Hd (show i=(dirE Di.now).length from by rw[dirE_len,hnlen])
    have HRISE:=Hd hok.now
    have HGW:=Hd hg
    have HGL:=Hd (show g<wr.heap.size from Nat.lt_of_lt_of_le hg hbr.size)
    have hls2:=loadAt_snoc (fs.take i) (Dr.D.fresh q) (nm,x)
    rw[<-take_snoc_f hfi,hld] at hls2
    have HLS2:=Hd (show loadAt (Dr.D.fresh q) (fs.take (i+1))=loadAt Di [(nm,x)] from hls2)
    have HBAD:=Hd (show ((find Di.now nm).isSome||!named nm)=true->loadAt (Dr.D.fresh q) fs=none from fun hbad=>by
     have h1:loadAt (Dr.D.fresh q) (fs.take (i+1))=none:=by
      rw[hls2]
      show loadAt Di [(nm,x)]=none
      unfold loadAt
      rw[if_pos hbad]
     have:=loadAt_none _ (fs.drop (i+1)) _ h1
     rwa [List.take_append_drop] at this)
    clear c0 c1 hgb hx hDi hbr hld hlow hfi hpend hlen hnlen hok hls2 hg hvk hvc f3 hfl
    rcases Nat.eq_zero_or_pos i with hi0 | hi0
    ·have hlast:∀ p∈Di.now,bytesBefore p.1 nm=true:=by
      have h0:Di.now=[]:=List.eq_nil_of_length_eq_zero (by have:=HNL3.out;omega)
      rw[h0];intro p hp;cases hp
     have hi2:decide ((i:Int)=0)=true:=decide_eq_true (by omega)
     have hi3:((i:Int)==0)=true:=by rw[hi0];rfl
     clear hi0
     have HLAST:=Hd hlast
     clear hlast
     cases hnm:named nm with
     | false=>
      have HNM:=Hd hnm
      have HNO:=Hd (HBAD.out (by rw[hnm];simp))
      clear hnm
      go_wp2_with (first | (go_at_call 51;refine (rnamed_any nm _).mono ?_;rw[HNM.out];rintro y w3 ⟨rfl,rfl⟩) | (go_at_call 52;refine (rfind_any HNL2.out HA.out.now nm HY.out).mono ?_;rintro y w3 ⟨rfl,rfl⟩))
      go_ret
      have h9:LdR w wr (loadAt (Dr.D.fresh q) fs) m n none:=.inl ⟨HNO.out,rfl⟩
      first | exact⟨HB.out,none,rfl,h9⟩ | exact⟨HB.out,h9⟩
     | true=>
      have HNM:=Hd hnm
      clear hnm
      have HPUT:=Hd (show dirE (put Di.now nm (some i))=dirE Di.now++[(nm,(i:Int))] from put_lastE HRISE.out HLAST.out)
      have HFN:=Hd (show find Di.now nm=none from find_last HLAST.out)
      have hbad:¬ ((find Di.now nm).isSome||!named nm)=true:=by rw[HFN.out,HNM.out];decide
      have hst:loadAt (Dr.D.fresh q) (fs.take (i+1))=some ⟨Di.room,Di.bd++[⟨x,x.length⟩],put Di.now nm (some Di.bd.length),put Di.kept nm (some Di.bd.length),[]⟩:=by
       rw[HLS2.out]
       show loadAt Di [(nm,x)]=_
       unfold loadAt
       rw[if_neg hbad]
       rfl
      have HST:=Hd hst
      have HLL:=Hd (show ∀ (wx:World) (SX:Nat->Prop) (vb vn vk vc:Value) (ds cs:List Value),RefAt wx SX d ⟨Di.room,Di.bd++[⟨x,x.length⟩],put Di.now nm (some i),[],Di.pend⟩ vb vn vk vc ds cs->RefAt wx SX d ⟨Di.room,Di.bd++[⟨x,x.length⟩],put Di.now nm (some Di.bd.length),[],[]⟩ vb vn vk vc ds cs from fun _ _ _ _ _ _ _ _ h=>by rw[HBL.out,<-HPE.out];exact h)
      clear hbad hst
      go_upto_region 12 with (first | (go_at_call 51;refine (rnamed_any nm _).mono ?_;rw[HNM.out];rintro y w3 ⟨rfl,rfl⟩) | (go_at_call 52;refine (rfind_any HNL2.out HA.out.now nm HY.out).mono ?_;rintro y w3 ⟨rfl,rfl⟩))
      have HRD:=Hd (show Rd wr.drew wr.drew.heap.size 1 Af x.length (cU8 x) from HX.out.next HB.out.drew)
      have HX1:=Hd x1
      have HD1:=Hd d1
      have HDL:=Hd (HA.out.low d HA.out.inR)
      have HNL:=Hd hnl
      clear d0 x1 x2 d1 hnl
      refine wp_region_any (by kernel_rfl) ?_
      change wpAny _ _ _ _ _ _ _ (World.drew _)
      refine wpAny_of_P (S:=fun w'=>w'.cell? ⟨d,1,none⟩=some (.slice Ab i cb)/\w'.cell? ⟨g,o+i*2+1,none⟩=some (.slice Af x.length cf)) (late:=[22]) _ _ _ _ ?_
      refine tT 0 ⟨HX1.out,HD1.out⟩ ?_
      try go_frame
      refine tT 1 ⟨HX1.out,HD1.out⟩ ?_
      try go_frame
      refine tT 2 ⟨HX1.out,HD1.out⟩ ?_
      try go_frame
      refine tT 3 ⟨HX1.out,HD1.out⟩ ?_
      try go_frame
      refine tP 8 4 rfl ⟨HX1.out,HD1.out⟩ (fun w hw=>by obtain⟨hw1,hw2⟩:=hw;go_simp;try with_reducible rfl) ?_
      try go_frame
      refine tT 5 ⟨HX1.out,HD1.out⟩ ?_
      try go_frame
      refine tT 6 ⟨HX1.out,HD1.out⟩ ?_
      try go_frame
      refine tT 7 ⟨HX1.out,HD1.out⟩ ?_
      try go_frame
      refine tT 8 ⟨HX1.out,HD1.out⟩ ?_
      try go_frame
      refine tP 8 9 rfl ⟨HX1.out,HD1.out⟩ (fun w hw=>by obtain⟨hw1,hw2⟩:=hw;go_simp;try with_reducible rfl) ?_
      try go_frame
      refine tT 11 ⟨HX1.out,HD1.out⟩ ?_
      try go_frame
      refine tT 12 ⟨HX1.out,HD1.out⟩ ?_
      try go_frame
      refine tT 13 ⟨HX1.out,HD1.out⟩ ?_
      try go_frame
      refine tT 14 ⟨HX1.out,HD1.out⟩ ?_
      try go_frame
      refine tP 8 15 rfl ⟨HX1.out,HD1.out⟩ (fun w hw=>by obtain⟨hw1,hw2⟩:=hw;go_simp;try with_reducible rfl) ?_
      try go_frame
      refine tT 16 ⟨HX1.out,HD1.out⟩ ?_
      try go_frame
      refine fP 10 fun K hK=>?_
      go_simp
      refine (rcopied_any HRD.out HNL.out (by omega)).mono ?_
      rintro y w1 ⟨A1,c1,rfl,hrow1,hb1⟩
      have hx1:w1.cell? ⟨d,1,none⟩=some (.slice Ab i cb):=(hb1.cell (p:=⟨d,1,none⟩) HDL.out).trans HX1.out
      have he1:w1.cell? ⟨g,o+i*2+1,none⟩=some (.slice Af x.length cf):=(hb1.cell (p:=⟨g,o+i*2+1,none⟩) HGL.out).trans HD1.out
      have HBZ:=Hd (show Below wr.heap.size wr (w1.alloc (.cells #[.slice A1 x.length c1,.int .i64 (x.length:Int)] tBd)) from ((Below.refl wr.heap.size wr).drew.trans hb1).alloc (by have:=hb1.size;exact this) _)
      have HAZ:=Hd (HA.out.below HBZ.out)
      have hbz:=HAZ.out.bod
      rw[HBL.out] at hbz
      refine hK _ _ (⟨hx1,he1⟩) ?_;clear hK K
      try go_frame
      refine tT 17 ⟨hx1,he1⟩ ?_
      try go_frame
      refine fP 18 fun K hK=>?_
      go_simp
      refine hK _ _ (⟨(rcells HAZ.out.head).2.1,(HBZ.out.cell (p:=⟨g,o+i*2+1,none⟩) HGL.out).trans HD1.out⟩) ?_;clear hK K
      try go_frame
      refine fP 19 fun K hK=>?_
      refine wp_append_keeps _ (.tmp 61) (.tmp 75) 137 rfl 0 tBd b0 (.agg #[.slice none 0 0,.int .i64 0]) 2 32 Tryz.underlying137 hb0 hz0 hz1 hz2 rfl (by decide) (.slice Ab i cb) i (cB Di.bd ds) rfl hbz ⟨w1.heap.size,0,none⟩ 1 1 [.slice A1 x.length c1,.int .i64 (x.length:Int)] rfl rfl (new_cells _ [.slice A1 x.length c1,.int .i64 (x.length:Int)] tBd) (by simp[Value.oneCell']) (by omega) (by unfold maxLen;omega) (by omega) (Nat.zero_le _) ?_
      intro g2 cap2 w3 hg hgr hat2 hlt9 _
      have hd3:=(hgr.block d (HAZ.out.low d HAZ.out.inR) (fun e=>typ_of HAZ.out.bod e.symm (show tRef≠tBd by decide) _ HAZ.out.head)).trans HAZ.out.head
      have hx3:w3.cell? ⟨d,1,none⟩=some (.slice Ab i cb):=(rcells hd3).2.1
      have hf3:=rfroz hd3 1
      have hg3:w3.cell? ⟨g,o+i*2+1,none⟩=some (.slice Af x.length cf):=(World.cell?_of_block (a:=⟨g,o+i*2+1,none⟩) (hgr.block g (Nat.lt_of_lt_of_le HGL.out HBZ.out.size) (fun e=>absurd (HLOW.out g (HA.out.inB g e.symm)) (by have:=HGW.out;omega)))).trans ((HBZ.out.cell (p:=⟨g,o+i*2+1,none⟩) HGL.out).trans HD1.out)
      go_simp
      refine hK _ _ (⟨hx3,hg3⟩) ?_;clear hK K
      try go_frame
      refine tT 20 ⟨hx3,hg3⟩ ?_
      try go_frame
      refine tT 21 ⟨hx3,hg3⟩ ?_
      try go_frame
      refine lP 22 fun K hK=>?_
      go_simp
      refine hK _ _ ?_;clear hK K
      try go_frame
      refine wpAny_done (by kernel_rfl) ?_ _
      have hlow3:∀ q,(Si q\/(wr.heap.size<=q/\q<(w1.alloc (.cells #[.slice A1 x.length c1,.int .i64 (x.length:Int)] tBd)).heap.size))->q<(w1.alloc (.cells #[.slice A1 x.length c1,.int .i64 (x.length:Int)] tBd)).heap.size:=fun q hq=>by
       rcases hq with hq | hq
       ·exact Nat.lt_of_lt_of_le (HA.out.low q hq) HBZ.out.size
       ·exact hq.2
      have hbod:w3.ownsRow 0 tBd 2 (.slice (some ⟨g2,0,none⟩) (i+1) cap2) (i+1) (cB Di.bd ds++[.slice A1 x.length c1,.int .i64 ((⟨x,x.length⟩:Bd).safe:Int)]):=hg
      have hadd:=(HAZ.out.wider (S':=fun q=>Si q\/(wr.heap.size<=q/\q<(w1.alloc (.cells #[.slice A1 x.length c1,.int .i64 (x.length:Int)] tBd)).heap.size)) (fun q hq=>.inl hq) hlow3).addBod (b:=⟨x,x.length⟩) (x:=.slice A1 x.length c1) (own_alloc (own_base hrow1 (Nat.zero_le _)) _) (fun q hq=>.inr ⟨own_ge hrow1 hq,by obtain⟨cur,h3⟩:=own_lt hrow1 hq;have:=(Array.getElem?_eq_some_iff.1 h3).1;simp;omega⟩) hgr hbod (by
       rcases hat2 with h | h
       ·exact .inl h
       ·exact .inr (Nat.le_of_eq h.symm)) hlt9
      obtain⟨w4,hw4⟩:∃ w4,w3.setCell ⟨d,1,none⟩ (.slice (some ⟨g2,0,none⟩) (i+1) cap2)=w4:=⟨_,rfl⟩
      have hb4:Below w.heap.size w w4:=by
       rw[<-hw4]
       exact (((HB.out.trans (HBZ.out.mono HB.out.size)).grown hgr (Nat.le_trans HB.out.size HBZ.out.size) (fun q hq=>HLOW.out q (HA.out.inB q hq))).setCell (p:=⟨d,1,none⟩) (HLOW.out d HA.out.inR) _)
      have hs4:∀ q,((Si q\/(wr.heap.size<=q/\q<(w1.alloc (.cells #[.slice A1 x.length c1,.int .i64 (x.length:Int)] tBd)).heap.size))\/((w1.alloc (.cells #[.slice A1 x.length c1,.int .i64 (x.length:Int)] tBd)).heap.size<=q/\q<w3.heap.size))->w.heap.size<=q:=fun q hq=>by
       rcases hq with (hq | hq) | hq
       ·exact HLOW.out q hq
       ·exact Nat.le_trans HB.out.size hq.1
       ·exact Nat.le_trans (Nat.le_trans HB.out.size HBZ.out.size) hq.1
      obtain⟨S4,hS4⟩:∃ S4:Nat->Prop,(fun q=>(Si q\/(wr.heap.size<=q/\q<(w1.alloc (.cells #[.slice A1 x.length c1,.int .i64 (x.length:Int)] tBd)).heap.size))\/((w1.alloc (.cells #[.slice A1 x.length c1,.int .i64 (x.length:Int)] tBd)).heap.size<=q/\q<w3.heap.size))=S4:=⟨_,rfl⟩
      rw[hS4] at hadd
      have HS4:=Hd (show ∀ q,S4 q->w.heap.size<=q from by rw[<-hS4];exact hs4)
      rw[hw4] at hadd ⊢
      have hA4:RefAt w4 S4 d ⟨Di.room,Di.bd++[⟨x,x.length⟩],Di.now,[],Di.pend⟩ (.slice (some ⟨g2,0,none⟩) (i+1) cap2) (.slice An i cn) (.slice none 0 0) (.slice none 0 0) (ds++[.slice A1 x.length c1]) []:=hadd
      have HA4:=Hd hA4
      have HB4:=Hd hb4
      clear hadd hA4 hb4 hs4 hS4 hw4 hbod hlow3 hrow1 hb1 hx1 he1 hbz hg hgr hat2 hlt9 hd3 hx3 hf3 hg3 HBZ HAZ
      obtain⟨_,_,x2,_,_⟩:=rcells HA4.out.head
      have f2:=rfroz HA4.out.head 2
      have hrn:w4.ownsRow 0 tEnt 2 (.slice An i cn) i (cE (dirE Di.now)):=by
       have:=HA4.out.now
       unfold EntAt at this
       rw[<-HNL2.out] at this
       exact this
      have HRN:=Hd hrn
      clear hrn
      go_wp2_with (at_builtin;go_loud (refine wpList_append_keeps _ rfl (.tmp 84) (.tmp 88) 138 rfl 0 tEnt e0 (.agg #[.string ⟨#[]⟩,.int .i64 0]) 2 24 Tryz.underlying138 he0 hy0 hy1 hy2 rfl (by decide) (.slice An i cn) i (cE (dirE Di.now)) rfl (own_alloc HRN.out _) ⟨w4.heap.size,0,none⟩ 1 1 [encStr nm,.int .i64 (i:Int)] rfl rfl (new_cells _ [encStr nm,.int .i64 (i:Int)] tEnt) (by simp[Value.oneCell']) (by omega) (by unfold maxLen;omega) (by omega) (Nat.zero_le _) ?_);go_loud (intro g5 cap5 w5 hg hgr hat hlt9 _);have HG:=Hd hg;have HGR:=Hd hgr;have HAT:=Hd hat;have HLT:=Hd hlt9;go_loud (have hd5:=(hgr.block d (by have:=HA4.out.low d HA4.out.inR;simp;omega) (fun e=>typ_of HRN.out e.symm (show tRef≠tEnt by decide) _ HA4.out.head)).trans ((alloc_was _ _ (HA4.out.low d HA4.out.inR)).trans HA4.out.head));obtain⟨_,_,z2,_,_⟩:=rcells hd5;have zf:=rfroz hd5 2;clear hg hgr hat hlt9 hd5)
      have hbz5:Below w4.heap.size w4 (w4.alloc (.cells #[encStr nm,.int .i64 (i:Int)] tEnt)):=(Below.refl _ _).alloc (Nat.le_refl _) _
      have hA5:=((HA4.out.below hbz5).putNow (w':=w5) (S':=fun q=>S4 q\/(w4.heap.size<=q/\q<w5.heap.size)) (fun q hq=>.inl hq) (fun q hq=>(by
       rcases hq with hq | hq
       ·exact Nat.lt_of_lt_of_le (HA4.out.low q hq) (Nat.le_trans hbz5.size HGR.out.size)
       ·exact hq.2)) (HGR.out.block d (by have:=HA4.out.low d HA4.out.inR;simp;omega) (fun e=>typ_of HRN.out e.symm (show tRef≠tEnt by decide) _ HA4.out.head)) (fun {e} {base} {size} {n} {u} {xs} h he=>grown_keep h (own_alloc HRN.out _) he HGR.out) (World.ownsRow_nil _ _ _ _) (fun j c v hj=>(by rw[HPE.out] at hj;cases hj))
       (v:=.slice (some ⟨g5,0,none⟩) (i+1) cap5) (l:=put Di.now nm (some i)) (by unfold EntAt;rw[HPUT.out,List.length_append,dirE_len,<-HNL3.out,cE_append];exact HG.out) (fun q hq=>(by
       obtain rfl:g5=q:=by simpa [Value.ownBlock] using hq
       rcases HAT.out with h | h
       ·exact .inl (HA4.out.inN g5 h)
       ·exact .inr ⟨by have h1:=h;simp at h1;omega,HLT.out⟩)))
      have hb5:Below w.heap.size w (w5.setCell ⟨d,2,none⟩ (.slice (some ⟨g5,0,none⟩) (i+1) cap5)):=
       ((HB4.out.trans (hbz5.mono HB4.out.size)).grown HGR.out (Nat.le_trans HB4.out.size hbz5.size) (fun q hq=>HS4.out q (HA4.out.inN q hq))).setCell (p:=⟨d,2,none⟩) (HS4.out d HA4.out.inR) _
      have HA5:=Hd hA5
      have HB5:=Hd hb5
      have HS5:=Hd (show ∀ q,(S4 q\/(w4.heap.size<=q/\q<w5.heap.size))->w.heap.size<=q from fun q hq=>hq.elim (HS4.out q) (fun h=>Nat.le_trans HB4.out.size h.1))
      clear hbz5 hA5 hb5 HG HGR HAT HLT z2 zf x2 f2
      go_roundw
      case rel=>exact⟨i+1,_,_,_,_,_,by go_num,by omega,HST.out,HLL.out _ _ _ _ _ _ _ _ HA5.out,HS5.out,HB5.out⟩
      case measure=>simp[intOf];omega
    ·obtain⟨p,hp⟩:∃ p,Di.now[i - 1]?=some p:=⟨_,List.getElem?_eq_getElem (by have:=HNL3.out;omega)⟩
     obtain⟨j,hj⟩:∃ j,i=j+1:=⟨i - 1,by omega⟩
     rw[hj,Nat.add_sub_cancel] at hp
     obtain⟨gn,rfl,_,_,e0',_⟩:=ent_cells HA.out.now (dirE_at hp)
     dsimp only at e0'
     have hi1:((i:Int)==0)=false:=by rw[hj];simp;omega
     have hi2:decide ((i:Int)=0)=false:=decide_eq_false (by omega)
     have hi3:(i:Int) - 1=(j:Int):=by omega
     have hi4:(j:Int)<(i:Int):=by omega
     have hlj:Di.now.length=j+1:=by have:=HNL3.out;omega
     clear hj hi0
     cases hbf:bytesBefore p.1 nm with
     | true=>
      have hbf2:Op.bytesLess p.1 nm=true:=by rw[less_before];exact hbf
      have hlast:∀ p∈Di.now,bytesBefore p.1 nm=true:=rise_last HRISE.out hp hlj hbf
      clear hbf hp hlj
      have HLAST:=Hd hlast
      clear hlast
      cases hnm:named nm with
      | false=>
       have HNM:=Hd hnm
       have HNO:=Hd (HBAD.out (by rw[hnm];simp))
       clear hnm
       go_wp2_with (first | (go_at_call 51;refine (rnamed_any nm _).mono ?_;rw[HNM.out];rintro y w3 ⟨rfl,rfl⟩) | (go_at_call 52;refine (rfind_any HNL2.out HA.out.now nm HY.out).mono ?_;rintro y w3 ⟨rfl,rfl⟩))
       go_ret
       have h9:LdR w wr (loadAt (Dr.D.fresh q) fs) m n none:=.inl ⟨HNO.out,rfl⟩
       first | exact⟨HB.out,none,rfl,h9⟩ | exact⟨HB.out,h9⟩
      | true=>
       have HNM:=Hd hnm
       clear hnm
       have HPUT:=Hd (show dirE (put Di.now nm (some i))=dirE Di.now++[(nm,(i:Int))] from put_lastE HRISE.out HLAST.out)
       have HFN:=Hd (show find Di.now nm=none from find_last HLAST.out)
       have hbad:¬ ((find Di.now nm).isSome||!named nm)=true:=by rw[HFN.out,HNM.out];decide
       have hst:loadAt (Dr.D.fresh q) (fs.take (i+1))=some ⟨Di.room,Di.bd++[⟨x,x.length⟩],put Di.now nm (some Di.bd.length),put Di.kept nm (some Di.bd.length),[]⟩:=by
        rw[HLS2.out]
        show loadAt Di [(nm,x)]=_
        unfold loadAt
        rw[if_neg hbad]
        rfl
       have HST:=Hd hst
       have HLL:=Hd (show ∀ (wx:World) (SX:Nat->Prop) (vb vn vk vc:Value) (ds cs:List Value),RefAt wx SX d ⟨Di.room,Di.bd++[⟨x,x.length⟩],put Di.now nm (some i),[],Di.pend⟩ vb vn vk vc ds cs->RefAt wx SX d ⟨Di.room,Di.bd++[⟨x,x.length⟩],put Di.now nm (some Di.bd.length),[],[]⟩ vb vn vk vc ds cs from fun _ _ _ _ _ _ _ _ h=>by rw[HBL.out,<-HPE.out];exact h)
       clear hbad hst
       go_upto_region 12 with (first | (go_at_call 51;refine (rnamed_any nm _).mono ?_;rw[HNM.out];rintro y w3 ⟨rfl,rfl⟩) | (go_at_call 52;refine (rfind_any HNL2.out HA.out.now nm HY.out).mono ?_;rintro y w3 ⟨rfl,rfl⟩))
       have HRD:=Hd (show Rd wr.drew wr.drew.heap.size 1 Af x.length (cU8 x) from HX.out.next HB.out.drew)
       have HX1:=Hd x1
       have HD1:=Hd d1
       have HDL:=Hd (HA.out.low d HA.out.inR)
       have HNL:=Hd hnl
       clear d0 x1 x2 d1 hnl
       refine wp_region_any (by kernel_rfl) ?_
       change wpAny _ _ _ _ _ _ _ (World.drew _)
       refine wpAny_of_P (S:=fun w'=>w'.cell? ⟨d,1,none⟩=some (.slice Ab i cb)/\w'.cell? ⟨g,o+i*2+1,none⟩=some (.slice Af x.length cf)) (late:=[22]) _ _ _ _ ?_
       refine tT 0 ⟨HX1.out,HD1.out⟩ ?_
       try go_frame
       refine tT 1 ⟨HX1.out,HD1.out⟩ ?_
       try go_frame
       refine tT 2 ⟨HX1.out,HD1.out⟩ ?_
       try go_frame
       refine tT 3 ⟨HX1.out,HD1.out⟩ ?_
       try go_frame
       refine tP 8 4 rfl ⟨HX1.out,HD1.out⟩ (fun w hw=>by obtain⟨hw1,hw2⟩:=hw;go_simp;try with_reducible rfl) ?_
       try go_frame
       refine tT 5 ⟨HX1.out,HD1.out⟩ ?_
       try go_frame
       refine tT 6 ⟨HX1.out,HD1.out⟩ ?_
       try go_frame
       refine tT 7 ⟨HX1.out,HD1.out⟩ ?_
       try go_frame
       refine tT 8 ⟨HX1.out,HD1.out⟩ ?_
       try go_frame
       refine tP 8 9 rfl ⟨HX1.out,HD1.out⟩ (fun w hw=>by obtain⟨hw1,hw2⟩:=hw;go_simp;try with_reducible rfl) ?_
       try go_frame
       refine tT 11 ⟨HX1.out,HD1.out⟩ ?_
       try go_frame
       refine tT 12 ⟨HX1.out,HD1.out⟩ ?_
       try go_frame
       refine tT 13 ⟨HX1.out,HD1.out⟩ ?_
       try go_frame
       refine tT 14 ⟨HX1.out,HD1.out⟩ ?_
       try go_frame
       refine tP 8 15 rfl ⟨HX1.out,HD1.out⟩ (fun w hw=>by obtain⟨hw1,hw2⟩:=hw;go_simp;try with_reducible rfl) ?_
       try go_frame
       refine tT 16 ⟨HX1.out,HD1.out⟩ ?_
       try go_frame
       refine fP 10 fun K hK=>?_
       go_simp
       refine (rcopied_any HRD.out HNL.out (by omega)).mono ?_
       rintro y w1 ⟨A1,c1,rfl,hrow1,hb1⟩
       have hx1:w1.cell? ⟨d,1,none⟩=some (.slice Ab i cb):=(hb1.cell (p:=⟨d,1,none⟩) HDL.out).trans HX1.out
       have he1:w1.cell? ⟨g,o+i*2+1,none⟩=some (.slice Af x.length cf):=(hb1.cell (p:=⟨g,o+i*2+1,none⟩) HGL.out).trans HD1.out
       have HBZ:=Hd (show Below wr.heap.size wr (w1.alloc (.cells #[.slice A1 x.length c1,.int .i64 (x.length:Int)] tBd)) from ((Below.refl wr.heap.size wr).drew.trans hb1).alloc (by have:=hb1.size;exact this) _)
       have HAZ:=Hd (HA.out.below HBZ.out)
       have hbz:=HAZ.out.bod
       rw[HBL.out] at hbz
       refine hK _ _ (⟨hx1,he1⟩) ?_;clear hK K
       try go_frame
       refine tT 17 ⟨hx1,he1⟩ ?_
       try go_frame
       refine fP 18 fun K hK=>?_
       go_simp
       refine hK _ _ (⟨(rcells HAZ.out.head).2.1,(HBZ.out.cell (p:=⟨g,o+i*2+1,none⟩) HGL.out).trans HD1.out⟩) ?_;clear hK K
       try go_frame
       refine fP 19 fun K hK=>?_
       refine wp_append_keeps _ (.tmp 61) (.tmp 75) 137 rfl 0 tBd b0 (.agg #[.slice none 0 0,.int .i64 0]) 2 32 Tryz.underlying137 hb0 hz0 hz1 hz2 rfl (by decide) (.slice Ab i cb) i (cB Di.bd ds) rfl hbz ⟨w1.heap.size,0,none⟩ 1 1 [.slice A1 x.length c1,.int .i64 (x.length:Int)] rfl rfl (new_cells _ [.slice A1 x.length c1,.int .i64 (x.length:Int)] tBd) (by simp[Value.oneCell']) (by omega) (by unfold maxLen;omega) (by omega) (Nat.zero_le _) ?_
       intro g2 cap2 w3 hg hgr hat2 hlt9 _
       have hd3:=(hgr.block d (HAZ.out.low d HAZ.out.inR) (fun e=>typ_of HAZ.out.bod e.symm (show tRef≠tBd by decide) _ HAZ.out.head)).trans HAZ.out.head
       have hx3:w3.cell? ⟨d,1,none⟩=some (.slice Ab i cb):=(rcells hd3).2.1
       have hf3:=rfroz hd3 1
       have hg3:w3.cell? ⟨g,o+i*2+1,none⟩=some (.slice Af x.length cf):=(World.cell?_of_block (a:=⟨g,o+i*2+1,none⟩) (hgr.block g (Nat.lt_of_lt_of_le HGL.out HBZ.out.size) (fun e=>absurd (HLOW.out g (HA.out.inB g e.symm)) (by have:=HGW.out;omega)))).trans ((HBZ.out.cell (p:=⟨g,o+i*2+1,none⟩) HGL.out).trans HD1.out)
       go_simp
       refine hK _ _ (⟨hx3,hg3⟩) ?_;clear hK K
       try go_frame
       refine tT 20 ⟨hx3,hg3⟩ ?_
       try go_frame
       refine tT 21 ⟨hx3,hg3⟩ ?_
       try go_frame
       refine lP 22 fun K hK=>?_
       go_simp
       refine hK _ _ ?_;clear hK K
       try go_frame
       refine wpAny_done (by kernel_rfl) ?_ _
       have hlow3:∀ q,(Si q\/(wr.heap.size<=q/\q<(w1.alloc (.cells #[.slice A1 x.length c1,.int .i64 (x.length:Int)] tBd)).heap.size))->q<(w1.alloc (.cells #[.slice A1 x.length c1,.int .i64 (x.length:Int)] tBd)).heap.size:=fun q hq=>by
        rcases hq with hq | hq
        ·exact Nat.lt_of_lt_of_le (HA.out.low q hq) HBZ.out.size
        ·exact hq.2
       have hbod:w3.ownsRow 0 tBd 2 (.slice (some ⟨g2,0,none⟩) (i+1) cap2) (i+1) (cB Di.bd ds++[.slice A1 x.length c1,.int .i64 ((⟨x,x.length⟩:Bd).safe:Int)]):=hg
       have hadd:=(HAZ.out.wider (S':=fun q=>Si q\/(wr.heap.size<=q/\q<(w1.alloc (.cells #[.slice A1 x.length c1,.int .i64 (x.length:Int)] tBd)).heap.size)) (fun q hq=>.inl hq) hlow3).addBod (b:=⟨x,x.length⟩) (x:=.slice A1 x.length c1) (own_alloc (own_base hrow1 (Nat.zero_le _)) _) (fun q hq=>.inr ⟨own_ge hrow1 hq,by obtain⟨cur,h3⟩:=own_lt hrow1 hq;have:=(Array.getElem?_eq_some_iff.1 h3).1;simp;omega⟩) hgr hbod (by
        rcases hat2 with h | h
        ·exact .inl h
        ·exact .inr (Nat.le_of_eq h.symm)) hlt9
       obtain⟨w4,hw4⟩:∃ w4,w3.setCell ⟨d,1,none⟩ (.slice (some ⟨g2,0,none⟩) (i+1) cap2)=w4:=⟨_,rfl⟩
       have hb4:Below w.heap.size w w4:=by
        rw[<-hw4]
        exact (((HB.out.trans (HBZ.out.mono HB.out.size)).grown hgr (Nat.le_trans HB.out.size HBZ.out.size) (fun q hq=>HLOW.out q (HA.out.inB q hq))).setCell (p:=⟨d,1,none⟩) (HLOW.out d HA.out.inR) _)
       have hs4:∀ q,((Si q\/(wr.heap.size<=q/\q<(w1.alloc (.cells #[.slice A1 x.length c1,.int .i64 (x.length:Int)] tBd)).heap.size))\/((w1.alloc (.cells #[.slice A1 x.length c1,.int .i64 (x.length:Int)] tBd)).heap.size<=q/\q<w3.heap.size))->w.heap.size<=q:=fun q hq=>by
        rcases hq with (hq | hq) | hq
        ·exact HLOW.out q hq
        ·exact Nat.le_trans HB.out.size hq.1
        ·exact Nat.le_trans (Nat.le_trans HB.out.size HBZ.out.size) hq.1
       obtain⟨S4,hS4⟩:∃ S4:Nat->Prop,(fun q=>(Si q\/(wr.heap.size<=q/\q<(w1.alloc (.cells #[.slice A1 x.length c1,.int .i64 (x.length:Int)] tBd)).heap.size))\/((w1.alloc (.cells #[.slice A1 x.length c1,.int .i64 (x.length:Int)] tBd)).heap.size<=q/\q<w3.heap.size))=S4:=⟨_,rfl⟩
       rw[hS4] at hadd
       have HS4:=Hd (show ∀ q,S4 q->w.heap.size<=q from by rw[<-hS4];exact hs4)
       rw[hw4] at hadd ⊢
       have hA4:RefAt w4 S4 d ⟨Di.room,Di.bd++[⟨x,x.length⟩],Di.now,[],Di.pend⟩ (.slice (some ⟨g2,0,none⟩) (i+1) cap2) (.slice (some ⟨gn,0,none⟩) i cn) (.slice none 0 0) (.slice none 0 0) (ds++[.slice A1 x.length c1]) []:=hadd
       have HA4:=Hd hA4
       have HB4:=Hd hb4
       clear hadd hA4 hb4 hs4 hS4 hw4 hbod hlow3 hrow1 hb1 hx1 he1 hbz hg hgr hat2 hlt9 hd3 hx3 hf3 hg3 HBZ HAZ
       obtain⟨_,_,x2,_,_⟩:=rcells HA4.out.head
       have f2:=rfroz HA4.out.head 2
       have hrn:w4.ownsRow 0 tEnt 2 (.slice (some ⟨gn,0,none⟩) i cn) i (cE (dirE Di.now)):=by
        have:=HA4.out.now
        unfold EntAt at this
        rw[<-HNL2.out] at this
        exact this
       have HRN:=Hd hrn
       clear hrn
       go_wp2_with (at_builtin;go_loud (refine wpList_append_keeps _ rfl (.tmp 84) (.tmp 88) 138 rfl 0 tEnt e0 (.agg #[.string ⟨#[]⟩,.int .i64 0]) 2 24 Tryz.underlying138 he0 hy0 hy1 hy2 rfl (by decide) (.slice (some ⟨gn,0,none⟩) i cn) i (cE (dirE Di.now)) rfl (own_alloc HRN.out _) ⟨w4.heap.size,0,none⟩ 1 1 [encStr nm,.int .i64 (i:Int)] rfl rfl (new_cells _ [encStr nm,.int .i64 (i:Int)] tEnt) (by simp[Value.oneCell']) (by omega) (by unfold maxLen;omega) (by omega) (Nat.zero_le _) ?_);go_loud (intro g5 cap5 w5 hg hgr hat hlt9 _);have HG:=Hd hg;have HGR:=Hd hgr;have HAT:=Hd hat;have HLT:=Hd hlt9;go_loud (have hd5:=(hgr.block d (by have:=HA4.out.low d HA4.out.inR;simp;omega) (fun e=>typ_of HRN.out e.symm (show tRef≠tEnt by decide) _ HA4.out.head)).trans ((alloc_was _ _ (HA4.out.low d HA4.out.inR)).trans HA4.out.head));obtain⟨_,_,z2,_,_⟩:=rcells hd5;have zf:=rfroz hd5 2;clear hg hgr hat hlt9 hd5)
       have hbz5:Below w4.heap.size w4 (w4.alloc (.cells #[encStr nm,.int .i64 (i:Int)] tEnt)):=(Below.refl _ _).alloc (Nat.le_refl _) _
       have hA5:=((HA4.out.below hbz5).putNow (w':=w5) (S':=fun q=>S4 q\/(w4.heap.size<=q/\q<w5.heap.size)) (fun q hq=>.inl hq) (fun q hq=>(by
        rcases hq with hq | hq
        ·exact Nat.lt_of_lt_of_le (HA4.out.low q hq) (Nat.le_trans hbz5.size HGR.out.size)
        ·exact hq.2)) (HGR.out.block d (by have:=HA4.out.low d HA4.out.inR;simp;omega) (fun e=>typ_of HRN.out e.symm (show tRef≠tEnt by decide) _ HA4.out.head)) (fun {e} {base} {size} {n} {u} {xs} h he=>grown_keep h (own_alloc HRN.out _) he HGR.out) (World.ownsRow_nil _ _ _ _) (fun j c v hj=>(by rw[HPE.out] at hj;cases hj))
        (v:=.slice (some ⟨g5,0,none⟩) (i+1) cap5) (l:=put Di.now nm (some i)) (by unfold EntAt;rw[HPUT.out,List.length_append,dirE_len,<-HNL3.out,cE_append];exact HG.out) (fun q hq=>(by
        obtain rfl:g5=q:=by simpa [Value.ownBlock] using hq
        rcases HAT.out with h | h
        ·exact .inl (HA4.out.inN g5 h)
        ·exact .inr ⟨by have h1:=h;simp at h1;omega,HLT.out⟩)))
       have hb5:Below w.heap.size w (w5.setCell ⟨d,2,none⟩ (.slice (some ⟨g5,0,none⟩) (i+1) cap5)):=
        ((HB4.out.trans (hbz5.mono HB4.out.size)).grown HGR.out (Nat.le_trans HB4.out.size hbz5.size) (fun q hq=>HS4.out q (HA4.out.inN q hq))).setCell (p:=⟨d,2,none⟩) (HS4.out d HA4.out.inR) _
       have HA5:=Hd hA5
       have HB5:=Hd hb5
       have HS5:=Hd (show ∀ q,(S4 q\/(w4.heap.size<=q/\q<w5.heap.size))->w.heap.size<=q from fun q hq=>hq.elim (HS4.out q) (fun h=>Nat.le_trans HB4.out.size h.1))
       clear hbz5 hA5 hb5 HG HGR HAT HLT z2 zf x2 f2
       go_roundw
       case rel=>exact⟨i+1,_,_,_,_,_,by go_num,by omega,HST.out,HLL.out _ _ _ _ _ _ _ _ HA5.out,HS5.out,HB5.out⟩
       case measure=>simp[intOf];omega
     | false=>
      have hbf2:Op.bytesLess p.1 nm=false:=by rw[less_before];exact hbf
      clear hbf hp hlj
      cases hnm:named nm with
      | false=>
       have HNM:=Hd hnm
       have HNO:=Hd (HBAD.out (by rw[hnm];simp))
       clear hnm
       go_wp2_with (first | (go_at_call 51;refine (rnamed_any nm _).mono ?_;rw[HNM.out];rintro y w3 ⟨rfl,rfl⟩) | (go_at_call 52;refine (rfind_any HNL2.out HA.out.now nm HY.out).mono ?_;rintro y w3 ⟨rfl,rfl⟩))
       go_ret
       have h9:LdR w wr (loadAt (Dr.D.fresh q) fs) m n none:=.inl ⟨HNO.out,rfl⟩
       first | exact⟨HB.out,none,rfl,h9⟩ | exact⟨HB.out,h9⟩
      | true=>
       have HNM:=Hd hnm
       clear hnm
       cases hfn:find Di.now nm with
       | some k=>
        have HNO:=Hd (HBAD.out (by rw[hfn];rfl))
        have hy:findE (dirE Di.now) nm=(k:Int):=by rw[findE_dir,hfn];rfl
        have hk0:(0:Int)<=(k:Int):=by omega
        have HY:=Hd hy
        clear hfn hy
        go_wp2_with (first | (go_at_call 51;refine (rnamed_any nm _).mono ?_;rw[HNM.out];rintro y w3 ⟨rfl,rfl⟩) | (go_at_call 52;refine (rfind_any HNL2.out HA.out.now nm HY.out).mono ?_;rintro y w3 ⟨rfl,rfl⟩))
        go_ret
        have h9:LdR w wr (loadAt (Dr.D.fresh q) fs) m n none:=.inl ⟨HNO.out,rfl⟩
        first | exact⟨HB.out,none,rfl,h9⟩ | exact⟨HB.out,h9⟩
       | none=>
        have HFN:=Hd hfn
        have hy:findE (dirE Di.now) nm = -1:=by rw[findE_dir,hfn];rfl
        have HY:=Hd hy
        clear hfn hy
        have HPUT:=Hd (show setE (dirE Di.now) nm (i:Int)=dirE (put Di.now nm (some i)) from setE_dir HRISE.out nm (some i))
        have hbad:¬ ((find Di.now nm).isSome||!named nm)=true:=by rw[HFN.out,HNM.out];decide
        have hst:loadAt (Dr.D.fresh q) (fs.take (i+1))=some ⟨Di.room,Di.bd++[⟨x,x.length⟩],put Di.now nm (some Di.bd.length),put Di.kept nm (some Di.bd.length),[]⟩:=by
         rw[HLS2.out]
         show loadAt Di [(nm,x)]=_
         unfold loadAt
         rw[if_neg hbad]
         rfl
        have HST:=Hd hst
        have HLL:=Hd (show ∀ (wx:World) (SX:Nat->Prop) (vb vn vk vc:Value) (ds cs:List Value),RefAt wx SX d ⟨Di.room,Di.bd++[⟨x,x.length⟩],put Di.now nm (some i),[],Di.pend⟩ vb vn vk vc ds cs->RefAt wx SX d ⟨Di.room,Di.bd++[⟨x,x.length⟩],put Di.now nm (some Di.bd.length),[],[]⟩ vb vn vk vc ds cs from fun _ _ _ _ _ _ _ _ h=>by rw[HBL.out,<-HPE.out];exact h)
        clear hbad hst
        go_upto_region 12 with (first | (go_at_call 51;refine (rnamed_any nm _).mono ?_;rw[HNM.out];rintro y w3 ⟨rfl,rfl⟩) | (go_at_call 52;refine (rfind_any HNL2.out HA.out.now nm HY.out).mono ?_;rintro y w3 ⟨rfl,rfl⟩))
        have HRD:=Hd (show Rd wr.drew wr.drew.heap.size 1 Af x.length (cU8 x) from HX.out.next HB.out.drew)
        have HX1:=Hd x1
        have HD1:=Hd d1
        have HDL:=Hd (HA.out.low d HA.out.inR)
        have HNL:=Hd hnl
        clear d0 x1 x2 d1 hnl
        refine wp_region_any (by kernel_rfl) ?_
        change wpAny _ _ _ _ _ _ _ (World.drew _)
        refine wpAny_of_P (S:=fun w'=>w'.cell? ⟨d,1,none⟩=some (.slice Ab i cb)/\w'.cell? ⟨g,o+i*2+1,none⟩=some (.slice Af x.length cf)) (late:=[22]) _ _ _ _ ?_
        refine tT 0 ⟨HX1.out,HD1.out⟩ ?_
        try go_frame
        refine tT 1 ⟨HX1.out,HD1.out⟩ ?_
        try go_frame
        refine tT 2 ⟨HX1.out,HD1.out⟩ ?_
        try go_frame
        refine tT 3 ⟨HX1.out,HD1.out⟩ ?_
        try go_frame
        refine tP 8 4 rfl ⟨HX1.out,HD1.out⟩ (fun w hw=>by obtain⟨hw1,hw2⟩:=hw;go_simp;try with_reducible rfl) ?_
        try go_frame
        refine tT 5 ⟨HX1.out,HD1.out⟩ ?_
        try go_frame
        refine tT 6 ⟨HX1.out,HD1.out⟩ ?_
        try go_frame
        refine tT 7 ⟨HX1.out,HD1.out⟩ ?_
        try go_frame
        refine tT 8 ⟨HX1.out,HD1.out⟩ ?_
        try go_frame
        refine tP 8 9 rfl ⟨HX1.out,HD1.out⟩ (fun w hw=>by obtain⟨hw1,hw2⟩:=hw;go_simp;try with_reducible rfl) ?_
        try go_frame
        refine tT 11 ⟨HX1.out,HD1.out⟩ ?_
        try go_frame
        refine tT 12 ⟨HX1.out,HD1.out⟩ ?_
        try go_frame
        refine tT 13 ⟨HX1.out,HD1.out⟩ ?_
        try go_frame
        refine tT 14 ⟨HX1.out,HD1.out⟩ ?_
        try go_frame
        refine tP 8 15 rfl ⟨HX1.out,HD1.out⟩ (fun w hw=>by obtain⟨hw1,hw2⟩:=hw;go_simp;try with_reducible rfl) ?_
        try go_frame
        refine tT 16 ⟨HX1.out,HD1.out⟩ ?_
        try go_frame
        refine fP 10 fun K hK=>?_
        go_simp
        refine (rcopied_any HRD.out HNL.out (by omega)).mono ?_
        rintro y w1 ⟨A1,c1,rfl,hrow1,hb1⟩
        have hx1:w1.cell? ⟨d,1,none⟩=some (.slice Ab i cb):=(hb1.cell (p:=⟨d,1,none⟩) HDL.out).trans HX1.out
        have he1:w1.cell? ⟨g,o+i*2+1,none⟩=some (.slice Af x.length cf):=(hb1.cell (p:=⟨g,o+i*2+1,none⟩) HGL.out).trans HD1.out
        have HBZ:=Hd (show Below wr.heap.size wr (w1.alloc (.cells #[.slice A1 x.length c1,.int .i64 (x.length:Int)] tBd)) from ((Below.refl wr.heap.size wr).drew.trans hb1).alloc (by have:=hb1.size;exact this) _)
        have HAZ:=Hd (HA.out.below HBZ.out)
        have hbz:=HAZ.out.bod
        rw[HBL.out] at hbz
        refine hK _ _ (⟨hx1,he1⟩) ?_;clear hK K
        try go_frame
        refine tT 17 ⟨hx1,he1⟩ ?_
        try go_frame
        refine fP 18 fun K hK=>?_
        go_simp
        refine hK _ _ (⟨(rcells HAZ.out.head).2.1,(HBZ.out.cell (p:=⟨g,o+i*2+1,none⟩) HGL.out).trans HD1.out⟩) ?_;clear hK K
        try go_frame
        refine fP 19 fun K hK=>?_
        refine wp_append_keeps _ (.tmp 61) (.tmp 75) 137 rfl 0 tBd b0 (.agg #[.slice none 0 0,.int .i64 0]) 2 32 Tryz.underlying137 hb0 hz0 hz1 hz2 rfl (by decide) (.slice Ab i cb) i (cB Di.bd ds) rfl hbz ⟨w1.heap.size,0,none⟩ 1 1 [.slice A1 x.length c1,.int .i64 (x.length:Int)] rfl rfl (new_cells _ [.slice A1 x.length c1,.int .i64 (x.length:Int)] tBd) (by simp[Value.oneCell']) (by omega) (by unfold maxLen;omega) (by omega) (Nat.zero_le _) ?_
        intro g2 cap2 w3 hg hgr hat2 hlt9 _
        have hd3:=(hgr.block d (HAZ.out.low d HAZ.out.inR) (fun e=>typ_of HAZ.out.bod e.symm (show tRef≠tBd by decide) _ HAZ.out.head)).trans HAZ.out.head
        have hx3:w3.cell? ⟨d,1,none⟩=some (.slice Ab i cb):=(rcells hd3).2.1
        have hf3:=rfroz hd3 1
        have hg3:w3.cell? ⟨g,o+i*2+1,none⟩=some (.slice Af x.length cf):=(World.cell?_of_block (a:=⟨g,o+i*2+1,none⟩) (hgr.block g (Nat.lt_of_lt_of_le HGL.out HBZ.out.size) (fun e=>absurd (HLOW.out g (HA.out.inB g e.symm)) (by have:=HGW.out;omega)))).trans ((HBZ.out.cell (p:=⟨g,o+i*2+1,none⟩) HGL.out).trans HD1.out)
        go_simp
        refine hK _ _ (⟨hx3,hg3⟩) ?_;clear hK K
        try go_frame
        refine tT 20 ⟨hx3,hg3⟩ ?_
        try go_frame
        refine tT 21 ⟨hx3,hg3⟩ ?_
        try go_frame
        refine lP 22 fun K hK=>?_
        go_simp
        refine hK _ _ ?_;clear hK K
        try go_frame
        refine wpAny_done (by kernel_rfl) ?_ _
        have hlow3:∀ q,(Si q\/(wr.heap.size<=q/\q<(w1.alloc (.cells #[.slice A1 x.length c1,.int .i64 (x.length:Int)] tBd)).heap.size))->q<(w1.alloc (.cells #[.slice A1 x.length c1,.int .i64 (x.length:Int)] tBd)).heap.size:=fun q hq=>by
         rcases hq with hq | hq
         ·exact Nat.lt_of_lt_of_le (HA.out.low q hq) HBZ.out.size
         ·exact hq.2
        have hbod:w3.ownsRow 0 tBd 2 (.slice (some ⟨g2,0,none⟩) (i+1) cap2) (i+1) (cB Di.bd ds++[.slice A1 x.length c1,.int .i64 ((⟨x,x.length⟩:Bd).safe:Int)]):=hg
        have hadd:=(HAZ.out.wider (S':=fun q=>Si q\/(wr.heap.size<=q/\q<(w1.alloc (.cells #[.slice A1 x.length c1,.int .i64 (x.length:Int)] tBd)).heap.size)) (fun q hq=>.inl hq) hlow3).addBod (b:=⟨x,x.length⟩) (x:=.slice A1 x.length c1) (own_alloc (own_base hrow1 (Nat.zero_le _)) _) (fun q hq=>.inr ⟨own_ge hrow1 hq,by obtain⟨cur,h3⟩:=own_lt hrow1 hq;have:=(Array.getElem?_eq_some_iff.1 h3).1;simp;omega⟩) hgr hbod (by
         rcases hat2 with h | h
         ·exact .inl h
         ·exact .inr (Nat.le_of_eq h.symm)) hlt9
        obtain⟨w4,hw4⟩:∃ w4,w3.setCell ⟨d,1,none⟩ (.slice (some ⟨g2,0,none⟩) (i+1) cap2)=w4:=⟨_,rfl⟩
        have hb4:Below w.heap.size w w4:=by
         rw[<-hw4]
         exact (((HB.out.trans (HBZ.out.mono HB.out.size)).grown hgr (Nat.le_trans HB.out.size HBZ.out.size) (fun q hq=>HLOW.out q (HA.out.inB q hq))).setCell (p:=⟨d,1,none⟩) (HLOW.out d HA.out.inR) _)
        have hs4:∀ q,((Si q\/(wr.heap.size<=q/\q<(w1.alloc (.cells #[.slice A1 x.length c1,.int .i64 (x.length:Int)] tBd)).heap.size))\/((w1.alloc (.cells #[.slice A1 x.length c1,.int .i64 (x.length:Int)] tBd)).heap.size<=q/\q<w3.heap.size))->w.heap.size<=q:=fun q hq=>by
         rcases hq with (hq | hq) | hq
         ·exact HLOW.out q hq
         ·exact Nat.le_trans HB.out.size hq.1
         ·exact Nat.le_trans (Nat.le_trans HB.out.size HBZ.out.size) hq.1
        obtain⟨S4,hS4⟩:∃ S4:Nat->Prop,(fun q=>(Si q\/(wr.heap.size<=q/\q<(w1.alloc (.cells #[.slice A1 x.length c1,.int .i64 (x.length:Int)] tBd)).heap.size))\/((w1.alloc (.cells #[.slice A1 x.length c1,.int .i64 (x.length:Int)] tBd)).heap.size<=q/\q<w3.heap.size))=S4:=⟨_,rfl⟩
        rw[hS4] at hadd
        have HS4:=Hd (show ∀ q,S4 q->w.heap.size<=q from by rw[<-hS4];exact hs4)
        rw[hw4] at hadd ⊢
        have hA4:RefAt w4 S4 d ⟨Di.room,Di.bd++[⟨x,x.length⟩],Di.now,[],Di.pend⟩ (.slice (some ⟨g2,0,none⟩) (i+1) cap2) (.slice (some ⟨gn,0,none⟩) i cn) (.slice none 0 0) (.slice none 0 0) (ds++[.slice A1 x.length c1]) []:=hadd
        have HA4:=Hd hA4
        have HB4:=Hd hb4
        clear hadd hA4 hb4 hs4 hS4 hw4 hbod hlow3 hrow1 hb1 hx1 he1 hbz hg hgr hat2 hlt9 hd3 hx3 hf3 hg3 HBZ HAZ
        obtain⟨_,_,x2,_,_⟩:=rcells HA4.out.head
        have f2:=rfroz HA4.out.head 2
        have hrs:0<=(i:Int):=by omega
        go_wp2_with (go_at_call 54;go_loud (refine (rset_any HNL2.out HA4.out.now (by rw[<-HNL2.out];omega) nm (i:Int) HPUT.out).mono ?_);rintro y w5 ⟨A5,c5,rfl,hrow5,hb5⟩;have HROW5:=Hd hrow5;have HB5:=Hd hb5;go_loud (have hd5:=(HA4.out.below hb5).head);obtain⟨_,_,z2,_,_⟩:=rcells hd5;have zf:=rfroz hd5 2;clear hrow5 hb5 hd5)
        have hA5:=((HA4.out.below HB5.out).wider (S':=fun q=>S4 q\/(w4.heap.size<=q/\q<w5.heap.size)) (fun q hq=>.inl hq) (fun q hq=>(by
         rcases hq with hq | hq
         ·exact Nat.lt_of_lt_of_le (HA4.out.low q hq) HB5.out.size
         ·exact hq.2))).setNow (v:=.slice A5 (dirE (put Di.now nm (some i))).length c5) (l:=put Di.now nm (some i)) (own_base HROW5.out (Nat.zero_le _)) (fun q hq=>.inr ⟨own_ge HROW5.out hq,by obtain⟨cur,h3⟩:=own_lt HROW5.out hq;exact (Array.getElem?_eq_some_iff.1 h3).1⟩)
        have hb6:Below w.heap.size w (w5.setCell ⟨d,2,none⟩ (.slice A5 (dirE (put Di.now nm (some i))).length c5)):=(HB4.out.trans (HB5.out.mono HB4.out.size)).setCell (p:=⟨d,2,none⟩) (HS4.out d HA4.out.inR) _
        have HA5:=Hd hA5
        have HB6:=Hd hb6
        have HS5:=Hd (show ∀ q,(S4 q\/(w4.heap.size<=q/\q<w5.heap.size))->w.heap.size<=q from fun q hq=>hq.elim (HS4.out q) (fun h=>Nat.le_trans HB4.out.size h.1))
        clear hA5 hb6 HROW5 z2 zf x2 f2
        go_roundw
        case rel=>exact⟨i+1,_,_,_,_,_,by go_num,by omega,HST.out,HLL.out _ _ _ _ _ _ _ _ HA5.out,HS5.out,HB6.out⟩
        case measure=>simp[intOf];omega
   ·obtain rfl:n=i:=by omega
    rw[List.take_of_length_le (by omega)] at hld
    have hok:=loadAt_ok fs (D.Ok.fresh hq 0 0) rfl hld
    have hjo:=loadAt_joined fs (by rfl) rfl hld
    have HLD:=Hd hld
    have hr3:EntAt wr 0 (.slice An n cn) (dirE Di.now):=hDi.now
    have h3:=hDi.setKept (l:=Di.now) (v:=.slice An n cn) hr3 hDi.inN
    have hD2:(⟨Di.room,Di.bd,Di.now,Di.now,Di.pend⟩:Dr.D)=Di:=by
     cases Di
     have:=hjo.1
     dsimp only at this
     rw[this]
    have H3:=Hd (show RefAt _ _ d Di _ _ _ _ _ _ from by rw[<-hD2];exact h3)
    have HLOW:=Hd hlow
    have HB:=Hd (hbr.setCell (p:=⟨d,3,none⟩) (hlow d hDi.inR) (.slice An n cn))
    have HOK:=Hd ((hok.mono (m':=0+bulk fs) (N':=n) (Nat.le_refl _) (by omega)).bound (loadAt_bd fs (by intro b hb;cases hb) HM.out hld))
    have HBL:=Hd hlen
    obtain⟨_,_,_,x3,_⟩:=rcells hDi.head
    clear hld hDi hlow hbr hok hjo hr3 h3 hD2 hlen hnlen hpend
    go_wp2
    go_ret
    have h9:LdR w (wr.setCell ⟨d,3,none⟩ (.slice An n cn)) (loadAt (Dr.D.fresh q) fs) m n (some ⟨d,0,none⟩):=.inr ⟨Di,d,Si,HLD.out,rfl,⟨HOK.out,Nat.le_of_eq HBL.out,_,_,_,_,_,_,H3.out⟩,HLOW.out⟩
    first | exact⟨HB.out,_,rfl,h9⟩ | exact⟨HB.out,h9⟩
end Go.Proofs.YtmgljaecmchgaaaGreat.Dr
