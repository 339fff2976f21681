/- XSc1, XSc2, XSc3: merged by tools/merge.py. -/
import Derived.Test.YtmgljaecmchgaaaGreatQ30
import Derived.Test.YtmgljaecmchgaaaGreatQ04
import Derived.Test.YtmgljaecmchgaaaGreatQ23
set_option linter.unusedVariables false
set_option linter.unusedSimpArgs false
set_option linter.unusedSectionVars false
namespace Go.Proofs.YtmgljaecmchgaaaGreat.Gf
open Go.RowKit Go.Proofs
abbrev tGen:TypeId:=27
abbrev tSeen:TypeId:=72
abbrev tVd:TypeId:=32
abbrev tFind:TypeId:=78
abbrev tRss:TypeId:=67
theorem infoRss:(Tryz.prog.info? tRss).map (fun i=>(i.zero,i.size,i.bytes))=some (some (.slice none 0 0),1,24):=by kernel_rfl
def genB (a b c d:Int):Bool:=decide (a=c/\b=d)
theorem gen_eq (w:World) (a b c d:Int):(binOp .eql tGen (.agg #[.int .i64 a,.int .i64 b]) (.agg #[.int .i64 c,.int .i64 d])).run Tryz.prog w = .ok (.bool (genB a b c d)) w:=by
 have u3:=Tryz.underlying3
 have a3:=Tryz.isAgg3
 have z3:=Tryz.sizeOf3
 rw[run_eql_struct,show (10000:Nat)=9999+1 from rfl,run_equalIn_agg w 9999 tGen _ _ (by kernel_rfl) (by kernel_rfl)]
 simp only[Program.fieldsOf,Tryz.underlying27]
 go_simp
 unfold genB
 by_cases h1:a=c<;>by_cases h2:b=d<;>simp[h1,h2]
def sbI (s:Sn) (i:Nat):Int:=((s.store.getD i 0).toNat:Int)
def snC (s:Sn) (bv:Value):List Value:=
 [.int .i64 s.kind,.int .u8 (sbI s 0),.int .u8 (sbI s 1),.int .u8 (sbI s 2),.int .u8 (sbI s 3),.int .u8 (sbI s 4),.int .u8 (sbI s 5),.int .u8 (sbI s 6),.int .u8 (sbI s 7),
  .int .i64 s.sk,.int .i64 s.sm,.int .i64 s.sb,.string ⟨s.key.toArray⟩,.int .i64 s.size,.int .i64 s.idx,.int .i64 s.ep,.int .i64 s.ct,bv,.int .i64 s.err]
theorem snC_size:(Tryz.prog.info? tSeen).map (fun i=>i.size)=some 19:=by kernel_rfl
end Go.Proofs.YtmgljaecmchgaaaGreat.Gf
namespace Go.Proofs.YtmgljaecmchgaaaGreat.Gf
open Go.RowKit Go.Proofs
structure SnsRd (W:World) (B:Nat) (A:Option Addr) (n:Nat) (L:List Sn):Prop where
 len:L.length=n
 at_:∀ i s,L[i]?=some s->∃ g oo Ab cb,A=some (⟨g,oo,none⟩:Addr)/\g<B/\W.rangeAt g (oo+i*19) (snC s (.slice Ab s.blocks.length cb))/\RowsRd W B Ab s.blocks.length s.blocks
theorem range_below {W W':World} {B g o:Nat} {xs:List Value} (h:W.rangeAt g o xs) (hg:g<B) (hb:Below B W W'):W'.rangeAt g o xs:=fun j v hv=>(hb.cell (p:=⟨g,o+j,none⟩) hg).trans (h j v hv)
theorem SnsRd.below {W W':World} {B n:Nat} {A:Option Addr} {L:List Sn} (h:SnsRd W B A n L) (hb:Below B W W'):SnsRd W' B A n L:=
 ⟨h.len,fun i s hs=>by obtain⟨g,oo,Ab,cb,e,hg,hr,hrow⟩:=h.at_ i s hs;exact⟨g,oo,Ab,cb,e,hg,range_below hr hg hb,hrow.below hb⟩⟩
theorem seen_storeAt (w:World) (s:Sn) (bv:Value) (hb:bv.oneCell'=true):(Instr.storeAt tSeen (.pointer (some ⟨w.heap.size,0,none⟩)) (.agg (snC s bv).toArray)).run Tryz.prog (w.alloc (.cells #[.int .i64 0,.int .u8 0,.int .u8 0,.int .u8 0,.int .u8 0,.int .u8 0,.int .u8 0,.int .u8 0,.int .u8 0,.int .i64 0,.int .i64 0,.int .i64 0,.string ⟨#[]⟩,.int .i64 0,.int .i64 0,.int .i64 0,.int .i64 0,.slice none 0 0,.int .i64 0] tSeen)) = .ok () (w.alloc (.cells (snC s bv).toArray tSeen)):=by
 have h:=run_storeVar_new (P:=Tryz.prog) w tSeen #[.int .i64 0,.int .u8 0,.int .u8 0,.int .u8 0,.int .u8 0,.int .u8 0,.int .u8 0,.int .u8 0,.int .u8 0,.int .i64 0,.int .i64 0,.int .i64 0,.string ⟨#[]⟩,.int .i64 0,.int .i64 0,.int .i64 0,.int .i64 0,.slice none 0 0,.int .i64 0] #[.int .i64 s.kind,.int .u8 (sbI s 0),.int .u8 (sbI s 1),.int .u8 (sbI s 2),.int .u8 (sbI s 3),.int .u8 (sbI s 4),.int .u8 (sbI s 5),.int .u8 (sbI s 6),.int .u8 (sbI s 7),.int .i64 s.sk,.int .i64 s.sm,.int .i64 s.sb,.string ⟨s.key.toArray⟩,.int .i64 s.size,.int .i64 s.idx,.int .i64 s.ep,.int .i64 s.ct,bv,.int .i64 s.err] (by kernel_rfl) rfl (by simp[Value.oneCell'];exact hb)
 simp only[Instr.storeAt,Instr.sureAddr,Sem.run_bind,Sem.run_pure,Result.andThen_ok]
 exact h
theorem wpList_store_by {P:Program} {ops:Array Oper} {rest:List Oper} {op:Oper} {a:Act} {w w':World} {Q:Exit->Act->World->Prop} (hgd:op.guard=none) (ty:TypeId) (x y:Operand) (ho:op.op = .store ty x y)
  (p v:Value) (hx:a.eval x=p) (hy:a.eval y=v) (hr:(Instr.storeAt ty p v).run P w = .ok () w') (h:wpList P ops Q rest (a.put op.dst undef) w'):wpList P ops Q (op::rest) a w:=
 wpList_plain hgd fun K hK=>by
  have h2:=hK _ _ h
  unfold Oper.wp execOp
  simp only[ho,hx,hy,Sem.run_bind,hr,Result.andThen_ok]
  exact h2
def ownB (v:Vd) (s:Sn):List (List UInt8):=if own v s then s.blocks else []
theorem RowsRd.nil (W:World) (B:Nat):RowsRd W B none 0 []:=⟨rfl,[],⟨rfl,fun h=>by omega⟩,fun i r h=>by simp at h⟩
structure WritOk (w w':World) (B n:Nat) (v:Vd) (L:List Sn) (x:Ending):Prop where
 out:∃ (V:Nat) (vs:Nat->Value),x = .returned (.tuple #[slE V n,.int .i64 (mst v L:Int)])/\w'.ownsRow w.heap.size tRss 1 (slE V n) n (fromV n vs)/\
  ∀ i s,L[i]?=some s->∃ Ab cb,vs i = .slice Ab (ownB v s).length cb/\RowsRd w' B Ab (ownB v s).length (ownB v s)
 back:Below w.heap.size w w'
theorem mst_take {v:Vd} {L:List Sn} {i:Nat} {s:Sn} (h:L[i]?=some s):mst v (L.take (i+1))=if own v s then max (mst v (L.take i)) s.blocks.length else mst v (L.take i):=by
 rw[List.take_add_one,h]
 exact mst_snoc v _ s
set_option maxRecDepth 100000 in
set_option maxHeartbeats 16000000 in
theorem writing_any {w:World} {B n c:Nat} {A:Option Addr} {v:Vd} {pl:Value} {L:List Sn} (hL:SnsRd w B A n L) (hB:B<=w.heap.size) (hn:n<=1024) (hpl:pl.oneCell'=true) :
  Calls Tryz.prog 34 #[.agg #[.int .i64 v.kind,.int .i64 v.ep,.int .i64 v.ct,.int .i64 v.size,pl],.slice A n c] w fun x w'=>WritOk w w' B n v L x:=by
 have hLl:=hL.len
 obtain⟨G,hG⟩:∃ G,w.heap.size=G:=⟨_,rfl⟩
 have hmk:=fun W=>run_makeV W 111 tRss (.slice none 0 0) 24 Tryz.underlying111 infoRss rfl (by decide) n (by omega)
 obtain⟨Z,hZ⟩:∃ Z:List Value,(fromV n fun _=>Value.slice none 0 0)=Z:=⟨_,rfl⟩
 rw[hZ] at hmk
 have HL:=Hd hL
 have HLL:=Hd hLl
 have HG:=Hd hG
 have HZ:=Hd hZ
 have hsk:∀ i,∃ p:Option Addr×Nat,∀ s,L[i]?=some s->∃ g oo,A=some (⟨g,oo,none⟩:Addr)/\g<B/\w.rangeAt g (oo+i*19) (snC s (.slice p.1 s.blocks.length p.2))/\RowsRd w B p.1 s.blocks.length s.blocks:=fun i=>by
  cases h:L[i]? with
  | none=>exact⟨(none,0),fun s hs=>by cases hs⟩
  | some s=>
   obtain⟨g,oo,Ab,cb,h1,h2,h3,h4⟩:=hL.at_ i s h
   exact⟨(Ab,cb),fun s' hs=>by injection hs with hs;subst hs;exact⟨g,oo,h1,h2,h3,h4⟩⟩
 obtain⟨f,hf⟩:=Classical.axiomOfChoice hsk
 obtain⟨vs,hvs⟩:∃ vs:Nat->Value,∀ i s,L[i]?=some s->vs i=if own v s then .slice (f i).1 s.blocks.length (f i).2 else .slice none 0 0:=
  ⟨fun i=>match L[i]? with | some s=>if own v s then .slice (f i).1 s.blocks.length (f i).2 else .slice none 0 0 | none=>.slice none 0 0,fun i s h=>by simp only[h]⟩
 obtain⟨w1,hw1⟩:∃ w1,(w.alloc (.cells #[.int .i64 v.kind,.int .i64 v.ep,.int .i64 v.ct,.int .i64 v.size,pl] tVd)).alloc (.cells Z.toArray tRss)=w1:=⟨_,rfl⟩
 have hrow0:w1.ownsRow G tRss 1 (slE (G+1) n) n (fromV n (upto vs (.slice none 0 0) 0)):=by
  rw[upto_zero,hZ,<-hw1]
  have h:=Dr.own_new (w.alloc (.cells #[.int .i64 v.kind,.int .i64 v.ep,.int .i64 v.ct,.int .i64 v.size,pl] tVd)) (base:=G) (by simp;omega) tRss 1 n Z (by rw[<-hZ];simp[fromV]) (by unfold maxLen;omega)
  rw[show (w.alloc (.cells #[.int .i64 v.kind,.int .i64 v.ep,.int .i64 v.ct,.int .i64 v.size,pl] tVd)).heap.size=G+1 by simp[hG]] at h
  exact h
 have hb1:Below G w w1:=by rw[<-hw1];exact ((Below.refl _ w).alloc (by omega) _).alloc (by simp;omega) _
 have hvr:w1.rangeAt G 0 [.int .i64 v.kind,.int .i64 v.ep,.int .i64 v.ct,.int .i64 v.size,pl]:=fun j u hu=>by
  rw[<-hw1,Nat.zero_add]
  have hj:(⟨G,j,none⟩:Addr).block<(w.alloc (.cells #[.int .i64 v.kind,.int .i64 v.ep,.int .i64 v.ct,.int .i64 v.size,pl] tVd)).heap.size:=by simp;omega
  rw[World.cell?_alloc_lt _ _ _ hj,<-hG]
  have h:=new_cells w [.int .i64 v.kind,.int .i64 v.ep,.int .i64 v.ct,.int .i64 v.size,pl] tVd j u hu
  rw[show (⟨w.heap.size,0,none⟩:Addr).add j=⟨w.heap.size,j,none⟩ by rw[Addr.add_mid,Nat.zero_add]] at h
  exact h
 have HF:=Hd hf
 have HVS:=Hd hvs
 have HR0:=Hd hrow0
 have HB1:=Hd hb1
 have HVR:=Hd hvr
 clear hL hLl hZ hsk hf hvs hrow0 hb1 hvr
 go_enter Tryz.func34,Tryz.ntmps34
 go_wp2
 clear hmk hw1
 go_loopw [7,15] (fun mv iv wr=>∃ i:Nat,iv = .int .i64 (i:Int)/\i<=n/\mv = .int .i64 (mst v (L.take i):Int)/\wr.ownsRow G tRss 1 (slE (G+1) n) n (fromV n (upto vs (.slice none 0 0) i))/\Below (G+1) w1 wr) (fun _ iv _=>n - (intOf iv).toNat)
 case atStart=>exact⟨0,rfl,Nat.zero_le _,rfl,HR0.out,Below.refl _ _⟩
 case round=>
  obtain⟨i,rfl,hi,rfl,hown,hb⟩:=hrel
  by_cases hin:i<n
  ·have hin2:(i:Int)<(n:Int):=by omega
   have hi00:(0:Int)<=(i:Int):=by omega
   obtain⟨s,hs⟩:∃ s,L[i]?=some s:=⟨_,List.getElem?_eq_getElem (by rw[HLL.out];exact hin)⟩
   obtain⟨g,oo,hA,hgB,hrg,hrows⟩:=HF.out i s hs
   subst hA
   obtain⟨Ab,hAb⟩:∃ Ab,(f i).1=Ab:=⟨_,rfl⟩
   obtain⟨cb,hcb⟩:∃ cb,(f i).2=cb:=⟨_,rfl⟩
   rw[hAb,hcb] at hrg
   have hvi:=HVS.out i s hs
   rw[hAb,hcb] at hvi
   have hBG:B<=G:=by omega
   have hbw:Below G w wr:=HB1.out.trans (hb.mono (Nat.le_succ G))
   have hGs:G+1<wr.heap.size:=(ow_lt hown).2
   have HRG:=Hd (range_below hrg (show g<G by omega) hbw)
   obtain⟨C,hC⟩:∃ C,snC s (.slice Ab s.blocks.length cb)=C:=⟨_,rfl⟩
   have hCl:C.length=19:=by rw[<-hC];rfl
   have hst:=seen_storeAt wr s (.slice Ab s.blocks.length cb) rfl
   rw[hC] at HRG hst
   have hCi:(Tryz.prog.info? tSeen).map (fun i=>i.size)=some C.length:=by rw[hCl];exact snC_size
   obtain⟨wS,hwS⟩:∃ wS,wr.alloc (.cells C.toArray tSeen)=wS:=⟨_,rfl⟩
   rw[hwS] at hst
   have hnew:∀ j u,(snC s (.slice Ab s.blocks.length cb))[j]?=some u->wS.cell? ⟨wr.heap.size,j,none⟩=some u:=fun j u hu=>by
    rw[hC] at hu
    have h:=new_cells wr C tSeen j u hu
    rw[Addr.add_mid,Nat.zero_add] at h
    rw[<-hwS]
    exact h
   have hbS:Below (G+1) wr wS:=by rw[<-hwS];exact (Below.refl _ _).alloc (by omega) _
   have n0:=hnew 0 _ rfl
   have n13:=hnew 13 _ rfl
   have n15:=hnew 15 _ rfl
   have n16:=hnew 16 _ rfl
   have n17:=hnew 17 _ rfl
   have hvS:∀ j u,[.int .i64 v.kind,.int .i64 v.ep,.int .i64 v.ct,.int .i64 v.size,pl][j]?=some u->wS.cell? ⟨G,j,none⟩=some u:=fun j u hu=>by
    have h2:=HVR.out j u hu
    rw[Nat.zero_add] at h2
    exact ((hb.trans hbS).cell (p:=⟨G,j,none⟩) (Nat.lt_succ_self G)).trans h2
   have v1:=hvS 1 _ rfl
   have v2:=hvS 2 _ rfl
   have v3:=hvS 3 _ rfl
   have hown2:wS.ownsRow G tRss 1 (slE (G+1) n) n (fromV n (upto vs (.slice none 0 0) i)):=by rw[<-hwS];exact Dr.own_alloc hown _
   have hmt:=mst_take (v:=v) hs
   obtain⟨m0,hm0⟩:∃ m0,mst v (L.take i)=m0:=⟨_,rfl⟩
   rw[hm0] at hmt
   rw[hm0]
   have HOWN:=Hd hown2
   have HBS:=Hd (hb.trans hbS)
   have HST:=Hd hst
   have HCI:=Hd hCi
   clear hown hb hbw hrg hrows hnew hbS hvS hown2 hm0 hwS hst hC hCl hCi
   by_cases hk:own v s=true
   ·have hk3:s.kind=2/\(s.ep=v.ep/\s.ct=v.ct)/\s.size=v.size:=by simpa [own] using hk
    rw[if_pos hk] at hmt hvi
    have k1:(s.kind==2)=true:=by simpa using hk3.1
    have k2:s.ep=v.ep:=hk3.2.1.1
    have k22:s.ct=v.ct:=hk3.2.1.2
    have k3:(s.size==v.size)=true:=by simpa using hk3.2.2
    have c1:=ow_cell HOWN.out hin (fromV_get hin)
    have f1:=ow_free (i:=i) HOWN.out
    have hnw:=ow_store (i:=i) HOWN.out (.slice Ab s.blocks.length cb)
    rw[fromV_set,upto_step' hvi] at hnw
    have HNW:=Hd hnw
    have HBX:=Hd (HBS.out.setCell (p:=⟨G+1,i,none⟩) (Nat.le_refl _) (.slice Ab s.blocks.length cb))
    have HMT:=Hd (show ((mst v (L.take (i+1)):Nat):Int)=max (m0:Int) (s.blocks.length:Int) by rw[hmt];omega)
    clear hnw hk hk3 hvi hmt
    go_wp2_with (first | (refine wpList_load_mid rfl tSeen (.tmp 18) rfl g (oo+i*19) rfl C _ HRG.out Tryz.underlying72 rfl HCI.out ?_) | (refine wpList_store_by rfl tSeen (.tmp 9) (.tmp 19) rfl _ _ rfl rfl HST.out ?_))
    go_roundw
    case rel=>exact⟨i+1,by go_num,by omega,by rw[HMT.out],HNW.out,HBX.out⟩
    case measure=>simp[intOf];omega
   ·rw[if_neg hk] at hmt hvi
    have HKEEP:=Hd (upto_keep hvi)
    have HMT:=Hd hmt
    by_cases k0:s.kind=2
    ·have k1:(s.kind==2)=true:=by simpa using k0
     by_cases k2:s.ep=v.ep
     ·by_cases k22:s.ct=v.ct
      ·have k3:(s.size==v.size)=false:=by
        have:¬ s.size=v.size:=fun h=>hk (by simp[own];exact⟨k0,⟨k2,k22⟩,h⟩)
        simpa using this
       clear hk k0 hvi hmt
       go_wp2_with (first | (refine wpList_load_mid rfl tSeen (.tmp 18) rfl g (oo+i*19) rfl C _ HRG.out Tryz.underlying72 rfl HCI.out ?_) | (refine wpList_store_by rfl tSeen (.tmp 9) (.tmp 19) rfl _ _ rfl rfl HST.out ?_))
       go_roundw
       case rel=>exact⟨i+1,by go_num,by omega,by rw[HMT.out],by rw[HKEEP.out];exact HOWN.out,HBS.out⟩
       case measure=>simp[intOf];omega
      ·clear hk k0 hvi hmt
       go_wp2_with (first | (refine wpList_load_mid rfl tSeen (.tmp 18) rfl g (oo+i*19) rfl C _ HRG.out Tryz.underlying72 rfl HCI.out ?_) | (refine wpList_store_by rfl tSeen (.tmp 9) (.tmp 19) rfl _ _ rfl rfl HST.out ?_))
       go_roundw
       case rel=>exact⟨i+1,by go_num,by omega,by rw[HMT.out],by rw[HKEEP.out];exact HOWN.out,HBS.out⟩
       case measure=>simp[intOf];omega
     ·clear hk k0 hvi hmt
      go_wp2_with (first | (refine wpList_load_mid rfl tSeen (.tmp 18) rfl g (oo+i*19) rfl C _ HRG.out Tryz.underlying72 rfl HCI.out ?_) | (refine wpList_store_by rfl tSeen (.tmp 9) (.tmp 19) rfl _ _ rfl rfl HST.out ?_))
      go_roundw
      case rel=>exact⟨i+1,by go_num,by omega,by rw[HMT.out],by rw[HKEEP.out];exact HOWN.out,HBS.out⟩
      case measure=>simp[intOf];omega
    ·have k1:(s.kind==2)=false:=by simpa using k0
     clear hk k0 hvi hmt
     go_wp2_with (first | (refine wpList_load_mid rfl tSeen (.tmp 18) rfl g (oo+i*19) rfl C _ HRG.out Tryz.underlying72 rfl HCI.out ?_) | (refine wpList_store_by rfl tSeen (.tmp 9) (.tmp 19) rfl _ _ rfl rfl HST.out ?_))
     go_roundw
     case rel=>exact⟨i+1,by go_num,by omega,by rw[HMT.out],by rw[HKEEP.out];exact HOWN.out,HBS.out⟩
     case measure=>simp[intOf];omega
  ·obtain rfl:i=n:=by omega
   rw[List.take_of_length_le (by rw[HLL.out];exact Nat.le_refl _)]
   have e:fromV i (upto vs (.slice none 0 0) i)=fromV i vs:=fromV_congr fun j hj=>upto_all hj
   rw[e] at hown
   have hbw:Below G w wr:=HB1.out.trans (hb.mono (Nat.le_succ G))
   have hBG:B<=G:=by omega
   have HOWN:=Hd hown
   have HBW:=Hd hbw
   clear hown hb hbw e
   go_wp2
   refine bodyPost_ret (v:=.tuple #[slE (G+1) i,.int .i64 (mst v L:Int)]) (by simp[results,Tryz.results34,go_sem]) rfl ?_
   refine⟨⟨G+1,vs,rfl,by rw[hG];exact HOWN.out,fun q s hs=>?_⟩,by rw[hG];exact HBW.out⟩
   obtain⟨g,_,_,_,_,hrows⟩:=HF.out q s hs
   rw[HVS.out q s hs]
   unfold ownB
   split
   ·exact⟨_,_,rfl,hrows.below (HBW.out.mono hBG)⟩
   ·exact⟨_,0,rfl,RowsRd.nil _ _⟩
end Go.Proofs.YtmgljaecmchgaaaGreat.Gf
namespace Go.Proofs.YtmgljaecmchgaaaGreat.Gf
open Go.RowKit Go.Proofs
abbrev tFl:TypeId:=83
theorem infoFl:(Tryz.prog.info? tFl).map (fun i=>(i.zero,i.size))=some (some (.agg (List.replicate 255 (.bool false)).toArray),255):=by kernel_rfl
def flC (F:Nat->Bool):List Value:=fromV 255 fun i=>.bool (F i)
theorem flC_len (F:Nat->Bool):(flC F).length=255:=fromV_len _ _
theorem flC_false:flC (fun _=>false)=List.replicate 255 (.bool false):=(fromV_rep 255 (.bool false)).symm
theorem flC_set (F:Nat->Bool) (i:Nat):(flC F).set i (.bool true)=flC fun j=>F j||(j==i):=by
 unfold flC
 rw[fromV_set]
 refine fromV_congr fun j _=>?_
 by_cases h:j=i
 ·subst h;simp
 ·simp[h]
def FlM (W:World) (G:Nat) (F:Nat->Bool):Prop:=W.heap[G]?=some (.cells (flC F).toArray tFl (0,0))
section
variable {W W':World} {G:Nat} {F F':Nat->Bool}
theorem FlM.lt (h:FlM W G F):G<W.heap.size:=(Array.getElem?_eq_some_iff.1 h).1
theorem FlM.cell {i:Nat} (h:FlM W G F) (hi:i<255):W.cell? ⟨G,i,none⟩=some (.bool (F i)):=by
 rw[cell_of_row W G i _ _ _ h,List.getElem?_toArray]
 exact fromV_get hi
theorem FlM.free {i:Nat} (h:FlM W G F):W.frozen? ⟨G,i,none⟩=false:=frozen_of_row W G i _ _ h
theorem FlM.range (h:FlM W G F):W.rangeAt G 0 (flC F):=fun j v hv=>by
 rw[Nat.zero_add,cell_of_row W G j _ _ _ h,List.getElem?_toArray]
 exact hv
theorem FlM.below (h:FlM W G F) (hb:Below W.heap.size W W'):FlM W' G F:=(hb.block G h.lt).trans h
theorem FlM.set (h:FlM W G F) (i:Nat):FlM (W.setCell ⟨G,i,none⟩ (.bool true)) G (fun j=>F j||(j==i)):=by
 have h1:=Ring.heap_same (i:=i) h (.bool true)
 rw[List.setIfInBounds_toArray,flC_set] at h1
 exact h1
theorem FlM.congr (h:FlM W G F) (e:∀ i,F i=F' i):FlM W G F':=by
 rw[<-funext e];exact h
theorem fl_new (W:World) (F:Nat->Bool):FlM (W.alloc (.cells (flC F).toArray tFl)) W.heap.size F:=heap_alloc_last W _
theorem flC_one (F:Nat->Bool):(flC F).toArray.all (·.oneCell')=true:=all_oneCell_toArray fun v hv=>by
 obtain⟨j,_,rfl⟩:=List.mem_map.1 hv
 rfl
theorem fl_size:(Tryz.prog.info? tFl).map (fun i=>i.size)=some 255:=(zero_of_info infoFl).2
theorem fl_store (h:FlM W G F) (F':Nat->Bool):(Instr.storeAt tFl (.pointer (some ⟨G,0,none⟩)) (.agg (flC F').toArray)).run Tryz.prog W = .ok () (W.setRow G (flC F').toArray):=by
 simp only[Instr.storeAt,Instr.sureAddr,Sem.run_bind,Sem.run_pure,Result.andThen_ok]
 exact run_storeVar_row _ _ tFl tFl _ _ h (by rw[fl_size];simp[flC_len]) (by simp[flC_len]) (flC_one F')
theorem fl_stored (h:FlM W G F) (F':Nat->Bool):FlM (W.setRow G (flC F').toArray) G F':=setRow_heap W G _ _ _ _ h
theorem fl_load (h:FlM W G F):(loadVar tFl ⟨G,0,none⟩).run Tryz.prog W = .ok (.agg (flC F).toArray) W:=
 run_loadVar_row _ _ tFl tFl _ (0,0) _ h Tryz.underlying83 rfl (by rw[fl_size];simp[flC_len])
theorem kept_row {S:Nat->Prop} {ws:World} (h:Kept ws W S) {G:Nat} (hG:S G\/ws.heap.size<=G) (cs:Array Value):Kept ws (W.setRow G cs) S:=
 h.grown (row:=some G) ⟨rfl,rfl,rfl,by simp[World.setRow],fun k _ hk=>setRow_other W G k cs (fun e=>hk (by rw[e]))⟩ (fun b e=>by cases e;exact hG)
end
end Go.Proofs.YtmgljaecmchgaaaGreat.Gf
