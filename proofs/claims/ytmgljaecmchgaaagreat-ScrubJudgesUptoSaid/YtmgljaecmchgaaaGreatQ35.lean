/- XWo2, XWo3: merged by tools/merge.py. -/
import Derived.Test.YtmgljaecmchgaaaGreatQ34
set_option linter.unusedVariables false
set_option linter.unusedSimpArgs false
set_option linter.unusedSectionVars false
namespace Go.Proofs.YtmgljaecmchgaaaGreat.Gf
open Go.RowKit Go.Proofs
def wdC (d:Nat) (g:Gt) (pv fz:Value):List Value:=[.pointer (some ⟨d,0,none⟩),.bool g.down,.bool g.away,pv,.int .i64 g.calls,.int .i64 g.rounds,fz]
structure WdAt (W:World) (p d:Nat) (g:Gt):Prop where
 own:∃ (Ap:Option Addr) (np cp:Nat) (fz:Value),W.heap[p]?=some (.cells (wdC d g (.slice Ap np cp) fz).toArray tWound (0,0))/\W.ownsRow 0 tFault 2 (.slice Ap np cp) np (cFt g.plan)/\
  ((g.laid=true/\∃ f,fz = .pointer (some ⟨f,0,none⟩)/\W.heap[f]?=some (.cells #[.int .i64 g.rd,.int .i64 g.call,.int .i64 g.ins] tFuse (0,0)))\/(g.laid=false/\fz = .pointer none))
section
variable {W W':World} {p d:Nat} {g:Gt}
theorem WdAt.below (h:WdAt W p d g) (hb:Below W.heap.size W W'):WdAt W' p d g:=by
 obtain⟨Ap,np,cp,fz,h1,h2,h3⟩:=h.own
 refine⟨Ap,np,cp,fz,(hb.block p (Array.getElem?_eq_some_iff.1 h1).1).trans h1,own_below h2 hb,?_⟩
 rcases h3 with ⟨a,f,b,c⟩ | h3
 ·exact .inl ⟨a,f,b,(hb.block f (Array.getElem?_eq_some_iff.1 c).1).trans c⟩
 ·exact .inr h3
theorem WdAt.lt (h:WdAt W p d g):p<W.heap.size:=by
 obtain⟨Ap,np,cp,fz,h1,_⟩:=h.own
 exact (Array.getElem?_eq_some_iff.1 h1).1
end
set_option maxHeartbeats 4000000 in
theorem wnew_any (w:World) (d:Nat):Calls Tryz.prog 25 #[.pointer (some ⟨d,0,none⟩)] w fun x w'=>x = .returned (.pointer (some ⟨w.heap.size,0,none⟩))/\WdAt w' w.heap.size d Gt.new/\Below w.heap.size w w':=by
 have HW:=Hd (show WdAt (w.alloc (.cells #[.pointer (some ⟨d,0,none⟩),.bool false,.bool false,.slice none 0 0,.int .i64 0,.int .i64 0,.pointer none] tWound)) w.heap.size d Gt.new from⟨none,0,0,.pointer none,heap_alloc_last w _,World.ownsRow_nil _ _ _ _,.inr ⟨rfl,rfl⟩⟩)
 have HB:=Hd ((Below.refl w.heap.size w).alloc (Nat.le_refl _) (.cells #[.pointer (some ⟨d,0,none⟩),.bool false,.bool false,.slice none 0 0,.int .i64 0,.int .i64 0,.pointer none] tWound))
 go_enter Tryz.func25,Tryz.ntmps25
 go_wp2
 go_ret
 exact⟨rfl,HW.out,HB.out⟩
set_option maxHeartbeats 4000000 in
theorem wnew_nil (w:World):Calls Tryz.prog 25 #[.pointer none] w fun x w'=>x = .returned (.pointer none)/\w=w':=by
 go_enter Tryz.func25,Tryz.ntmps25
 go_wp2
 go_ret
 exact⟨rfl,rfl⟩
set_option maxHeartbeats 4000000 in
theorem wcalls_any {w:World} {p d:Nat} {g:Gt} (h:WdAt w p d g):Calls Tryz.prog 44 #[.pointer (some ⟨p,0,none⟩)] w fun x w'=>x = .returned (.int .i64 g.calls)/\w=w':=by
 obtain⟨Ap,np,cp,fz,h1,_⟩:=h.own
 have c4:w.cell? ⟨p,4,none⟩=some (.int .i64 g.calls):=by rw[cell_of_row _ _ _ _ _ _ h1];rfl
 clear h h1
 go_enter Tryz.func44,Tryz.ntmps44
 go_wp2
 go_ret
 exact⟨rfl,rfl⟩
set_option maxHeartbeats 4000000 in
theorem won_any {w:World} {p d:Nat} {g:Gt} (h:WdAt w p d g):Calls Tryz.prog 45 #[.pointer (some ⟨p,0,none⟩)] w fun x w'=>x = .returned (.bool (!g.down))/\w=w':=by
 obtain⟨Ap,np,cp,fz,h1,_⟩:=h.own
 have c1:w.cell? ⟨p,1,none⟩=some (.bool g.down):=by rw[cell_of_row _ _ _ _ _ _ h1];rfl
 clear h h1
 go_enter Tryz.func45,Tryz.ntmps45
 go_wp2
 go_ret
 exact⟨rfl,rfl⟩
set_option maxHeartbeats 4000000 in
theorem wstruck_any {w:World} {p d:Nat} {g:Gt} (h:WdAt w p d g):Calls Tryz.prog 46 #[.pointer (some ⟨p,0,none⟩)] w fun x w'=>x = .returned (.bool g.struck)/\w=w':=by
 obtain⟨Ap,np,cp,fz,h1,_,h3⟩:=h.own
 have c6:w.cell? ⟨p,6,none⟩=some fz:=by rw[cell_of_row _ _ _ _ _ _ h1];rfl
 rcases h3 with ⟨hl,f,rfl,hf⟩ | ⟨hl,rfl⟩
 ·have f0:w.cell? ⟨f,0,none⟩=some (.int .i64 g.rd):=by rw[cell_of_row _ _ _ _ _ _ hf];rfl
  have HG:=Hd (show g.struck=(g.rd==0) by unfold Gt.struck;rw[hl];rfl)
  clear h h1 hf hl
  cases hb:(g.rd==0) with
  | true=>
   go_enter Tryz.func46,Tryz.ntmps46
   go_wp2
   go_ret
   exact⟨by rw[HG.out,hb];rfl,rfl⟩
  | false=>
   go_enter Tryz.func46,Tryz.ntmps46
   go_wp2
   go_ret
   exact⟨by rw[HG.out,hb];rfl,rfl⟩
 ·have HG:=Hd (show g.struck=false by unfold Gt.struck;rw[hl];rfl)
  clear h h1 hl
  go_enter Tryz.func46,Tryz.ntmps46
  go_wp2
  go_ret
  exact⟨by rw[HG.out];rfl,rfl⟩
set_option maxHeartbeats 4000000 in
theorem woff_any {w:World} {p d:Nat} {g:Gt} (h:WdAt w p d g) (b:Bool):Calls Tryz.prog 62 #[.pointer (some ⟨p,0,none⟩),.bool b] w fun x w'=>x = .returned (.tuple #[])/\WdAt w' p d (g.offl b)/\Kept w w' (fun k=>k=p):=by
 obtain⟨Ap,np,cp,fz,h1,h2,h3⟩:=h.own
 have c2:w.cell? ⟨p,2,none⟩=some (.bool g.away):=by rw[cell_of_row _ _ _ _ _ _ h1];rfl
 have f2:w.frozen? ⟨p,2,none⟩=false:=frozen_of_row _ _ _ _ _ h1
 have hne:∀ v:Value,v.ownBlock=some p->¬ w.ownsRow 0 tFault 2 v np (cFt g.plan):=fun v hv hr=>by
  obtain⟨c,k⟩:=Dr.own_lt hr hv
  rw[h1] at k
  injection k with k
  injection k with _ k
  exact absurd k (by decide)
 have HN:=Hd (show WdAt (w.setCell ⟨p,2,none⟩ (.bool b)) p d (g.offl b) from⟨Ap,np,cp,fz,Ring.heap_same h1 _,h2.kept (grown_set w p 2 _) (.inr fun e=>hne _ e h2),by
  rcases h3 with ⟨a,f,b1,c⟩ | h3
  ·refine .inl ⟨a,f,b1,(Below.heap_setCell w ⟨p,2,none⟩ _ f (fun e=>?_)).trans c⟩
   have e':f=p:=e
   rw[e',h1] at c
   injection c with c
   injection c with _ c
   exact absurd c (by decide)
  ·exact .inr h3⟩)
 have HK:=Hd (show Kept w (w.setCell ⟨p,2,none⟩ (.bool b)) (fun k=>k=p) from kept_set (Kept.refl _ _) rfl)
 clear h h1 h2 h3 hne
 go_enter Tryz.func62,Tryz.ntmps62
 go_wp2
 refine bodyPost_end (v:=.tuple #[]) (by simp[results,Tryz.results62,go_sem]) rfl ?_
 exact⟨rfl,HN.out,HK.out⟩
end Go.Proofs.YtmgljaecmchgaaaGreat.Gf
namespace Go.Proofs.YtmgljaecmchgaaaGreat.Gf
open Go.RowKit Go.Proofs
theorem own_set {W:World} {b:Nat} {e t:TypeId} {size n:Nat} {v:Value} {xs:List Value} (h:W.ownsRow b e size v n xs) {p i:Nat} {cs:Array Value} (hp:W.heap[p]?=some (.cells cs t (0,0))) (ht:e≠t) (u:Value):(W.setCell ⟨p,i,none⟩ u).ownsRow b e size v n xs:=
 h.kept (grown_set W p i u) (.inr fun hv=>by
  obtain⟨c,k⟩:=Dr.own_lt h hv
  rw[hp] at k
  injection k with k
  injection k with _ k
  exact ht k.symm)
set_option maxRecDepth 100000 in
set_option maxHeartbeats 8000000 in
theorem wfuse_any {w:World} {p d:Nat} {g:Gt} (h:WdAt w p d g) (r c i:Int):Calls Tryz.prog 64 #[.pointer (some ⟨p,0,none⟩),.int .i64 r,.int .i64 c,.int .i64 i] w fun x w'=>x = .returned (.tuple #[])/\WdAt w' p d (g.fuse r c i)/\Kept w w' (fun k=>k=p):=by
 obtain⟨Ap,np,cp,fz,h1,h2,h3⟩:=h.own
 have hpl:=h.lt
 have c6:w.cell? ⟨p,6,none⟩=some fz:=by rw[cell_of_row _ _ _ _ _ _ h1];rfl
 have f6:w.frozen? ⟨p,6,none⟩=false:=frozen_of_row _ _ _ _ _ h1
 obtain⟨w1,hw1⟩:∃ w1,w.setCell ⟨p,6,none⟩ (.pointer none)=w1:=⟨_,rfl⟩
 have hh1:w1.heap[p]?=some (.cells (wdC d g (.slice Ap np cp) (.pointer none)).toArray tWound (0,0)):=by
  have h:=Ring.heap_same (i:=6) h1 (.pointer none)
  rw[hw1] at h
  exact h
 have hp1:w1.ownsRow 0 tFault 2 (.slice Ap np cp) np (cFt g.plan):=by rw[<-hw1];exact own_set h2 h1 (by decide) _
 have hs1:w1.heap.size=w.heap.size:=by rw[<-hw1];exact World.size_setCell ..
 have hk1:Kept w w1 (fun k=>k=p):=by rw[<-hw1];exact kept_set (Kept.refl _ _) rfl
 by_cases hr:0<=r
 ·obtain⟨w2,hw2⟩:∃ w2,w1.setCell ⟨p,6,none⟩ (.pointer (some ⟨w.heap.size,0,none⟩))=w2:=⟨_,rfl⟩
  have hh2:w2.heap[p]?=some (.cells (wdC d g (.slice Ap np cp) (.pointer (some ⟨w.heap.size,0,none⟩))).toArray tWound (0,0)):=by
   have h:=Ring.heap_same (i:=6) hh1 (.pointer (some ⟨w.heap.size,0,none⟩))
   rw[hw2] at h
   exact h
  have hp2:w2.ownsRow 0 tFault 2 (.slice Ap np cp) np (cFt g.plan):=by rw[<-hw2];exact own_set hp1 hh1 (by decide) _
  have hs2:w2.heap.size=w.heap.size:=by rw[<-hw2,World.size_setCell];exact hs1
  have hk2:Kept w w2 (fun k=>k=p):=by rw[<-hw2];exact kept_set hk1 rfl
  have hb3:Below w2.heap.size w2 (w2.alloc (.cells #[.int .i64 r,.int .i64 c,.int .i64 i] tFuse)):=(Below.refl _ _).alloc (Nat.le_refl _) _
  have hf3:=heap_alloc_last w2 (.cells #[.int .i64 r,.int .i64 c,.int .i64 i] tFuse)
  rw[hs2] at hf3
  have HN:=Hd (show WdAt (w2.alloc (.cells #[.int .i64 r,.int .i64 c,.int .i64 i] tFuse)) p d (g.fuse r c i) from⟨Ap,np,cp,.pointer (some ⟨w.heap.size,0,none⟩),(hb3.block p (by omega)).trans hh2,own_below hp2 hb3,.inl ⟨by simp[Gt.fuse,hr],w.heap.size,rfl,hf3⟩⟩)
  have HK:=Hd (show Kept w (w2.alloc (.cells #[.int .i64 r,.int .i64 c,.int .i64 i] tFuse)) (fun k=>k=p) from hk2.below hb3)
  have HW2:=Hd (show (w.setCell ⟨p,6,none⟩ (.pointer none)).setCell ⟨p,6,none⟩ (.pointer (some ⟨w.heap.size,0,none⟩))=w2 by rw[hw1];exact hw2)
  clear h h1 h2 h3 hw1 hh1 hp1 hs1 hk1 hw2 hh2 hp2 hs2 hk2 hb3 hf3
  go_enter Tryz.func64,Tryz.ntmps64
  go_wp2
  rw[HW2.out]
  try rw[Exit.noGoto_ret]
  refine bodyPost_end (v:=.tuple #[]) (by simp[results,Tryz.results64,go_sem]) rfl ?_
  exact⟨rfl,HN.out,HK.out⟩
 ·have HN:=Hd (show WdAt w1 p d (g.fuse r c i) from⟨Ap,np,cp,.pointer none,hh1,hp1,.inr ⟨by simp[Gt.fuse];omega,rfl⟩⟩)
  have HK:=Hd hk1
  have HW1:=Hd hw1
  clear h h1 h2 h3 hw1 hh1 hp1 hs1 hk1
  go_enter Tryz.func64,Tryz.ntmps64
  go_wp2
  try rw[Exit.noGoto_ret]
  refine bodyPost_end (v:=.tuple #[]) (by simp[results,Tryz.results64,go_sem]) rfl ?_
  rw[HW1.out]
  exact⟨rfl,HN.out,HK.out⟩
theorem run_makeF (W:World) (n:Nat) (hn:n<=1099511627776):(Instr.makeSlice tFaults (.int .i64 (n:Int)) (.int .i64 (n:Int))).run Tryz.prog W = .ok (.slice (some ⟨W.heap.size,0,none⟩) n n) (W.alloc (.cells (madeCells #[.int .i64 0,.int .i64 0] (n*2)) tFault)):=by
 obtain⟨i0,hi,hz0,hz1,hz2⟩:=info_parts infoFt
 have h:=run_make (P:=Tryz.prog) (w:=W) tFaults tFault i0 _ Tryz.underlying91 hi hz0 .i64 .i64 (n:Int) (n:Int) (by omega) (by omega) (by rw[hz2];omega) (by omega)
 rw[hz1,Int.toNat_natCast] at h
 exact h
theorem wpList_copy_whole {P:Program} {w:World} {ops:Array Oper} {rest:List Oper} {o:Oper} {a:Act} {Q:Exit->Act->World->Prop} (hgd:o.guard=none) (d s:Operand) (dT:TypeId)
  (ho:o.op = .call {callee:=.builtin .copy,args:=#[d,s],argTypes:=#[dT,dT]}) (elem:TypeId) (g n k c B:Nat) (A:Option Addr) (cur:Array Value) (t:TypeId) (cs:List Value) (hu:P.underlying dT=some (.slice elem)) (hs:(P.info? elem).map (·.size)=some k)
  (hd:a.eval d = .slice (some ⟨g,0,none⟩) n n) (hx:a.eval s = .slice A n c) (hg:w.heap[g]?=some (.cells cur t (0,0))) (hcur:cur.size=n*k) (hr:Rd w B k A n cs) (h1:∀ v∈cs,v.oneCell'=true)
  (h:∀ w',w'.heap[g]?=some (.cells cs.toArray t (0,0))->w.grownBy w' (some g)->wpList P ops Q rest (a.put o.dst (goInt n)) w'):wpList P ops Q (o::rest) a w:=by
 obtain⟨w',hrun,h2,h3⟩:=run_copy_whole (P:=P) dT dT o.type elem g n k c B A cur t cs hu hs hg hcur hr h1
 refine wpList_plain hgd fun K hK=>?_
 have h4:=hK _ _ (h w' h2 h3)
 unfold Oper.wp
 simp[execOp,ho,resolve,invoke,builtin,hd,hx,hrun,Result.andThen]
 exact h4
set_option maxRecDepth 100000 in
set_option maxHeartbeats 8000000 in
theorem warm_any {w:World} {B p d n c:Nat} {A:Option Addr} {g:Gt} {l:List (Int×Int)} (h:WdAt w p d g) (hl:Rd w B 2 A n (cFt l)) (hB:B<=w.heap.size) (hAp:∀ ad,A=some ad->ad.block≠p) (hn:n<=1048576):Calls Tryz.prog 60 #[.pointer (some ⟨p,0,none⟩),.slice A n c] w fun x w'=>x = .returned (.tuple #[])/\WdAt w' p d (g.arm l)/\Kept w w' (fun k=>k=p):=by
 obtain⟨Ap,np,cp,fz,h1,h2,h3⟩:=h.own
 have hpl:=h.lt
 obtain⟨N,hN⟩:∃ N,w.heap.size=N:=⟨_,rfl⟩
 obtain⟨Z,hZ⟩:∃ Z,madeCells #[Value.int .i64 0,.int .i64 0] (n*2)=Z:=⟨_,rfl⟩
 have hZs:Z.size=n*2:=by rw[<-hZ];exact size_madeCells _ _
 have hmk:=run_makeF w n (by omega)
 rw[hZ] at hmk
 have c3:w.cell? ⟨p,3,none⟩=some (.slice Ap np cp):=by rw[cell_of_row _ _ _ _ _ _ h1];rfl
 have f3:w.frozen? ⟨p,3,none⟩=false:=frozen_of_row _ _ _ _ _ h1
 obtain⟨w1,hw1⟩:∃ w1,w.setCell ⟨p,3,none⟩ (.slice (some ⟨w.heap.size,0,none⟩) n n)=w1:=⟨_,rfl⟩
 have hh1:w1.heap[p]?=some (.cells (wdC d g (.slice (some ⟨N,0,none⟩) n n) fz).toArray tWound (0,0)):=by
  have h:=Ring.heap_same (i:=3) h1 (.slice (some ⟨w.heap.size,0,none⟩) n n)
  rw[hw1,hN] at h
  exact h
 have hs1:w1.heap.size=N:=by rw[<-hw1,<-hN];exact World.size_setCell ..
 have hk1:Kept w w1 (fun k=>k=p):=by rw[<-hw1];exact kept_set (Kept.refl _ _) rfl
 obtain⟨w2,hw2⟩:∃ w2,w1.alloc (.cells Z tFault)=w2:=⟨_,rfl⟩
 have hb2:Below w1.heap.size w1 w2:=by rw[<-hw2];exact (Below.refl _ _).alloc (Nat.le_refl _) _
 have hh2:w2.heap[p]?=some (.cells (wdC d g (.slice (some ⟨N,0,none⟩) n n) fz).toArray tWound (0,0)):=(hb2.block p (by omega)).trans hh1
 have hz2:w2.heap[N]?=some (.cells Z tFault (0,0)):=by
  have h:=heap_alloc_last w1 (.cells Z tFault)
  rw[hw2,hs1] at h
  exact h
 have hk2:Kept w w2 (fun k=>k=p):=hk1.below hb2
 have hl2:Rd w2 B 2 A n (cFt l):=by
  refine⟨hl.1,fun hn=>?_⟩
  obtain⟨ad,e,hb,hc⟩:=hl.2 hn
  refine⟨ad,e,hb,fun j u hu=>(World.cell?_of_block (hk2.block _ (by rw[add_block];omega) (by rw[add_block];exact hAp ad e))).trans (hc j u hu)⟩
 have hfz:∀ f,fz = .pointer (some ⟨f,0,none⟩)->w.heap[f]?=some (.cells #[.int .i64 g.rd,.int .i64 g.call,.int .i64 g.ins] tFuse (0,0))->f≠p:=fun f _ hf e=>by
  rw[e,h1] at hf
  injection hf with hf
  injection hf with _ hf
  exact absurd hf (by decide)
 have HN:=Hd (show ∀ w3,w3.heap[N]?=some (.cells (cFt l).toArray tFault (0,0))->w2.grownBy w3 (some N)->WdAt (w3.setCell ⟨p,4,none⟩ (.int .i64 0)) p d (g.arm l)/\Kept w (w3.setCell ⟨p,4,none⟩ (.int .i64 0)) (fun k=>k=p) from fun w3 hc3 hg3=>by
  have hlt2:N<w2.heap.size:=(Array.getElem?_eq_some_iff.1 hz2).1
  have hh3:w3.heap[p]?=some (.cells (wdC d g (.slice (some ⟨N,0,none⟩) n n) fz).toArray tWound (0,0)):=(hg3.block p (by omega) (by simp;omega)).trans hh2
  have hk3:Kept w w3 (fun k=>k=p):=hk2.grown hg3 (fun b e=>by cases e;exact .inr (by omega))
  have hrow:w3.ownsRow 0 tFault 2 (.slice (some ⟨N,0,none⟩) n n) n (cFt l):=⟨hl.1,.inr ⟨N,n,(cFt l).toArray,rfl,Nat.zero_le _,hc3,Nat.le_refl _,by unfold maxLen;omega,by simp[hl.1],by simp[<-hl.1]⟩⟩
  refine⟨⟨some ⟨N,0,none⟩,n,n,fz,Ring.heap_same (i:=4) hh3 _,own_set hrow hh3 (by decide) _,?_⟩,kept_set hk3 rfl⟩
  rcases h3 with ⟨a,f,b,c⟩ | h3
  ·have hfp:=hfz f b c
   have hfw:f<w.heap.size:=(Array.getElem?_eq_some_iff.1 c).1
   exact .inl ⟨a,f,b,(Below.heap_setCell w3 ⟨p,4,none⟩ _ f hfp).trans ((hk3.block f hfw hfp).trans c)⟩
  ·exact .inr h3)
 have d3:w2.cell? ⟨p,3,none⟩=some (.slice (some ⟨N,0,none⟩) n n):=by rw[cell_of_row _ _ _ _ _ _ hh2];rfl
 have HC4:=Hd (show ∀ w3,w2.grownBy w3 (some N)->w3.cell? ⟨p,4,none⟩=some (.int .i64 g.calls)/\w3.frozen? ⟨p,4,none⟩=false from fun w3 hg3=>by
  have hh3:w3.heap[p]?=some (.cells (wdC d g (.slice (some ⟨N,0,none⟩) n n) fz).toArray tWound (0,0)):=(hg3.block p (by have:=(Array.getElem?_eq_some_iff.1 hh2).1;omega) (by simp;omega)).trans hh2
  exact⟨by rw[cell_of_row _ _ _ _ _ _ hh3];rfl,frozen_of_row _ _ _ _ _ hh3⟩)
 have HW2:=Hd (show (w.setCell ⟨p,3,none⟩ (.slice (some ⟨w.heap.size,0,none⟩) n n)).alloc (.cells Z tFault)=w2 by rw[hw1];exact hw2)
 have HZ2:=Hd hz2
 have HZS:=Hd hZs
 have HL2:=Hd hl2
 have HNN:=Hd hN
 clear h h1 h2 h3 hl hw1 hh1 hs1 hk1 hw2 hb2 hh2 hz2 hk2 hl2 hfz hZ hZs hN
 go_enter Tryz.func60,Tryz.ntmps60
 go_upto_region 2 with (fail)
 rw[HW2.out,HNN.out]
 clear hmk c3 f3
 go_wp2_with (refine wpList_copy_whole rfl (.tmp 15) (.tmp 16) tFaults rfl tFault N n 2 c B A Z tFault (cFt l) Tryz.underlying91 (by kernel_rfl) rfl rfl HZ2.out HZS.out HL2.out (cFt_one l) ?_;intro w3 hc3 hg3;obtain⟨x4,y4⟩:=HC4.out w3 hg3;have HFIN:=Hd (HN.out w3 hc3 hg3);clear hc3 hg3 d3)
 try rw[Exit.noGoto_ret]
 refine bodyPost_end (v:=.tuple #[]) (by simp[results,Tryz.results60,go_sem]) rfl ?_
 exact⟨rfl,HFIN.out.1,HFIN.out.2⟩
end Go.Proofs.YtmgljaecmchgaaaGreat.Gf
