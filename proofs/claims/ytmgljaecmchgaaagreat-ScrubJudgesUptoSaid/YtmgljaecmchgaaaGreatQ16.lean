/- XBri, XPo5, XPo6, XPo7: merged by tools/merge.py. -/
import Derived.Test.YtmgljaecmchgaaaGreatQ07
import Derived.RangeFuncNested
import Derived.RangeFuncBound
import Derived.RangeFuncCalls
import Derived.RangeFuncLeaves
import Derived.RangeFuncWrites
import Derived.RangeFuncBox
import Derived.Shelf.Abstract
import Derived.Shelf.RegionOpen
import Derived.OwnWalkIn
import Derived.TacticsInMore
import Derived.LoopNIn
import Derived.LoopIn
import Derived.OrdersIn
import Derived.Test.YtmgljaecmchgaaaGreatQ15
set_option linter.unusedVariables false
set_option linter.unusedSimpArgs false
set_option linter.unusedSectionVars false
namespace Go.Proofs.YtmgljaecmchgaaaGreat
open Go.RowKit Go.Proofs
def noDefer (l:List Oper):Bool:=l.all fun o=>match o.op with | .defer _=>false | _=>true
theorem noDefer_spec {l:List Oper} (h:noDefer l=true) {i:Nat} {o:Oper} (hi:l.toArray[i]?=some o):∀ c,o.op≠.defer c:=by
 intro c hc
 have:=List.all_eq_true.1 h o (List.mem_of_getElem? (by simpa using hi))
 rw[hc] at this
 cases this
section
variable {P:Program} {Q:Exit->Act->World->Prop} {r n:Nat}
theorem wpIn_of_wp {o:Oper} (hnd:∀ c,o.op≠.defer c) {a:Act} {w:World} {K K':Act->World->Prop} (hK:∀ a w,K a w->K' a w) (h:o.wp P a w K Q):o.wpIn (Fence.wide.inRound r) n P a w K' Q:=by
 refine⟨fun _ _=>trivial,?_⟩
 unfold Oper.wp at h
 rw[show o.semAt (Fence.wide.inRound r).round a.eval=execOp a.eval o from Oper.semAt_some r a.eval o hnd]
 generalize (execOp a.eval o).run P w=res at h
 cases res with
 | ok nx w'=>
  cases nx<;>simp only[Oper.upon] at h<;>try exact h.elim
  case value v=>exact hK _ _ h
  case skip=>exact hK _ _ h
  case defer d=>exact hK _ _ h
  case enter f args=>
   refine⟨fun h0=>by simp[Fence.wide] at h0,?_⟩
   have h2:CallsIn Fence.wide (n - 1) P f args w' _:=callsIn_wide.2 h
   refine CallsIn.mono (CallsIn.inRound r h2) ?_
   intro e w'' he
   cases e with
   | returned v=>exact hK _ _ he
   | panicked ch=>exact he
   | outgrown=>exact he
  case row row args=>
   refine⟨fun h0=>by simp[Fence.wide] at h0,fun c cs _=>?_⟩
   obtain⟨v,w'',hr,hs⟩:=h c cs
   exact⟨v,w'',hK _ _ hr,stepsIn_wide.2 hs⟩
 | halt hh w'=>
  cases hh<;>simp only[Oper.upon] at h<;>first | exact h.elim | exact h
theorem wpOpsIn_of {l:List Oper} (hnd:noDefer l=true) (hQ:¬ LetsOut Q):∀ (is:List Nat) (a:Act) (w:World),wpOps P l.toArray Q is a w->wpOpsIn (Fence.wide.inRound r) n P l.toArray Q is a w:=by
 intro is
 induction is with
 | nil=>exact fun a w h=>h
 | cons i is ih=>
  intro a w h
  simp only[wpOps,wpOpsIn] at h ⊢
  cases hi:l.toArray[i]? with
  | none=>rw[hi] at h;exact ih _ _ h
  | some o=>
   rw[hi] at h
   dsimp only at h ⊢
   split
   ·rename_i hw
    rw[if_pos hw] at h
    rcases h with h | h
    ·exact wpIn_of_wp (noDefer_spec hnd hi) ih h
    ·exact absurd h.2 hQ
   ·rename_i hw
    rw[if_neg hw] at h
    exact⟨fun _ _=>trivial,ih _ _ h⟩
theorem wpIn_region_of {id:Nat} {l:List Oper} {a:Act} {w:World} (hm:P.follows .mixedOrders=true) (hnd:noDefer l=true) (hQ:¬ LetsOut Q)
  (h:wpAny P .any l.toArray Q l.toArray.size (Array.replicate l.toArray.size false) a {w with drawn:=w.drawn+1}):(Code.region id l.toArray true).wpIn (Fence.wide.inRound r) n P Q a w:=
 wpIn_region_draw fun t=>by
  simp only[Region.schedule,hm,Bool.true_or,if_true]
  exact wpOpsIn_of hnd hQ _ _ _ (wpAny_sound l.toArray.size t _ a _ h)
theorem wpIn_of_wpW {o:Oper} (hnd:∀ c,o.op≠.defer c) {a:Act} {w:World} {K K':Act->World->Prop} (hK:∀ a w,K a w->K' a w) (h:o.wp P a w K Q):o.wpIn Fence.wide n P a w K' Q:=by
 refine⟨fun _ _=>trivial,?_⟩
 unfold Oper.wp at h
 rw[show o.semAt Fence.wide.round a.eval=execOp a.eval o from rfl]
 generalize (execOp a.eval o).run P w=res at h
 cases res with
 | ok nx w'=>
  cases nx<;>simp only[Oper.upon] at h<;>try exact h.elim
  case value v=>exact hK _ _ h
  case skip=>exact hK _ _ h
  case defer d=>exact hK _ _ h
  case enter f args=>
   refine⟨fun h0=>by simp[Fence.wide] at h0,?_⟩
   have h2:CallsIn Fence.wide (n - 1) P f args w' _:=callsIn_wide.2 h
   refine CallsIn.mono h2 ?_
   intro e w'' he
   cases e with
   | returned v=>exact hK _ _ he
   | panicked ch=>exact he
   | outgrown=>exact he
  case row row args=>
   refine⟨fun h0=>by simp[Fence.wide] at h0,fun c cs _=>?_⟩
   obtain⟨v,w'',hr,hs⟩:=h c cs
   exact⟨v,w'',hK _ _ hr,stepsIn_wide.2 hs⟩
 | halt hh w'=>
  cases hh<;>simp only[Oper.upon] at h<;>first | exact h.elim | exact h
theorem wpOpsIn_ofW {l:List Oper} (hnd:noDefer l=true) (hQ:¬ LetsOut Q):∀ (is:List Nat) (a:Act) (w:World),wpOps P l.toArray Q is a w->wpOpsIn Fence.wide n P l.toArray Q is a w:=by
 intro is
 induction is with
 | nil=>exact fun a w h=>h
 | cons i is ih=>
  intro a w h
  simp only[wpOps,wpOpsIn] at h ⊢
  cases hi:l.toArray[i]? with
  | none=>rw[hi] at h;exact ih _ _ h
  | some o=>
   rw[hi] at h
   dsimp only at h ⊢
   split
   ·rename_i hw
    rw[if_pos hw] at h
    rcases h with h | h
    ·exact wpIn_of_wpW (noDefer_spec hnd hi) ih h
    ·exact absurd h.2 hQ
   ·rename_i hw
    rw[if_neg hw] at h
    exact⟨fun _ _=>trivial,ih _ _ h⟩
theorem wpIn_region_wide {id:Nat} {l:List Oper} {a:Act} {w:World} (hm:P.follows .mixedOrders=true) (hnd:noDefer l=true) (hQ:¬ LetsOut Q)
  (h:wpAny P .any l.toArray Q l.toArray.size (Array.replicate l.toArray.size false) a {w with drawn:=w.drawn+1}):(Code.region id l.toArray true).wpIn Fence.wide n P Q a w:=
 wpIn_region_draw fun t=>by
  simp only[Region.schedule,hm,Bool.true_or,if_true]
  exact wpOpsIn_ofW hnd hQ _ _ _ (wpAny_sound l.toArray.size t _ a _ h)
def onlyN (K:Act->World->Prop):Exit->Act->World->Prop
 | .normal,a,w=>K a w
 | _,_,_=>False
theorem wpIn_region_wideK {id:Nat} {l:List Oper} {a:Act} {w:World} {K:Act->World->Prop} (hm:P.follows .mixedOrders=true) (hnd:noDefer l=true)
  (h:wpAny P .any l.toArray (onlyN K) l.toArray.size (Array.replicate l.toArray.size false) a {w with drawn:=w.drawn+1}):(Code.region id l.toArray true).wpIn Fence.wide n P (Exit.then K Q) a w:=by
 refine wpIn_mono (wpIn_region_wide hm hnd (by rintro⟨_,_,h⟩;exact h) h) ?_
 intro e a w h
 cases e<;>first | exact h | exact h.elim
end
end Go.Proofs.YtmgljaecmchgaaaGreat
namespace Go.Proofs.YtmgljaecmchgaaaGreat.Gf
open Go.RowKit Go.Proofs Go.Shelf
attribute [local go_sem] Oper.semAt_some
def bk (l:List E) (k:Nat):List (Nat×E):=(List.range k).map fun j=>(l.length - 1 - j,co l (l.length - 1 - j))
theorem bk_succ (l:List E) (k:Nat):bk l (k+1)=bk l k++[(l.length - 1 - k,co l (l.length - 1 - k))]:=by simp[bk,List.range_succ]
theorem bk_len (l:List E) (k:Nat):(bk l k).length=k:=by simp[bk]
abbrev bkEnc (x:Nat×E):Array Value:=#[.int .i64 (x.1:Int),.int .u8 ((unE x.2).toNat:Int)]
def KB (n₀ Bs:Nat) (W W':World):Prop:=Below n₀ W W'/\∀ v,W.cell? ⟨Bs,0,none⟩=some v->W'.cell? ⟨Bs,0,none⟩=some v
theorem KB.trans {n₀ Bs:Nat} {A B C:World} (h:KB n₀ Bs A B) (h':KB n₀ Bs B C):KB n₀ Bs A C:=⟨h.1.trans h'.1,fun v hv=>h'.2 v (h.2 v hv)⟩
theorem KB.refl (n₀ Bs:Nat) (A:World):KB n₀ Bs A A:=⟨Below.refl _ _,fun _ h=>h⟩
theorem KB.put {n₀ Bs:Nat} {w:World} (hn:n₀<=w.heap.size) (W:World) (l:Nat) (o o':Obj) (hl:w.heap.size<=l) (h:W.heap[l]?=some o) (hc:o.isCells=false) (hw:o.isWalk=false):KB n₀ Bs W (W.putObj l o'):=by
 refine⟨belowK_b hn W l o o' hl h hc hw,fun v hv=>?_⟩
 by_cases e:l=Bs
 ·subst e
  unfold World.cell? at hv
  dsimp only at hv
  rw[h] at hv
  cases o<;>simp[Obj.isCells] at hc hv
 ·unfold World.cell? at hv ⊢
  rw[World.putObj_heap_other (show (⟨Bs,0,none⟩:Addr).block≠l from fun h2=>e h2.symm)]
  exact hv
set_option maxRecDepth 100000 in
set_option maxHeartbeats 2000000 in
theorem backward1_in (F:Fence) (n:Nat) (h8:F.fn 124) (hro:F.round=none) (hn:1<=n) (l Bs n₀ len cap:Nat) (A:Option Addr) (p:List E) (hlen:len<=65536) (J Jx:List (Nat×E)->World->Prop)
  (hY:∀ pre x W,J pre W->pre.length<len->YieldAt F (n - 1) Tryz.prog l (bkEnc x) W fun e W'=>
   (e = .returned (.bool true)/\J (pre++[x]) W'/\KB n₀ Bs W W')\/(e = .returned (.bool false)/\Jx (pre++[x]) W'))
  (W:World) (hBs:W.cell? ⟨Bs,0,none⟩=some (.slice A len cap)) (hc:Rd W n₀ 1 A len (cE p)) (h0:J [] W) :
  CallsIn F n Tryz.prog 124 #[.func (.yield l) #[] #[],.pointer (some ⟨Bs,0,none⟩)] W fun e W'=>(∃ v,e = .returned v)/\
   ((∃ ys,ys=bk p len/\J ys W')\/(∃ pre,(∃ k,k<=len/\pre=bk p k)/\Jx pre W')):=by
 have hpl:=rd_len hc
 refine callsIn_of_wp Tryz.func124 rfl h8 ?_ hro
 simp only[Tryz.ntmps124,List.size_toArray,List.length_cons,List.length_nil,Nat.reduceAdd,Nat.reduceSub,Array.replicate_succ,Array.replicate_zero,List.push_toArray,List.append_toArray,List.nil_append,List.cons_append]
 gi_wp2
 gi_loopw [3] (fun i wr=>∃ k:Nat,k<=len/\i = .int .i64 ((len:Int) - 1 - (k:Int))/\J (bk p k) wr/\KB n₀ Bs W wr)
  (fun i _=>(intOf i+1).toNat)
 case atStart=>exact⟨0,Nat.zero_le _,by simp,h0,KB.refl _ _ _⟩
 case round=>
  obtain⟨k,hk,rfl,hJs,hnx⟩:=hrel
  have hBs2:wr.cell? ⟨Bs,0,none⟩=some (.slice A len cap):=hnx.2 _ hBs
  by_cases hlt:k<len
  ·obtain⟨q,hq⟩:∃ q,len - 1 - k=q:=⟨_,rfl⟩
   have hqi:(len:Int) - 1 - (k:Int)=(q:Int):=by omega
   obtain⟨ad,rfl,had,hcd⟩:=rd_at hc (show q<len by omega)
   have hcx:wr.cell? (ad.add q)=some (.int .u8 ((unE (co p q)).toNat:Int)):=(hnx.1.cell (by rw[add_block];exact had)).trans hcd
   obtain⟨fn,tmps,assign,body,hy,hR⟩:=hY _ (q,co p q) wr hJs (by rw[bk_len];exact hlt)
   dsimp only [bkEnc] at hy
   have hq0:(0:Int)<=(q:Int):=by omega
   have hql:(q:Int)<(len:Int):=by omega
   rw[hqi]
   gi_wp2
   refine hR.mono ?_
   rintro e W3 (⟨rfl,hJ3,hk3⟩ | ⟨rfl,hJx3⟩)
   ·gi_wp2
    go_roundw
    case rel=>exact⟨k+1,by omega,by congr 1;omega,by rw[bk_succ,hpl,hq];exact hJ3,hnx.trans hk3⟩
    case measure=>simp[intOf]<;>omega
   ·gi_wp2
    refine bodyPost_ret (results_none rfl _ _ _) rfl ?_
    exact⟨⟨_,rfl⟩,.inr ⟨_,⟨k+1,by omega,by rw[bk_succ,hpl,hq]⟩,hJx3⟩⟩
  ·obtain rfl:k=len:=by omega
   have hneg:¬ (0:Int)<=(k:Int) - 1 - (k:Int):=by omega
   gi_wp2
   go_end0
   exact⟨⟨_,rfl⟩,.inl hJs⟩
set_option maxHeartbeats 1000000 in
theorem backward_in (F:Fence) (n:Nat) (h5:F.fn 111) (hro:F.round=none) (a:Option Addr) (len cap:Nat) (w:World) :
  CallsIn F n Tryz.prog 111 #[.slice a len cap] w fun e w'=>e = .returned (.func (.func 124) #[] #[.pointer (some ⟨w.heap.size,0,none⟩)])/\w'=w.alloc (.cells #[.slice a len cap] 181):=by
 refine callsIn_of_wp Tryz.func111 rfl h5 ?_ hro
 simp only[Tryz.ntmps111,List.size_toArray,List.length_cons,List.length_nil,Nat.reduceAdd,Nat.reduceSub,Array.replicate_succ,Array.replicate_zero,List.push_toArray,List.append_toArray,List.nil_append,List.cons_append]
 gi_wp2
 go_ret
 exact⟨rfl,rfl⟩
theorem backward_stops (F:Fence) (n:Nat) (h8:F.fn 124) (hro:F.round=none) (hn:1<=n) (Bs n₀ len cap:Nat) (A:Option Addr) (p:List E) (hlen:len<=65536) (w:World) (hBs:Bs<w.heap.size) (hn₀:n₀<=w.heap.size)
  (hc:w.cell? ⟨Bs,0,none⟩=some (.slice A len cap)) (hI:Rd w n₀ 1 A len (cE p)) :
  SeqStopsK F n Tryz.prog 124 #[.pointer (some ⟨Bs,0,none⟩)] bkEnc (KB n₀ Bs) (fun ys=>ys=bk p len) (fun pre=>∃ k,k<=len/\pre=bk p k) len w:=fun l J Jx W hW _ _ hY h0=>by
 have hc':=(hW.cell (p:=⟨Bs,0,none⟩) hBs).trans hc
 exact backward1_in F n h8 hro hn l Bs n₀ len cap A p hlen J Jx hY W hc' (hI.below (hW.mono hn₀)) h0
def evB (p:List E) (x:E):Nat->E
 | 0=>0
 | k+1=>evB p x k*x+co p (p.length - 1 - k)
theorem evB_eq (p:List E) (x:E):∀ k,k<=p.length->evB p x k=ev (p.drop (p.length - k)) x
 | 0,_=>by rw[Nat.sub_zero,List.drop_length];rfl
 | k+1,hk=>by
  have h1:p.length - (k+1)<p.length:=by omega
  rw[evB,evB_eq p x k (by omega),List.drop_eq_getElem_cons h1,ev,show p.length - (k+1)+1=p.length - k by omega,show p.length - 1 - k=p.length - (k+1) by omega,co_get h1,Fld.mul_comm,Fld.add_comm]
theorem evB_all (p:List E) (x:E):evB p x p.length=ev p x:=by
 rw[evB_eq p x _ (Nat.le_refl _),Nat.sub_self,List.drop_zero]
def evL (x:E) (pre:List (Nat×E)):E:=pre.foldl (fun v y=>v*x+y.2) 0
theorem evL_snoc (x:E) (pre:List (Nat×E)) (y:Nat×E):evL x (pre++[y])=evL x pre*x+y.2:=by simp[evL]
theorem evL_bk (x:E) (p:List E):∀ k,evL x (bk p k)=evB p x k
 | 0=>rfl
 | k+1=>by rw[bk_succ,evL_snoc,evL_bk x p k];rfl
set_option maxRecDepth 100000 in
set_option maxHeartbeats 4000000 in
theorem atP_in (n:Nat) (hn:3<=n) {w:World} {B m c:Nat} {A1:Option Addr} {p:List E} (hp:Rd w B 1 A1 m (cE p)) (hB:B<=w.heap.size) (hm:m<=65536) (x:E) :
  CallsIn Fence.wide n Tryz.prog 94 #[.slice A1 m c,.int .u8 ((unE x).toNat:Int)] w fun e w'=>e = .returned (.int .u8 ((unE (ev p x)).toNat:Int))/\Below w.heap.size w w':=by
 have h1:1<=n:=by omega
 have hpl:=rd_len hp
 have hev:=evB_all p x
 rw[hpl] at hev
 refine callsIn_of_wp_marks Tryz.func94 rfl trivial ?_ rfl
 simp only[Tryz.ntmps94,List.size_toArray,List.length_cons,List.length_nil,Nat.reduceAdd,Nat.reduceSub,Array.replicate_succ,Array.replicate_zero,List.push_toArray,List.append_toArray,List.nil_append,List.cons_append]
 gi_wp2_with (refine⟨trivial,?_⟩;gi_at_call 111;refine (backward_in Fence.wide (n - 1) trivial rfl _ _ _ _).mono ?_;rintro e w' ⟨rfl,rfl⟩)
 have b1:=Boxed.new w tEl (.int .u8 ((unE x).toNat:Int))
 have b2:=Boxed.new (w.alloc (.cells #[.int .u8 ((unE x).toNat:Int)] tEl)) tEl (.int .u8 0)
 have b3:=Boxed.new ((w.alloc (.cells #[.int .u8 ((unE x).toNat:Int)] tEl)).alloc (.cells #[.int .u8 0] tEl)) 181 (.slice A1 m c)
 rw[World.size_alloc] at b2 b3
 rw[World.size_alloc] at b3
 have hB0:Below w.heap.size w (((w.alloc (.cells #[.int .u8 ((unE x).toNat:Int)] tEl)).alloc (.cells #[.int .u8 0] tEl)).alloc (.cells #[.slice A1 m c] 181)):=(((Below.refl _ w).alloc (Nat.le_refl _) _).alloc (by simp) _).alloc (by simp;omega) _
 refine wpIn_rangeFunc_ownG rfl h1 (gf:=124) (lb:=#[.pointer (some ⟨w.heap.size+1+1,0,none⟩)]) rfl trivial (enters_of Tryz.func124 (by kernel_rfl) rfl)
  (backward_stops Fence.wide (n - 1) trivial rfl (by omega) (w.heap.size+1+1) w.heap.size m c A1 p hm _ (by simp) (by simp;omega) b3.cell ((hp.below (hB0.mono hB)).more hB)) KB.trans (KB.put (by simp;omega)) (Below.refl _ _) (fun _=>rfl)
  (fun pre W=>(W.cell? ⟨w.heap.size+1,0,none⟩=some (.int .u8 ((unE (evL x pre)).toNat:Int))/\W.frozen? ⟨w.heap.size+1,0,none⟩=false/\W.cell? ⟨w.heap.size,0,none⟩=some (.int .u8 ((unE x).toNat:Int)))/\Below w.heap.size w W)
  (fun _ _ _=>False) ?hI
  (fun _ _ _ _ _ hs _ _=>hs)
  ⟨⟨(b2.alloc _).cell,(b2.alloc _).frozen,((b1.alloc _).alloc _).cell⟩,hB0⟩
  (fun x'=>{tmps:=#[.slice A1 m c,.int .u8 ((unE x).toNat:Int),undef,.pointer (some ⟨w.heap.size,0,none⟩),.int .u8 0,.pointer (some ⟨w.heap.size+1,0,none⟩),undef,.int .u8 ((unE x'.2).toNat:Int),.slice A1 m c,.func (.func 124) #[] #[.pointer (some ⟨w.heap.size+1+1,0,none⟩)],.int .i64 (x'.1:Int),.int .u8 ((unE x'.2).toNat:Int),undef,undef,undef,undef,undef,undef],defers:=[]}) ?assign ?body ?done ?stop
 case hI=>exact OwnFrom.and (Own.from (fun s A B row hs hg hr=>⟨cell_kept hs.1 hg hr,(frozen_kept hs.1 hg hr).trans hs.2.1,cell_kept hs.2.2 hg hr⟩) _) (ownFrom_below (Nat.le_refl _) (by simp;omega))
 case assign=>
  intro l x W K hK
  dsimp only [bkEnc]
  gi_wp2
  exact hK
 case body=>
  rintro l pre x' W ⟨⟨hc,hf,hx⟩,hB⟩ _
  obtain⟨z,hz⟩:∃ z,evL x pre=z:=⟨_,rfl⟩
  rw[hz] at hc
  have hzz:evL x (pre++[x'])=z*x+x'.2:=by rw[evL_snoc,hz]
  have HZ:=Hd hzz
  clear hzz hz
  obtain⟨y,hy⟩:∃ y,x'.2=y:=⟨_,rfl⟩
  rw[hy] at HZ ⊢
  have hd1:1<=n - 1 - 1:=by omega
  gi_wp2_with (first
   | (refine⟨trivial,?_⟩;gi_at_call 79;refine (CallsIn.inRound l (callsIn_wide.2 (times_any (unE z) (unE x) _))).mono ?_;rintro e w1 ⟨rfl,rfl⟩)
   | (refine⟨trivial,?_⟩;gi_at_call 78;refine (CallsIn.inRound l (callsIn_wide.2 (plus_any (mul8 (unE z) (unE x)) (unE y) _))).mono ?_;rintro e w1 ⟨rfl,rfl⟩))
  have hne:(⟨w.heap.size+1,0,none⟩:Addr)≠⟨w.heap.size,0,none⟩:=by intro h;injection h with h;omega
  refine⟨(KeepsOthers.setCell _ _ _).from _,⟨(Below.refl w.heap.size W).setCell (p:=⟨w.heap.size+1,0,none⟩) (by simp) _,fun v hv=>(World.cell?_setCell_other _ _ _ _ (by intro h;injection h with h;omega)).trans hv⟩,⟨?_,?_,?_⟩,hB.setCell (p:=⟨w.heap.size+1,0,none⟩) (by simp) _⟩
  ·rw[HZ.out];exact World.cell?_setCell_same' _ _ _ (by rw[hc];rfl)
  ·rw[World.frozen?_setCell];exact hf
  ·exact (World.cell?_setCell_other _ _ _ _ (by intro h;injection h with h;omega)).trans hx
 case done=>
  rintro D ys W hD rfl ⟨⟨hc,_⟩,hB⟩ hK
  have hfin:evL x (bk p m)=ev p x:=by rw[evL_bk,hev]
  rw[hfin] at hc
  gi_wp2
  refine⟨by simp,.inl ⟨_,_,rfl,run_takeDeferred hK,?_⟩⟩
  exact⟨_,results_tmp rfl _ _ _,rfl,hB.trans (belowK_b (w:=w) (Nat.le_refl _) W D _ _ (by simp at hD;omega) hK rfl rfl)⟩
 case stop=>
  rintro D c pre W _ _ h _
  exact h.elim
theorem atP_any {w:World} {B m c:Nat} {A1:Option Addr} {p:List E} (hp:Rd w B 1 A1 m (cE p)) (hB:B<=w.heap.size) (hm:m<=65536) (x:E) :
  Calls Tryz.prog 94 #[.slice A1 m c,.int .u8 ((unE x).toNat:Int)] w fun e w'=>e = .returned (.int .u8 ((unE (ev p x)).toNat:Int))/\Below w.heap.size w w':=
 callsIn_wide.1 (atP_in 9 (by omega) hp hB hm x)
end Go.Proofs.YtmgljaecmchgaaaGreat.Gf
namespace Go.Proofs.YtmgljaecmchgaaaGreat.Gf
open Go.RowKit Go.Proofs
def dvR (q:List E) (c:E) (t:Nat) (i:Nat) (r:Nat->E):Nat->E:=fun j=>if t<=j/\j<t+i then r j+c*co q (j - t) else r j
def dvS (c:E) (t:Nat) (s:Nat->E):Nat->E:=fun j=>if j=t then c else s j
def dvF (q:List E) (r0:Nat->E):List Nat->(Nat->E)×(Nat->E)
 | []=>(r0,fun _=>0)
 | t::ts=>
  let x:=dvF q r0 ts
  let c:=x.1 (t+(q.length - 1))*Fld.inv (co q (q.length - 1))
  (dvR q c t q.length x.1,dvS c t x.2)
theorem dvR_zero (q:List E) (c:E) (t:Nat) (r:Nat->E):dvR q c t 0 r=r:=by
 funext j;unfold dvR;rw[if_neg (by omega)]
theorem dvR_step {q:List E} {c z y:E} {t i:Nat} {r:Nat->E} (hz:dvR q c t i r (t+i)=z) (hy:co q i=y):(fun j=>if j=t+i then z+c*y else dvR q c t i r j)=dvR q c t (i+1) r:=by
 funext j
 by_cases e:j=t+i
 ·subst e
  rw[if_pos rfl,<-hz]
  unfold dvR
  rw[if_neg (by omega),if_pos (by omega),Nat.add_sub_cancel_left,hy]
 ·rw[if_neg e]
  unfold dvR
  by_cases h:t<=j/\j<t+i
  ·rw[if_pos h,if_pos (by omega)]
  ·rw[if_neg h,if_neg (by omega)]
structure DivOk (p q s r:List E):Prop where
 eq:Peq p (addP (mulP s q) r)
 st:Trd s
 rt:Trd r
 lt:r.length<q.length
 len:q.length<=tl p->s.length+q.length=tl p+1
theorem co_trunc {l:List E} {n:Nat} (h:l.length<=n):Peq (fromN n (co l)) l:=fun i=>by
 rw[co_fromN]
 split
 ·rfl
 ·exact (co_ge (by omega)).symm
theorem dv_law {p q:List E} {R L:Nat} (hq:Trd q) (h0:0<q.length) (hR:tl p=R) (hL:L+(q.length - 1)=R):∀ k,k<=L->∀ x,x=dvF q (co (trimP p)) ((List.range k).map fun j=>L - 1 - (k - 1 - j))->
  Peq p (addP (mulP (fromN L x.2) q) (fromN R x.1))/\(∀ j,L - k+(q.length - 1)<=j->j<R->x.1 j=0)/\(∀ j,j<L - k->x.2 j=0)/\(0<k->x.2 (L - 1)≠0)
 | 0,_,x,hx=>by
  subst hx
  refine⟨fun i=>?_,fun j h1 h2=>by omega,fun j _=>rfl,fun h=>absurd h (by omega)⟩
  have hz:∀ i,co (fromN L fun _=>(0:E)) i=co [] i:=fun i=>by rw[co_fromN];split<;>rfl
  show co p i=co (addP (mulP (fromN L fun _=>0) q) (fromN R (co (trimP p)))) i
  rw[co_addP,mulP_congr_left q hz i,co_trunc (l:=trimP p) (by unfold tl at hR;omega) i,trimP_eq]
  exact (zero_add _).symm
 | k+1,hk,x,hx=>by
  have hlist:((List.range (k+1)).map fun j=>L - 1 - (k+1 - 1 - j))=(L - 1 - k)::((List.range k).map fun j=>L - 1 - (k - 1 - j)):=by
   rw[List.range_succ_eq_map,List.map_cons,List.map_map]
   congr 1
   apply List.map_congr_left
   intro j hj
   have:=List.mem_range.1 hj
   show L - 1 - (k+1 - 1 - (j+1))=_
   omega
  rw[hlist] at hx
  obtain⟨ih1,ih2,ih3,ih4⟩:=dv_law hq h0 hR hL k (by omega) _ rfl
  obtain⟨y,hy⟩:∃ y,dvF q (co (trimP p)) ((List.range k).map fun j=>L - 1 - (k - 1 - j))=y:=⟨_,rfl⟩
  rw[hy] at ih1 ih2 ih3 ih4
  obtain⟨t,ht⟩:∃ t,L - 1 - k=t:=⟨_,rfl⟩
  obtain⟨d,hd⟩:∃ d,q.length - 1=d:=⟨_,rfl⟩
  have hqd:q.length=d+1:=by omega
  obtain⟨c,hc⟩:∃ c,y.1 (t+d)*Fld.inv (co q d)=c:=⟨_,rfl⟩
  have hx2:x=(dvR q c t q.length y.1,dvS c t y.2):=by
   rw[hx,ht]
   show (_,_)=_
   simp only[hy,hd,hc]
  rw[hd] at hL ih2 ⊢
  have hqd0:co q d≠0:=by have:=hq h0;rwa [hd] at this
  subst hx2
  refine⟨?_,?_,?_,?_⟩
  ·have e1:Peq (fromN R (dvR q c t q.length y.1)) (addP (fromN R y.1) (upP t (scP c q))):=fun j=>by
    rw[co_addP,co_fromN,co_fromN,co_upP,co_scP]
    unfold dvR
    by_cases hj:j<R
    ·rw[if_pos hj,if_pos hj]
     by_cases h1:t<=j/\j<t+q.length
     ·rw[if_pos h1,if_neg (by omega)]
     ·rw[if_neg h1]
      by_cases h2:j<t
      ·rw[if_pos h2,Fld.add_zero]
      ·rw[if_neg h2,co_ge (p:=q) (by omega),mul_zero,Fld.add_zero]
    ·rw[if_neg hj,if_neg hj,if_neg (by omega),co_ge (p:=q) (by omega),mul_zero,Fld.add_zero]
   have e2:Peq (fromN L (dvS c t y.2)) (addP (fromN L y.2) (upP t [c])):=fun j=>by
    rw[co_addP,co_fromN,co_fromN,co_upP]
    unfold dvS
    by_cases hj:j<L
    ·rw[if_pos hj,if_pos hj]
     by_cases h1:j=t
     ·subst h1
      rw[if_pos rfl,if_neg (by omega),Nat.sub_self,ih3 j (by omega),zero_add]
      rfl
     ·rw[if_neg h1]
      by_cases h2:j<t
      ·rw[if_pos h2,Fld.add_zero]
      ·rw[if_neg h2,co_ge (p:=[c]) (by simp;omega),Fld.add_zero]
    ·rw[if_neg hj,if_neg hj,if_neg (by omega),co_ge (p:=[c]) (by simp;omega),Fld.add_zero]
   intro i
   rw[ih1 i,co_addP,co_addP,e1 i,co_addP,mulP_congr_left q e2 i,mulP_addP_left _ _ _ i,co_addP,mulP_one_up _ _ _ i]
   generalize co (mulP (fromN L y.2) q) i=u
   generalize co (fromN R y.1) i=v
   generalize co (upP t (scP c q)) i=z
   rw[Fld.add_assoc,add_left_comm z v z,Fld.add_self,Fld.add_zero]
  ·intro j h1 h2
   show dvR q c t q.length y.1 j=0
   unfold dvR
   by_cases h3:j=t+d
   ·subst h3
    rw[if_pos (by omega),Nat.add_sub_cancel_left,<-hc,Fld.mul_assoc,Fld.mul_comm (Fld.inv _),Fld.mul_inv _ hqd0,Fld.mul_one,Fld.add_self]
   ·rw[if_neg (by omega)]
    exact ih2 j (by omega) h2
  ·intro j h1
   show dvS c t y.2 j=0
   unfold dvS
   rw[if_neg (by omega)]
   exact ih3 j (by omega)
  ·intro _
   show dvS c t y.2 (L - 1)≠0
   unfold dvS
   by_cases hk0:k=0
   ·subst hk0
    rw[if_pos (by omega),<-hc]
    refine mul_ne_zero ?_ (inv_ne_zero hqd0)
    have hy1:y.1=co (trimP p):=by rw[<-hy];rfl
    rw[hy1]
    have h5:=trimP_trd p (by unfold tl at hR;omega)
    unfold tl at hR
    rw[hR] at h5
    rwa [show t+d=R - 1 by omega]
   ·rw[if_neg (by omega)]
    exact ih4 (by omega)
theorem trimP_short {l:List E} {n:Nat} (h:∀ j,n<=j->co l j=0):(trimP l).length<=n:=by
 rcases Nat.lt_or_ge n (trimP l).length with h1 | h1
 ·have h2:=trimP_trd l (by omega)
  rw[trimP_eq,h _ (by omega)] at h2
  exact absurd rfl h2
 ·exact h1
theorem dv_done {p q:List E} {R L:Nat} (hq:Trd q) (h0:0<q.length) (hR:tl p=R) (hL:L=R - (q.length - 1)) {x:(Nat->E)×(Nat->E)} (hx:x=dvF q (co (trimP p)) (List.range L)) :
  DivOk p q (trimP (fromN L x.2)) (trimP (fromN R x.1)):=by
 by_cases hlt:q.length - 1<=R
 ·have hlist:((List.range L).map fun j=>L - 1 - (L - 1 - j))=List.range L:=by
   conv=>rhs;rw[<-List.map_id (List.range L)]
   apply List.map_congr_left
   intro j hj
   have:=List.mem_range.1 hj
   show L - 1 - (L - 1 - j)=j
   omega
  obtain⟨h1,h2,h3,h4⟩:=dv_law hq h0 hR (show L+(q.length - 1)=R by omega) L (Nat.le_refl _) x (by rw[hlist];exact hx)
  refine⟨fun i=>?_,trimP_trd _,trimP_trd _,?_,fun h5=>?_⟩
  ·rw[h1 i,co_addP,co_addP,trimP_eq,mulP_congr_left q (trimP_eq _) i]
  ·refine Nat.lt_of_le_of_lt (trimP_short (n:=q.length - 1) fun j hj=>?_) (by omega)
   rw[co_fromN]
   split
   ·exact h2 j (by omega) (by assumption)
   ·rfl
  ·have h6:(trimP (fromN L x.2)).length=L:=by
    have h7:(trimP (fromN L x.2)).length<=L:=Nat.le_trans (trimP_le _) (by rw[length_fromN];exact Nat.le_refl _)
    rcases Nat.lt_or_ge (trimP (fromN L x.2)).length L with h8 | h8
    ·exfalso
     apply h4 (by omega)
     have h9:co (trimP (fromN L x.2)) (L - 1)=0:=co_ge (by omega)
     rw[trimP_eq,co_fromN,if_pos (by omega)] at h9
     exact h9
    ·omega
   rw[h6]
   omega
 ·have hL0:L=0:=by omega
  subst hL0
  have hx1:x.1=co (trimP p):=by rw[hx];rfl
  have hs:trimP (fromN 0 x.2)=[]:=rfl
  have hr:trimP (fromN R x.1)=trimP p:=by
   rw[hx1]
   exact (trimP_congr (co_trunc (by unfold tl at hR;omega))).trans (Trd.unique (trimP_eq _) (trimP_trd _) (trimP_trd _))
  rw[hs,hr]
  refine⟨fun i=>?_,Trd.nil,trimP_trd _,by unfold tl at hR;omega,fun h5=>by omega⟩
  rw[co_addP,trimP_eq]
  exact (zero_add _).symm
end Go.Proofs.YtmgljaecmchgaaaGreat.Gf
namespace Go.Proofs.YtmgljaecmchgaaaGreat.Gf
open Go.RowKit Go.Proofs Go.Shelf
attribute [local go_sem] Oper.semAt_some
abbrev Plc (L:Nat):={t:Nat // t<L}×E
abbrev plEnc {L:Nat} (x:Plc L):Array Value:=#[.int .i64 (x.1.val:Int),.int .u8 ((unE x.2).toNat:Int)]
def KC (n₀ Bs gs L:Nat) (W W':World):Prop:=Below n₀ W W'/\(∀ v,W.cell? ⟨Bs,0,none⟩=some v->W'.cell? ⟨Bs,0,none⟩=some v)/\∀ j,j<L->(∃ v:E,W.cell? ⟨gs,j,none⟩=some (.int .u8 ((unE v).toNat:Int)))->∃ v:E,W'.cell? ⟨gs,j,none⟩=some (.int .u8 ((unE v).toNat:Int))
theorem KC.trans {n₀ Bs gs L:Nat} {A B C:World} (h:KC n₀ Bs gs L A B) (h':KC n₀ Bs gs L B C):KC n₀ Bs gs L A C:=⟨h.1.trans h'.1,fun v hv=>h'.2.1 v (h.2.1 v hv),fun j hj hv=>h'.2.2 j hj (h.2.2 j hj hv)⟩
theorem KC.refl (n₀ Bs gs L:Nat) (A:World):KC n₀ Bs gs L A A:=⟨Below.refl _ _,fun _ h=>h,fun _ _ h=>h⟩
theorem put_cell {W:World} {l:Nat} {o o':Obj} (h:W.heap[l]?=some o) (hc:o.isCells=false) {p:Addr} {v:Value} (hv:W.cell? p=some v):(W.putObj l o').cell? p=some v:=by
 by_cases e:l=p.block
 ·subst e
  unfold World.cell? at hv
  rw[h] at hv
  cases o<;>simp[Obj.isCells] at hc hv
 ·unfold World.cell? at hv ⊢
  rw[World.putObj_heap_other (show p.block≠l from fun h2=>e h2.symm)]
  exact hv
theorem KC.put {n₀ Bs gs L:Nat} {w:World} (hn:n₀<=w.heap.size) (W:World) (l:Nat) (o o':Obj) (hl:w.heap.size<=l) (h:W.heap[l]?=some o) (hc:o.isCells=false) (hw:o.isWalk=false):KC n₀ Bs gs L W (W.putObj l o'):=
 ⟨belowK_b hn W l o o' hl h hc hw,fun _ hv=>put_cell h hc hv,fun _ _ ⟨v,hv⟩=>⟨v,put_cell h hc hv⟩⟩
set_option maxRecDepth 100000 in
set_option maxHeartbeats 2000000 in
theorem backward2_in (F:Fence) (n:Nat) (h8:F.fn 124) (hro:F.round=none) (hn:1<=n) (l Bs n₀ gs L:Nat) (hlen:L<=65536) (J Jx:List (Plc L)->World->Prop)
  (hY:∀ pre x W,J pre W->pre.length<L->YieldAt F (n - 1) Tryz.prog l (plEnc x) W fun e W'=>
   (e = .returned (.bool true)/\J (pre++[x]) W'/\KC n₀ Bs gs L W W')\/(e = .returned (.bool false)/\Jx (pre++[x]) W'))
  (W:World) (hBs:W.cell? ⟨Bs,0,none⟩=some (.slice (some ⟨gs,0,none⟩) L L)) (hc:∀ j,j<L->∃ v:E,W.cell? ⟨gs,j,none⟩=some (.int .u8 ((unE v).toNat:Int))) (h0:J [] W) :
  CallsIn F n Tryz.prog 124 #[.func (.yield l) #[] #[],.pointer (some ⟨Bs,0,none⟩)] W fun e W'=>(∃ v,e = .returned v)/\
   ((∃ ys:List (Plc L),(ys.map (·.1.val)).reverse=List.range L/\J ys W')\/(∃ pre,True/\Jx pre W')):=by
 refine callsIn_of_wp Tryz.func124 rfl h8 ?_ hro
 simp only[Tryz.ntmps124,List.size_toArray,List.length_cons,List.length_nil,Nat.reduceAdd,Nat.reduceSub,Array.replicate_succ,Array.replicate_zero,List.push_toArray,List.append_toArray,List.nil_append,List.cons_append]
 gi_wp2
 gi_loopw [3] (fun i wr=>∃ (k:Nat) (ys:List (Plc L)),k<=L/\i = .int .i64 ((L:Int) - 1 - (k:Int))/\ys.length=k/\(ys.map (·.1.val)).reverse=(List.range k).map (fun j=>L - k+j)/\J ys wr/\KC n₀ Bs gs L W wr)
  (fun i _=>(intOf i+1).toNat)
 case atStart=>exact⟨0,[],Nat.zero_le _,by simp,rfl,rfl,h0,KC.refl _ _ _ _ _⟩
 case round=>
  obtain⟨k,ys,hk,rfl,hyl,hyr,hJs,hnx⟩:=hrel
  have hBs2:=hnx.2.1 _ hBs
  by_cases hlt:k<L
  ·obtain⟨q,hq⟩:∃ q,L - 1 - k=q:=⟨_,rfl⟩
   have hqi:(L:Int) - 1 - (k:Int)=(q:Int):=by omega
   have hqL:q<L:=by omega
   obtain⟨v,hcx⟩:=hnx.2.2 q hqL (hc q hqL)
   obtain⟨fn,tmps,assign,body,hy,hR⟩:=hY ys (⟨q,hqL⟩,v) wr hJs (by omega)
   dsimp only [plEnc] at hy
   have hq0:(0:Int)<=(q:Int):=by omega
   have hql:(q:Int)<(L:Int):=by omega
   rw[hqi]
   gi_wp2
   refine hR.mono ?_
   rintro e W3 (⟨rfl,hJ3,hk3⟩ | ⟨rfl,hJx3⟩)
   ·gi_wp2
    go_roundw
    case rel=>
     refine⟨k+1,ys++[(⟨q,hqL⟩,v)],by omega,by congr 1;omega,by simp[hyl],?_,hJ3,hnx.trans hk3⟩
     rw[List.map_append,List.reverse_append,hyr,List.range_succ_eq_map]
     show q::_=(L - (k+1)+0)::_
     rw[List.map_map]
     congr 1
     ·omega
     ·apply List.map_congr_left
      intro j hj
      show L - k+j=L - (k+1)+(j+1)
      omega
    case measure=>simp[intOf]<;>omega
   ·gi_wp2
    refine bodyPost_ret (results_none rfl _ _ _) rfl ?_
    exact⟨⟨_,rfl⟩,.inr ⟨_,trivial,hJx3⟩⟩
  ·obtain rfl:k=L:=by omega
   have hneg:¬ (0:Int)<=(k:Int) - 1 - (k:Int):=by omega
   have hys:(ys.map (·.1.val)).reverse=List.range k:=by rw[hyr];simp
   have HY:=Hd hys
   clear hyr hys hyl
   gi_wp2
   go_end0
   exact⟨⟨_,rfl⟩,.inl ⟨ys,HY.out,hJs⟩⟩
theorem backward2_stops (F:Fence) (n:Nat) (h8:F.fn 124) (hro:F.round=none) (hn:1<=n) (Bs n₀ gs L:Nat) (hlen:L<=65536) (w:World) (hBs:Bs<w.heap.size) (hgs:gs<w.heap.size)
  (hc:w.cell? ⟨Bs,0,none⟩=some (.slice (some ⟨gs,0,none⟩) L L)) (hI:∀ j,j<L->∃ v:E,w.cell? ⟨gs,j,none⟩=some (.int .u8 ((unE v).toNat:Int))) :
  SeqStopsK F n Tryz.prog 124 #[.pointer (some ⟨Bs,0,none⟩)] (plEnc (L:=L)) (KC n₀ Bs gs L) (fun ys=>(ys.map (·.1.val)).reverse=List.range L) (fun _=>True) L w:=fun l J Jx W hW _ _ hY h0=>by
 have hc':=(hW.cell (p:=⟨Bs,0,none⟩) hBs).trans hc
 exact backward2_in F n h8 hro hn l Bs n₀ gs L hlen J Jx hY W hc' (fun j hj=>by obtain⟨v,hv⟩:=hI j hj;exact⟨v,(hW.cell (p:=⟨gs,j,none⟩) hgs).trans hv⟩) h0
end Go.Proofs.YtmgljaecmchgaaaGreat.Gf
