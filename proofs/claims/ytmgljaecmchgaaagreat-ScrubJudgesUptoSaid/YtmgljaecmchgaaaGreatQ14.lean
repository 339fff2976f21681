/- XPo1, XOw, XPo2: merged by tools/merge.py. -/
import Derived.Test.YtmgljaecmchgaaaGreatQ06
import Derived.Test.YtmgljaecmchgaaaGreatQ04
import Derived.Test.YtmgljaecmchgaaaGreatQ13
import Derived.Lib.SliceRun
import Derived.Laws.MakeOwn
import Derived.Laws.CopyOwn
set_option linter.unusedVariables false
set_option linter.unusedSimpArgs false
set_option linter.unusedSectionVars false
namespace Go.Proofs.YtmgljaecmchgaaaGreat.Gf
open Go.RowKit Go.Proofs
def unE (c:E):UInt8:=c
abbrev cE (l:List E):List Value:=l.map fun c=>Value.int .u8 ((unE c).toNat:Int)
theorem cE_one (l:List E):∀ u∈cE l,u.oneCell'=true:=by
 intro u hu;obtain⟨b,_,rfl⟩:=List.mem_map.1 hu;rfl
abbrev tEl:TypeId:=179
def tl (p:List E):Nat:=(trimP p).length
theorem tl_le (p:List E):tl p<=p.length:=trimP_le p
theorem tl_eq {p:List E} {k:Nat} (hk:k<=p.length) (hz:∀ i,k<=i->co p i=0) (hn:k=0\/co p (k - 1)≠0):tl p=k/\trimP p=p.take k:=by
 have hl:(p.take k).length=k:=by rw[List.length_take];omega
 have hc:∀ i,i<k->co (p.take k) i=co p i:=by
  intro i hi
  rw[co_get (by omega),co_get (by omega),List.getElem_take]
 have e:p.take k=trimP p:=by
  refine trimP_of_trd ?_ ?_
  ·intro h0
   rw[hl] at h0 ⊢
   rw[hc _ (by omega)]
   rcases hn with h | h
   ·omega
   ·exact h
  ·intro i
   rcases Nat.lt_or_ge i k with h | h
   ·exact hc i h
   ·rw[co_ge (by omega),hz i h]
 unfold tl
 rw[<-e,hl]
 exact⟨rfl,rfl⟩
theorem take_tl (p:List E):trimP p=p.take (tl p):=by
 have h1:=trimP_eq p
 refine (tl_eq (tl_le p) (fun i hi=>?_) ?_).2
 ·rw[<-h1 i];exact co_ge hi
 ·rcases Nat.eq_zero_or_pos (tl p) with h | h
  ·exact .inl h
  ·refine .inr ?_
   rw[<-h1]
   exact trimP_trd p h
theorem rd_at {w:World} {B n:Nat} {A:Option Addr} {l:List E} (h:Rd w B 1 A n (cE l)) {i:Nat} (hi:i<n):∃ ad,A=some ad/\ad.block<B/\w.cell? (ad.add i)=some (.int .u8 ((unE (co l i)).toNat:Int)):=by
 obtain⟨ad,u,e,hb,hu,hc⟩:=h.at_ hi
 refine⟨ad,e,hb,hc.trans ?_⟩
 rw[List.getElem?_map] at hu
 have hl:l.length=n:=by simpa using h.1
 rw[List.getElem?_eq_getElem (by omega)] at hu
 injection hu with hu
 rw[<-hu,co_get (by omega)]
theorem rd_len {w:World} {B n:Nat} {A:Option Addr} {l:List E} (h:Rd w B 1 A n (cE l)):l.length=n:=by simpa using h.1
theorem rd_take {w:World} {B n:Nat} {A:Option Addr} {l:List E} (h:Rd w B 1 A n (cE l)) {k:Nat} (hk:k<=n):Rd w B 1 A k (cE (l.take k)):=by
 have hl:=rd_len h
 refine⟨by simp;omega,fun h0=>?_⟩
 obtain⟨ad,e,hb,hc⟩:=h.2 (by omega)
 refine⟨ad,e,hb,fun j u hu=>hc j u ?_⟩
 rw[List.getElem?_map,List.getElem?_take] at hu
 rw[List.getElem?_map]
 split at hu
 ·exact hu
 ·cases hu
set_option maxRecDepth 100000 in
theorem degree_any {w:World} {B n c:Nat} {A:Option Addr} {l:List E} (h:Rd w B 1 A n (cE l)) (hn:n<=1099511627776):Calls Tryz.prog 123 #[.slice A n c] w fun e w'=>e = .returned (.int .i64 ((tl l:Int) - 1))/\w=w':=by
 have hl:=rd_len h
 have H:=Lib.hid h
 have HL:=Hd hl
 clear h hl
 go_enter Tryz.func123,Tryz.ntmps123
 go_wp2
 go_loop [3] (fun i=>∃ k:Nat,k<=n/\i = .int .i64 ((k:Int) - 1)/\∀ j,k<=j->co l j=0) (fun i=>(intOf i+1).toNat)
 case atStart=>exact⟨n,Nat.le_refl _,rfl,fun j hj=>co_ge (by rw[HL.out];exact hj)⟩
 case round=>
  obtain⟨k,hk,rfl,hz⟩:=hrel
  have HZ:=Hd hz
  clear hz
  by_cases hk0:k=0
  ·subst hk0
   have ht:=(tl_eq (p:=l) (Nat.zero_le _) HZ.out (.inl rfl)).1
   go_wp2
   go_ret
   exact⟨rfl,rfl⟩
  ·obtain⟨j,rfl⟩:∃ j,k=j+1:=⟨k - 1,by omega⟩
   obtain⟨ad,rfl,hb,hc⟩:=rd_at H.out (show j<n by omega)
   obtain⟨x,hx⟩:∃ x,unE (co l j)=x:=⟨_,rfl⟩
   rw[hx] at hc
   have HX:=Hd hx
   clear hx hb
   have hj0:(0:Int)<=(j:Int):=by omega
   have hjn:(j:Int)<(n:Int):=by omega
   have hsub:((j+1:Nat):Int) - 1=(j:Int):=by omega
   rw[hsub]
   clear hsub
   by_cases hx0:x=0
   ·have hd:decide (x=0)=true:=by simp[hx0]
    have HX0:=Hd hx0
    clear hx0
    go_wp2_with (go_at_call 130;refine (isZero_any _ _).mono ?_;rintro e w1 ⟨rfl,rfl⟩;rw[hd];clear hd)
    go_round
    case rel=>
     refine⟨j,by omega,rfl,fun i hi=>?_⟩
     by_cases hij:i=j
     ·subst hij;exact HX.out.trans HX0.out
     ·exact HZ.out i (by omega)
    case measure=>simp[intOf]<;>omega
   ·have hd:decide (x=0)=false:=by simp[hx0]
    have ht:=(tl_eq (p:=l) (k:=j+1) (by rw[HL.out];omega) HZ.out (.inr (fun h=>hx0 (HX.out.symm.trans h)))).1
    have HT:=Hd ht
    clear hx0 ht
    go_wp2_with (go_at_call 130;refine (isZero_any _ _).mono ?_;rintro e w1 ⟨rfl,rfl⟩;rw[hd];clear hd)
    go_ret
    refine⟨?_,rfl⟩
    rw[HT.out]
    exact ret_int (show (j:Int)=((j+1:Nat):Int) - 1 by omega)
theorem slice_to (w:World) {A:Option Addr} {n c q:Nat} (hq:q<=c):(Instr.slice 181 (.slice A n c) none (some (.int .i64 (q:Int))) none).run Tryz.prog w = .ok (.slice A q c) w:=by
 rw[run_slice_h (P:=Tryz.prog) w 181 A n c (by kernel_rfl) .i64 (q:Int) (by omega) (by omega)]
 have hs:(sizeOf (Tryz.prog.elem 181)).run Tryz.prog w = .ok 1 w:=by kernel_rfl
 rw[hs]
 unfold sliced
 cases A with
 | none=>simp[Result.andThen]
 | some ad=>
  simp[Result.andThen]
  intro _
  unfold Addr.add
  simp
theorem infoEl:(Tryz.prog.info? tEl).map (fun i=>(i.zero,i.size,i.bytes))=some (some (.int .u8 0),1,1):=by kernel_rfl
set_option maxRecDepth 100000 in
theorem cloneE_any {w:World} {B n c:Nat} {A:Option Addr} {l:List E} (h:Rd w B 1 A n (cE l)) (hB:B<=w.heap.size) (hn:n<=1099511627776) (hc:A=none->c=0) :
  Calls Tryz.prog 122 #[.slice A n c] w fun e w'=>∃ v,e = .returned v/\w'.ownsRow w.heap.size tEl 1 v n (cE l)/\Below w.heap.size w w':=by
 obtain⟨i0,hi,hz0,hz1,hz2⟩:=info_parts infoEl
 have hl:=rd_len h
 cases A with
 | none=>
  have h0:n=0:=by
   rcases Nat.eq_zero_or_pos n with h0 | h0
   ·exact h0
   ·obtain⟨ad,e,_⟩:=h.2 h0;cases e
  subst h0
  have hnil:l=[]:=List.eq_nil_of_length_eq_zero hl
  subst hnil
  have hc0:=hc rfl
  subst hc0
  clear h
  go_enter Tryz.func122,Tryz.ntmps122
  have hnil:=fun wx=>Lib.run_eql_slice_nil (P:=Tryz.prog) wx 181 tEl none 0 0 0 0 Tryz.underlying181
  go_wp2
  go_ret
  exact⟨_,rfl,World.ownsRow_nil _ _ _ _,Below.refl _ _⟩
 | some ad=>
  have H:=Lib.hid h
  clear h hc hl
  go_enter Tryz.func122,Tryz.ntmps122
  have hrd:Rd (w.alloc (.cells #[] tEl)) B 1 (some ad) n (cE l):=H.out.below ((Below.refl B w).alloc hB _)
  have HRD:=Hd hrd
  clear hrd
  have hnil:=fun wx=>Lib.run_eql_slice_nil (P:=Tryz.prog) wx 181 tEl (some ad) n c 0 0 Tryz.underlying181
  go_wp2_with (first
   | (at_builtin;go_loud (refine wpList_append_rd _ rfl (.tmp 5) (.tmp 6) 181 rfl w.heap.size tEl i0 (.int .u8 0) 1 1 Tryz.underlying181 hi hz0 hz1 hz2 rfl (by decide) (.slice (some ⟨w.heap.size,0,none⟩) 0 0) 0 [] rfl (Dr.own_new w (Nat.le_refl _) tEl 1 0 [] rfl (Nat.zero_le _)) B (some ad) n c (cE l) rfl HRD.out (fun h=>by cases h) (cE_one l) (by unfold maxLen;omega) (by omega) (by simp) ?_;intro v1 w1 hrow1 hg1;have HROW1:=Hd hrow1;have HB1:=Hd ((((Below.refl w.heap.size w).alloc (Nat.le_refl _) (.cells #[] tEl)).grown hg1 (by simp) (fun j hj=>(by simp[Value.ownBlock] at hj;omega))));clear hrow1 hg1)))
  have hrow:=HROW1.out
  rw[Nat.zero_add,List.nil_append] at hrow
  obtain⟨A1,c1,rfl,_,_⟩:=own_form hrow
  go_ret
  exact⟨_,rfl,hrow,HB1.out⟩
set_option maxRecDepth 100000 in
theorem trim_any {w:World} {B n c:Nat} {A:Option Addr} {l:List E} (h:Rd w B 1 A n (cE l)) (hB:B<=w.heap.size) (hn:n<=1099511627776) (hnc:n<=c) (hc:A=none->c=0) :
  Calls Tryz.prog 121 #[.slice A n c] w fun e w'=>∃ v,e = .returned v/\w'.ownsRow w.heap.size tEl 1 v (tl l) (cE (trimP l))/\Below w.heap.size w w':=by
 have hl:=rd_len h
 have hle:=tl_le l
 rw[hl] at hle
 obtain⟨q,hq⟩:∃ q,tl l=q:=⟨_,rfl⟩
 have hr2:Rd w B 1 A q (cE (trimP l)):=by rw[take_tl,hq];rw[hq] at hle;exact rd_take h hle
 have hsl:∀ wx:World,(Instr.slice 181 (.slice A n c) none (some (.int .i64 (q:Int))) none).run Tryz.prog wx = .ok (.slice A q c) wx:=fun wx=>slice_to wx (by omega)
 have hadd:(q:Int) - 1+1=q:=by omega
 have H:=Lib.hid h
 have HR2:=Hd hr2
 have HC:=Hd hc
 have HQ:=Hd hq
 have hqn:q<=n:=by omega
 clear h hr2 hc hl hle
 go_enter Tryz.func121,Tryz.ntmps121
 go_wp2_with (first
  | (go_at_call 123;refine (degree_any H.out hn).mono ?_;rintro e w1 ⟨rfl,rfl⟩;rw[hq])
  | (go_at_call 122;refine (cloneE_any HR2.out hB (by omega) HC.out).mono ?_;rintro e w1 ⟨v,rfl,hown,hb⟩;have HO:=Hd hown;have HB:=Hd hb;clear hown hb))
 obtain⟨A1,c1,rfl,_,_⟩:=own_form HO.out
 go_ret
 exact⟨_,rfl,by rw[HQ.out];exact HO.out,HB.out⟩
end Go.Proofs.YtmgljaecmchgaaaGreat.Gf
namespace Go.Proofs.YtmgljaecmchgaaaGreat.Gf
open Go.RowKit Go.Proofs
theorem made_rep (z:Value) (n:Nat) (h1:z.cells=#[z]):madeCells z.cells n=(List.replicate n z).toArray:=by
 rw[h1]
 unfold madeCells
 apply Array.ext
 ·simp
 ·intro i h2 h3
  simp[Nat.mod_one]
theorem heap_set_same {w:World} {g i:Nat} {cur:Array Value} {t:TypeId} (h:w.heap[g]?=some (.cells cur t (0,0))) (v:Value):(w.setCell ⟨g,i,none⟩ v).heap[g]?=some (.cells (cur.setIfInBounds i v) t (0,0)):=by
 unfold World.setCell
 simp only[Array.getElem?_modify,if_true,h,Option.map_some]
 rfl
section
variable {w:World} {base:Nat} {e:TypeId} {g n c i:Nat} {xs:List Value}
theorem ow_cell (h:w.ownsRow base e 1 (.slice (some ⟨g,0,none⟩) n c) n xs) {u:Value} (hi:i<n) (hu:xs[i]?=some u):w.cell? ⟨g,i,none⟩=some u:=by
 have:=(Rd.of_own h).cell rfl hi hu
 rw[show (⟨g,0,none⟩:Addr).add i=⟨g,i,none⟩ by unfold Addr.add;split<;>simp<;>omega] at this
 exact this
theorem ow_free (h:w.ownsRow base e 1 (.slice (some ⟨g,0,none⟩) n c) n xs):w.frozen? ⟨g,i,none⟩=false:=by
 obtain⟨cur,h3⟩:=Dr.own_lt h rfl
 unfold World.frozen?
 rw[show w.heap[(⟨g,i,none⟩:Addr).block]?=_ from h3]
 simp
theorem ow_store (h:w.ownsRow base e 1 (.slice (some ⟨g,0,none⟩) n c) n xs) (v:Value):(w.setCell ⟨g,i,none⟩ v).ownsRow base e 1 (.slice (some ⟨g,0,none⟩) n c) n (xs.set i v):=by
 have hl:=h.1
 rcases h.2 with ⟨e1,_⟩ | ⟨g',cap,cur,e1,h1,h2,h3,h4,h5,h6⟩
 ·cases e1
 ·injection e1 with e1 e2 e3
  injection e1 with e1
  injection e1 with e1 _ _
  subst e1 e3
  refine⟨by rw[List.length_set];exact hl,.inr ⟨g,c,cur.setIfInBounds i v,rfl,h1,heap_set_same h2 v,h3,h4,by simpa using h5,?_⟩⟩
  rw[Array.toList_setIfInBounds,List.take_set,h6]
theorem ow_rd (h:w.ownsRow base e 1 (.slice (some ⟨g,0,none⟩) n c) n xs) {k:Nat} (hk:k<=n):Rd w w.heap.size 1 (some ⟨g,0,none⟩) k (xs.take k):=by
 have hr:=Rd.of_own h
 refine⟨by rw[List.length_take,hr.1];omega,fun h0=>?_⟩
 obtain⟨ad,e1,hb,hc⟩:=hr.2 (by omega)
 refine⟨ad,e1,hb,fun j u hu=>hc j u ?_⟩
 rw[List.getElem?_take] at hu
 split at hu
 ·exact hu
 ·cases hu
theorem ow_lt (h:w.ownsRow base e 1 (.slice (some ⟨g,0,none⟩) n c) n xs):base<=g/\g<w.heap.size:=by
 rcases h.2 with ⟨e1,_⟩ | ⟨g',cap,cur,e1,h1,h2,h3,h4,h5,h6⟩
 ·cases e1
 ·injection e1 with e1 e2 e3
  injection e1 with e1
  injection e1 with e1 _ _
  subst e1
  exact⟨h1,(Array.getElem?_eq_some_iff.1 h2).1⟩
end
def PolR (w w':World) (v:Value) (l:List E):Prop:=∃ A c,v = .slice A l.length c/\Rd w' w'.heap.size 1 A l.length (cE l)/\l.length<=c/\(A=none->c=0)/\Below w.heap.size w w'
theorem PolR.of_own {w w':World} {v:Value} {l:List E} (h:w'.ownsRow w.heap.size tEl 1 v l.length (cE l)) (hb:Below w.heap.size w w'):PolR w w' v l:=by
 obtain⟨A,c,rfl,h1,_⟩:=own_form h
 exact⟨A,c,rfl,Rd.of_own h,h1,own_none h,hb⟩
theorem PolR.of_part {w w':World} {g n c k:Nat} {l p:List E} (h:w'.ownsRow w.heap.size tEl 1 (.slice (some ⟨g,0,none⟩) n c) n (cE l)) (hb:Below w.heap.size w w') (hk:k<=n) (hnc:n<=c) (hp:l.take k=p) (hl:p.length=k):PolR w w' (.slice (some ⟨g,0,none⟩) k c) p:=by
 subst hp
 refine⟨_,_,by rw[hl],?_,by omega,(fun h=>by cases h),hb⟩
 have:=ow_rd h hk
 rw[<-List.map_take] at this
 rw[hl]
 exact this
def fromN (n:Nat) (f:Nat->E):List E:=(List.range n).map f
theorem length_fromN (n:Nat) (f:Nat->E):(fromN n f).length=n:=by simp[fromN]
theorem co_fromN (n:Nat) (f:Nat->E) (i:Nat):co (fromN n f) i=if i<n then f i else 0:=by
 split
 ·rename_i h
  rw[co_get (by rw[length_fromN];exact h)]
  simp[fromN]
 ·rename_i h
  exact co_ge (by rw[length_fromN];omega)
theorem fromN_get {n:Nat} {f:Nat->E} {i:Nat} (h:i<n):(fromN n f)[i]?=some (f i):=by simp[fromN,h]
theorem fromN_congr {n:Nat} {f g:Nat->E} (h:∀ i,i<n->f i=g i):fromN n f=fromN n g:=by
 unfold fromN
 exact List.map_congr_left fun i hi=>h i (by simpa using hi)
theorem fromN_co (l:List E):fromN l.length (co l)=l:=by
 apply List.ext_getElem
 ·simp[fromN]
 ·intro i h1 h2
  simp[fromN,co_get h2]
theorem cE_get {l:List E} {i:Nat} {x:E} (h:l[i]?=some x):(cE l)[i]?=some (.int .u8 ((unE x).toNat:Int)):=by rw[List.getElem?_map,h];rfl
theorem cE_set (n:Nat) (f:Nat->E) (i:Nat) (x:E):(cE (fromN n f)).set i (.int .u8 ((unE x).toNat:Int))=cE (fromN n fun j=>if j=i then x else f j):=by
 apply List.ext_getElem?
 intro j
 rw[List.getElem?_set,List.getElem?_map,List.getElem?_map]
 by_cases hj:j<n
 ·rw[fromN_get hj,fromN_get hj]
  by_cases e:i=j
  ·subst e;simp[hj,fromN]
  ·have e2:¬ j=i:=fun h=>e h.symm
   simp[e,e2]
 ·have e1:(fromN n f)[j]?=none:=List.getElem?_eq_none (by rw[length_fromN];omega)
  have e2:(fromN n fun j=>if j=i then x else f j)[j]?=none:=List.getElem?_eq_none (by rw[length_fromN];omega)
  rw[e1,e2]
  by_cases e:i=j
  ·subst e;simp[hj,fromN]
  ·simp[e]
theorem replicate_fromN (n:Nat):List.replicate n (Value.int .u8 0)=cE (fromN n fun _=>0):=by
 apply List.ext_getElem?
 intro j
 rw[List.getElem?_map,List.getElem?_replicate]
 by_cases hj:j<n
 ·rw[fromN_get hj,if_pos hj];rfl
 ·rw[List.getElem?_eq_none (by rw[length_fromN];omega),if_neg hj];rfl
theorem run_makeE (W:World) (n:Nat) (hn:n<=1099511627776):(Instr.makeSlice 181 (.int .i64 (n:Int)) (.int .i64 (n:Int))).run Tryz.prog W = .ok (.slice (some ⟨W.heap.size,0,none⟩) n n) (W.alloc (.cells (cE (fromN n fun _=>0)).toArray tEl)):=by
 obtain⟨i0,hi,hz0,hz1,hz2⟩:=info_parts infoEl
 have h:=run_make (P:=Tryz.prog) (w:=W) 181 tEl i0 (.int .u8 0) Tryz.underlying181 hi hz0 .i64 .i64 (n:Int) (n:Int) (by omega) (by omega) (by rw[hz2];omega) (by omega)
 rw[hz1,Nat.mul_one,Int.toNat_natCast,made_rep (.int .u8 0) n rfl,replicate_fromN] at h
 exact h
end Go.Proofs.YtmgljaecmchgaaaGreat.Gf
namespace Go.Proofs.YtmgljaecmchgaaaGreat.Gf
open Go.RowKit Go.Proofs
def scF (s x _y:E):E:=x*s
set_option maxRecDepth 100000 in
theorem scale1_any (x y s:E) {b:Nat} {w:World} (hc:w.cell? ⟨b,0,none⟩=some (.int .u8 ((unE s).toNat:Int))) :
  Calls Tryz.prog 129 #[.int .u8 ((unE x).toNat:Int),.int .u8 ((unE y).toNat:Int),.pointer (some ⟨b,0,none⟩)] w fun e w'=>e = .returned (.int .u8 ((unE (scF s x y)).toNat:Int))/\w=w':=by
 go_enter Tryz.func129,Tryz.ntmps129
 go_wp2_with (go_at_call 79;refine (times_any _ _ _).mono ?_;rintro e w1 ⟨rfl,rfl⟩)
 go_ret
 exact⟨rfl,rfl⟩
set_option maxRecDepth 100000 in
set_option maxHeartbeats 2000000 in
theorem combine_plus {w:World} {B n m c d:Nat} {A1 A2:Option Addr} {p q:List E} (hp:Rd w B 1 A1 n (cE p)) (hq:Rd w B 1 A2 m (cE q)) (hB:B<=w.heap.size) (hn:n<=65536) (hm:m<=65536) :
  Calls Tryz.prog 128 #[.slice A1 n c,.slice A2 m d,.func (.func 78) #[] #[]] w fun e w'=>∃ v,e = .returned v/\PolR w w' v (trimP (fromN (max n m) fun i=>HAdd.hAdd (co p i) (co q i))):=by
 have hpl:=rd_len hp
 have hql:=rd_len hq
 obtain⟨N,hN⟩:∃ N,max n m=N:=⟨_,rfl⟩
 have hnN:n<=N:=by omega
 have hmN:m<=N:=by omega
 have hN2:N<=65536:=by omega
 have hmax:max (n:Int) (m:Int)=(N:Int):=by omega
 obtain⟨V,hV⟩:∃ V,w.heap.size=V:=⟨_,rfl⟩
 have hmk:=fun W=>run_makeE W N (by omega)
 obtain⟨Z,hZ⟩:∃ Z:List Value,cE (fromN N fun _=>0)=Z:=⟨_,rfl⟩
 rw[hZ] at hmk
 obtain⟨P0,hP0⟩:∃ P0:List Value,cE p=P0:=⟨_,rfl⟩
 have hPl:P0.length=n:=by rw[<-hP0];simpa using hpl
 have hZl:Z.length=N:=by rw[<-hZ];simp[fromN]
 have hsp:splice Z 0 P0=cE (fromN N fun j=>if j<0 then HAdd.hAdd (co p j) (co q j) else co p j):=by
  unfold splice
  rw[List.take_zero,List.nil_append,Nat.zero_add,hPl,<-hP0,<-hZ]
  apply List.ext_getElem?
  intro j
  rw[List.getElem?_append,List.length_map,hpl,List.getElem?_drop]
  by_cases h1:j<n
  ·rw[if_pos h1,cE_get (List.getElem?_eq_getElem (by omega)),cE_get (fromN_get (by omega))]
   simp[co_get (show j<p.length by omega)]
  ·rw[if_neg h1]
   by_cases h2:j<N
   ·rw[show n+(j - n)=j by omega,cE_get (fromN_get h2),cE_get (fromN_get h2)]
    simp[co_ge (show p.length<=j by omega)]
   ·rw[List.getElem?_eq_none (by simp[fromN];omega),List.getElem?_eq_none (by simp[fromN];omega)]
 have HP:=Hd hp
 have HQ:=Hd hq
 have HSP:=Hd hsp
 have HZL:=Hd hZl
 have HPL:=Hd hPl
 have HP0:=Hd hP0
 have HPP:=Hd hpl
 have HQL:=Hd hql
 have HZ:=Hd hZ
 have HN:=Hd hN
 have HVV:=Hd hV
 clear hp hq hsp hZl hPl hP0 hpl hql hZ hN
 go_enter Tryz.func128,Tryz.ntmps128
 go_upto_region 2 with (fail)
 have hrow0:(w.alloc (.cells Z.toArray tEl)).heap[V]?=some (.cells Z.toArray tEl (0,0)):=by rw[<-hV];exact heap_alloc_new w _
 have hb0:Below V w (w.alloc (.cells Z.toArray tEl)):=by rw[<-hV];exact (Below.refl _ w).alloc (Nat.le_refl _) _
 have hs0:V<(w.alloc (.cells Z.toArray tEl)).heap.size:=by rw[World.size_alloc,hV];omega
 have hrd0:Rd (w.alloc (.cells Z.toArray tEl)) B 1 A1 n P0:=by rw[<-HP0.out];exact HP.out.below (hb0.mono (by omega))
 obtain⟨w0,hw0⟩:∃ w0,w.alloc (.cells Z.toArray tEl)=w0:=⟨_,rfl⟩
 rw[hw0] at hrow0 hb0 hs0 hrd0
 rw[hw0]
 have HR0:=Hd hrow0
 have HB0:=Hd hb0
 have HRD:=Hd hrd0
 have HS0:=Hd hs0
 clear hrow0 hb0 hrd0 hs0 hV hw0
 go_wp2_with ((with_reducible show wpList _ _ _ (⟨some 18,_,_,_,_,_⟩::_) _ _);go_loud (refine wpList_copy_splice rfl (.tmp 16) (.tmp 17) 181 181 rfl tEl Tryz.underlying181 (by kernel_rfl) (some ⟨V,0,none⟩) A1 N N n c rfl rfl V 0 Z tEl HR0.out P0 (by rw[HPL.out];exact (Nat.min_eq_left hnN).symm) (fun h=>⟨rfl,by obtain⟨ad,e,_,hc⟩:=HRD.out.2 (by have:=HPL.out;omega);exact⟨ad,e,hc⟩⟩) (by have:=HPL.out;have:=HZL.out;omega) (by rw[<-HP0.out];exact cE_one p) V w HB0.out (Nat.le_refl _) ?_;intro w1 hh1 hb1;rw[HPL.out]))
 have hrow1:w1.ownsRow V tEl 1 (.slice (some ⟨V,0,none⟩) N N) N (cE (fromN N fun j=>if j<0 then HAdd.hAdd (co p j) (co q j) else co p j)):=by
  rw[<-HSP.out]
  refine⟨by rw[HSP.out];simp[fromN],.inr ⟨V,N,(splice Z 0 P0).toArray,rfl,Nat.le_refl _,hh1.out,Nat.le_refl _,by unfold maxLen;omega,?_,?_⟩⟩
  ·rw[HSP.out];simp[fromN]
  ·rw[HSP.out,Nat.mul_one];exact List.take_of_length_le (by simp[fromN])
 have HROW1:=Hd hrow1
 have HB1:=Hd hb1
 clear hrow1 hb1 hh1 hmk hmax
 go_loopw [21] (fun iv wr=>∃ k:Nat,iv = .int .i64 (k:Int)/\k<=N/\wr.ownsRow V tEl 1 (.slice (some ⟨V,0,none⟩) N N) N (cE (fromN N fun j=>if j<k then HAdd.hAdd (co p j) (co q j) else co p j))/\Below V w wr) (fun iv _=>N - (intOf iv).toNat)
 case atStart=>exact⟨0,rfl,Nat.zero_le _,HROW1.out,HB1.out⟩
 case round=>
  obtain⟨k,rfl,hk,hown,hb⟩:=hrel
  by_cases hlt:k<N
  ·have hlt2:(k:Int)<(N:Int):=by omega
   obtain⟨x,hx⟩:∃ x,co p k=x:=⟨_,rfl⟩
   obtain⟨y,hy⟩:∃ y,co q k=y:=⟨_,rfl⟩
   have hc0:wr.cell? ⟨V,k,none⟩=some (.int .u8 ((unE x).toNat:Int)):=ow_cell hown hlt (cE_get (by rw[fromN_get hlt,if_neg (by omega),hx]))
   have hf0:wr.frozen? ⟨V,k,none⟩=false:=ow_free hown
   have hnew:=ow_store (i:=k) hown (.int .u8 ((unE (HAdd.hAdd x y)).toNat:Int))
   rw[cE_set] at hnew
   have hfun:(fun j=>if j=k then HAdd.hAdd x y else if j<k then HAdd.hAdd (co p j) (co q j) else co p j)=fun j=>if j<k+1 then HAdd.hAdd (co p j) (co q j) else co p j:=by
    funext j
    by_cases e:j=k
    ·subst e;rw[if_pos rfl,if_pos (by omega),hx,hy]
    ·rw[if_neg e]
     by_cases e2:j<k
     ·rw[if_pos e2,if_pos (by omega)]
     ·rw[if_neg e2,if_neg (by omega)]
   rw[hfun] at hnew
   have hb2:=hb.setCell (p:=⟨V,k,none⟩) (Nat.le_refl _) (.int .u8 ((unE (HAdd.hAdd x y)).toNat:Int))
   have hzz:True:=trivial
   have HX:=Hd hx
   have HN2:=Hd hnew
   have HB2:=Hd hb2
   by_cases hkm:k<m
   ·have hkm2:(k:Int)<(m:Int):=by omega
    obtain⟨ad,rfl,had,hcd⟩:=rd_at HQ.out hkm
    rw[hy] at hcd
    have hcd2:wr.cell? (ad.add k)=some (.int .u8 ((unE y).toNat:Int)):=(hb.cell (by rw[add_block];have:=HVV.out;omega)).trans hcd
    have HBB:=Hd hb
    clear hx hy hnew hb2 hown hb hfun hcd
    go_wp2_with (go_at_call 78;refine (plus_any (unE x) (unE y) _).mono ?_;rintro e w2 ⟨rfl,rfl⟩)
    go_roundw
    case rel=>exact⟨k+1,by go_num,by omega,HN2.out,HB2.out⟩
    case measure=>simp[intOf];omega
   ·have hkm2:¬ (k:Int)<(m:Int):=by omega
    have hy0:y=0:=by rw[<-hy];exact co_ge (by have:=HQL.out;omega)
    subst hy0
    have HBB:=Hd hb
    clear hx hy hnew hb2 hown hb hfun
    go_wp2_with (go_at_call 78;refine (plus_any (unE x) (unE 0) _).mono ?_;rintro e w2 ⟨rfl,rfl⟩)
    go_roundw
    case rel=>exact⟨k+1,by go_num,by omega,HN2.out,HB2.out⟩
    case measure=>simp[intOf];omega
  ·obtain rfl:k=N:=by omega
   have hfun:(fromN k fun j=>if j<k then HAdd.hAdd (co p j) (co q j) else co p j)=fromN k fun j=>HAdd.hAdd (co p j) (co q j):=fromN_congr fun i hi=>if_pos hi
   rw[hfun] at hown
   obtain⟨R,hR⟩:∃ R,(fromN k fun j=>HAdd.hAdd (co p j) (co q j))=R:=⟨_,rfl⟩
   rw[hR] at hown
   have hRl:R.length=k:=by rw[<-hR];simp[fromN]
   obtain⟨t,ht⟩:∃ t,tl R=t:=⟨_,rfl⟩
   have htk:t<=k:=by rw[<-ht,<-hRl];exact tl_le R
   have hrd:=Rd.of_own hown
   have hadd:(t:Int) - 1+1=t:=by omega
   have hsl:∀ wx:World,(Instr.slice 181 (.slice (some ⟨V,0,none⟩) k k) none (some (.int .i64 (t:Int))) none).run Tryz.prog wx = .ok (.slice (some ⟨V,0,none⟩) t k) wx:=fun wx=>slice_to wx htk
   have HRD2:=Hd hrd
   have HT:=Hd ht
   have HO:=Hd hown
   have HBB:=Hd hb
   have HRR:=Hd hR
   clear hrd ht hown hb hR hfun hRl
   go_wp2_with (go_at_call 123;refine (degree_any HRD2.out (by omega)).mono ?_;rintro e w2 ⟨rfl,rfl⟩;rw[HT.out])
   go_ret
   refine⟨_,rfl,?_⟩
   have hV:=HVV.out
   rw[HN.out,HRR.out]
   refine PolR.of_part (l:=R) (by rw[hV];exact HO.out) (by rw[hV];exact HBB.out) htk (Nat.le_refl _) ?_ HT.out
   rw[take_tl R,HT.out]
set_option maxRecDepth 100000 in
set_option maxHeartbeats 2000000 in
theorem combine_scale {w:World} {B n m c d:Nat} {A1 A2:Option Addr} {p q:List E} (hp:Rd w B 1 A1 n (cE p)) (hq:Rd w B 1 A2 m (cE q)) (hB:B<=w.heap.size) (hn:n<=65536) (hm:m<=65536) {bx:Nat} {s:E} (hbx:w.cell? ⟨bx,0,none⟩=some (.int .u8 ((unE s).toNat:Int))) (hbx2:bx<w.heap.size) :
  Calls Tryz.prog 128 #[.slice A1 n c,.slice A2 m d,.func (.func 129) #[] #[.pointer (some ⟨bx,0,none⟩)]] w fun e w'=>∃ v,e = .returned v/\PolR w w' v (trimP (fromN (max n m) fun i=>scF s (co p i) (co q i))):=by
 have hpl:=rd_len hp
 have hql:=rd_len hq
 obtain⟨N,hN⟩:∃ N,max n m=N:=⟨_,rfl⟩
 have hnN:n<=N:=by omega
 have hmN:m<=N:=by omega
 have hN2:N<=65536:=by omega
 have hmax:max (n:Int) (m:Int)=(N:Int):=by omega
 obtain⟨V,hV⟩:∃ V,w.heap.size=V:=⟨_,rfl⟩
 have hmk:=fun W=>run_makeE W N (by omega)
 obtain⟨Z,hZ⟩:∃ Z:List Value,cE (fromN N fun _=>0)=Z:=⟨_,rfl⟩
 rw[hZ] at hmk
 obtain⟨P0,hP0⟩:∃ P0:List Value,cE p=P0:=⟨_,rfl⟩
 have hPl:P0.length=n:=by rw[<-hP0];simpa using hpl
 have hZl:Z.length=N:=by rw[<-hZ];simp[fromN]
 have hsp:splice Z 0 P0=cE (fromN N fun j=>if j<0 then scF s (co p j) (co q j) else co p j):=by
  unfold splice
  rw[List.take_zero,List.nil_append,Nat.zero_add,hPl,<-hP0,<-hZ]
  apply List.ext_getElem?
  intro j
  rw[List.getElem?_append,List.length_map,hpl,List.getElem?_drop]
  by_cases h1:j<n
  ·rw[if_pos h1,cE_get (List.getElem?_eq_getElem (by omega)),cE_get (fromN_get (by omega))]
   simp[co_get (show j<p.length by omega)]
  ·rw[if_neg h1]
   by_cases h2:j<N
   ·rw[show n+(j - n)=j by omega,cE_get (fromN_get h2),cE_get (fromN_get h2)]
    simp[co_ge (show p.length<=j by omega)]
   ·rw[List.getElem?_eq_none (by simp[fromN];omega),List.getElem?_eq_none (by simp[fromN];omega)]
 have HP:=Hd hp
 have HQ:=Hd hq
 have HSP:=Hd hsp
 have HZL:=Hd hZl
 have HPL:=Hd hPl
 have HP0:=Hd hP0
 have HPP:=Hd hpl
 have HQL:=Hd hql
 have HZ:=Hd hZ
 have HN:=Hd hN
 have HVV:=Hd hV
 clear hp hq hsp hZl hPl hP0 hpl hql hZ hN
 go_enter Tryz.func128,Tryz.ntmps128
 go_upto_region 2 with (fail)
 have hrow0:(w.alloc (.cells Z.toArray tEl)).heap[V]?=some (.cells Z.toArray tEl (0,0)):=by rw[<-hV];exact heap_alloc_new w _
 have hb0:Below V w (w.alloc (.cells Z.toArray tEl)):=by rw[<-hV];exact (Below.refl _ w).alloc (Nat.le_refl _) _
 have hs0:V<(w.alloc (.cells Z.toArray tEl)).heap.size:=by rw[World.size_alloc,hV];omega
 have hrd0:Rd (w.alloc (.cells Z.toArray tEl)) B 1 A1 n P0:=by rw[<-HP0.out];exact HP.out.below (hb0.mono (by omega))
 obtain⟨w0,hw0⟩:∃ w0,w.alloc (.cells Z.toArray tEl)=w0:=⟨_,rfl⟩
 rw[hw0] at hrow0 hb0 hs0 hrd0
 rw[hw0]
 have HR0:=Hd hrow0
 have HB0:=Hd hb0
 have HRD:=Hd hrd0
 have HS0:=Hd hs0
 clear hrow0 hb0 hrd0 hs0 hV hw0
 go_wp2_with ((with_reducible show wpList _ _ _ (⟨some 18,_,_,_,_,_⟩::_) _ _);go_loud (refine wpList_copy_splice rfl (.tmp 16) (.tmp 17) 181 181 rfl tEl Tryz.underlying181 (by kernel_rfl) (some ⟨V,0,none⟩) A1 N N n c rfl rfl V 0 Z tEl HR0.out P0 (by rw[HPL.out];exact (Nat.min_eq_left hnN).symm) (fun h=>⟨rfl,by obtain⟨ad,e,_,hc⟩:=HRD.out.2 (by have:=HPL.out;omega);exact⟨ad,e,hc⟩⟩) (by have:=HPL.out;have:=HZL.out;omega) (by rw[<-HP0.out];exact cE_one p) V w HB0.out (Nat.le_refl _) ?_;intro w1 hh1 hb1;rw[HPL.out]))
 have hrow1:w1.ownsRow V tEl 1 (.slice (some ⟨V,0,none⟩) N N) N (cE (fromN N fun j=>if j<0 then scF s (co p j) (co q j) else co p j)):=by
  rw[<-HSP.out]
  refine⟨by rw[HSP.out];simp[fromN],.inr ⟨V,N,(splice Z 0 P0).toArray,rfl,Nat.le_refl _,hh1.out,Nat.le_refl _,by unfold maxLen;omega,?_,?_⟩⟩
  ·rw[HSP.out];simp[fromN]
  ·rw[HSP.out,Nat.mul_one];exact List.take_of_length_le (by simp[fromN])
 have HROW1:=Hd hrow1
 have HB1:=Hd hb1
 clear hrow1 hb1 hh1 hmk hmax
 go_loopw [21] (fun iv wr=>∃ k:Nat,iv = .int .i64 (k:Int)/\k<=N/\wr.ownsRow V tEl 1 (.slice (some ⟨V,0,none⟩) N N) N (cE (fromN N fun j=>if j<k then scF s (co p j) (co q j) else co p j))/\Below V w wr) (fun iv _=>N - (intOf iv).toNat)
 case atStart=>exact⟨0,rfl,Nat.zero_le _,HROW1.out,HB1.out⟩
 case round=>
  obtain⟨k,rfl,hk,hown,hb⟩:=hrel
  by_cases hlt:k<N
  ·have hlt2:(k:Int)<(N:Int):=by omega
   obtain⟨x,hx⟩:∃ x,co p k=x:=⟨_,rfl⟩
   obtain⟨y,hy⟩:∃ y,co q k=y:=⟨_,rfl⟩
   have hc0:wr.cell? ⟨V,k,none⟩=some (.int .u8 ((unE x).toNat:Int)):=ow_cell hown hlt (cE_get (by rw[fromN_get hlt,if_neg (by omega),hx]))
   have hf0:wr.frozen? ⟨V,k,none⟩=false:=ow_free hown
   have hnew:=ow_store (i:=k) hown (.int .u8 ((unE (scF s x y)).toNat:Int))
   rw[cE_set] at hnew
   have hfun:(fun j=>if j=k then scF s x y else if j<k then scF s (co p j) (co q j) else co p j)=fun j=>if j<k+1 then scF s (co p j) (co q j) else co p j:=by
    funext j
    by_cases e:j=k
    ·subst e;rw[if_pos rfl,if_pos (by omega),hx,hy]
    ·rw[if_neg e]
     by_cases e2:j<k
     ·rw[if_pos e2,if_pos (by omega)]
     ·rw[if_neg e2,if_neg (by omega)]
   rw[hfun] at hnew
   have hb2:=hb.setCell (p:=⟨V,k,none⟩) (Nat.le_refl _) (.int .u8 ((unE (scF s x y)).toNat:Int))
   have hcb:wr.cell? ⟨bx,0,none⟩=some (.int .u8 ((unE s).toNat:Int)):=(hb.cell (p:=⟨bx,0,none⟩) (by have:=HVV.out;show bx<V;omega)).trans hbx
   have HX:=Hd hx
   have HN2:=Hd hnew
   have HB2:=Hd hb2
   by_cases hkm:k<m
   ·have hkm2:(k:Int)<(m:Int):=by omega
    obtain⟨ad,rfl,had,hcd⟩:=rd_at HQ.out hkm
    rw[hy] at hcd
    have hcd2:wr.cell? (ad.add k)=some (.int .u8 ((unE y).toNat:Int)):=(hb.cell (by rw[add_block];have:=HVV.out;omega)).trans hcd
    have HBB:=Hd hb
    clear hx hy hnew hb2 hown hb hfun hcd
    go_wp2_with (go_at_call 129;refine (scale1_any x y s hcb).mono ?_;clear hcb;rintro e w2 ⟨rfl,rfl⟩)
    go_roundw
    case rel=>exact⟨k+1,by go_num,by omega,HN2.out,HB2.out⟩
    case measure=>simp[intOf];omega
   ·have hkm2:¬ (k:Int)<(m:Int):=by omega
    have hy0:y=0:=by rw[<-hy];exact co_ge (by have:=HQL.out;omega)
    subst hy0
    have HBB:=Hd hb
    clear hx hy hnew hb2 hown hb hfun
    go_wp2_with (go_at_call 129;refine (scale1_any x 0 s hcb).mono ?_;clear hcb;rintro e w2 ⟨rfl,rfl⟩)
    go_roundw
    case rel=>exact⟨k+1,by go_num,by omega,HN2.out,HB2.out⟩
    case measure=>simp[intOf];omega
  ·obtain rfl:k=N:=by omega
   have hfun:(fromN k fun j=>if j<k then scF s (co p j) (co q j) else co p j)=fromN k fun j=>scF s (co p j) (co q j):=fromN_congr fun i hi=>if_pos hi
   rw[hfun] at hown
   obtain⟨R,hR⟩:∃ R,(fromN k fun j=>scF s (co p j) (co q j))=R:=⟨_,rfl⟩
   rw[hR] at hown
   have hRl:R.length=k:=by rw[<-hR];simp[fromN]
   obtain⟨t,ht⟩:∃ t,tl R=t:=⟨_,rfl⟩
   have htk:t<=k:=by rw[<-ht,<-hRl];exact tl_le R
   have hrd:=Rd.of_own hown
   have hadd:(t:Int) - 1+1=t:=by omega
   have hsl:∀ wx:World,(Instr.slice 181 (.slice (some ⟨V,0,none⟩) k k) none (some (.int .i64 (t:Int))) none).run Tryz.prog wx = .ok (.slice (some ⟨V,0,none⟩) t k) wx:=fun wx=>slice_to wx htk
   have HRD2:=Hd hrd
   have HT:=Hd ht
   have HO:=Hd hown
   have HBB:=Hd hb
   have HRR:=Hd hR
   clear hrd ht hown hb hR hfun hRl
   go_wp2_with (go_at_call 123;refine (degree_any HRD2.out (by omega)).mono ?_;rintro e w2 ⟨rfl,rfl⟩;rw[HT.out])
   go_ret
   refine⟨_,rfl,?_⟩
   have hV:=HVV.out
   rw[HN.out,HRR.out]
   refine PolR.of_part (l:=R) (by rw[hV];exact HO.out) (by rw[hV];exact HBB.out) htk (Nat.le_refl _) ?_ HT.out
   rw[take_tl R,HT.out]
theorem addP_fromN (p q:List E):Peq (fromN (max p.length q.length) fun i=>co p i+co q i) (addP p q):=fun i=>by
 rw[co_fromN,co_addP]
 split
 ·rfl
 ·rename_i h;rw[co_ge (by omega),co_ge (by omega)];exact (Fld.add_zero 0).symm
theorem scP_fromN (p:List E) (s:E):Peq (fromN (max p.length 0) fun i=>scF s (co p i) (co [] i)) (scP s p):=fun i=>by
 rw[co_fromN,co_scP]
 split
 ·exact Fld.mul_comm _ _
 ·rename_i h;rw[co_ge (by omega),mul_zero]
theorem trimP_congr {p q:List E} (h:Peq p q):trimP p=trimP q:=Trd.unique (((trimP_eq p).trans h).trans (trimP_eq q).symm) (trimP_trd p) (trimP_trd q)
set_option maxRecDepth 100000 in
theorem plusP_any {w:World} {B n m c d:Nat} {A1 A2:Option Addr} {p q:List E} (hp:Rd w B 1 A1 n (cE p)) (hq:Rd w B 1 A2 m (cE q)) (hB:B<=w.heap.size) (hn:n<=65536) (hm:m<=65536) :
  Calls Tryz.prog 118 #[.slice A1 n c,.slice A2 m d] w fun e w'=>∃ v,e = .returned v/\PolR w w' v (trimP (addP p q)):=by
 have hpl:=rd_len hp
 have hql:=rd_len hq
 have he:trimP (fromN (max n m) fun i=>co p i+co q i)=trimP (addP p q):=by rw[<-hpl,<-hql];exact trimP_congr (addP_fromN p q)
 have HP:=Hd hp
 have HQ:=Hd hq
 have HE:=Hd he
 clear hp hq he hpl hql
 go_enter Tryz.func118,Tryz.ntmps118
 go_wp2_with (go_at_call 128;refine (combine_plus HP.out HQ.out hB hn hm).mono ?_;rintro e w1 ⟨v,rfl,hv⟩;have HV:=Hd hv;clear hv)
 have hv:=HV.out
 rw[HE.out] at hv
 obtain⟨A,c',rfl,h⟩:=hv
 go_ret
 exact⟨_,rfl,A,c',rfl,h⟩
set_option maxRecDepth 100000 in
theorem scaleP_any {w:World} {B n c:Nat} {A1:Option Addr} {p:List E} (hp:Rd w B 1 A1 n (cE p)) (s:E) (hB:B<=w.heap.size) (hn:n<=65536) :
  Calls Tryz.prog 119 #[.slice A1 n c,.int .u8 ((unE s).toNat:Int)] w fun e w'=>∃ v,e = .returned v/\PolR w w' v (trimP (scP s p)):=by
 have hpl:=rd_len hp
 have he:trimP (fromN (max n 0) fun i=>scF s (co p i) (co [] i))=trimP (scP s p):=by rw[<-hpl];exact trimP_congr (scP_fromN p s)
 have hp1:Rd (w.alloc (.cells #[.int .u8 ((unE s).toNat:Int)] tEl)) B 1 A1 n (cE p):=hp.alloc hB _
 have hbx:(w.alloc (.cells #[.int .u8 ((unE s).toNat:Int)] tEl)).cell? ⟨w.heap.size,0,none⟩=some (.int .u8 ((unE s).toNat:Int)):=by rw[cell_of_row _ _ _ _ _ _ (heap_alloc_new w _)];rfl
 have hb0:Below w.heap.size w (w.alloc (.cells #[.int .u8 ((unE s).toNat:Int)] tEl)):=(Below.refl _ _).alloc (Nat.le_refl _) _
 have hs0:w.heap.size<(w.alloc (.cells #[.int .u8 ((unE s).toNat:Int)] tEl)).heap.size:=by simp
 have HP:=Hd hp1
 have HBX:=Hd hbx
 have HB0:=Hd hb0
 have HS0:=Hd hs0
 have HE:=Hd he
 clear hp hp1 he hpl hbx hb0 hs0
 go_enter Tryz.func119,Tryz.ntmps119
 go_wp2_with (go_at_call 128;refine (combine_scale (m:=0) (d:=0) (A2:=none) (q:=[]) HP.out (Rd.none_) (by have:=HS0.out;omega) hn (by omega) HBX.out HS0.out).mono ?_;rintro e w1 ⟨v,rfl,hv⟩;have HV:=Hd hv;clear hv)
 have hv:=HV.out
 rw[HE.out] at hv
 obtain⟨A,c',rfl,h1,h2,h3,h4⟩:=hv
 go_ret
 exact⟨_,rfl,A,c',rfl,h1,h2,h3,HB0.out.trans (h4.mono HB0.out.size)⟩
end Go.Proofs.YtmgljaecmchgaaaGreat.Gf
