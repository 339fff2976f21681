/- XKer: merged by tools/merge.py. -/
import Derived.Test.YtmgljaecmchgaaaGreatQ02
set_option linter.unusedVariables false
set_option linter.unusedSimpArgs false
set_option linter.unusedSectionVars false
namespace Go.Proofs.YtmgljaecmchgaaaGreat.Gf
open Fld
variable {F:Type} [Fld F]
def sumN:Nat->(Nat->F)->F
 | 0,_=>0
 | n+1,f=>sumN n f+f n
theorem sumN_congr {n:Nat} {f g:Nat->F} (h:∀ i,i<n->f i=g i):sumN n f=sumN n g:=by
 induction n with
 | zero=>rfl
 | succ n ih=>rw[sumN,sumN,ih (fun i hi=>h i (by omega)),h n (by omega)]
theorem sumN_add (n:Nat) (f g:Nat->F):sumN n (fun i=>f i+g i)=sumN n f+sumN n g:=by
 induction n with
 | zero=>exact (add_zero _).symm
 | succ n ih=>simp only[sumN,ih,add_assoc,add_left_comm]
theorem sumN_mul (n:Nat) (c:F) (f:Nat->F):sumN n (fun i=>c*f i)=c*sumN n f:=by
 induction n with
 | zero=>exact (mul_zero c).symm
 | succ n ih=>simp only[sumN,ih,mul_add]
theorem sumN_zero {n:Nat} {f:Nat->F} (h:∀ i,i<n->f i=0):sumN n f=0:=by
 induction n with
 | zero=>rfl
 | succ n ih=>rw[sumN,ih (fun i hi=>h i (by omega)),h n (by omega),add_zero]
theorem sumN_one {n:Nat} {f:Nat->F} (j:Nat) (hj:j<n) (h:∀ i,i<n->i≠j->f i=0):sumN n f=f j:=by
 induction n with
 | zero=>omega
 | succ n ih=>
  rw[sumN]
  by_cases e:j=n
  ·subst e
   rw[sumN_zero (fun i hi=>h i (by omega) (by omega)),zero_add]
  ·rw[ih (by omega) (fun i hi hne=>h i (by omega) hne),h n (by omega) (by omega),add_zero]
theorem sumN_split (a b:Nat) (f:Nat->F):sumN (a+b) f=sumN a f+sumN b (fun i=>f (a+i)):=by
 induction b with
 | zero=>exact (add_zero _).symm
 | succ b ih=>rw[<-Nat.add_assoc,sumN,ih,sumN,add_assoc]
theorem sumN_first (n:Nat) (f:Nat->F):sumN (n+1) f=f 0+sumN n (fun i=>f (i+1)):=by
 rw[Nat.add_comm,sumN_split 1 n f]
 congr 1
 ·exact zero_add _
 ·exact sumN_congr fun i _=>by rw[Nat.add_comm]
def pw (x:F):Nat->F
 | 0=>1
 | n+1=>pw x n*x
theorem sum_pow (x:F):∀ (p:List F) (n:Nat),p.length<=n->sumN n (fun j=>pw x j*co p j)=ev p x
 | [],n,_=>sumN_zero fun i _=>mul_zero _
 | c::p,0,h=>by simp at h
 | c::p,n+1,h=>by
  rw[sumN_first]
  have e1:sumN n (fun i=>pw x (i+1)*co (c::p) (i+1))=x*sumN n (fun j=>pw x j*co p j):=by
   rw[<-sumN_mul]
   refine sumN_congr fun i _=>?_
   show pw x i*x*co p i=x*(pw x i*co p i)
   rw[mul_comm (pw x i) x,mul_assoc]
  rw[e1,sum_pow x p n (by simpa using h),ev]
  show 1*c+_=_
  rw[one_mul]
def Sol (m u:Nat) (M:Nat->Nat->F) (x:Nat->F):Prop:=∀ r,r<m->sumN u (fun i=>M r i*x i)=0
def swapM (p q:Nat) (M:Nat->Nat->F):Nat->Nat->F:=fun r=>if r=p then M q else if r=q then M p else M r
def scaleM (q:Nat) (c:F) (M:Nat->Nat->F):Nat->Nat->F:=fun r i=>if r=q then c*M r i else M r i
def elimM (q c:Nat) (M:Nat->Nat->F):Nat->Nat->F:=fun r i=>if r=q then M r i else M r i+M r c*M q i
theorem swap_sol {m u p q:Nat} (hp:p<m) (hq:q<m) (M:Nat->Nat->F) (x:Nat->F):Sol m u (swapM p q M) x↔Sol m u M x:=by
 constructor
 ·intro h r hr
  by_cases h1:r=p
  ·subst h1
   have:=h q hq
   unfold swapM at this
   by_cases h2:q=r
   ·subst h2;simpa using this
   ·simpa [h2] using this
  ·by_cases h2:r=q
   ·subst h2
    have:=h p hp
    unfold swapM at this
    simpa using this
   ·have:=h r hr
    unfold swapM at this
    simpa [h1,h2] using this
 ·intro h r hr
  unfold swapM
  by_cases h1:r=p
  ·simpa [h1] using h q hq
  ·by_cases h2:r=q
   ·have hne:¬ q=p:=fun e=>h1 (h2.trans e)
    simpa [h2,hne] using h p hp
   ·simpa [h1,h2] using h r hr
theorem scale_sol {m u q:Nat} {c:F} (hc:c≠0) (M:Nat->Nat->F) (x:Nat->F):Sol m u (scaleM q c M) x↔Sol m u M x:=by
 have e:∀ r,sumN u (fun i=>scaleM q c M r i*x i)=if r=q then c*sumN u (fun i=>M r i*x i) else sumN u (fun i=>M r i*x i):=by
  intro r
  unfold scaleM
  by_cases h:r=q
  ·simp only[h,if_true]
   rw[<-sumN_mul]
   exact sumN_congr fun i _=>mul_assoc _ _ _
  ·simp only[h,if_false]
 constructor
 ·intro h r hr
  have:=h r hr
  rw[e r] at this
  split at this
  ·rcases mul_eq_zero this with h1 | h1
   ·exact absurd h1 hc
   ·exact h1
  ·exact this
 ·intro h r hr
  rw[e r,h r hr]
  split
  ·exact mul_zero c
  ·rfl
theorem elim_sol {m u q c:Nat} (hq:q<m) (M:Nat->Nat->F) (x:Nat->F):Sol m u (elimM q c M) x↔Sol m u M x:=by
 have e:∀ r,sumN u (fun i=>elimM q c M r i*x i)=if r=q then sumN u (fun i=>M r i*x i) else sumN u (fun i=>M r i*x i)+M r c*sumN u (fun i=>M q i*x i):=by
  intro r
  unfold elimM
  by_cases h:r=q
  ·simp only[h,if_true]
  ·simp only[h,if_false]
   rw[<-sumN_mul,<-sumN_add]
   exact sumN_congr fun i _=>by rw[add_mul,mul_assoc]
 constructor
 ·intro h
  have hq0:sumN u (fun i=>M q i*x i)=0:=by have:=h q hq;rw[e q,if_pos rfl] at this;exact this
  intro r hr
  have:=h r hr
  rw[e r,hq0,mul_zero,add_zero] at this
  split at this<;>exact this
 ·intro h r hr
  rw[e r,h r hr,h q hq,mul_zero,add_zero]
  split<;>rfl
structure KInv (m u c t:Nat) (place:Nat->Nat) (M0 M:Nat->Nat->F):Prop where
 sol:∀ x,Sol m u M x↔Sol m u M0 x
 t_le:t<=m
 one:∀ i,place i≠0->i<c/\place i<=t/\M (place i - 1) i=1/\∀ r,r<m->r≠place i - 1->M r i=0
 inj:∀ i j,place i≠0->place i=place j->i=j
 sur:∀ r,r<t->∃ i,i<c/\place i=r+1
 low:∀ r,t<=r->r<m->∀ i,i<c->M r i=0
section
variable {m u c t:Nat} {place:Nat->Nat} {M0 M:Nat->Nat->F}
theorem KInv.begin (m u:Nat) (M0:Nat->Nat->F):KInv m u 0 0 (fun _=>0) M0 M0:=
 ⟨fun _=>Iff.rfl,Nat.zero_le _,fun i h=>absurd rfl h,fun i _ h=>absurd rfl h,fun r h=>absurd h (by omega),fun _ _ _ i h=>absurd h (by omega)⟩
theorem KInv.skip (h:KInv m u c t place M0 M) (h0:∀ r,t<=r->r<m->M r c=0):KInv m u (c+1) t place M0 M:=by
 refine⟨h.sol,h.t_le,fun i hi=>?_,h.inj,fun r hr=>?_,fun r h1 h2 i hi=>?_⟩
 ·obtain⟨h1,h2⟩:=h.one i hi;exact⟨by omega,h2⟩
 ·obtain⟨i,h1,h2⟩:=h.sur r hr;exact⟨i,by omega,h2⟩
 ·by_cases e:i=c
  ·subst e;exact h0 r h1 h2
  ·exact h.low r h1 h2 i (by omega)
theorem KInv.pivot (h:KInv m u c t place M0 M) {p:Nat} (hp:t<=p) (hpm:p<m) (hne:M p c≠0) :
  KInv m u (c+1) (t+1) (fun i=>if i=c then t+1 else place i) M0 (elimM t c (scaleM t (Fld.inv (M p c)) (swapM p t M))):=by
 have htm:t<m:=by omega
 have hz:∀ i,place i≠0->i≠c:=fun i hi e=>by have:=(h.one i hi).1;omega
 have S_t:∀ i,swapM p t M t i=M p i:=by
  intro i;unfold swapM
  by_cases e:t=p
  ·rw[if_pos e];rw[e]
  ·rw[if_neg e,if_pos rfl]
 have S_low:∀ r,t<=r->r<m->∀ i,i<c->swapM p t M r i=0:=by
  intro r h1 h2 i hi;unfold swapM
  split
  ·exact h.low t (Nat.le_refl _) htm i hi
  ·split
   ·exact h.low p hp hpm i hi
   ·exact h.low r h1 h2 i hi
 have T_t:∀ i,scaleM t (Fld.inv (M p c)) (swapM p t M) t i=Fld.inv (M p c)*M p i:=by
  intro i;unfold scaleM;rw[if_pos rfl,S_t]
 have T_n:∀ r i,r≠t->scaleM t (Fld.inv (M p c)) (swapM p t M) r i=swapM p t M r i:=by
  intro r i hr;unfold scaleM;rw[if_neg hr]
 have T_tc:scaleM t (Fld.inv (M p c)) (swapM p t M) t c=1:=by rw[T_t,mul_comm,mul_inv _ hne]
 have T_tl:∀ i,i<c->scaleM t (Fld.inv (M p c)) (swapM p t M) t i=0:=by
  intro i hi;rw[T_t,h.low p hp hpm i hi,mul_zero]
 have E_t:∀ i,elimM t c (scaleM t (Fld.inv (M p c)) (swapM p t M)) t i=scaleM t (Fld.inv (M p c)) (swapM p t M) t i:=by
  intro i;unfold elimM;rw[if_pos rfl]
 have E_n:∀ r i,r≠t->elimM t c (scaleM t (Fld.inv (M p c)) (swapM p t M)) r i=swapM p t M r i+swapM p t M r c*scaleM t (Fld.inv (M p c)) (swapM p t M) t i:=by
  intro r i hr;unfold elimM;rw[if_neg hr,T_n r i hr,T_n r c hr]
 refine⟨fun x=>?_,by omega,fun i hi=>?_,fun i j hi hij=>?_,fun r hr=>?_,fun r h1 h2 i hi=>?_⟩
 ·rw[elim_sol htm,scale_sol (inv_ne_zero hne),swap_sol hpm htm,h.sol]
 ·by_cases e:i=c
  ·subst e
   simp only[if_true]
   refine⟨by omega,Nat.le_refl _,?_,fun r hr hne'=>?_⟩
   ·rw[Nat.add_sub_cancel,E_t,T_tc]
   ·rw[Nat.add_sub_cancel] at hne'
    rw[E_n r i hne',T_tc,mul_one,add_self]
  ·simp only[e,if_false] at hi ⊢
   obtain⟨h1,h2,h3,h4⟩:=h.one i hi
   have hr0:place i - 1≠t:=by omega
   refine⟨by omega,by omega,?_,fun r hr hne'=>?_⟩
   ·rw[E_n _ _ hr0,T_tl i h1,mul_zero,add_zero]
    unfold swapM
    rw[if_neg (by omega),if_neg (by omega)]
    exact h3
   ·by_cases hrt:r=t
    ·subst hrt;rw[E_t,T_tl i h1]
    ·rw[E_n _ _ hrt,T_tl i h1,mul_zero,add_zero]
     by_cases hl:t<=r
     ·exact S_low r hl hr i h1
     ·unfold swapM
      rw[if_neg (by omega),if_neg (by omega)]
      exact h4 r hr hne'
 ·by_cases e1:i=c<;>by_cases e2:j=c
  ·omega
  ·simp only[e1,if_true,e2,if_false] at hij
   have:=h.one j (by omega)
   omega
  ·simp only[e1,if_false,e2,if_true] at hij hi
   have:=h.one i hi
   omega
  ·simp only[e1,if_false,e2] at hij hi
   exact h.inj i j hi hij
 ·by_cases e:r=t
  ·exact⟨c,by omega,by simp[e]⟩
  ·obtain⟨i,h1,h2⟩:=h.sur r (by omega)
   have:i≠c:=by omega
   exact⟨i,by omega,by simp[this,h2]⟩
 ·have hrt:r≠t:=by omega
  rw[E_n r i hrt]
  by_cases e:i=c
  ·subst e
   rw[T_tc,mul_one,add_self]
  ·rw[S_low r (by omega) h2 i (by omega),T_tl i (by omega),mul_zero,add_zero]
def freeX (place:Nat->Nat) (M:Nat->Nat->F) (c0:Nat):Nat->F:=fun i=>if place i≠0 then M (place i - 1) c0 else if i=c0 then 1 else 0
theorem KInv.free (h:KInv m u c t place M0 M) (hend:c=u\/t=m) {c0:Nat} (h0:c0<u) (hp:place c0=0) (hcu:c<=u):Sol m u M0 (freeX place M c0):=by
 rw[<-h.sol]
 intro r hr
 by_cases hrt:r<t
 ·obtain⟨i0,h1,h2⟩:=h.sur r hrt
  obtain⟨_,_,h3,_⟩:=h.one i0 (by omega)
  have hr0:place i0 - 1=r:=by omega
  rw[hr0] at h3
  have hne:i0≠c0:=fun e=>by rw[e] at h2;omega
  have e:sumN u (fun i=>M r i*freeX place M c0 i)=sumN u (fun i=>(if i=c0 then M r c0 else 0)+(if i=i0 then M r c0 else 0)):=by
   refine sumN_congr fun i hi=>?_
   unfold freeX
   by_cases e1:i=i0
   ·subst e1
    rw[if_pos (by omega),hr0,h3,one_mul,if_neg hne,if_pos rfl,zero_add]
   ·by_cases e2:i=c0
    ·subst e2
     rw[if_neg (by omega),if_pos rfl,mul_one,if_pos rfl,if_neg e1,add_zero]
    ·have e5:((if i=c0 then M r c0 else 0)+(if i=i0 then M r c0 else 0):F)=0:=by rw[if_neg e2,if_neg e1,add_zero]
     rw[e5]
     by_cases e3:place i≠0
     ·have:=(h.one i e3).2.2.2 r hr (fun e4=>e1 (h.inj i i0 e3 (by omega)))
      rw[this,zero_mul]
     ·rw[if_neg e3,if_neg e2,mul_zero]
  rw[e,sumN_add,sumN_one c0 h0 (fun i _ hne=>if_neg hne),sumN_one i0 (by omega) (fun i _ hne=>if_neg hne),if_pos rfl,if_pos rfl,add_self]
 ·refine sumN_zero fun i hi=>?_
  rcases hend with e | e
  ·subst e;rw[h.low r (by omega) hr i hi,zero_mul]
  ·omega
theorem KInv.only (h:KInv m u c t place M0 M) (hp:∀ i,i<u->place i≠0) {x:Nat->F} (hx:Sol m u M0 x):∀ i,i<u->x i=0:=by
 intro i hi
 obtain⟨h1,h2,h3,h4⟩:=h.one i (hp i hi)
 have ht:=h.t_le
 have hz:=hp i hi
 have:=(h.sol x).2 hx (place i - 1) (by omega)
 rw[sumN_one i hi (fun j hj hne=>by
  have h5:=(h.one j (hp j hj)).2.2.2 (place i - 1) (by omega) (fun e=>hne (h.inj j i (hp j hj) (by have:=hp j hj;omega)))
  rw[h5,zero_mul]),h3,one_mul] at this
 exact this
end
def eqs (e:Nat) (L:List (F×F)):Nat->Nat->F:=fun r i=>
 match L[r]? with
 | some a=>if i<e+1 then a.2*pw a.1 i else pw a.1 (i - (e+1))
 | none=>0
theorem eqs_sum {e k:Nat} {L:List (F×F)} {r:Nat} {a:F×F} (hr:L[r]?=some a) (v g:List F) (hv:v.length<=e+1) (hg:g.length<=k+e) (x:Nat->F) (h1:∀ i,i<e+1->x i=co v i) (h2:∀ i,x (e+1+i)=co g i) :
  sumN (e+1+(k+e)) (fun i=>eqs e L r i*x i)=a.2*ev v a.1+ev g a.1:=by
 rw[sumN_split]
 congr 1
 ·rw[<-sum_pow a.1 v (e+1) hv,<-sumN_mul]
  refine sumN_congr fun i hi=>?_
  unfold eqs
  rw[hr,h1 i hi]
  simp only[hi,if_true]
  exact mul_assoc _ _ _
 ·rw[<-sum_pow a.1 g (k+e) hg]
  refine sumN_congr fun i hi=>?_
  unfold eqs
  rw[hr,h2 i]
  have:¬ e+1+i<e+1:=by omega
  simp only[this,if_false,Nat.add_sub_cancel_left]
variable [DecidableEq F]
theorem Key.of_eqs {e k:Nat} {L:List (F×F)} (hn:(L.map (·.1)).Nodup) (hk:k+2*e<=L.length) {s:List F} (hs:s.length=e+1+(k+e)) (hsol:Sol L.length (e+1+(k+e)) (eqs e L) (co s)) (hne:∃ i,co s i≠0) :
  Key e k (k+e) L (s.drop (e+1)) (trimP (s.take (e+1))):=by
 have ht:(s.take (e+1)).length=e+1:=by rw[List.length_take];omega
 have hd:(s.drop (e+1)).length=k+e:=by rw[List.length_drop];omega
 have co_take:∀ i,i<e+1->co s i=co (s.take (e+1)) i:=by
  intro i hi
  rw[co_get (p:=s) (by omega),co_get (by omega),List.getElem_take]
 have co_drop:∀ i,co s (e+1+i)=co (s.drop (e+1)) i:=by
  intro i
  rcases Nat.lt_or_ge i (k+e) with h | h
  ·rw[co_get (p:=s) (by omega),co_get (by omega),List.getElem_drop]
  ·rw[co_ge (by omega),co_ge (by omega)]
 have hat:∀ a∈L,ev (s.drop (e+1)) a.1=ev (trimP (s.take (e+1))) a.1*a.2:=by
  intro a ha
  obtain⟨r,hr⟩:=List.mem_iff_getElem?.1 ha
  have hlt:r<L.length:=(List.getElem?_eq_some_iff.1 hr).1
  have:=hsol r hlt
  rw[eqs_sum hr _ _ (Nat.le_of_eq ht) (Nat.le_of_eq hd) (co s) co_take co_drop,add_comm,add_eq_zero] at this
  rw[ev_trimP,this,mul_comm]
 refine⟨hn,hk,by omega,hat,trimP_trd _,?_,Nat.le_trans (trimP_le _) (Nat.le_of_eq ht),Nat.le_of_eq hd⟩
 rcases Nat.eq_zero_or_pos (trimP (s.take (e+1))).length with h0 | h0
 ·exfalso
  have hnil:=List.eq_nil_of_length_eq_zero h0
  have hz:=roots (L.map (·.1)) (s.drop (e+1)) hn (by
   intro x hx
   obtain⟨a,ha,rfl⟩:=List.mem_map.1 hx
   rw[hat a ha,hnil]
   exact zero_mul _) (by rw[List.length_map];omega)
  obtain⟨i,hi⟩:=hne
  rcases Nat.lt_or_ge i (e+1) with h | h
  ·rw[co_take i h,<-trimP_eq,hnil] at hi
   exact hi rfl
  ·have:=co_drop (i - (e+1))
   rw[hz,Nat.add_sub_cancel' h] at this
   exact hi this
 ·exact h0
theorem Near.eqs {e k:Nat} {L:List (F×F)} {c:List F} (hc:Near e k L c):∃ x:Nat->F,Sol L.length (e+1+(k+e)) (eqs e L) x/\∃ i,i<e+1+(k+e)/\x i≠0:=by
 let W:=(miss L c).map (·.1)
 have hW:W.length<=e:=by simp only[W,List.length_map];exact hc.2
 have hlv:=length_van W
 refine⟨fun i=>if i<e+1 then co (van W) i else co (mulP c (van W)) (i - (e+1)),fun r hr=>?_,W.length,by omega,?_⟩
 ·have ha:L[r]?=some L[r]:=List.getElem?_eq_getElem hr
  have hl:=length_mulP' c (van W) (by omega)
  have hc1:=hc.1
  rw[eqs_sum ha (van W) (mulP c (van W)) (by omega) (by omega) _ (fun i hi=>by simp only[hi,if_true]) (fun i=>by simp[show ¬ e+1+i<e+1 by omega])]
  rw[ev_mulP]
  by_cases hm:ev c L[r].1=L[r].2
  ·rw[hm,add_self]
  ·have:ev (van W) L[r].1=0:=(ev_van W _).2 (List.mem_map.2 ⟨L[r],List.mem_filter.2 ⟨List.getElem_mem hr,by simp[hm]⟩,rfl⟩)
   rw[this,mul_zero,mul_zero,add_zero]
 ·have:W.length<e+1:=by omega
  simp only[this,if_true]
  rw[van_top]
  exact one_ne
end Go.Proofs.YtmgljaecmchgaaaGreat.Gf
