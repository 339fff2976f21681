/- XGf, XNear, XGf8: merged by tools/merge.py. -/
set_option linter.unusedVariables false
set_option linter.unusedSimpArgs false
set_option linter.unusedSectionVars false

namespace Go.Proofs.YtmgljaecmchgaaaGreat.Gf
class Fld (F:Type) extends Add F,Mul F,Zero F,One F where
 inv:F->F
 add_assoc:∀ a b c:F,(a+b)+c=a+(b+c)
 add_comm:∀ a b:F,a+b=b+a
 add_zero:∀ a:F,a+0=a
 add_self:∀ a:F,a+a=0
 mul_assoc:∀ a b c:F,(a*b)*c=a*(b*c)
 mul_comm:∀ a b:F,a*b=b*a
 mul_one:∀ a:F,a*1=a
 mul_add:∀ a b c:F,a*(b+c)=a*b+a*c
 one_ne:(1:F)≠0
 mul_inv:∀ a:F,a≠0->a*inv a=1
open Fld
variable {F:Type} [Fld F]
theorem zero_add (a:F):0+a=a:=by rw[add_comm,add_zero]
theorem mul_zero (a:F):a*0=0:=by
 have h:a*0=a*0+a*0:=by rw[<-mul_add,add_zero]
 rw[h,add_self]
theorem zero_mul (a:F):0*a=0:=by rw[mul_comm,mul_zero]
theorem one_mul (a:F):1*a=a:=by rw[mul_comm,mul_one]
theorem add_mul (a b c:F):(a+b)*c=a*c+b*c:=by rw[mul_comm,mul_add,mul_comm c a,mul_comm c b]
theorem add_left_comm (a b c:F):a+(b+c)=b+(a+c):=by rw[<-add_assoc,add_comm a b,add_assoc]
theorem mul_left_comm (a b c:F):a*(b*c)=b*(a*c):=by rw[<-mul_assoc,mul_comm a b,mul_assoc]
theorem add_add_self (a b:F):a+(a+b)=b:=by rw[<-add_assoc,add_self,zero_add]
theorem add_eq_zero {a b:F}:a+b=0↔a=b:=by
 constructor
 ·intro h
  have:a+(a+b)=a:=by rw[h,add_zero]
  rw[add_add_self] at this
  exact this.symm
 ·rintro rfl;exact add_self _
theorem mul_eq_zero {a b:F} (h:a*b=0):a=0\/b=0:=by
 by_cases ha:a=0
 ·exact .inl ha
 ·refine .inr ?_
  have:Fld.inv a*(a*b)=0:=by rw[h,mul_zero]
  rwa [<-mul_assoc,mul_comm (Fld.inv a),mul_inv a ha,one_mul] at this
theorem mul_left_inj {a b c:F} (ha:a≠0) (h:a*b=a*c):b=c:=by
 have:a*(b+c)=0:=by rw[mul_add,h,add_self]
 rcases mul_eq_zero this with h | h
 ·exact absurd h ha
 ·exact add_eq_zero.1 h
theorem mul_ne_zero {a b:F} (ha:a≠0) (hb:b≠0):a*b≠0:=fun h=>(mul_eq_zero h).elim ha hb
theorem inv_ne_zero {a:F} (ha:a≠0):Fld.inv a≠0:=by
 intro h
 have:=mul_inv a ha
 rw[h,mul_zero] at this
 exact one_ne this.symm
theorem inv_unique {a b:F} (h:a*b=1):b=Fld.inv a:=by
 have ha:a≠0:=by rintro rfl;rw[zero_mul] at h;exact one_ne h.symm
 exact mul_left_inj ha (by rw[h,mul_inv a ha])
def ev:List F->F->F
 | [],_=>0
 | c::p,x=>c+x*ev p x
def co:List F->Nat->F
 | [],_=>0
 | c::_,0=>c
 | _::p,i+1=>co p i
def Peq (p q:List F):Prop:=∀ i,co p i=co q i
theorem co_ge {p:List F}:∀ {i:Nat},p.length<=i->co p i=0:=by
 induction p with
 | nil=>intro i _;rfl
 | cons c p ih=>
  intro i h
  cases i with
  | zero=>simp at h
  | succ i=>exact ih (by simpa using h)
theorem co_get {p:List F}:∀ {i:Nat} (h:i<p.length),co p i=p[i]:=by
 induction p with
 | nil=>intro i h;simp at h
 | cons c p ih=>
  intro i h
  cases i with
  | zero=>rfl
  | succ i=>exact ih (by simpa using h)
theorem Peq.refl (p:List F):Peq p p:=fun _=>rfl
theorem Peq.symm {p q:List F} (h:Peq p q):Peq q p:=fun i=>(h i).symm
theorem Peq.trans {p q r:List F} (h:Peq p q) (h':Peq q r):Peq p r:=fun i=>(h i).trans (h' i)
theorem ev_zero {p:List F} (h:∀ i,co p i=0) (x:F):ev p x=0:=by
 induction p with
 | nil=>rfl
 | cons c p ih=>
  have h0:=h 0
  change c=0 at h0
  rw[ev,h0,ih (fun i=>h (i+1)),mul_zero,add_zero]
theorem ev_congr:∀ {p q:List F},Peq p q->∀ x,ev p x=ev q x
 | [],q,h,x=>(ev_zero (fun i=>(h i).symm) x).symm
 | p,[],h,x=>by
  rw[ev_zero (p:=p) (fun i=>h i) x];rfl
 | a::p,b::q,h,x=>by
  have h0:a=b:=h 0
  rw[ev,ev,h0,ev_congr (p:=p) (q:=q) (fun i=>h (i+1)) x]
def addP:List F->List F->List F
 | [],q=>q
 | a::p,[]=>a::p
 | a::p,b::q=>(a+b)::addP p q
theorem co_addP:∀ (p q:List F) (i:Nat),co (addP p q) i=co p i+co q i
 | [],q,i=>by rw[addP];show _=0+_;rw[zero_add]
 | a::p,[],i=>by rw[addP];show _=_+0;rw[add_zero]
 | a::p,b::q,0=>rfl
 | a::p,b::q,i+1=>co_addP p q i
theorem length_addP:∀ (p q:List F),(addP p q).length=max p.length q.length
 | [],q=>by simp[addP]
 | a::p,[]=>by simp[addP]
 | a::p,b::q=>by simp[addP,length_addP p q]
theorem ev_addP:∀ (p q:List F) (x:F),ev (addP p q) x=ev p x+ev q x
 | [],q,x=>by rw[addP];show _=0+_;rw[zero_add]
 | a::p,[],x=>by rw[addP];show _=_+0;rw[add_zero]
 | a::p,b::q,x=>by
  rw[addP,ev,ev,ev,ev_addP p q x,mul_add]
  simp only[add_assoc,add_comm,add_left_comm]
def scP (c:F) (p:List F):List F:=p.map fun a=>c*a
theorem length_scP (c:F) (p:List F):(scP c p).length=p.length:=by simp[scP]
theorem co_scP (c:F):∀ (p:List F) (i:Nat),co (scP c p) i=c*co p i
 | [],i=>(mul_zero c).symm
 | a::p,0=>rfl
 | a::p,i+1=>co_scP c p i
theorem ev_scP (c:F):∀ (p:List F) (x:F),ev (scP c p) x=c*ev p x
 | [],x=>(mul_zero c).symm
 | a::p,x=>by
  show c*a+x*ev (scP c p) x=c*(a+x*ev p x)
  rw[ev_scP c p x,mul_add,mul_left_comm]
def mulP:List F->List F->List F
 | [],_=>[]
 | a::p,q=>addP (scP a q) (0::mulP p q)
theorem ev_mulP:∀ (p q:List F) (x:F),ev (mulP p q) x=ev p x*ev q x
 | [],q,x=>(zero_mul _).symm
 | a::p,q,x=>by
  rw[mulP,ev_addP,ev_scP,ev,ev,zero_add,ev_mulP p q x,add_mul,mul_assoc]
theorem length_mulP:∀ (p q:List F),(mulP p q).length<=p.length+q.length
 | [],q=>by simp[mulP]
 | a::p,q=>by
  have:=length_mulP p q
  simp[mulP,length_addP,length_scP];omega
theorem length_mulP':∀ (p q:List F),0<q.length->(mulP p q).length<=p.length+q.length - 1
 | [],q,h=>by simp[mulP]
 | a::p,q,h=>by
  have:=length_mulP' p q h
  simp[mulP,length_addP,length_scP];omega
theorem co_mulP_cons (a:F) (p q:List F) (i:Nat):co (mulP (a::p) q) i=a*co q i+co (0::mulP p q) i:=by
 rw[mulP,co_addP,co_scP]
theorem mulP_congr_left:∀ {p p':List F} (q:List F),Peq p p'->Peq (mulP p q) (mulP p' q)
 | [],[],q,_=>Peq.refl _
 | [],b::p',q,h=>fun i=>by
  have h0:(0:F)=b:=h 0
  rw[co_mulP_cons,<-h0,zero_mul,zero_add]
  have ih:=mulP_congr_left (p:=[]) (p':=p') q (fun j=>h (j+1))
  cases i with
  | zero=>rfl
  | succ i=>exact ih i
 | a::p,[],q,h=>fun i=>by
  have h0:a=(0:F):=h 0
  rw[co_mulP_cons,h0,zero_mul,zero_add]
  have ih:=mulP_congr_left (p:=p) (p':=[]) q (fun j=>h (j+1))
  cases i with
  | zero=>rfl
  | succ i=>exact ih i
 | a::p,b::p',q,h=>fun i=>by
  have h0:a=b:=h 0
  rw[co_mulP_cons,co_mulP_cons,h0]
  have ih:=mulP_congr_left (p:=p) (p':=p') q (fun j=>h (j+1))
  cases i with
  | zero=>rfl
  | succ i=>show _+co (mulP p q) i=_+co (mulP p' q) i;rw[ih i]
theorem mulP_congr_right:∀ (p:List F) {q q':List F},Peq q q'->Peq (mulP p q) (mulP p q')
 | [],_,_,_=>Peq.refl _
 | a::p,q,q',h=>fun i=>by
  rw[co_mulP_cons,co_mulP_cons,h i]
  have ih:=mulP_congr_right p h
  cases i with
  | zero=>rfl
  | succ i=>show _+co (mulP p q) i=_+co (mulP p q') i;rw[ih i]
def upP (n:Nat) (p:List F):List F:=List.replicate n 0++p
theorem co_upP (n:Nat) (p:List F) (i:Nat):co (upP n p) i=if i<n then 0 else co p (i - n):=by
 induction n generalizing i with
 | zero=>simp[upP]
 | succ n ih=>
  have e:upP (n+1) p=0::upP n p:=by simp[upP,List.replicate_succ]
  rw[e]
  cases i with
  | zero=>simp[co]
  | succ i=>
   show co (upP n p) i=_
   rw[ih i]
   simp only[Nat.add_lt_add_iff_right,Nat.add_sub_add_right]
theorem length_upP (n:Nat) (p:List F):(upP n p).length=n+p.length:=by simp[upP]
theorem co_append_one (p:List F) (a:F) (i:Nat):co (p++[a]) i=if i=p.length then a else co p i:=by
 induction p generalizing i with
 | nil=>cases i with
  | zero=>simp[co]
  | succ i=>simp[co]
 | cons c p ih=>cases i with
  | zero=>simp[co]
  | succ i=>show co (p++[a]) i=_;rw[ih i];simp[co]
theorem mulP_snoc (p:List F) (a:F) (q:List F):Peq (mulP (p++[a]) q) (addP (mulP p q) (upP p.length (scP a q))):=by
 induction p with
 | nil=>
  intro i
  show co (mulP [a] q) i=_
  rw[co_mulP_cons,co_addP,co_upP]
  simp only[List.length_nil,Nat.not_lt_zero,if_false,Nat.sub_zero,co_scP]
  cases i with
  | zero=>show _+0=0+_;rw[add_zero,zero_add]
  | succ i=>show _+0=0+_;rw[add_zero,zero_add]
 | cons c p ih=>
  intro i
  rw[List.cons_append,co_mulP_cons,co_addP,co_mulP_cons,add_assoc]
  congr 1
  cases i with
  | zero=>
   show (0:F)=0+_
   rw[co_upP];simp[zero_add]
  | succ i=>
   show co (mulP (p++[a]) q) i=co (mulP p q) i+_
   rw[ih i,co_addP,co_upP,co_upP]
   simp
theorem mulP_addP_left:∀ (p p' q:List F),Peq (mulP (addP p p') q) (addP (mulP p q) (mulP p' q))
 | [],p',q=>fun i=>by rw[addP,co_addP];show _=0+_;rw[zero_add]
 | a::p,[],q=>fun i=>by rw[addP,co_addP];show _=_+0;rw[add_zero]
 | a::p,b::p',q=>fun i=>by
  rw[addP,co_mulP_cons,co_addP,co_mulP_cons,co_mulP_cons,add_mul]
  cases i with
  | zero=>
   show _+(0:F)=(_+0)+(_+0)
   simp only[add_zero]
  | succ i=>
   show _+co (mulP (addP p p') q) i=(_+co (mulP p q) i)+(_+co (mulP p' q) i)
   rw[mulP_addP_left p p' q i,co_addP]
   simp only[add_assoc,add_comm,add_left_comm]
theorem co_mulP_nil:∀ (p:List F) (i:Nat),co (mulP p []) i=0
 | [],_=>rfl
 | a::p,i=>by
  rw[co_mulP_cons]
  cases i with
  | zero=>show a*0+0=(0:F);rw[mul_zero,add_zero]
  | succ i=>show a*0+co (mulP p []) i=(0:F);rw[mul_zero,co_mulP_nil p i,add_zero]
theorem co_mulP_top:∀ (p q:List F) (m n:Nat),p.length=m+1->q.length=n+1->co (mulP p q) (m+n)=co p m*co q n
 | [],q,m,n,hp,hq=>by simp at hp
 | [a],q,m,n,hp,hq=>by
  obtain rfl:m=0:=by simpa using hp.symm
  rw[Nat.zero_add,co_mulP_cons]
  have:co (0::mulP [] q) n=0:=by cases n<;>rfl
  rw[this,add_zero];rfl
 | a::b::p,q,m,n,hp,hq=>by
  obtain⟨m,rfl⟩:∃ k,m=k+1:=⟨m - 1,by simp at hp;omega⟩
  have hl:(b::p).length=m+1:=by simpa using hp
  rw[co_mulP_cons,Nat.add_right_comm]
  show a*co q (m+n+1)+co (mulP (b::p) q) (m+n)=_
  rw[co_mulP_top (b::p) q m n hl hq,co_ge (p:=q) (by omega),mul_zero,zero_add]
  rfl
def sd (a:F):List F->List F
 | []=>[]
 | [_]=>[]
 | _::b::p=>ev (b::p) a::sd a (b::p)
theorem length_sd (a:F):∀ (c:F) (p:List F),(sd a (c::p)).length=p.length
 | _,[]=>rfl
 | _,b::p=>by simp[sd,length_sd a b p]
theorem ev_sd (a x:F):∀ (p:List F),ev p x=(x+a)*ev (sd a p) x+ev p a
 | []=>by show (0:F)=(x+a)*0+0;rw[mul_zero,add_zero]
 | [c]=>by
  show c+x*0=(x+a)*0+(c+a*0)
  rw[mul_zero,mul_zero,mul_zero,zero_add]
 | c::b::p=>by
  have ih:=ev_sd a x (b::p)
  show c+x*ev (b::p) x=(x+a)*(ev (b::p) a+x*ev (sd a (b::p)) x)+(c+a*ev (b::p) a)
  rw[ih]
  generalize ev (b::p) a=r
  generalize ev (sd a (b::p)) x=q
  simp only[mul_add,add_mul]
  simp only[mul_assoc,mul_comm,mul_left_comm,add_assoc,add_comm,add_left_comm,add_add_self,add_self,add_zero]
theorem sd_zero (a:F):∀ (c:F) (p:List F),(∀ i,co (sd a (c::p)) i=0)->∀ i,co p i=0
 | _,[],_=>fun _=>rfl
 | _,b::p,h=>by
  have h1:=sd_zero a b p (fun i=>h (i+1))
  have h0:ev (b::p) a=0:=h 0
  rw[ev,ev_zero h1,mul_zero,add_zero] at h0
  intro i
  cases i with
  | zero=>exact h0
  | succ i=>exact h1 i
theorem roots:∀ (L:List F) (p:List F),L.Nodup->(∀ a∈L,ev p a=0)->p.length<=L.length->∀ i,co p i=0
 | _,[],_,_,_=>fun _=>rfl
 | [],_::_,_,_,hl=>by simp at hl
 | a::L,c::p,hn,hz,hl=>by
  have hq:=roots L (sd a (c::p)) (List.nodup_cons.1 hn).2 (by
   intro b hb
   have h1:=ev_sd a b (c::p)
   rw[hz b (List.mem_cons_of_mem _ hb),hz a (List.mem_cons_self ..),add_zero] at h1
   rcases mul_eq_zero h1.symm with h | h
   ·rw[add_eq_zero] at h
    subst h
    exact absurd hb (List.nodup_cons.1 hn).1
   ·exact h) (by rw[length_sd];simpa using hl)
  have hp:=sd_zero a c p hq
  have h0:=hz a (List.mem_cons_self ..)
  rw[ev,ev_zero hp,mul_zero,add_zero] at h0
  intro i
  cases i with
  | zero=>exact h0
  | succ i=>exact hp i
theorem agree (L:List F) (p q:List F) (hn:L.Nodup) (h:∀ a∈L,ev p a=ev q a) (hp:p.length<=L.length) (hq:q.length<=L.length):Peq p q:=by
 have:=roots L (addP p q) hn (fun a ha=>by rw[ev_addP,h a ha,add_self]) (by rw[length_addP];omega)
 intro i
 have hi:=this i
 rw[co_addP,add_eq_zero] at hi
 exact hi
def van:List F->List F
 | []=>[1]
 | a::L=>mulP [a,1] (van L)
theorem ev_van:∀ (L:List F) (x:F),ev (van L) x=0↔x∈L
 | [],x=>by
  show (1:F)+x*0=0↔_
  rw[mul_zero,add_zero]
  simp[one_ne]
 | a::L,x=>by
  have e:ev [a,1] x=a+x:=by show a+x*(1+x*0)=_;rw[mul_zero,add_zero,mul_one]
  rw[van,ev_mulP,e]
  constructor
  ·intro h
   rcases mul_eq_zero h with h | h
   ·rw[add_eq_zero] at h;subst h;exact List.mem_cons_self ..
   ·exact List.mem_cons_of_mem _ ((ev_van L x).1 h)
  ·intro h
   rcases List.mem_cons.1 h with h | h
   ·subst h;rw[add_self,zero_mul]
   ·rw[(ev_van L x).2 h,mul_zero]
theorem length_van:∀ (L:List F),(van L).length=L.length+1
 | []=>rfl
 | a::L=>by
  have h:=length_van L
  simp[van,mulP,length_addP,length_scP,h]
theorem van_top:∀ (L:List F),co (van L) L.length=1
 | []=>rfl
 | a::L=>by
  have:=co_mulP_top [a,1] (van L) 1 L.length rfl (length_van L)
  rw[van_top L,mul_one] at this
  rw[van,List.length_cons,Nat.add_comm]
  exact this
end Go.Proofs.YtmgljaecmchgaaaGreat.Gf
namespace Go.Proofs.YtmgljaecmchgaaaGreat.Gf
open Fld
variable {F:Type} [Fld F]
def Trd (p:List F):Prop:=0<p.length->co p (p.length - 1)≠0
theorem Trd.nil:Trd ([]:List F):=fun h=>absurd h (by simp)
theorem Trd.unique {p q:List F} (h:Peq p q) (hp:Trd p) (hq:Trd q):p=q:=by
 have hl:p.length=q.length:=by
  rcases Nat.lt_trichotomy p.length q.length with h1 | h1 | h1
  ·have:=hq (by omega)
   rw[<-h,co_ge (by omega)] at this
   exact absurd rfl this
  ·exact h1
  ·have:=hp (by omega)
   rw[h,co_ge (by omega)] at this
   exact absurd rfl this
 apply List.ext_getElem hl
 intro i h1 h2
 rw[<-co_get h1,<-co_get h2,h i]
theorem Trd.le {p q:List F} (h:Peq p q) (hp:Trd p):p.length<=q.length:=by
 rcases Nat.lt_or_ge q.length p.length with h1 | h1
 ·have:=hp (by omega)
  rw[h,co_ge (by omega)] at this
  exact absurd rfl this
 ·exact h1
theorem Trd.eq_nil {p:List F} (hp:Trd p) (h:∀ i,co p i=0):p=[]:=Trd.unique (q:=[]) h hp Trd.nil
variable [DecidableEq F]
def trimP (p:List F):List F:=(p.reverse.dropWhile (fun c=>decide (c=0))).reverse
theorem trimP_snoc (p:List F) (c:F):trimP (p++[c])=if c=0 then trimP p else p++[c]:=by
 unfold trimP
 rw[List.reverse_append]
 simp only[List.reverse_cons,List.reverse_nil,List.nil_append,List.singleton_append,List.dropWhile_cons]
 by_cases h:c=0<;>simp[h]
theorem snoc_induct {motive:List F->Prop} (h0:motive []) (h1:∀ p c,motive p->motive (p++[c])) (p:List F):motive p:=by
 have:∀ n (p:List F),p.length=n->motive p:=by
  intro n
  induction n with
  | zero=>intro p hp;rw[List.eq_nil_of_length_eq_zero hp];exact h0
  | succ n ih=>
   intro p hp
   have hne:p≠[]:=by rintro rfl;simp at hp
   rw[<-List.dropLast_concat_getLast hne]
   exact h1 _ _ (ih _ (by simp[hp]))
 exact this _ p rfl
theorem trimP_eq (p:List F):Peq (trimP p) p:=by
 induction p using snoc_induct with
 | h0=>exact Peq.refl _
 | h1 p c ih=>
  rw[trimP_snoc]
  split
  ·rename_i hc
   intro i
   rw[ih i,co_append_one]
   split
   ·rename_i hi;rw[co_ge (by omega),hc]
   ·rfl
  ·exact Peq.refl _
theorem trimP_trd (p:List F):Trd (trimP p):=by
 induction p using snoc_induct with
 | h0=>exact Trd.nil
 | h1 p c ih=>
  rw[trimP_snoc]
  split
  ·exact ih
  ·rename_i hc
   intro _
   simp only[List.length_append,List.length_singleton,Nat.add_sub_cancel]
   rw[co_append_one,if_pos rfl]
   exact hc
theorem trimP_of_trd {p q:List F} (hp:Trd p) (h:Peq p q):p=trimP q:=Trd.unique (h.trans (trimP_eq q).symm) hp (trimP_trd q)
theorem trimP_le (p:List F):(trimP p).length<=p.length:=Trd.le (trimP_eq p) (trimP_trd p)
theorem ev_trimP (p:List F) (x:F):ev (trimP p) x=ev p x:=ev_congr (trimP_eq p) x
theorem length_trim_mulP {p q:List F} (hp:Trd p) (hq:Trd q) (h1:0<p.length) (h2:0<q.length):(trimP (mulP p q)).length=p.length+q.length - 1:=by
 have hle:(trimP (mulP p q)).length<=p.length+q.length - 1:=Nat.le_trans (trimP_le _) (length_mulP' _ _ h2)
 have htop:=co_mulP_top p q (p.length - 1) (q.length - 1) (by omega) (by omega)
 have hne:=mul_ne_zero (hp h1) (hq h2)
 rw[<-htop,<-trimP_eq] at hne
 rcases Nat.lt_or_ge (trimP (mulP p q)).length (p.length+q.length - 1) with h | h
 ·rw[co_ge (by omega)] at hne
  exact absurd rfl hne
 ·omega
theorem mulP_zero {p q:List F} (hp:Trd p) (h1:0<p.length) (h:∀ i,co (mulP p q) i=0):∀ i,co q i=0:=by
 have h2:∀ i,co (mulP p (trimP q)) i=0:=fun i=>(mulP_congr_right p (trimP_eq q) i).trans (h i)
 rcases Nat.eq_zero_or_pos (trimP q).length with h0 | h0
 ·intro i
  rw[<-trimP_eq q i,List.eq_nil_of_length_eq_zero h0];rfl
 ·have htop:=co_mulP_top p (trimP q) (p.length - 1) ((trimP q).length - 1) (by omega) (by omega)
  rw[h2] at htop
  exact absurd htop.symm (mul_ne_zero (hp h1) (trimP_trd q h0))
def miss (L:List (F×F)) (p:List F):List (F×F):=L.filter fun a=>decide (ev p a.1≠a.2)
def Near (e k:Nat) (L:List (F×F)) (p:List F):Prop:=p.length<=k/\(miss L p).length<=e
theorem count_two (L:List (F×F)) (p q:List F):L.length<=(L.filter fun a=>decide (ev p a.1=a.2/\ev q a.1=a.2)).length+(miss L p).length+(miss L q).length:=by
 unfold miss
 induction L with
 | nil=>simp
 | cons a L ih=>
  simp only[List.filter_cons]
  by_cases h1:ev p a.1=a.2<;>by_cases h2:ev q a.1=a.2<;>simp[h1,h2] at ih ⊢<;>omega
theorem nodup_filter {L:List (F×F)} (hn:(L.map (·.1)).Nodup) (f:F×F->Bool):((L.filter f).map (·.1)).Nodup:=by
 induction L with
 | nil=>simp
 | cons a L ih=>
  rw[List.map_cons,List.nodup_cons] at hn
  rw[List.filter_cons]
  split
  ·rw[List.map_cons,List.nodup_cons]
   refine⟨?_,ih hn.2⟩
   intro h
   obtain⟨b,hb,e⟩:=List.mem_map.1 h
   exact hn.1 (e▸List.mem_map_of_mem (List.mem_filter.1 hb).1)
  ·exact ih hn.2
theorem Near.unique {e k:Nat} {L:List (F×F)} {p q:List F} (hn:(L.map (·.1)).Nodup) (hk:k+2*e<=L.length) (hp:Near e k L p) (hq:Near e k L q):Peq p q:=by
 have hc:=count_two L p q
 have h1:=hp.2
 have h2:=hq.2
 refine agree ((L.filter fun a=>decide (ev p a.1=a.2/\ev q a.1=a.2)).map (·.1)) p q (nodup_filter hn _) ?_ ?_ ?_
 ·intro x hx
  obtain⟨a,ha,rfl⟩:=List.mem_map.1 hx
  have:=(List.mem_filter.1 ha).2
  simp only[decide_eq_true_eq] at this
  rw[this.1,this.2]
 ·rw[List.length_map];have:=hp.1;omega
 ·rw[List.length_map];have:=hq.1;omega
section
variable {e k B:Nat} {L:List (F×F)} {g v:List F}
structure Key (e k B:Nat) (L:List (F×F)) (g v:List F):Prop where
 nodup:(L.map (·.1)).Nodup
 big:k+2*e<=L.length
 sum:B+e<=L.length
 at_:∀ a∈L,ev g a.1=ev v a.1*a.2
 trd:Trd v
 pos:0<v.length
 vle:v.length<=e+1
 gle:g.length<=B
theorem Key.sound (h:Key e k B L g v) {p:List F} (hp:p.length<=k) (he:Peq g (mulP p v)):Near e k L p:=by
 refine⟨hp,?_⟩
 rcases Nat.lt_or_ge e (miss L p).length with hlt | hge
 ·exfalso
  have hz:=roots ((miss L p).map (·.1)) v (nodup_filter h.nodup _) (by
   intro x hx
   obtain⟨a,ha,rfl⟩:=List.mem_map.1 hx
   obtain⟨haL,hne⟩:=List.mem_filter.1 ha
   simp only[decide_eq_true_eq] at hne
   have h1:=h.at_ a haL
   rw[ev_congr he,ev_mulP,mul_comm] at h1
   have:ev v a.1*(ev p a.1+a.2)=0:=by rw[mul_add,h1,add_self]
   rcases mul_eq_zero this with h2 | h2
   ·exact h2
   ·exact absurd (add_eq_zero.1 h2) hne) (by rw[List.length_map];have:=h.vle;omega)
  exact h.trd h.pos (hz _)
 ·exact hge
theorem Key.complete (h:Key e k B L g v) {c:List F} (hc:Near e k L c):Peq g (mulP c v):=by
 rcases Nat.eq_zero_or_pos (addP g (mulP c v)).length with h0 | h0
 ·intro i
  have:co (addP g (mulP c v)) i=0:=co_ge (by omega)
  rw[co_addP,add_eq_zero] at this
  exact this
 let W:=(miss L c).map (·.1)
 have hW:W.length<=e:=by simp only[W,List.length_map];exact hc.2
 have hz:=roots (L.map (·.1)) (mulP (van W) (addP g (mulP c v))) h.nodup (by
  intro x hx
  obtain⟨a,ha,rfl⟩:=List.mem_map.1 hx
  rw[ev_mulP,ev_addP,ev_mulP,h.at_ a ha]
  by_cases hm:ev c a.1=a.2
  ·rw[hm,mul_comm a.2,add_self,mul_zero]
  ·have:ev (van W) a.1=0:=(ev_van W a.1).2 (List.mem_map.2 ⟨a,List.mem_filter.2 ⟨ha,by simp[hm]⟩,rfl⟩)
   rw[this,zero_mul]) (by
  have h1:=length_van W
  have h2:=length_mulP' c v h.pos
  have h3:=h.vle
  have h4:=h.gle
  have h5:=hc.1
  have h6:=h.big
  have h7:=h.sum
  have h8:(addP g (mulP c v)).length<=max B (k+e):=by rw[length_addP];omega
  have h9:=length_mulP' (van W) (addP g (mulP c v)) h0
  rw[List.length_map];omega)
 have hE:Trd (van W):=by
  intro _
  rw[length_van,Nat.add_sub_cancel,van_top]
  exact one_ne
 have hf:=mulP_zero hE (by rw[length_van];omega) hz
 intro i
 have:=hf i
 rw[co_addP,add_eq_zero] at this
 exact this
theorem quot_unique {s r c:List F} (hv:Trd v) (h0:0<v.length) (hr:r.length<v.length) (h1:Peq g (addP (mulP s v) r)) (h2:Peq g (mulP c v)):Peq s c/\∀ i,co r i=0:=by
 have hd:∀ i,co (mulP (addP s c) v) i=co r i:=by
  intro i
  have e1:co (mulP (addP s c) v) i=co (mulP s v) i+co (mulP c v) i:=by
   rw[<-co_addP]
   exact mulP_addP_left s c v i
  have e2:=(h1 i).symm.trans (h2 i)
  rw[co_addP] at e2
  rw[e1,<-e2,add_add_self]
 have hz:∀ i,co (addP s c) i=0:=by
  have h3:∀ i,co (mulP (trimP (addP s c)) v) i=co r i:=fun i=>(mulP_congr_left v (trimP_eq _) i).trans (hd i)
  rcases Nat.eq_zero_or_pos (trimP (addP s c)).length with h4 | h4
  ·intro i
   rw[<-trimP_eq (addP s c) i,List.eq_nil_of_length_eq_zero h4];rfl
  ·have htop:=co_mulP_top (trimP (addP s c)) v ((trimP (addP s c)).length - 1) (v.length - 1) (by omega) (by omega)
   rw[h3,co_ge (by omega)] at htop
   exact absurd htop.symm (mul_ne_zero (trimP_trd _ h4) (hv h0))
 refine⟨fun i=>?_,fun i=>?_⟩
 ·have:=hz i
  rw[co_addP,add_eq_zero] at this
  exact this
 ·rw[<-hd i]
  have:Peq (mulP (addP s c) v) (mulP [] v):=mulP_congr_left v hz
  exact this i
theorem Key.tells (h:Key e k B L g v) {s r:List F} (hs:Trd s) (ht:Trd r) (hr:r.length<v.length) (h1:Peq g (addP (mulP s v) r)) :
  ((r=[]/\s.length<=k)/\Near e k L s)\/(¬ (r=[]/\s.length<=k)/\∀ c,¬ Near e k L c):=by
 by_cases hb:r=[]/\s.length<=k
 ·refine .inl ⟨hb,h.sound hb.2 ?_⟩
  intro i
  rw[h1 i,co_addP,hb.1]
  exact add_zero _
 ·refine .inr ⟨hb,fun c hc=>hb ?_⟩
  obtain⟨e1,e2⟩:=quot_unique h.trd h.pos hr h1 (h.complete hc)
  exact⟨ht.eq_nil e2,Nat.le_trans (Trd.le e1 hs) hc.1⟩
end
structure EInv (n:Nat) (L:List (F×F)) (ag au av bg bu bv:List F):Prop where
 ag_:Trd ag
 av_:Trd av
 bg_:Trd bg
 bv_:Trd bv
 at_a:∀ a∈L,ev ag a.1=ev av a.1*a.2
 at_b:∀ a∈L,ev bg a.1=ev bv a.1*a.2
 lt:bg.length<ag.length
 sum:bv.length+ag.length=n+2
 less:av.length<bv.length
 le:ag.length<=n+1
 bu_:bu.length+ag.length<=n+2
 au_:au.length+bg.length<=n+2
theorem EInv.step {n:Nat} {L:List (F×F)} {ag au av bg bu bv s r:List F} (h:EInv n L ag au av bg bu bv) (h0:0<bg.length) (hs:Trd s) (hr:Trd r) (hl:r.length<bg.length)
  (hsl:s.length+bg.length=ag.length+1) (he:Peq ag (addP (mulP s bg) r)) :
  EInv n L bg bu bv r (trimP (addP au (trimP (mulP s bu)))) (trimP (addP av (trimP (mulP s bv)))):=by
 have hlt:=h.lt
 have hsum:=h.sum
 have hless:=h.less
 have hle:=h.le
 have hbu:=h.bu_
 have hau:=h.au_
 have hm:(trimP (mulP s bv)).length=s.length+bv.length - 1:=length_trim_mulP hs h.bv_ (by omega) (by omega)
 have hv:(trimP (addP av (trimP (mulP s bv)))).length=s.length+bv.length - 1:=by
  have hle2:(trimP (addP av (trimP (mulP s bv)))).length<=s.length+bv.length - 1:=Nat.le_trans (trimP_le _) (by rw[length_addP];omega)
  rcases Nat.lt_or_ge (trimP (addP av (trimP (mulP s bv)))).length (s.length+bv.length - 1) with h2 | h2
  ·exfalso
   have h3:co (addP av (trimP (mulP s bv))) (s.length+bv.length - 1 - 1)=0:=by rw[<-trimP_eq];exact co_ge (by omega)
   rw[co_addP,co_ge (p:=av) (by omega),zero_add] at h3
   have h4:=trimP_trd (mulP s bv) (by omega)
   rw[hm] at h4
   exact h4 h3
  ·omega
 refine⟨h.bg_,h.bv_,hr,trimP_trd _,h.at_b,?_,hl,by omega,by omega,by omega,?_,?_⟩
 ·intro a ha
  have h1:=h.at_a a ha
  have h2:=h.at_b a ha
  have h3:=ev_congr he a.1
  rw[ev_addP,ev_mulP] at h3
  rw[ev_trimP,ev_addP,ev_trimP,ev_mulP,add_mul,<-h1,h3,mul_assoc,<-h2]
  simp only[add_comm,add_left_comm,add_add_self]
 ·have h5:(trimP (mulP s bu)).length<=s.length+bu.length - 1:=by
   rcases Nat.eq_zero_or_pos bu.length with h6 | h6
   ·rw[List.eq_nil_of_length_eq_zero h6]
    have:(trimP (mulP s ([]:List F)))=[]:=by
     refine (trimP_trd _).eq_nil fun i=>?_
     rw[trimP_eq]
     have:=co_mulP_nil s i
     exact this
    rw[this];simp
   ·exact Nat.le_trans (trimP_le _) (length_mulP' _ _ h6)
  have h7:=trimP_le (addP au (trimP (mulP s bu)))
  rw[length_addP] at h7
  omega
 ·omega
end Go.Proofs.YtmgljaecmchgaaaGreat.Gf
namespace Go.Proofs.YtmgljaecmchgaaaGreat.Gf
open Fld
def xt (x:UInt8):UInt8:=(x <<< 1) ^^^ (if x.toBitVec.getLsbD 7 then 0x1d else 0)
def bitOf (b:UInt8) (i:Nat) (x:UInt8):UInt8:=if b.toBitVec.getLsbD i then x else 0
def xtn:Nat->UInt8->UInt8
 | 0,a=>a
 | n+1,a=>xt (xtn n a)
def mulU:Nat->UInt8->UInt8->UInt8
 | 0,_,_=>0
 | n+1,a,b=>mulU n a b ^^^ bitOf b n (xtn n a)
def mul8 (a b:UInt8):UInt8:=mulU 8 a b
theorem x_assoc (a b c:UInt8):(a ^^^ b) ^^^ c=a ^^^ (b ^^^ c):=UInt8.xor_assoc a b c
theorem x_comm (a b:UInt8):a ^^^ b=b ^^^ a:=UInt8.xor_comm a b
theorem x_left (a b c:UInt8):a ^^^ (b ^^^ c)=b ^^^ (a ^^^ c):=by rw[<-x_assoc,x_comm a b,x_assoc]
theorem x_self (a:UInt8):a ^^^ a=0:=UInt8.xor_self
theorem x_zero (a:UInt8):a ^^^ 0=a:=UInt8.xor_zero
theorem shl_xor (a b:UInt8):(a ^^^ b) <<< 1=(a <<< 1) ^^^ (b <<< 1):=by
 apply UInt8.toBitVec_inj.1
 simp only[UInt8.toBitVec_shiftLeft,UInt8.toBitVec_xor]
 exact BitVec.shiftLeft_xor_distrib _ _ _
theorem xt_xor (a b:UInt8):xt (a ^^^ b)=xt a ^^^ xt b:=by
 unfold xt
 rw[shl_xor,UInt8.toBitVec_xor,BitVec.getLsbD_xor]
 cases a.toBitVec.getLsbD 7<;>cases b.toBitVec.getLsbD 7<;>simp[x_assoc,x_comm,x_left,x_self]
theorem xtn_xor (n:Nat) (a b:UInt8):xtn n (a ^^^ b)=xtn n a ^^^ xtn n b:=by
 induction n with
 | zero=>rfl
 | succ n ih=>rw[xtn,ih,xt_xor];rfl
theorem bitOf_xor (b c:UInt8) (i:Nat) (x:UInt8):bitOf (b ^^^ c) i x=bitOf b i x ^^^ bitOf c i x:=by
 unfold bitOf
 rw[UInt8.toBitVec_xor,BitVec.getLsbD_xor]
 cases b.toBitVec.getLsbD i<;>cases c.toBitVec.getLsbD i<;>simp[x_self]
theorem bitOf_xor' (b:UInt8) (i:Nat) (x y:UInt8):bitOf b i (x ^^^ y)=bitOf b i x ^^^ bitOf b i y:=by
 unfold bitOf
 cases b.toBitVec.getLsbD i<;>simp
theorem mulU_xor (n:Nat) (a b c:UInt8):mulU n a (b ^^^ c)=mulU n a b ^^^ mulU n a c:=by
 induction n with
 | zero=>simp[mulU]
 | succ n ih=>simp only[mulU,ih,bitOf_xor,x_assoc,x_comm,x_left]
theorem mulU_xor' (n:Nat) (a b c:UInt8):mulU n (a ^^^ b) c=mulU n a c ^^^ mulU n b c:=by
 induction n with
 | zero=>simp[mulU]
 | succ n ih=>simp only[mulU,ih,xtn_xor,bitOf_xor',x_assoc,x_comm,x_left]
def bas (i:Nat):UInt8:=UInt8.ofNat (2 ^ i)
theorem by_bits (a:UInt8):a=bitOf a 0 (bas 0) ^^^ bitOf a 1 (bas 1) ^^^ bitOf a 2 (bas 2) ^^^ bitOf a 3 (bas 3) ^^^ bitOf a 4 (bas 4) ^^^ bitOf a 5 (bas 5) ^^^ bitOf a 6 (bas 6) ^^^ bitOf a 7 (bas 7):=by
 have h:∀ n:Fin 256,(fun a:UInt8=>a=bitOf a 0 (bas 0) ^^^ bitOf a 1 (bas 1) ^^^ bitOf a 2 (bas 2) ^^^ bitOf a 3 (bas 3) ^^^ bitOf a 4 (bas 4) ^^^ bitOf a 5 (bas 5) ^^^ bitOf a 6 (bas 6) ^^^ bitOf a 7 (bas 7)) (UInt8.ofNat n.val):=by decide +kernel
 have:=h ⟨a.toNat,UInt8.toNat_lt a⟩
 simpa using this
theorem add_ext {f g:UInt8->UInt8} (hf:∀ a b,f (a ^^^ b)=f a ^^^ f b) (hg:∀ a b,g (a ^^^ b)=g a ^^^ g b) (h:∀ i,i<8->f (bas i)=g (bas i)) (a:UInt8):f a=g a:=by
 have f0:f 0=0:=by have:=hf 0 0;rw[x_self,x_self] at this;exact this
 have g0:g 0=0:=by have:=hg 0 0;rw[x_self,x_self] at this;exact this
 have hb:∀ i,i<8->f (bitOf a i (bas i))=g (bitOf a i (bas i)):=by
  intro i hi
  unfold bitOf
  split
  ·exact h i hi
  ·rw[f0,g0]
 rw[by_bits a]
 simp only[hf,hg]
 rw[hb 0 (by decide),hb 1 (by decide),hb 2 (by decide),hb 3 (by decide),hb 4 (by decide),hb 5 (by decide),hb 6 (by decide),hb 7 (by decide)]
theorem m_add (a b c:UInt8):mul8 a (b ^^^ c)=mul8 a b ^^^ mul8 a c:=mulU_xor 8 a b c
theorem add_m (a b c:UInt8):mul8 (a ^^^ b) c=mul8 a c ^^^ mul8 b c:=mulU_xor' 8 a b c
theorem m_comm (a b:UInt8):mul8 a b=mul8 b a:=by
 refine add_ext (f:=fun b=>mul8 a b) (g:=fun b=>mul8 b a) (fun x y=>m_add a x y) (fun x y=>add_m x y a) (fun i hi=>?_) b
 refine add_ext (f:=fun a=>mul8 a (bas i)) (g:=fun a=>mul8 (bas i) a) (fun x y=>add_m x y _) (fun x y=>m_add _ x y) (fun j hj=>?_) a
 have h:∀ i j:Fin 8,mul8 (bas j) (bas i)=mul8 (bas i) (bas j):=by decide +kernel
 exact h ⟨i,hi⟩ ⟨j,hj⟩
theorem m_assoc (a b c:UInt8):mul8 (mul8 a b) c=mul8 a (mul8 b c):=by
 refine add_ext (f:=fun c=>mul8 (mul8 a b) c) (g:=fun c=>mul8 a (mul8 b c)) (fun x y=>m_add _ x y) (fun x y=>by simp only[m_add]) (fun i hi=>?_) c
 refine add_ext (f:=fun b=>mul8 (mul8 a b) (bas i)) (g:=fun b=>mul8 a (mul8 b (bas i))) (fun x y=>by simp only[m_add,add_m]) (fun x y=>by simp only[m_add,add_m]) (fun j hj=>?_) b
 refine add_ext (f:=fun a=>mul8 (mul8 a (bas j)) (bas i)) (g:=fun a=>mul8 a (mul8 (bas j) (bas i))) (fun x y=>by simp only[add_m]) (fun x y=>by simp only[add_m]) (fun k hk=>?_) a
 have h:∀ i j k:Fin 8,mul8 (mul8 (bas k) (bas j)) (bas i)=mul8 (bas k) (mul8 (bas j) (bas i)):=by decide +kernel
 exact h ⟨i,hi⟩ ⟨j,hj⟩ ⟨k,hk⟩
theorem m_one (a:UInt8):mul8 a 1=a:=by
 refine add_ext (f:=fun a=>mul8 a 1) (g:=fun a=>a) (fun x y=>add_m x y _) (fun x y=>rfl) (fun i hi=>?_) a
 have h:∀ i:Fin 8,mul8 (bas i) 1=bas i:=by decide +kernel
 exact h ⟨i,hi⟩
def powU:Nat->UInt8->UInt8->Nat->UInt8
 | 0,p,_,_=>p
 | f+1,p,a,n=>if n=0 then p else powU f (if n%2=1 then mul8 p a else p) (mul8 a a) (n/2)
def pow254 (a:UInt8):UInt8:=powU 8 1 a 254
theorem m_inv (a:UInt8) (h:a≠0):mul8 a (pow254 a)=1:=by
 have h1:∀ n:Fin 256,n.val≠0->mul8 (UInt8.ofNat n.val) (pow254 (UInt8.ofNat n.val))=1:=by decide +kernel
 have:=h1 ⟨a.toNat,UInt8.toNat_lt a⟩ (fun h0=>h (UInt8.toNat_inj.1 h0))
 simpa using this
def E:Type:=UInt8
instance:DecidableEq E:=inferInstanceAs (DecidableEq UInt8)
instance fldE:Fld E where
 add:=fun a b:UInt8=>a ^^^ b
 mul:=mul8
 zero:=(0:UInt8)
 one:=(1:UInt8)
 inv:=pow254
 add_assoc:=x_assoc
 add_comm:=x_comm
 add_zero:=x_zero
 add_self:=x_self
 mul_assoc:=m_assoc
 mul_comm:=m_comm
 mul_one:=m_one
 mul_add:=m_add
 one_ne:=by show (1:UInt8)≠0;decide
 mul_inv:=m_inv
theorem e_add (a b:E):a+b=(UInt8.xor a b:UInt8):=rfl
theorem e_mul (a b:E):a*b=mul8 a b:=rfl
theorem xt_nat (x:UInt8):(xt x).toNat=if 255<2*x.toNat then (2*x.toNat) ^^^ 285 else 2*x.toNat:=by
 have h:∀ n:Fin 256,(xt (UInt8.ofNat n.val)).toNat=if 255<2*n.val then (2*n.val) ^^^ 285 else 2*n.val:=by decide +kernel
 have:=h ⟨x.toNat,UInt8.toNat_lt x⟩
 simpa using this
end Go.Proofs.YtmgljaecmchgaaaGreat.Gf
