/- XLag, XMw, XJu: merged by tools/merge.py. -/
import Derived.Test.YtmgljaecmchgaaaGreatQ03
import Derived.Test.YtmgljaecmchgaaaGreatQ02
set_option linter.unusedVariables false
set_option linter.unusedSimpArgs false
set_option linter.unusedSectionVars false
namespace Go.Proofs.YtmgljaecmchgaaaGreat.Gf
open Fld
variable {F:Type} [Fld F]
theorem ev_van_cons (a:F) (L:List F) (x:F):ev (van (a::L)) x=(a+x)*ev (van L) x:=by
 have e:ev [a,1] x=a+x:=by show a+x*(1+x*0)=_;rw[mul_zero,add_zero,mul_one]
 rw[van,ev_mulP,e]
theorem ev_van_snoc (a:F) (L:List F) (x:F):ev (van (L++[a])) x=ev (van L) x*(a+x):=by
 induction L with
 | nil=>rw[List.nil_append,ev_van_cons];show _*(1+x*0)=(1+x*0)*_;rw[mul_comm]
 | cons b L ih=>rw[List.cons_append,ev_van_cons,ih,ev_van_cons,mul_assoc]
theorem EInv.begin [DecidableEq F] {L:List (F×F)} {t:List F} (ht:Trd t) (hat:∀ a∈L,ev t a.1=a.2) (hl:t.length<=L.length) {N:List F} (hN:Trd N) (hN0:∀ a∈L,ev N a.1=0) (hNl:N.length=L.length+1) :
  EInv L.length L N [1] [] t [] [1]:=by
 refine⟨hN,Trd.nil,ht,?_,?_,?_,by omega,by simp;omega,by simp,by omega,by simp;omega,by simp;omega⟩
 ·intro _;exact one_ne
 ·intro a ha;rw[hN0 a ha];exact (zero_mul _).symm
 ·intro a ha
  rw[hat a ha]
  show _=(1+a.1*0)*a.2
  rw[mul_zero,add_zero,one_mul]
theorem EInv.key [DecidableEq F] {e k B:Nat} {L:List (F×F)} {g v:List F} (hn:(L.map (·.1)).Nodup) (hk:k+2*e<=L.length) (hB:B+e=L.length) (hat:∀ a∈L,ev g a.1=ev v a.1*a.2) (hg:g.length<=B)
  (hv:Trd v) (h0:0<v.length) (hl:v.length<=e+1):Key e k B L g v:=⟨hn,hk,by omega,hat,hv,h0,hl,hg⟩
section
variable [DecidableEq F]
def oth (A:List F) (a:F):List F:=A.filter fun b=>decide (b≠a)
theorem mem_oth {A:List F} {a b:F}:b∈oth A a↔b∈A/\b≠a:=by unfold oth;rw[List.mem_filter];simp
theorem length_oth {A:List F} (hn:A.Nodup) {a:F} (ha:a∈A):(oth A a).length+1=A.length:=by
 induction A with
 | nil=>simp at ha
 | cons b A ih=>
  rw[List.nodup_cons] at hn
  unfold oth at ih ⊢
  rw[List.filter_cons]
  by_cases e:b=a
  ·subst e
   have:(A.filter fun c=>decide (c≠b))=A:=List.filter_eq_self.2 fun c hc=>by simp;rintro rfl;exact hn.1 hc
   simp only[ne_eq,not_true_eq_false,decide_false,Bool.false_eq_true,if_false] at this ⊢
   rw[this];rfl
  ·have ha':a∈A:=by
    rcases List.mem_cons.1 ha with h | h
    ·exact absurd h.symm e
    ·exact h
   have:=ih hn.2 ha'
   simp only[ne_eq,e,not_false_eq_true,decide_true,if_true,List.length_cons]
   simp only[ne_eq] at this
   omega
theorem ev_van_oth {A:List F} (hn:A.Nodup) {a:F} (ha:a∈A) (x:F):ev (van A) x=(a+x)*ev (van (oth A a)) x:=by
 induction A with
 | nil=>simp at ha
 | cons b A ih=>
  rw[List.nodup_cons] at hn
  rw[ev_van_cons]
  by_cases e:b=a
  ·subst e
   have:oth (b::A) b=A:=by
    unfold oth
    rw[List.filter_cons]
    simp only[ne_eq,not_true_eq_false,decide_false,Bool.false_eq_true,if_false]
    exact List.filter_eq_self.2 fun c hc=>by simp;rintro rfl;exact hn.1 hc
   rw[this]
  ·have ha':a∈A:=by
    rcases List.mem_cons.1 ha with h | h
    ·exact absurd h.symm e
    ·exact h
   have h2:oth (b::A) a=b::oth A a:=by unfold oth;rw[List.filter_cons];simp[e]
   rw[h2,ev_van_cons,ih hn.2 ha',mul_left_comm]
theorem van_oth_ne {A:List F} {a:F}:ev (van (oth A a)) a≠0:=fun h=>(mem_oth.1 ((ev_van _ _).1 h)).2 rfl
def lagP (A:List F) (a y:F):List F:=scP (y*Fld.inv (ev (van (oth A a)) a)) (van (oth A a))
def lagS (A:List F) (y:F->F):List F->List F
 | []=>[]
 | a::R=>addP (lagP A a (y a)) (lagS A y R)
theorem length_lagS {A:List F} (hn:A.Nodup) (y:F->F):∀ (R:List F),(∀ a∈R,a∈A)->(lagS A y R).length<=A.length
 | [],_=>Nat.zero_le _
 | a::R,h=>by
  have h1:=length_lagS hn y R (fun b hb=>h b (List.mem_cons_of_mem _ hb))
  have h2:=length_oth hn (h a (List.mem_cons_self ..))
  rw[lagS,length_addP,lagP,length_scP,length_van]
  omega
theorem ev_lagS {A:List F} (y:F->F) (b:F) (hb:b∈A):∀ (R:List F),R.Nodup->(∀ a∈R,a∈A)->ev (lagS A y R) b=if b∈R then y b else 0
 | [],_,_=>by simp[lagS,ev]
 | a::R,hn,h=>by
  rw[List.nodup_cons] at hn
  have ih:=ev_lagS y b hb R hn.2 (fun c hc=>h c (List.mem_cons_of_mem _ hc))
  rw[lagS,ev_addP,ih,lagP,ev_scP]
  by_cases e:b=a
  ·subst e
   rw[if_neg hn.1,if_pos (List.mem_cons_self ..),add_zero,mul_assoc,mul_comm (Fld.inv _),mul_inv _ van_oth_ne,mul_one]
  ·have:ev (van (oth A a)) b=0:=(ev_van _ _).2 (mem_oth.2 ⟨hb,e⟩)
   rw[this,mul_zero,zero_add]
   by_cases e2:b∈R
   ·rw[if_pos e2,if_pos (List.mem_cons_of_mem _ e2)]
   ·rw[if_neg e2,if_neg (by simp[e,e2])]
theorem through_any {A:List F} (hn:A.Nodup) (y:F->F):∃ q,q.length<=A.length/\∀ a∈A,ev q a=y a:=
 ⟨lagS A y A,length_lagS hn y A (fun _ h=>h),fun a ha=>by rw[ev_lagS y a ha A hn (fun _ h=>h),if_pos ha]⟩
theorem ev_lagS_sum (A:List F) (y:F->F) (x:F):∀ (R:List F),ev (lagS A y R) x=sumN R.length (fun j=>match R[j]? with | some a=>y a*Fld.inv (ev (van (oth A a)) a)*ev (van (oth A a)) x | none=>0)
 | []=>rfl
 | a::R=>by
  rw[lagS,ev_addP,ev_lagS_sum A y x R,List.length_cons,sumN_first,lagP,ev_scP]
  congr 1
theorem lagrange {A:List F} (hn:A.Nodup) {q:List F} (hq:q.length<=A.length) {x:F} (hx:x∉A) :
  sumN A.length (fun j=>match A[j]? with | some a=>ev (van A) x*Fld.inv ((x+a)*ev (van (oth A a)) a)*ev q a | none=>0)=ev q x:=by
 have h1:Peq (lagS A (ev q) A) q:=agree A _ _ hn (fun a ha=>by rw[ev_lagS _ a ha A hn (fun _ h=>h),if_pos ha]) (length_lagS hn _ A (fun _ h=>h)) hq
 rw[<-ev_congr h1 x,ev_lagS_sum]
 refine sumN_congr fun j hj=>?_
 rw[List.getElem?_eq_getElem hj]
 have ha:=List.getElem_mem hj
 generalize A[j]=a at ha ⊢
 have hne:x+a≠0:=fun h=>hx (add_eq_zero.1 h▸ha)
 have e2:Fld.inv ((x+a)*ev (van (oth A a)) a)=Fld.inv (x+a)*Fld.inv (ev (van (oth A a)) a):=by
  refine (inv_unique ?_).symm
  have e3:=mul_inv (x+a) hne
  have e4:=mul_inv (ev (van (oth A a)) a) van_oth_ne
  generalize Fld.inv (x+a)=u at *
  generalize Fld.inv (ev (van (oth A a)) a)=v at *
  rw[mul_assoc,mul_left_comm _ u v,<-mul_assoc,e3,e4,mul_one]
 show _*_*_=_*_*_
 rw[ev_van_oth hn ha,e2,add_comm a x]
 have e3:=mul_inv (x+a) hne
 generalize Fld.inv (x+a)=u at *
 generalize Fld.inv (ev (van (oth A a)) a)=v at *
 generalize ev (van (oth A a)) x=w at *
 generalize ev q a=z at *
 generalize x+a=s at *
 have e5:s*w*(u*v)*z=s*u*(z*v*w):=by simp only[mul_assoc,mul_comm,mul_left_comm]
 rw[e5,e3,one_mul]
end
theorem sd_mul (a:F):∀ (p:List F),Peq p (addP (mulP [a,1] (sd a p)) [ev p a])
 | []=>fun i=>by
  rw[co_addP]
  have:co (mulP [a,1] (sd a [])) i=0:=co_mulP_nil _ i
  rw[this,zero_add]
  cases i<;>rfl
 | [c]=>fun i=>by
  rw[co_addP]
  have:co (mulP [a,1] (sd a [c])) i=0:=co_mulP_nil _ i
  rw[this,zero_add]
  cases i with
  | zero=>show c=c+a*0;rw[mul_zero,add_zero]
  | succ i=>rfl
 | c::b::p=>fun i=>by
  have ih:=sd_mul a (b::p)
  rw[co_addP,co_mulP_cons]
  have hm:∀ (q:List F) (j:Nat),co (mulP [1] q) j=co q j:=by
   intro q j
   rw[co_mulP_cons,one_mul]
   cases j<;>exact add_zero _
  cases i with
  | zero=>
   show c=(a*ev (b::p) a+0)+(c+a*ev (b::p) a)
   rw[add_zero,add_comm c,add_add_self]
  | succ i=>
   have h2:=ih i
   rw[co_addP,co_mulP_cons] at h2
   show co (b::p) i=(a*co (sd a (b::p)) i+co (mulP [1] (sd a (c::b::p))) i)+0
   rw[add_zero,h2,hm]
   cases i with
   | zero=>show (_+0)+ev (b::p) a=_+ev (b::p) a;rw[add_zero]
   | succ i=>
    show (_+co (mulP [1] (sd a (b::p))) i)+0=_+co (sd a (b::p)) i
    rw[hm,add_zero]
theorem co_lin0 (a:F) (q:List F):co (mulP [a,1] q) 0=a*co q 0:=by
 rw[co_mulP_cons];exact add_zero _
theorem co_lin (a:F) (q:List F) (i:Nat):co (mulP [a,1] q) (i+1)=a*co q (i+1)+co q i:=by
 rw[co_mulP_cons]
 congr 1
 show co (mulP [1] q) i=_
 rw[co_mulP_cons,one_mul]
 cases i<;>exact add_zero _
theorem lin_comm (a b:F) (q:List F):Peq (mulP [a,1] (mulP [b,1] q)) (mulP [b,1] (mulP [a,1] q)):=fun i=>by
 cases i with
 | zero=>simp only[co_lin0];exact mul_left_comm _ _ _
 | succ i=>cases i with
  | zero=>simp only[co_lin0,co_lin,mul_add];simp only[mul_left_comm,add_left_comm,add_comm,add_assoc]
  | succ i=>simp only[co_lin,mul_add];simp only[mul_left_comm,add_left_comm,add_comm,add_assoc]
theorem van_oth [DecidableEq F] {A:List F} (hn:A.Nodup) {a:F} (ha:a∈A):Peq (mulP [a,1] (van (oth A a))) (van A):=by
 induction A with
 | nil=>simp at ha
 | cons b A ih=>
  rw[List.nodup_cons] at hn
  by_cases e:b=a
  ·subst e
   have:oth (b::A) b=A:=by
    unfold oth
    rw[List.filter_cons]
    simp only[ne_eq,not_true_eq_false,decide_false,Bool.false_eq_true,if_false]
    exact List.filter_eq_self.2 fun c hc=>by simp;rintro rfl;exact hn.1 hc
   rw[this]
   exact Peq.refl _
  ·have ha':a∈A:=by
    rcases List.mem_cons.1 ha with h | h
    ·exact absurd h.symm e
    ·exact h
   have h2:oth (b::A) a=b::oth A a:=by unfold oth;rw[List.filter_cons];simp[e]
   rw[h2]
   exact (lin_comm a b _).trans (mulP_congr_right [b,1] (ih hn.2 ha'))
theorem sd_van [DecidableEq F] {A:List F} (hn:A.Nodup) {N:List F} (hN:Peq N (van A)) {a:F} (ha:a∈A):Peq (sd a N) (van (oth A a)):=by
 have h0:ev N a=0:=by rw[ev_congr hN];exact (ev_van A a).2 ha
 have h1:∀ i,co (mulP [a,1] (addP (sd a N) (van (oth A a)))) i=0:=by
  have h2:Peq (mulP [a,1] (sd a N)) N:=fun i=>by
   have:=sd_mul a N i
   rw[co_addP,h0] at this
   rw[this]
   cases i<;>exact (add_zero _).symm
  have h3:∀ i,co (mulP [a,1] (sd a N)) i=co (mulP [a,1] (van (oth A a))) i:=fun i=>((h2 i).trans (hN i)).trans (van_oth hn ha i).symm
  intro i
  have h4:=h3 i
  cases i with
  | zero=>rw[co_lin0,co_lin0] at h4;rw[co_lin0,co_addP,mul_add,h4,add_self]
  | succ i=>
   rw[co_lin,co_lin] at h4
   rw[co_lin,co_addP,co_addP,mul_add,add_assoc,add_left_comm (a*co (van (oth A a)) (i+1)),<-add_assoc,h4,add_self]
 have h4:=mulP_zero (p:=[a,1]) (fun _=>one_ne) (by simp) h1
 intro i
 have:=h4 i
 rw[co_addP,add_eq_zero] at this
 exact this
theorem mulP_one_up (n:Nat) (c:F) (d:List F):Peq (mulP (upP n [c]) d) (upP n (scP c d)):=by
 induction n with
 | zero=>
  intro i
  show co (mulP [c] d) i=co (scP c d) i
  rw[co_mulP_cons,co_scP]
  cases i<;>exact add_zero _
 | succ n ih=>
  intro i
  have e:∀ q:List F,upP (n+1) q=0::upP n q:=fun q=>by simp[upP,List.replicate_succ]
  rw[e,e,co_mulP_cons,zero_mul,zero_add]
  cases i with
  | zero=>rfl
  | succ i=>exact ih i
theorem div_round [DecidableEq F] {p d s r:List F} (hd:Trd d) (h0:0<d.length) (hr:Trd r) (hl:d.length<=r.length) (h:Peq p (addP (mulP s d) r)) {c:F}
  (hc:c=co r (r.length - 1)*Fld.inv (co d (d.length - 1))) :
  Peq p (addP (mulP (trimP (addP s (upP (r.length - d.length) [c]))) d) (trimP (addP r (upP (r.length - d.length) (scP c d)))))/\(trimP (addP r (upP (r.length - d.length) (scP c d)))).length<r.length:=by
 constructor
 ·intro i
  rw[h i,co_addP,co_addP,trimP_eq,co_addP,mulP_congr_left d (trimP_eq _) i,mulP_addP_left _ _ _ i,co_addP,mulP_one_up _ _ _ i]
  simp only[add_assoc,add_left_comm,add_comm,add_self,zero_add]
 ·have h1:(trimP (addP r (upP (r.length - d.length) (scP c d)))).length<=r.length:=Nat.le_trans (trimP_le _) (by rw[length_addP,length_upP,length_scP];omega)
  rcases Nat.lt_or_ge (trimP (addP r (upP (r.length - d.length) (scP c d)))).length r.length with h2 | h2
  ·exact h2
  ·exfalso
   have h3:=trimP_trd (addP r (upP (r.length - d.length) (scP c d))) (by omega)
   have h4:(trimP (addP r (upP (r.length - d.length) (scP c d)))).length=r.length:=by omega
   rw[h4,trimP_eq,co_addP,co_upP,if_neg (by omega),co_scP] at h3
   have h5:r.length - 1 - (r.length - d.length)=d.length - 1:=by omega
   rw[h5,hc,mul_assoc,mul_comm (Fld.inv _),mul_inv _ (hd h0),mul_one,add_self] at h3
   exact h3 rfl
end Go.Proofs.YtmgljaecmchgaaaGreat.Gf
namespace Go.Proofs.YtmgljaecmchgaaaGreat.Gf
open Fld
def toE (b:UInt8):E:=b
def ptE (i:Nat):E:=UInt8.ofNat i
theorem ptE_inj {i j:Nat} (hi:i<256) (hj:j<256) (h:ptE i=ptE j):i=j:=by
 have h1:(UInt8.ofNat i).toNat=(UInt8.ofNat j).toNat:=congrArg UInt8.toNat h
 rw[UInt8.toNat_ofNat',UInt8.toNat_ofNat'] at h1
 omega
def prs (A:List Nat) (word:Nat->UInt8):List (E×E):=A.map fun i=>(ptE i,toE (word i))
theorem length_prs (A:List Nat) (word:Nat->UInt8):(prs A word).length=A.length:=by simp[prs]
theorem nodup_pts {A:List Nat} (hn:A.Nodup) (hA:∀ i∈A,i<256):(A.map ptE).Nodup:=by
 induction A with
 | nil=>simp
 | cons a A ih=>
  rw[List.nodup_cons] at hn
  rw[List.map_cons,List.nodup_cons]
  refine⟨?_,ih hn.2 (fun i hi=>hA i (List.mem_cons_of_mem _ hi))⟩
  intro h
  obtain⟨b,hb,e⟩:=List.mem_map.1 h
  have:=ptE_inj (hA b (List.mem_cons_of_mem _ hb)) (hA a (List.mem_cons_self ..)) e
  subst this
  exact hn.1 hb
theorem fst_prs (A:List Nat) (word:Nat->UInt8):(prs A word).map (·.1)=A.map ptE:=by simp[prs,List.map_map,Function.comp_def]
theorem nodup_prs {A:List Nat} (hn:A.Nodup) (hA:∀ i∈A,i<256) (word:Nat->UInt8):((prs A word).map (·.1)).Nodup:=by rw[fst_prs];exact nodup_pts hn hA
def missAt (A:List Nat) (word:Nat->UInt8) (p:List E):List Nat:=A.filter fun i=>decide (ev p (ptE i)≠toE (word i))
theorem missAt_congr {A:List Nat} {word:Nat->UInt8} {p q:List E} (h:Peq p q):missAt A word p=missAt A word q:=by
 unfold missAt
 congr 1
 funext i
 rw[ev_congr h]
open Classical in
noncomputable def colR (k:Nat) (A:List Nat) (word:Nat->UInt8):Option (List Nat):=
 if h:∃ p,Near ((A.length - k)/2) k (prs A word) p then some (missAt A word h.choose) else none
theorem colR_none {k:Nat} {A:List Nat} {word:Nat->UInt8} (h:∀ p,¬ Near ((A.length - k)/2) k (prs A word) p):colR k A word=none:=by
 unfold colR
 rw[dif_neg (fun ⟨p,hp⟩=>h p hp)]
theorem colR_some {k:Nat} {A:List Nat} {word:Nat->UInt8} (hn:A.Nodup) (hA:∀ i∈A,i<256) (hk:k<=A.length) {p:List E} (hp:Near ((A.length - k)/2) k (prs A word) p):colR k A word=some (missAt A word p):=by
 have h:∃ p,Near ((A.length - k)/2) k (prs A word) p:=⟨p,hp⟩
 unfold colR
 rw[dif_pos h]
 exact congrArg some (missAt_congr (Near.unique (nodup_prs hn hA word) (by rw[length_prs];omega) h.choose_spec hp))
theorem near_line {k e:Nat} {A:List Nat} {word:Nat->UInt8} {p:List E} (hp:p.length<=k) (h:∀ i∈A,ev p (ptE i)=toE (word i)):Near e k (prs A word) p:=by
 refine⟨hp,?_⟩
 have:miss (prs A word) p=[]:=by
  unfold miss prs
  rw[List.filter_eq_nil_iff]
  intro a ha
  obtain⟨i,hi,rfl⟩:=List.mem_map.1 ha
  simp[h i hi]
 rw[this]
 exact Nat.zero_le _
theorem colR_line {k:Nat} {A:List Nat} {word:Nat->UInt8} (hn:A.Nodup) (hA:∀ i∈A,i<256) (hk:k<=A.length) {p:List E} (hp:p.length<=k) (h:∀ i∈A,ev p (ptE i)=toE (word i)):colR k A word=some []:=by
 rw[colR_some hn hA hk (near_line hp h)]
 congr 1
 unfold missAt
 rw[List.filter_eq_nil_iff]
 intro i hi
 simp[h i hi]
def wgt (A:List Nat) (x a:Nat):E:=ev (van (A.map ptE)) (ptE x)*Fld.inv ((ptE x+ptE a)*ev (van (oth (A.map ptE) (ptE a))) (ptE a))
theorem line_of_weights {A R:List Nat} {word:Nat->UInt8} (hn:(A++R).Nodup) (hA:∀ i∈A++R,i<256)
  (h:∀ x∈R,sumN A.length (fun j=>wgt A x (A.getD j 0)*toE (word (A.getD j 0)))=toE (word x)):∃ p:List E,p.length<=A.length/\∀ i∈A++R,ev p (ptE i)=toE (word i):=by
 have hnA:A.Nodup:=(List.nodup_append.1 hn).1
 have hdis:=(List.nodup_append.1 hn).2.2
 have hAA:∀ i∈A,i<256:=fun i hi=>hA i (List.mem_append_left _ hi)
 have hp:=nodup_pts hnA hAA
 obtain⟨q,hq,hqv⟩:=through_any hp (fun x=>toE (word (UInt8.toNat x)))
 have hqv2:∀ i∈A,ev q (ptE i)=toE (word i):=by
  intro i hi
  rw[hqv _ (List.mem_map_of_mem hi)]
  have h1:=hAA i hi
  have h2:UInt8.toNat (ptE i)=i:=by
   show (UInt8.ofNat i).toNat=i
   rw[UInt8.toNat_ofNat'];omega
  rw[h2]
 rw[List.length_map] at hq
 refine⟨q,hq,fun i hi=>?_⟩
 rcases List.mem_append.1 hi with h1 | h1
 ·exact hqv2 i h1
 ·have hx:ptE i∉A.map ptE:=by
   intro h2
   obtain⟨b,hb,e⟩:=List.mem_map.1 h2
   have:=ptE_inj (hAA b hb) (hA i hi) e
   subst this
   exact hdis _ hb _ h1 rfl
  rw[<-lagrange hp (by rw[List.length_map];exact hq) hx,<-h i h1,List.length_map]
  refine sumN_congr fun j hj=>?_
  have e1:(A.map ptE)[j]?=some (ptE A[j]):=by rw[List.getElem?_map,List.getElem?_eq_getElem hj];rfl
  have e2:A.getD j 0=A[j]:=by rw[List.getD_eq_getElem?_getD,List.getElem?_eq_getElem hj];rfl
  rw[e1,e2]
  show _*_*ev q (ptE A[j])=_
  rw[hqv2 _ (List.getElem_mem hj)]
  rfl
def meas:List (List UInt8)->Nat->Option Nat
 | [],l=>some l
 | r::R,l=>if r.length=0 then meas R l else if l≠0/\r.length≠l then none else meas R r.length
def thereR (rows:List (List UInt8)):List Nat:=(List.range rows.length).filter fun i=>decide ((rows.getD i []).length≠0)
def metB (col:Nat->Option (List Nat)) (c i:Nat):Bool:=(List.range c).any fun x=>((col x).getD []).contains i
theorem metB_succ (col:Nat->Option (List Nat)) (c i:Nat):metB col (c+1) i=(metB col c i||((col c).getD []).contains i):=by
 unfold metB
 rw[List.range_succ,List.any_append]
 simp
noncomputable def mendR (n len:Nat) (col:Nat->Option (List Nat)):Option (List Nat):=
 if ∀ c,c<len->(col c).isSome=true then some ((List.range n).filter (metB col len)) else none
theorem mendR_none {n len:Nat} {col:Nat->Option (List Nat)} {c:Nat} (hc:c<len) (h:col c=none):mendR n len col=none:=by
 unfold mendR
 rw[if_neg (fun h2=>by have:=h2 c hc;rw[h] at this;exact absurd this (by simp))]
theorem mendR_some {n len:Nat} {col:Nat->Option (List Nat)} (h:∀ c,c<len->(col c).isSome=true):mendR n len col=some ((List.range n).filter (metB col len)):=by
 unfold mendR
 rw[if_pos h]
def colOf (rows:List (List UInt8)) (c:Nat):Nat->UInt8:=fun i=>(rows.getD i []).getD c 0
noncomputable def mendF (k:Int) (rows:List (List UInt8)):Option (List Nat):=
 if k<1\/(rows.length:Int)<k\/255<rows.length then none
 else match meas rows 0 with
  | none=>none
  | some len=>if ((thereR rows).length:Int)<k then none else mendR rows.length len fun c=>colR k.toNat (thereR rows) (colOf rows c)
end Go.Proofs.YtmgljaecmchgaaaGreat.Gf
namespace Go.Proofs.YtmgljaecmchgaaaGreat.Gf
structure Sn where
 kind:Int
 store:List UInt8
 sk:Int
 sm:Int
 sb:Int
 key:List UInt8
 size:Int
 idx:Int
 ep:Int
 ct:Int
 blocks:List (List UInt8)
 err:Int
 deriving Inhabited
structure Vd where
 kind:Int
 ep:Int
 ct:Int
 size:Int
structure Fd where
 place:Int
 kind:Int
 ep:Int
 ct:Int
def own (v:Vd) (s:Sn):Bool:=decide (s.kind=2/\(s.ep=v.ep/\s.ct=v.ct)/\s.size=v.size)
def rowsJ (v:Vd) (seen:List Sn) (j:Nat):List (List UInt8):=seen.map fun s=>if own v s then s.blocks.getD j [] else []
def mst (v:Vd) (seen:List Sn):Nat:=seen.foldl (fun m s=>if own v s then max m s.blocks.length else m) 0
theorem mst_snoc (v:Vd) (l:List Sn) (s:Sn):mst v (l++[s])=if own v s then max (mst v l) s.blocks.length else mst v l:=by simp[mst]
noncomputable def resJ (k:Int) (v:Vd) (seen:List Sn) (j:Nat):Option (List Nat):=mendF k (rowsJ v seen j)
def unkB (res:Nat->Option (List Nat)) (c:Nat):Bool:=(List.range c).any fun j=>(res j).isNone
theorem unkB_succ (res:Nat->Option (List Nat)) (c:Nat):unkB res (c+1)=(unkB res c||(res c).isNone):=by
 unfold unkB;rw[List.range_succ,List.any_append];simp
def findAt (v:Vd) (bad:Nat->Bool) (i:Nat) (s:Sn):List Fd:=
 if v.kind=1 then
  if s.kind=1 then [⟨i,1,v.ep,v.ct⟩]
  else if s.kind=3 then [⟨i,2,v.ep,v.ct⟩]
  else if s.kind=2 then
   if own v s then (if bad i then [⟨i,3,v.ep,v.ct⟩] else []) else [⟨i,4,s.ep,s.ct⟩]
  else [⟨i,5,v.ep,v.ct⟩]
 else
  if s.kind=1 then []
  else if s.kind=3 then [⟨i,2,0,0⟩]
  else if s.kind=2 then (if v.kind=2 then [⟨i,4,s.ep,s.ct⟩] else [])
  else [⟨i,5,0,0⟩]
def findsTo (v:Vd) (bad:Nat->Bool) (seen:List Sn):Nat->List Fd
 | 0=>[]
 | i+1=>findsTo v bad seen i++(match seen[i]? with | some s=>findAt v bad i s | none=>[])
theorem findsTo_succ {v:Vd} {bad:Nat->Bool} {seen:List Sn} {i:Nat} {s:Sn} (h:seen[i]?=some s):findsTo v bad seen (i+1)=findsTo v bad seen i++findAt v bad i s:=by
 show findsTo v bad seen i++(match seen[i]? with | some s=>findAt v bad i s | none=>[])=_
 rw[h]
def headF (v:Vd) (unk:Bool):List Fd:=if v.kind=1 then (if unk then [⟨-1,6,v.ep,v.ct⟩] else []) else (if v.kind=2 then [] else [⟨-1,6,0,0⟩])
noncomputable def judgeL (k:Int) (v:Vd) (seen:List Sn):List Fd:=
 headF v (unkB (resJ k v seen) (mst v seen))++findsTo v (metB (resJ k v seen) (mst v seen)) seen seen.length
theorem length_findAt (v:Vd) (bad:Nat->Bool) (i:Nat) (s:Sn):(findAt v bad i s).length<=1:=by
 unfold findAt;repeat' split
 all_goals simp
theorem length_findsTo (v:Vd) (bad:Nat->Bool) (seen:List Sn) (i:Nat):(findsTo v bad seen i).length<=i:=by
 induction i with
 | zero=>exact Nat.le_refl _
 | succ i ih=>
  show (findsTo v bad seen i++(match seen[i]? with | some s=>findAt v bad i s | none=>[])).length<=_
  rw[List.length_append]
  split
  ·have:=length_findAt v bad i ‹_›;omega
  ·simp;omega
theorem length_headF (v:Vd) (u:Bool):(headF v u).length<=1:=by
 unfold headF
 repeat' split
 all_goals simp
end Go.Proofs.YtmgljaecmchgaaaGreat.Gf
