/- XK03: merged by tools/merge.py. -/
import Derived.Test.YtmgljaecmchgaaaGreatQ05
import Derived.Test.YtmgljaecmchgaaaGreatProg
import Derived.Test.YtmgljaecmchgaaaGreatChecked
import Derived.WalkKit
import Derived.Lib.Hide
import Derived.Test.YtmgljaecmchgaaaGreatQ01
import Derived.Carry
import Derived.Deep.MidRow
import Derived.Deep.AppendLies
import Derived.Laws.OwnMore
import Derived.Lib.QuietBelow
import Derived.Test.YtmgljaecmchgaaaGreatIter
set_option linter.unusedVariables false
set_option linter.unusedSimpArgs false
set_option linter.unusedSectionVars false
namespace Go.Proofs.YtmgljaecmchgaaaGreat
open Go.RowKit Go.Proofs
section
variable {P:Program} {ops:Array Oper} {Q:Exit->Act->World->Prop} {md:Region.Mode} {S T:World->Prop} {late:List Nat}
def YieldsS (P:Program) (ops:Array Oper) (T:World->Prop) (o:Oper) (v:Value) (a:Act):Prop:=
 (Region.wanted o (yielded ops a.tmps)=true/\∀ w,T w->YieldsAt P o a w v)\/(Region.wanted o (yielded ops a.tmps)=false/\v=undef)
theorem YieldsS.wpOp {i:Nat} {o:Oper} {v:Value} {a:Act} (hi:ops[i]?=some o) (hy:YieldsS P ops T o v a)
  {K:Act->World->Prop} {w:World} (hT:T w) (h:K (a.put o.dst v) w):wpOp P ops Q i K a w:=by
 unfold Go.wpOp
 simp only[hi]
 rcases hy with ⟨hw,hv⟩ | ⟨hw,rfl⟩
 ·simp only[hw,if_true,Oper.wp]
  refine .inl ?_
  rcases hv w hT with hr | ⟨f,args,hr,hc⟩
  ·rw[hr];exact h
  ·rw[hr]
   show Calls P f args w _
   refine hc.mono ?_
   rintro e w'' ⟨rfl,rfl⟩
   exact h
 ·simp only[hw,Bool.false_eq_true,if_false];exact h
theorem YieldsS.of_same {o:Oper} {v:Value} {a a':Act} (hy:YieldsS P ops T o v a) (he:execOp a'.eval o=execOp a.eval o)
  (hw:Region.wanted o (yielded ops a'.tmps)=Region.wanted o (yielded ops a.tmps)):YieldsS P ops T o v a':=by
 unfold YieldsS YieldsAt at *
 rw[he,hw]
 exact hy
theorem wpOp_putS {j:Nat} {oi oj:Oper} {v:Value} (hj:ops[j]?=some oj) (hap:oi.apart ops oj=true)
  (hsi:∀ cs b,oi.op≠.select cs b) (hsj:∀ cs b,oj.op≠.select cs b)
  (hQ:∀ c a w,Q (.panic c) (a.put oi.dst v) w->Q (.panic c) a w) {K:Act->World->Prop} {a:Act} {w:World}
  (hy:YieldsS P ops T oi v a) (h:wpOp P ops Q j K (a.put oi.dst v) w) :
  wpOp P ops Q j (fun a' w'=>YieldsS P ops T oi v a'/\K (a'.put oi.dst v) w') a w:=by
 obtain⟨h1,h2,h3⟩:=Oper.apart_spec hap
 have keep:∀ (a:Act),YieldsS P ops T oi v a->∀ u,YieldsS P ops T oi v (a.put oj.dst u):=fun a hy u=>
  hy.of_same (execOp_put oi hsi a oj.dst u h3) (wanted_put oi a oj.dst u h3)
 have keepD:∀ d,YieldsS P ops T oi v {a with defers:=d::a.defers}:=fun d=>hy.of_same rfl rfl
 unfold wpOp at *
 simp only[hj] at *
 rw[wanted_put oj a oi.dst v h1] at h
 split
 ·rename_i hw
  simp only[hw,if_true] at h
  rcases h with h | ⟨hasks,hlets⟩
  case inr=>exact .inr ⟨by unfold Oper.asks at *;rw[execOp_put oj hsj a oi.dst v h1] at hasks;exact hasks,hlets⟩
  refine .inl ?_
  unfold Oper.wp at *
  rw[execOp_put oj hsj a oi.dst v h1] at h
  generalize (execOp a.eval oj).run P w=r at *
  cases r with
  | ok n w'=>
   cases n<;>simp only[Oper.upon] at h ⊢
   case value u=>exact⟨keep a hy u,by rw[<-Act.put_comm a v u h2];exact h⟩
   case skip=>exact⟨keep a hy _,by rw[<-Act.put_comm a v undef h2];exact h⟩
   case defer d=>
    refine⟨keep _ (keepD d) _,?_⟩
    rw[<-Act.put_comm _ v undef h2,<-Act.put_defers]
    exact h
   case enter f args=>
    refine Calls.mono h fun e w'' he=>?_
    cases e with
    | returned u=>exact⟨keep a hy u,by rw[<-Act.put_comm a v u h2];exact he⟩
    | panicked c=>exact hQ _ _ _ he
    | outgrown=>exact he
   case row row args=>exact Rows.mono h fun u w'' he=>⟨keep a hy u,by rw[<-Act.put_comm a v u h2];exact he⟩
  | halt x w'=>
   cases x<;>simp only[Oper.upon] at h ⊢
   case panic u=>exact hQ _ _ _ h
 ·rename_i hw
  simp only[hw] at h
  exact⟨keep a hy _,by rw[<-Act.put_comm a v undef h2];exact h⟩
def Early (late:List Nat) (listed:Array Bool):Prop:=∀ k∈late,listed.getD k true=false
def wpAnyP (P:Program) (md:Region.Mode) (ops:Array Oper) (Q:Exit->Act->World->Prop) (S:World->Prop) (late:List Nat):Nat->Array Bool->Act->World->Prop
 | 0,listed,a,w=>Region.ready md ops listed=[]/\Q .normal a w
 | fuel+1,listed,a,w=>
  (Region.ready md ops listed=[]->Q .normal a w)/\
  ∀ i∈Region.ready md ops listed,wpOp P ops Q i (fun a' w'=>(Early late (listed.setIfInBounds i true)->S w')/\wpAnyP P md ops Q S late fuel (listed.setIfInBounds i true) a' w') a w
theorem wpAny_of_P:∀ (fuel:Nat) (listed:Array Bool) (a:Act) (w:World),wpAnyP P md ops Q S late fuel listed a w->wpAny P md ops Q fuel listed a w
 | 0,_,_,_,h=>h
 | fuel+1,_,_,_,h=>⟨h.1,fun _ hi=>wpOp_mono (fun a' w' h'=>wpAny_of_P fuel _ a' w' h'.2) (h.2 _ hi)⟩
theorem set_true {listed:Array Bool} {k i:Nat} (h:listed.getD k true=true):(listed.setIfInBounds i true).getD k true=true:=by
 by_cases hik:i=k
 ·subst hik
  rcases Nat.lt_or_ge i listed.size with h' | h'
  ·simp[h']
  ·simp[h']
 ·rw[getD_set_ne true hik];exact h
theorem P_of_any {k:Nat} (hk:k∈late):∀ (fuel:Nat) (listed:Array Bool) (a:Act) (w:World),listed.getD k true=true->wpAny P md ops Q fuel listed a w->wpAnyP P md ops Q S late fuel listed a w
 | 0,_,_,_,_,h=>h
 | fuel+1,listed,_,_,hl,h=>⟨h.1,fun i hi=>wpOp_mono (fun a' w' h'=>⟨fun he=>absurd (he k hk) (by rw[set_true hl];decide),P_of_any hk fuel _ a' w' (set_true hl) h'⟩) (h.2 i hi)⟩
theorem firstP {i:Nat} {oi:Oper} {v:Value} (hi:ops[i]?=some oi) (hsel:∀ (j:Nat) (o:Oper) cs b,ops[j]?=some o->o.op≠.select cs b)
  (hQ:∀ c a w,Q (.panic c) (a.put oi.dst v) w->Q (.panic c) a w)
  (hlate:∀ k∈late,∃ o,ops[k]?=some o/\∃ e∈o.after,Region.binds md e=true/\e.on=i) :
  ∀ (fuel:Nat) (listed:Array Bool) (a:Act) (w:World),
   (∀ j oj,ops[j]?=some oj->j≠i->listed.getD j true=false->(∀ e∈oj.after,Region.binds md e=true->e.on≠i)->oi.apart ops oj=true)->
   i∈Region.ready md ops listed->YieldsS P ops S oi v a->Early late listed->S w->
   wpAnyP P md ops Q S late fuel (listed.setIfInBounds i true) (a.put oi.dst v) w->wpAnyP P md ops Q S late (fuel+1) listed a w:=by
 intro fuel
 have hnl:∀ (listed:Array Bool) (j:Nat),i∈Region.ready md ops listed->j∈Region.ready md ops listed->j∉late:=by
  intro listed j hr hj hl
  obtain⟨o,ho,e,he,hb,heq⟩:=hlate j hl
  obtain⟨_,oj,hoj,hall⟩:=mem_ready.1 hj
  rw[ho] at hoj
  injection hoj with hoj
  subst hoj
  have h1:=hall e he hb
  have h0:=(mem_ready.1 hr).1
  rw[heq] at h1
  rcases Nat.lt_or_ge i listed.size with h' | h'
  ·simp[h'] at h0 h1;rw[h0] at h1;cases h1
  ·simp[Array.getElem?_eq_none h'] at h1
 have hset:∀ (listed:Array Bool) (j:Nat),j∉late->Early late listed->Early late (listed.setIfInBounds j true):=by
  intro listed j hj he k hk
  rw[getD_set_ne true (fun e=>hj (by rw[e];exact hk))]
  exact he k hk
 induction fuel with
 | zero=>
  intro listed a w _ hr hy hE hS H
  refine⟨fun h=>(by rw[h] at hr;cases hr),fun j hj=>?_⟩
  by_cases hji:j=i
  ·subst hji;exact hy.wpOp hi hS ⟨fun _=>hS,H⟩
  ·have:=ready_mono hj hji
   rw[H.1] at this
   cases this
 | succ fuel ih=>
  intro listed a w hfree hr hy hE hS H
  refine⟨fun h=>(by rw[h] at hr;cases hr),fun j hj=>?_⟩
  by_cases hji:j=i
  ·subst hji;exact hy.wpOp hi hS ⟨fun _=>hS,H⟩
  ·have h1:=H.2 j (ready_mono hj hji)
   obtain⟨hjun,oj,hoj,hall⟩:=mem_ready.1 hj
   have hnot:∀ e∈oj.after,Region.binds md e=true->e.on≠i:=fun e he hb heq=>by
    have h1:=hall e he hb
    have h0:=(mem_ready.1 hr).1
    rw[heq] at h1
    rcases Nat.lt_or_ge i listed.size with h' | h'
    ·simp[h'] at h0 h1;rw[h0] at h1;cases h1
    ·simp[Array.getElem?_eq_none h'] at h1
   have h2:=wpOp_putS hoj (hfree j oj hoj hji hjun hnot) (fun cs b=>hsel i oi cs b hi) (fun cs b=>hsel j oj cs b hoj) hQ hy h1
   have hfree':∀ k ok,ops[k]?=some ok->k≠i->(listed.setIfInBounds j true).getD k true=false->
     (∀ e∈ok.after,Region.binds md e=true->e.on≠i)->oi.apart ops ok=true:=fun k ok hk hki hun hno=>by
    refine hfree k ok hk hki ?_ hno
    by_cases hjk:j=k
    ·subst hjk;exact hjun
    ·rw[getD_set_ne true hjk] at hun;exact hun
   have hEj:=hset listed j (hnl listed j hr hj) hE
   have hEij:=hset _ j (hnl listed j hr hj) (hset listed i (hnl listed i hr hr) hE)
   refine wpOp_mono (fun a' w' h3=>?_) h2
   have hS':S w':=h3.2.1 hEij
   refine⟨fun _=>hS',ih (listed.setIfInBounds j true) a' w' hfree' (ready_mono hr (Ne.symm hji)) h3.1 hEj hS' ?_⟩
   rw[Array.setIfInBounds_comm _ _ hji]
   exact h3.2.2
theorem firstT {i:Nat} {oi:Oper} {v:Value} (hi:ops[i]?=some oi) (hsel:∀ (j:Nat) (o:Oper) cs b,ops[j]?=some o->o.op≠.select cs b)
  (hQ:∀ c a w,Q (.panic c) (a.put oi.dst v) w->Q (.panic c) a w) (hil:i∉late) :
  ∀ (fuel:Nat) (listed:Array Bool) (a:Act) (w:World),
   (∀ j oj,ops[j]?=some oj->j≠i->listed.getD j true=false->(∀ e∈oj.after,Region.binds md e=true->e.on≠i)->oi.apart ops oj=true)->
   i∈Region.ready md ops listed->YieldsW P ops oi v a->(Early late listed->S w)->
   wpAnyP P md ops Q S late fuel (listed.setIfInBounds i true) (a.put oi.dst v) w->wpAnyP P md ops Q S late (fuel+1) listed a w:=by
 intro fuel
 have hset:∀ (listed:Array Bool),Early late (listed.setIfInBounds i true)↔Early late listed:=by
  intro listed
  refine forall_congr' fun k=>forall_congr' fun hk=>?_
  rw[getD_set_ne true (fun e=>hil (by rw[e];exact hk))]
 induction fuel with
 | zero=>
  intro listed a w _ hr hy hS H
  refine⟨fun h=>(by rw[h] at hr;cases hr),fun j hj=>?_⟩
  by_cases hji:j=i
  ·subst hji;exact hy.wpOp hi ⟨fun h=>hS ((hset _).1 h),H⟩
  ·have:=ready_mono hj hji
   rw[H.1] at this
   cases this
 | succ fuel ih=>
  intro listed a w hfree hr hy hS H
  refine⟨fun h=>(by rw[h] at hr;cases hr),fun j hj=>?_⟩
  by_cases hji:j=i
  ·subst hji;exact hy.wpOp hi ⟨fun h=>hS ((hset _).1 h),H⟩
  ·have h1:=H.2 j (ready_mono hj hji)
   obtain⟨hjun,oj,hoj,hall⟩:=mem_ready.1 hj
   have hnot:∀ e∈oj.after,Region.binds md e=true->e.on≠i:=fun e he hb heq=>by
    have h1:=hall e he hb
    have h0:=(mem_ready.1 hr).1
    rw[heq] at h1
    rcases Nat.lt_or_ge i listed.size with h' | h'
    ·simp[h'] at h0 h1;rw[h0] at h1;cases h1
    ·simp[Array.getElem?_eq_none h'] at h1
   have h2:=wpOp_putW hoj (hfree j oj hoj hji hjun hnot) (fun cs b=>hsel i oi cs b hi) (fun cs b=>hsel j oj cs b hoj) hQ hy h1
   have hfree':∀ k ok,ops[k]?=some ok->k≠i->(listed.setIfInBounds j true).getD k true=false->
     (∀ e∈ok.after,Region.binds md e=true->e.on≠i)->oi.apart ops ok=true:=fun k ok hk hki hun hno=>by
    refine hfree k ok hk hki ?_ hno
    by_cases hjk:j=k
    ·subst hjk;exact hjun
    ·rw[getD_set_ne true hjk] at hun;exact hun
   refine wpOp_mono (fun a' w' h3=>?_) h2
   have hc:=Array.setIfInBounds_comm (xs:=listed) true true hji
   have hS':Early late (listed.setIfInBounds j true)->S w':=fun h=>h3.2.1 (by rw[<-hc];exact (hset _).2 h)
   refine⟨hS',ih (listed.setIfInBounds j true) a' w' hfree' (ready_mono hr (Ne.symm hji)) h3.1 hS' ?_⟩
   rw[hc]
   exact h3.2.2
def waits (md:Region.Mode) (l:List Oper) (late:List Nat) (i:Nat):Bool:=late.all fun k=>match l[k]? with
 | some o=>o.after.any fun e=>Region.binds md e&&(e.on==i)
 | none=>false
theorem waits_spec {l:List Oper} {i:Nat} (h:waits md l late i=true):∀ k∈late,∃ o,l.toArray[k]?=some o/\∃ e∈o.after,Region.binds md e=true/\e.on=i:=by
 intro k hk
 have h1:=List.all_eq_true.1 h k hk
 split at h1
 ·rename_i o ho
  obtain⟨e,he,h2⟩:=Array.any_eq_true'.1 h1
  simp only[Bool.and_eq_true,beq_iff_eq] at h2
  exact⟨o,by simpa using ho,e,he,h2.1,h2.2⟩
 ·cases h1
def early (late:List Nat) (listed:Array Bool):Bool:=late.all fun k=>!listed.getD k true
theorem early_spec {listed:Array Bool} (h:early late listed=true):Early late listed:=fun k hk=>by simpa using List.all_eq_true.1 h k hk
theorem takeP {l:List Oper} {i:Nat} {oi:Oper} {v:Value} {fuel:Nat} {listed:Array Bool} {a:Act} {w:World} (hi:l[i]?=some oi)
  (hs:Region.noSelect l.toArray=true) (hf:Region.free md l.toArray listed i=true) (hr:(Region.ready md l.toArray listed).contains i=true)
  (hl:waits md l late i=true) (he:early late listed=true)
  (hQ:∀ c a w,Q (.panic c) (a.put oi.dst v) w->Q (.panic c) a w) (hS:S w) (hy:YieldsS P l.toArray S oi v a)
  (h:wpAnyP P md l.toArray Q S late fuel (listed.setIfInBounds i true) (a.put oi.dst v) w):wpAnyP P md l.toArray Q S late (fuel+1) listed a w:=
 firstP (by simpa using hi) (Region.noSelect_spec hs) hQ (waits_spec hl) fuel listed a w (Region.free_spec (by simpa using hi) hf) (by simpa using hr) hy (early_spec he) hS h
theorem takeT {l:List Oper} {i:Nat} {oi:Oper} {v:Value} {fuel:Nat} {listed:Array Bool} {a:Act} {w:World} (hi:l[i]?=some oi)
  (hs:Region.noSelect l.toArray=true) (hf:Region.free md l.toArray listed i=true) (hr:(Region.ready md l.toArray listed).contains i=true)
  (hl:late.contains i=false)
  (hQ:∀ c a w,Q (.panic c) (a.put oi.dst v) w->Q (.panic c) a w) (hS:S w) (hy:YieldsW P l.toArray oi v a)
  (h:wpAnyP P md l.toArray Q S late fuel (listed.setIfInBounds i true) (a.put oi.dst v) w):wpAnyP P md l.toArray Q S late (fuel+1) listed a w:=
 firstT (by simpa using hi) (Region.noSelect_spec hs) hQ (by simpa using hl) fuel listed a w (Region.free_spec (by simpa using hi) hf) (by simpa using hr) hy (fun _=>hS) h
theorem forcedP {l:List Oper} {i:Nat} {o:Oper} {fuel:Nat} {listed:Array Bool} {a:Act} {w:World} (hi:l[i]?=some o) (hg:o.guard=none) (hr:Region.ready md l.toArray listed=[i])
  (h:∀ K:Act->World->Prop,(∀ a w,S w->wpAnyP P md l.toArray Q S late fuel (listed.setIfInBounds i true) a w->K a w)->o.wp P a w K Q) :
  wpAnyP P md l.toArray Q S late (fuel+1) listed a w:=by
 refine⟨fun h0=>(by rw[hr] at h0;cases h0),fun j hj=>?_⟩
 rw[hr] at hj
 obtain rfl:j=i:=by simpa using hj
 have h1:=h (fun a' w'=>(Early late (listed.setIfInBounds j true)->S w')/\wpAnyP P md l.toArray Q S late fuel (listed.setIfInBounds j true) a' w') (fun _ _ hs h=>⟨fun _=>hs,h⟩)
 have hi':l.toArray[j]?=some o:=by simpa using hi
 unfold wpOp
 simp only[hi']
 split
 ·exact .inl h1
 ·rename_i hw;simp[Region.wanted,hg] at hw
theorem lateP {l:List Oper} {i:Nat} {o:Oper} {fuel:Nat} {listed:Array Bool} {a:Act} {w:World} (hi:l[i]?=some o) (hg:o.guard=none) (hr:Region.ready md l.toArray listed=[i]) (hl:late.contains i=true)
  (h:∀ K:Act->World->Prop,(∀ a w,wpAny P md l.toArray Q fuel (listed.setIfInBounds i true) a w->K a w)->o.wp P a w K Q) :
  wpAnyP P md l.toArray Q S late (fuel+1) listed a w:=by
 have ht:(listed.setIfInBounds i true).getD i true=true:=by
  rcases Nat.lt_or_ge i listed.size with h' | h'
  ·simp[h']
  ·simp[h']
 have hm:i∈late:=by simpa using hl
 refine⟨fun h0=>(by rw[hr] at h0;cases h0),fun j hj=>?_⟩
 rw[hr] at hj
 obtain rfl:j=i:=by simpa using hj
 have h1:=h (fun a' w'=>(Early late (listed.setIfInBounds j true)->S w')/\wpAnyP P md l.toArray Q S late fuel (listed.setIfInBounds j true) a' w') (fun _ _ h=>⟨fun he=>absurd (he j hm) (by rw[ht];decide),P_of_any hm fuel _ _ _ ht h⟩)
 have hi':l.toArray[j]?=some o:=by simpa using hi
 unfold wpOp
 simp only[hi']
 split
 ·exact .inl h1
 ·rename_i hw;simp[Region.wanted,hg] at hw
def Closed (md:Region.Mode) (ops:Array Oper) (listed:Array Bool):Prop:=∀ (k:Nat) (o:Oper),ops[k]?=some o->listed.getD k false=true->∀ e∈o.after,Region.binds md e=true->listed.getD e.on false=true
def waitsT (md:Region.Mode) (l:List Oper):Nat->Nat->Nat->Bool
 | 0,_,_=>false
 | n+1,k,i=>match l[k]? with
  | some o=>o.after.any fun e=>Region.binds md e&&((e.on==i)||(decide (e.on<l.length)&&waitsT md l n e.on i))
  | none=>false
theorem set_listed {listed:Array Bool} {k i:Nat} (h:listed.getD k false=true):(listed.setIfInBounds i true).getD k false=true:=by
 by_cases hik:i=k
 ·subst hik
  rcases Nat.lt_or_ge i listed.size with h' | h'
  ·simp[h']
  ·simp[h'] at h
 ·rw[getD_set_ne false hik];exact h
theorem waitsT_listed {l:List Oper} {listed:Array Bool} (hc:Closed md l.toArray listed) {i:Nat}:∀ (n k:Nat),waitsT md l n k i=true->listed.getD k false=true->listed.getD i false=true
 | 0,_,h,_=>by simp[waitsT] at h
 | n+1,k,h,hk=>by
  unfold waitsT at h
  split at h
  ·rename_i o ho
   obtain⟨e,he,h2⟩:=Array.any_eq_true'.1 h
   simp only[Bool.and_eq_true,Bool.or_eq_true,beq_iff_eq,decide_eq_true_eq] at h2
   have h3:=hc k o (by simpa using ho) hk e he h2.1
   rcases h2.2 with h4 | ⟨h4,h5⟩
   ·rw[h4] at h3;exact h3
   ·exact waitsT_listed hc n e.on h5 h3
  ·cases h
theorem ready_listed {l:List Oper} {listed:Array Bool} (hc:Closed md l.toArray listed) {i j n:Nat} (hj:j∈Region.ready md l.toArray listed) (hw:waitsT md l n j i=true):listed.getD i false=true:=by
 cases n with
 | zero=>simp[waitsT] at hw
 | succ n=>
  unfold waitsT at hw
  split at hw
  ·rename_i o ho
   obtain⟨e,he,h2⟩:=Array.any_eq_true'.1 hw
   simp only[Bool.and_eq_true,Bool.or_eq_true,beq_iff_eq,decide_eq_true_eq] at h2
   obtain⟨_,oj,hoj,hall⟩:=mem_ready.1 hj
   have ho':l.toArray[j]?=some o:=by simpa using ho
   rw[ho'] at hoj
   injection hoj with hoj
   subst hoj
   have h3:=hall e he h2.1
   rcases h2.2 with h4 | ⟨h4,h5⟩
   ·rw[h4] at h3;exact h3
   ·exact waitsT_listed hc n e.on h5 h3
  ·cases hw
theorem Closed.set {listed:Array Bool} (hc:Closed md ops listed) {j:Nat} (hj:j∈Region.ready md ops listed):Closed md ops (listed.setIfInBounds j true):=by
 intro k o ho hk e he hb
 by_cases hjk:j=k
 ·subst hjk
  obtain⟨_,oj,hoj,hall⟩:=mem_ready.1 hj
  rw[ho] at hoj
  injection hoj with hoj
  subst hoj
  exact set_listed (hall e he hb)
 ·rw[getD_set_ne false hjk] at hk
  exact set_listed (hc k o ho hk e he hb)
theorem firstPT {l:List Oper} {i n:Nat} {oi:Oper} {v:Value} (hi:l.toArray[i]?=some oi) (hsel:∀ (j:Nat) (o:Oper) cs b,l.toArray[j]?=some o->o.op≠.select cs b)
  (hQ:∀ c a w,Q (.panic c) (a.put oi.dst v) w->Q (.panic c) a w)
  (hlate:∀ k∈late,waitsT md l n k i=true) :
  ∀ (fuel:Nat) (listed:Array Bool) (a:Act) (w:World),Closed md l.toArray listed->
   (∀ j oj,l.toArray[j]?=some oj->j≠i->listed.getD j true=false->(∀ e∈oj.after,Region.binds md e=true->e.on≠i)->oi.apart l.toArray oj=true)->
   i∈Region.ready md l.toArray listed->YieldsS P l.toArray S oi v a->Early late listed->S w->
   wpAnyP P md l.toArray Q S late fuel (listed.setIfInBounds i true) (a.put oi.dst v) w->wpAnyP P md l.toArray Q S late (fuel+1) listed a w:=by
 intro fuel
 have hun:∀ (listed:Array Bool),i∈Region.ready md l.toArray listed->listed.getD i false=true->False:=by
  intro listed hr h1
  have h0:=(mem_ready.1 hr).1
  rcases Nat.lt_or_ge i listed.size with h' | h'
  ·simp[h'] at h0 h1;rw[h0] at h1;cases h1
  ·simp[Array.getElem?_eq_none h'] at h1
 have hnl:∀ (listed:Array Bool) (j:Nat),Closed md l.toArray listed->i∈Region.ready md l.toArray listed->j∈Region.ready md l.toArray listed->j∉late:=fun listed j hc hr hj hl=>hun listed hr (ready_listed hc hj (hlate j hl))
 have hset:∀ (listed:Array Bool) (j:Nat),j∉late->Early late listed->Early late (listed.setIfInBounds j true):=by
  intro listed j hj he k hk
  rw[getD_set_ne true (fun e=>hj (by rw[e];exact hk))]
  exact he k hk
 induction fuel with
 | zero=>
  intro listed a w _ _ hr hy hE hS H
  refine⟨fun h=>(by rw[h] at hr;cases hr),fun j hj=>?_⟩
  by_cases hji:j=i
  ·subst hji;exact hy.wpOp hi hS ⟨fun _=>hS,H⟩
  ·have:=ready_mono hj hji
   rw[H.1] at this
   cases this
 | succ fuel ih=>
  intro listed a w hc hfree hr hy hE hS H
  refine⟨fun h=>(by rw[h] at hr;cases hr),fun j hj=>?_⟩
  by_cases hji:j=i
  ·subst hji;exact hy.wpOp hi hS ⟨fun _=>hS,H⟩
  ·have h1:=H.2 j (ready_mono hj hji)
   obtain⟨hjun,oj,hoj,hall⟩:=mem_ready.1 hj
   have hnot:∀ e∈oj.after,Region.binds md e=true->e.on≠i:=fun e he hb heq=>by
    have h1:=hall e he hb
    rw[heq] at h1
    exact hun listed hr h1
   have h2:=wpOp_putS hoj (hfree j oj hoj hji hjun hnot) (fun cs b=>hsel i oi cs b hi) (fun cs b=>hsel j oj cs b hoj) hQ hy h1
   have hfree':∀ k ok,l.toArray[k]?=some ok->k≠i->(listed.setIfInBounds j true).getD k true=false->
     (∀ e∈ok.after,Region.binds md e=true->e.on≠i)->oi.apart l.toArray ok=true:=fun k ok hk hki hun hno=>by
    refine hfree k ok hk hki ?_ hno
    by_cases hjk:j=k
    ·subst hjk;exact hjun
    ·rw[getD_set_ne true hjk] at hun;exact hun
   have hjl:=hnl listed j hc hr hj
   have hEj:=hset listed j hjl hE
   have hEij:=hset _ j hjl (hset listed i (hnl listed i hc hr hr) hE)
   refine wpOp_mono (fun a' w' h3=>?_) h2
   have hS':S w':=h3.2.1 hEij
   refine⟨fun _=>hS',ih (listed.setIfInBounds j true) a' w' (hc.set hj) hfree' (ready_mono hr (Ne.symm hji)) h3.1 hEj hS' ?_⟩
   rw[Array.setIfInBounds_comm _ _ hji]
   exact h3.2.2
def closedB (md:Region.Mode) (l:List Oper) (listed:Array Bool):Bool:=(List.range l.length).all fun k=>match l[k]? with
 | some o=>!listed.getD k false||o.after.all fun e=>!Region.binds md e||listed.getD e.on false
 | none=>true
theorem closed_spec {l:List Oper} {listed:Array Bool} (h:closedB md l listed=true):Closed md l.toArray listed:=by
 intro k o ho hk e he hb
 have ho':l[k]?=some o:=by simpa using ho
 have h1:=List.all_eq_true.1 h k (List.mem_range.2 (List.getElem?_eq_some_iff.1 ho').1)
 rw[ho'] at h1
 simp only[hk,Bool.not_true,Bool.false_or] at h1
 have h2:=Array.all_eq_true'.1 h1 e he
 rw[hb] at h2
 simpa using h2
theorem takePT (n:Nat) {l:List Oper} {i:Nat} {oi:Oper} {v:Value} {fuel:Nat} {listed:Array Bool} {a:Act} {w:World} (hi:l[i]?=some oi)
  (hs:Region.noSelect l.toArray=true) (hf:Region.free md l.toArray listed i=true) (hr:(Region.ready md l.toArray listed).contains i=true)
  (hl:(late.all fun k=>waitsT md l n k i)=true) (hc:closedB md l listed=true) (he:early late listed=true)
  (hQ:∀ c a w,Q (.panic c) (a.put oi.dst v) w->Q (.panic c) a w) (hS:S w) (hy:YieldsS P l.toArray S oi v a)
  (h:wpAnyP P md l.toArray Q S late fuel (listed.setIfInBounds i true) (a.put oi.dst v) w):wpAnyP P md l.toArray Q S late (fuel+1) listed a w:=
 firstPT (by simpa using hi) (Region.noSelect_spec hs) hQ (fun k hk=>List.all_eq_true.1 hl k hk) fuel listed a w (closed_spec hc) (Region.free_spec (by simpa using hi) hf) (by simpa using hr) hy (early_spec he) hS h
end
end Go.Proofs.YtmgljaecmchgaaaGreat
namespace Go.Proofs.YtmgljaecmchgaaaGreat
open Go.RowKit Go.Proofs
section
variable {P:Program} {md:Region.Mode} {Q:Exit->Act->World->Prop} {S:World->Prop} {late:List Nat}
theorem forcedG {l:List Oper} {i:Nat} {o:Oper} {fuel:Nat} {listed:Array Bool} {a:Act} {w:World} (hi:l[i]?=some o) (hg:Region.wanted o (yielded l.toArray a.tmps)=true) (hr:Region.ready md l.toArray listed=[i])
  (h:∀ K:Act->World->Prop,(∀ a w,S w->wpAnyP P md l.toArray Q S late fuel (listed.setIfInBounds i true) a w->K a w)->o.wp P a w K Q) :
  wpAnyP P md l.toArray Q S late (fuel+1) listed a w:=by
 refine⟨fun h0=>(by rw[hr] at h0;cases h0),fun j hj=>?_⟩
 rw[hr] at hj
 obtain rfl:j=i:=by simpa using hj
 have h1:=h (fun a' w'=>(Early late (listed.setIfInBounds j true)->S w')/\wpAnyP P md l.toArray Q S late fuel (listed.setIfInBounds j true) a' w') (fun _ _ hs h=>⟨fun _=>hs,h⟩)
 have hi':l.toArray[j]?=some o:=by simpa using hi
 unfold wpOp
 simp only[hi',hg,if_true]
 exact .inl h1
theorem lateG {l:List Oper} {i:Nat} {o:Oper} {fuel:Nat} {listed:Array Bool} {a:Act} {w:World} (hi:l[i]?=some o) (hg:Region.wanted o (yielded l.toArray a.tmps)=true) (hr:Region.ready md l.toArray listed=[i]) (hl:late.contains i=true)
  (h:∀ K:Act->World->Prop,(∀ a w,wpAny P md l.toArray Q fuel (listed.setIfInBounds i true) a w->K a w)->o.wp P a w K Q) :
  wpAnyP P md l.toArray Q S late (fuel+1) listed a w:=by
 have ht:(listed.setIfInBounds i true).getD i true=true:=by
  rcases Nat.lt_or_ge i listed.size with h' | h'
  ·simp[h']
  ·simp[h']
 have hm:i∈late:=by simpa using hl
 refine⟨fun h0=>(by rw[hr] at h0;cases h0),fun j hj=>?_⟩
 rw[hr] at hj
 obtain rfl:j=i:=by simpa using hj
 have h1:=h (fun a' w'=>(Early late (listed.setIfInBounds j true)->S w')/\wpAnyP P md l.toArray Q S late fuel (listed.setIfInBounds j true) a' w') (fun _ _ h=>⟨fun he=>absurd (he j hm) (by rw[ht];decide),P_of_any hm fuel _ _ _ ht h⟩)
 have hi':l.toArray[j]?=some o:=by simpa using hi
 unfold wpOp
 simp only[hi',hg,if_true]
 exact .inl h1
end
end Go.Proofs.YtmgljaecmchgaaaGreat
namespace Go.Proofs.YtmgljaecmchgaaaGreat
open Go.RowKit Go.Proofs

section
variable {P:Program} {md:Region.Mode} {Q:Exit->Act->World->Prop} {S:World->Prop} {late:List Nat} {l:List Oper} {o:Oper} {v:Value} {fuel:Nat} {listed:Array Bool} {a:Act} {w:World}
theorem tT (i:Nat) (hS:S w) (h:wpAnyP P md l.toArray Q S late fuel (listed.setIfInBounds i true) (a.put o.dst v) w) (hi:l[i]?=some o:=by exact rfl) (hw:Region.wanted o (yielded l.toArray a.tmps)=true:=by rfl)
  (hy:∀ w,(execOp a.eval o).run P w = .ok (.value v) w:=by intro w;go_simp;try with_reducible rfl) (hs:Region.noSelect l.toArray=true:=by kernel_rfl) (hf:Region.free md l.toArray listed i=true:=by kernel_rfl)
  (hr:(Region.ready md l.toArray listed).contains i=true:=by kernel_rfl) (hl:late.contains i=false:=by kernel_rfl) (hQ:∀ c a w,Q (.panic c) (a.put o.dst v) w->Q (.panic c) a w:=by exact fun _ _ _ h=>h) :
  wpAnyP P md l.toArray Q S late (fuel+1) listed a w:=takeT hi hs hf hr hl hQ hS (.inl ⟨hw,fun w=>.inl (hy w)⟩) h
theorem tO (i:Nat) (hS:S w) (h:wpAnyP P md l.toArray Q S late fuel (listed.setIfInBounds i true) (a.put o.dst undef) w) (hi:l[i]?=some o:=by exact rfl) (hw:Region.wanted o (yielded l.toArray a.tmps)=false:=by rfl)
  (hs:Region.noSelect l.toArray=true:=by kernel_rfl) (hf:Region.free md l.toArray listed i=true:=by kernel_rfl)
  (hr:(Region.ready md l.toArray listed).contains i=true:=by kernel_rfl) (hl:late.contains i=false:=by kernel_rfl) (hQ:∀ c a w,Q (.panic c) (a.put o.dst undef) w->Q (.panic c) a w:=by exact fun _ _ _ h=>h) :
  wpAnyP P md l.toArray Q S late (fuel+1) listed a w:=takeT hi hs hf hr hl hQ hS (.inr ⟨hw,rfl⟩) h
theorem tP (n i:Nat) (hi:l[i]?=some o) (hS:S w) (hy:∀ w,S w->(execOp a.eval o).run P w = .ok (.value v) w) (h:wpAnyP P md l.toArray Q S late fuel (listed.setIfInBounds i true) (a.put o.dst v) w) (hw:Region.wanted o (yielded l.toArray a.tmps)=true:=by rfl)
  (hs:Region.noSelect l.toArray=true:=by kernel_rfl) (hf:Region.free md l.toArray listed i=true:=by kernel_rfl) (hr:(Region.ready md l.toArray listed).contains i=true:=by kernel_rfl)
  (hl:(late.all fun k=>waitsT md l n k i)=true:=by kernel_rfl) (hc:closedB md l listed=true:=by kernel_rfl) (he:early late listed=true:=by kernel_rfl) (hQ:∀ c a w,Q (.panic c) (a.put o.dst v) w->Q (.panic c) a w:=by exact fun _ _ _ h=>h) :
  wpAnyP P md l.toArray Q S late (fuel+1) listed a w:=takePT n hi hs hf hr hl hc he hQ hS (.inl ⟨hw,fun w h=>.inl (hy w h)⟩) h
theorem tL (i:Nat) (h:wpAny P md l.toArray Q fuel (listed.setIfInBounds i true) (a.put o.dst v) w) (hi:l[i]?=some o:=by exact rfl) (hw:Region.wanted o (yielded l.toArray a.tmps)=true:=by rfl)
  (hy:∀ w,(execOp a.eval o).run P w = .ok (.value v) w:=by intro w;go_simp;try with_reducible rfl) (hs:Region.noSelect l.toArray=true:=by kernel_rfl) (hf:Region.free md l.toArray listed i=true:=by kernel_rfl)
  (hr:(Region.ready md l.toArray listed).contains i=true:=by kernel_rfl) (hQ:∀ c a w,Q (.panic c) (a.put o.dst v) w->Q (.panic c) a w:=by exact fun _ _ _ h=>h) :
  wpAny P md l.toArray Q (fuel+1) listed a w:=takeL hi hs hf hr hQ (.inl ⟨hw,fun w=>.inl (hy w)⟩) h
theorem fP (i:Nat) (h:∀ K:Act->World->Prop,(∀ a w,S w->wpAnyP P md l.toArray Q S late fuel (listed.setIfInBounds i true) a w->K a w)->o.wp P a w K Q) (hi:l[i]?=some o:=by exact rfl) (hg:o.guard=none:=by exact rfl) (hr:Region.ready md l.toArray listed=[i]:=by kernel_rfl) :
  wpAnyP P md l.toArray Q S late (fuel+1) listed a w:=forcedP hi hg hr h
theorem fG (i:Nat) (h:∀ K:Act->World->Prop,(∀ a w,S w->wpAnyP P md l.toArray Q S late fuel (listed.setIfInBounds i true) a w->K a w)->o.wp P a w K Q) (hi:l[i]?=some o:=by exact rfl) (hg:Region.wanted o (yielded l.toArray a.tmps)=true:=by rfl) (hr:Region.ready md l.toArray listed=[i]:=by kernel_rfl) :
  wpAnyP P md l.toArray Q S late (fuel+1) listed a w:=forcedG hi hg hr h
theorem lP (i:Nat) (h:∀ K:Act->World->Prop,(∀ a w,wpAny P md l.toArray Q fuel (listed.setIfInBounds i true) a w->K a w)->o.wp P a w K Q) (hi:l[i]?=some o:=by exact rfl) (hg:o.guard=none:=by exact rfl) (hr:Region.ready md l.toArray listed=[i]:=by kernel_rfl) (hl:late.contains i=true:=by kernel_rfl) :
  wpAnyP P md l.toArray Q S late (fuel+1) listed a w:=lateP hi hg hr hl h
theorem lG (i:Nat) (h:∀ K:Act->World->Prop,(∀ a w,wpAny P md l.toArray Q fuel (listed.setIfInBounds i true) a w->K a w)->o.wp P a w K Q) (hi:l[i]?=some o:=by exact rfl) (hg:Region.wanted o (yielded l.toArray a.tmps)=true:=by rfl) (hr:Region.ready md l.toArray listed=[i]:=by kernel_rfl) (hl:late.contains i=true:=by kernel_rfl) :
  wpAnyP P md l.toArray Q S late (fuel+1) listed a w:=lateG hi hg hr hl h
theorem fL (i:Nat) (h:∀ K:Act->World->Prop,(∀ a w,wpAny P md l.toArray Q fuel (listed.setIfInBounds i true) a w->K a w)->o.wp P a w K Q) (hi:l[i]?=some o:=by exact rfl) (hg:o.guard=none:=by exact rfl) (hr:Region.ready md l.toArray listed=[i]:=by kernel_rfl) :
  wpAny P md l.toArray Q (fuel+1) listed a w:=forcedL hi hg hr h
end
end Go.Proofs.YtmgljaecmchgaaaGreat
namespace Go.Proofs.YtmgljaecmchgaaaGreat.Dr
open Go.RowKit Go.Proofs Go.Proofs.YtmgljaecmchgaaaGreat.Ring
abbrev tDrive:=154
abbrev tBody:=156
abbrev tStep:=231
abbrev tSteps:=209
abbrev kStr:=9
abbrev tU8:=5
theorem own_same {w w':World} {base:Nat} {e:TypeId} {size n:Nat} {v:Value} {xs:List Value} (h:w.ownsRow base e size v n xs) (hw:∀ g,v.ownBlock=some g->w'.heap[g]?=w.heap[g]?):w'.ownsRow base e size v n xs:=by
 refine⟨h.1,?_⟩
 rcases h.2 with h1 | ⟨g,cap,cur,rfl,hb,hg,r⟩
 ·exact .inl h1
 ·exact .inr ⟨g,cap,cur,rfl,hb,(hw g rfl).trans hg,r⟩
theorem own_lt {w:World} {base:Nat} {e:TypeId} {size n:Nat} {v:Value} {xs:List Value} (h:w.ownsRow base e size v n xs) {g:Nat} (hg:v.ownBlock=some g):∃ cur,w.heap[g]?=some (.cells cur e (0,0)):=by
 rcases h.2 with ⟨rfl,_⟩ | ⟨g',cap,cur,rfl,_,hb,_⟩
 ·cases hg
 ·obtain rfl:g'=g:=by simpa [Value.ownBlock] using hg
  exact⟨cur,hb⟩
def cStep (β:Nat->Nat) (c:List (Bs×Option Nat)):List Value:=c.flatMap fun s=>[encStr s.1,ptr (s.2.map β)]
theorem cStep_congr {β β':Nat->Nat} {n:Nat} (h:∀ i,i<n->β' i=β i) {c:List (Bs×Option Nat)} (hc:∀ s∈c,∀ i,s.2=some i->i<n):cStep β' c=cStep β c:=by
 unfold cStep
 induction c with
 | nil=>rfl
 | cons s r ih=>
  rw[List.flatMap_cons,List.flatMap_cons,ih fun x hx=>hc x (by simp[hx])]
  congr 2
  cases hs:s.2 with
  | none=>rfl
  | some i=>simp[h i (hc s (by simp) i hs)]
def at_ (β:Nat->Nat) (l:Dir):Dir:=l.map fun p=>(p.1,β p.2)
theorem at_congr {β β':Nat->Nat} {n:Nat} (h:∀ i,i<n->β' i=β i) {l:Dir} (hl:∀ p∈l,p.2<n):at_ β' l=at_ β l:=
 List.map_congr_left fun p hp=>by rw[h _ (hl p hp)]
theorem find_at (β:Nat->Nat) (l:Dir) (k:Bs):find (at_ β l) k=(find l k).map β:=by
 unfold find at_
 rw[List.find?_map]
 simp only[Function.comp_def,Option.map_map]
theorem ins_at (β:Nat->Nat) (x:Bs×Nat) (l:Dir):ins (x.1,β x.2) (at_ β l)=at_ β (ins x l):=by
 induction l with
 | nil=>rfl
 | cons y r ih=>
  show ins _ ((y.1,β y.2)::at_ β r)=_
  by_cases hb:bytesBefore x.1 y.1=true
  ·rw[show ins x (y::r)=x::y::r from if_pos hb]
   exact if_pos hb
  ·rw[show ins x (y::r)=y::ins x r from if_neg hb]
   show _=(y.1,β y.2)::at_ β (ins x r)
   rw[<-ih]
   exact if_neg hb
theorem del_at (β:Nat->Nat) (l:Dir) (k:Bs):del (at_ β l) k=at_ β (del l k):=by
 unfold del at_
 rw[List.filter_map]
 rfl
theorem put_at (β:Nat->Nat) (l:Dir) (k:Bs) (x:Option Nat):put (at_ β l) k (x.map β)=at_ β (put l k x):=by
 cases x with
 | none=>exact del_at β l k
 | some b=>
  show ins (k,β b) (del (at_ β l) k)=at_ β (ins (k,b) (del l k))
  rw[del_at]
  exact ins_at β (k,b) (del l k)
structure DvAt (w:World) (S:Nat->Prop) (d:Nat) (D:D) (u:Int) (β:Nat->Nat) (vs:Nat->Value) (nv kv pv:Value) (ss:List Value):Prop where
 head:w.heap[d]?=some (.cells #[.int .i64 (D.room:Int),.int .i64 u,nv,kv,pv] tDrive (0,0))
 now:DirAt Tryz.prog kStr w nv (at_ β D.now)
 kept:DirAt Tryz.prog kStr w kv (at_ β D.kept)
 apart:∀ b,mapBlock nv=some b->mapBlock kv≠some b
 both:mapBlock nv=none↔mapBlock kv=none
 inj:∀ i j,i<D.bd.length->j<D.bd.length->β i=β j->i=j
 body:∀ i,i<D.bd.length->w.heap[β i]?=some (.cells #[vs i,.int .i64 ((D.at i).safe:Int)] tBody (0,0))
 row:∀ i,i<D.bd.length->w.ownsRow 0 tU8 1 (vs i) (D.at i).data.length (cU8 (D.at i).data)
 own:∀ i j g,i<D.bd.length->j<D.bd.length->(vs i).ownBlock=some g->(vs j).ownBlock=some g->i=j
 pend:w.ownsRow 0 tSteps 1 pv D.pend.length ss
 steps:∀ (j:Nat) (c:List (Bs×Option Nat)) (s:Value),D.pend[j]?=some c->ss[j]?=some s->w.ownsRow 0 tStep 2 s c.length (cStep β c)
 inD:S d
 inN:∀ b,mapBlock nv=some b->S b
 inK:∀ b,mapBlock kv=some b->S b
 inB:∀ i,i<D.bd.length->S (β i)
 inV:∀ i g,i<D.bd.length->(vs i).ownBlock=some g->S g
 inP:∀ g,pv.ownBlock=some g->S g
 inS:∀ s∈ss,∀ g,s.ownBlock=some g->S g
 low:∀ k,S k->k<w.heap.size
 live:mapBlock nv=none->D.pend=[]
def Dv (w:World) (S:Nat->Prop) (d:Nat) (D:D) (m N:Nat):Prop:=D.Ok m N/\∃ β vs nv kv pv ss,DvAt w S d D (wrap64 (D.used:Int)) β vs nv kv pv ss
section
variable {w w':World} {S:Nat->Prop} {d:Nat} {D:D} {u:Int} {β:Nat->Nat} {vs:Nat->Value} {nv kv pv:Value} {ss:List Value} {m N:Nat}
theorem DvAt.same (h:DvAt w S d D u β vs nv kv pv ss) (hw:∀ k,S k->w'.heap[k]?=w.heap[k]?) (hs:w.heap.size<=w'.heap.size):DvAt w' S d D u β vs nv kv pv ss:=
 ⟨(hw d h.inD).trans h.head,h.now.same fun b hb=>hw b (h.inN b hb),h.kept.same fun b hb=>hw b (h.inK b hb),h.apart,h.both,h.inj,
  fun i hi=>(hw _ (h.inB i hi)).trans (h.body i hi),fun i hi=>own_same (h.row i hi) fun g hg=>hw g (h.inV i g hi hg),h.own,
  own_same h.pend fun g hg=>hw g (h.inP g hg),fun j c s hc hj=>own_same (h.steps j c s hc hj) fun g hg=>hw g (h.inS s (List.mem_of_getElem? hj) g hg),
  h.inD,h.inN,h.inK,h.inB,h.inV,h.inP,h.inS,fun k hk=>Nat.lt_of_lt_of_le (h.low k hk) hs,h.live⟩
theorem DvAt.cells (h:DvAt w S d D u β vs nv kv pv ss):w.cell? ⟨d,0,none⟩=some (.int .i64 (D.room:Int))/\w.cell? ⟨d,1,none⟩=some (.int .i64 u)/\w.cell? ⟨d,2,none⟩=some nv/\w.cell? ⟨d,3,none⟩=some kv/\w.cell? ⟨d,4,none⟩=some pv/\
  w.frozen? ⟨d,0,none⟩=false/\w.frozen? ⟨d,1,none⟩=false/\w.frozen? ⟨d,2,none⟩=false/\w.frozen? ⟨d,3,none⟩=false/\w.frozen? ⟨d,4,none⟩=false:=by
 refine⟨?_,?_,?_,?_,?_,?_,?_,?_,?_,?_⟩<;>first | (rw[cell_of_row w d _ _ _ _ h.head];rfl) | (unfold World.frozen?;rw[show w.heap[(⟨d,_,none⟩:Addr).block]?=_ from h.head];simp)
theorem DvAt.d_not (h:DvAt w S d D u β vs nv kv pv ss):(∀ b,mapBlock nv=some b->b≠d)/\(∀ b,mapBlock kv=some b->b≠d)/\(∀ i,i<D.bd.length->β i≠d)/\(∀ i g,i<D.bd.length->(vs i).ownBlock=some g->g≠d)/\(∀ g,pv.ownBlock=some g->g≠d)/\∀ (j:Nat) (c:List (Bs×Option Nat)) (s:Value),D.pend[j]?=some c->ss[j]?=some s->∀ g,s.ownBlock=some g->g≠d:=by
 refine⟨fun b hb=>h.now.apart hb h.head,fun b hb=>h.kept.apart hb h.head,fun i hi e=>?_,fun i g hi hg e=>?_,fun g hg e=>?_,fun j c s hc hs g hg e=>?_⟩
 ·have h1:=h.body i hi
  rw[e,h.head] at h1
  injection h1 with h1
  injection h1 with _ h2 _
  revert h2;decide
 ·obtain⟨cur,h1⟩:=own_lt (h.row i hi) hg
  rw[e,h.head] at h1
  injection h1 with h1
  injection h1 with _ h2 _
  revert h2;decide
 ·obtain⟨cur,h1⟩:=own_lt h.pend hg
  rw[e,h.head] at h1
  injection h1 with h1
  injection h1 with _ h2 _
  revert h2;decide
 ·obtain⟨cur,h1⟩:=own_lt (h.steps j c s hc hs) hg
  rw[e,h.head] at h1
  injection h1 with h1
  injection h1 with _ h2 _
  revert h2;decide
theorem DvAt.headed (h:DvAt w S d D u β vs nv kv pv ss) {u':Int} (hd:w'.heap[d]?=some (.cells #[.int .i64 (D.room:Int),.int .i64 u',nv,kv,pv] tDrive (0,0))) (hw:∀ k,S k->k≠d->w'.heap[k]?=w.heap[k]?) (hs:w.heap.size<=w'.heap.size):DvAt w' S d D u' β vs nv kv pv ss:=by
 obtain⟨n1,n2,n3,n4,n5,n6⟩:=h.d_not
 exact⟨hd,h.now.same fun b hb=>hw b (h.inN b hb) (n1 b hb),h.kept.same fun b hb=>hw b (h.inK b hb) (n2 b hb),h.apart,h.both,h.inj,
  fun i hi=>(hw _ (h.inB i hi) (n3 i hi)).trans (h.body i hi),fun i hi=>own_same (h.row i hi) fun g hg=>hw g (h.inV i g hi hg) (n4 i g hi hg),h.own,
  own_same h.pend fun g hg=>hw g (h.inP g hg) (n5 g hg),fun j c s hc hj=>own_same (h.steps j c s hc hj) fun g hg=>hw g (h.inS s (List.mem_of_getElem? hj) g hg) (n6 j c s hc hj g hg),
  h.inD,h.inN,h.inK,h.inB,h.inV,h.inP,h.inS,fun k hk=>Nat.lt_of_lt_of_le (h.low k hk) hs,h.live⟩
theorem DvAt.used (h:DvAt w S d D u β vs nv kv pv ss) (u':Int):DvAt (w.setCell ⟨d,1,none⟩ (.int .i64 u')) S d D u' β vs nv kv pv ss:=
 h.headed (heap_same h.head _) (fun k _ hk=>Below.heap_setCell w _ _ k hk) (by simp[World.setCell])
theorem DvAt.stands (h:DvAt w S d D u β vs nv kv pv ss) {b:Nat} (hb:mapBlock nv=some b) {l:Dir} (hl:DirAt Tryz.prog kStr w' nv (at_ β l)) (hk:Kept w w' (fun k=>k=b)):DvAt w' S d {D with now:=l} u β vs nv kv pv ss:=by
 have hne:∀ (g:Nat) (cur:Array Value) (e:TypeId) (fr:Nat×Nat),w.heap[g]?=some (.cells cur e fr)->w'.heap[g]?=w.heap[g]?:=fun g cur e fr hg=>hk.block g (Array.getElem?_eq_some_iff.1 hg).1 fun e=>h.now.apart hb hg e.symm
 refine⟨(hne d _ _ _ h.head).trans h.head,hl,h.kept.same fun x hx=>hk.block x (h.kept.lt hx) fun e=>h.apart b hb (e▸hx),h.apart,h.both,h.inj,fun i hi=>(hne _ _ _ _ (h.body i hi)).trans (h.body i hi),fun i hi=>own_same (h.row i hi) fun g hg=>?_,h.own,
  own_same h.pend fun g hg=>?_,fun j c s hc hj=>own_same (h.steps j c s hc hj) fun g hg=>?_,h.inD,h.inN,h.inK,h.inB,h.inV,h.inP,h.inS,fun k hk'=>Nat.lt_of_lt_of_le (h.low k hk') hk.size,h.live⟩
 ·obtain⟨cur,h1⟩:=own_lt (h.row i hi) hg
  exact hne g _ _ _ h1
 ·obtain⟨cur,h1⟩:=own_lt h.pend hg
  exact hne g _ _ _ h1
 ·obtain⟨cur,h1⟩:=own_lt (h.steps j c s hc hj) hg
  exact hne g _ _ _ h1
theorem own_new (w:World) {base:Nat} (hb:base<=w.heap.size) (e:TypeId) (size n:Nat) (xs:List Value) (hx:xs.length=n*size) (hn:n<=maxLen):(w.alloc (.cells xs.toArray e)).ownsRow base e size (.slice (some ⟨w.heap.size,0,none⟩) n n) n xs:=
 ⟨hx,.inr ⟨w.heap.size,n,xs.toArray,rfl,hb,heap_alloc_new w _,Nat.le_refl _,hn,by simpa using hx,by rw[<-hx];simp⟩⟩
theorem own_alloc {w:World} {base:Nat} {e:TypeId} {size n:Nat} {v:Value} {xs:List Value} (h:w.ownsRow base e size v n xs) (o:Obj):(w.alloc o).ownsRow base e size v n xs:=
 own_same h fun g hg=>by obtain⟨cur,h1⟩:=own_lt h hg;exact alloc_was _ _ (Array.getElem?_eq_some_iff.1 h1).1
end
theorem keyed:Maps.Keyed Tryz.prog kStr:=Maps.string_keyed Tryz.underlying9
theorem undirU:Tryz.prog.underlying 151=some (.map kStr 148):=Tryz.underlying151
end Go.Proofs.YtmgljaecmchgaaaGreat.Dr
namespace Go.Proofs.YtmgljaecmchgaaaGreat.Dr
open Go.RowKit Go.Proofs Go.Proofs.YtmgljaecmchgaaaGreat.Ring
theorem key_of {k:Bs} (hk:k.length<=maxLen):keyOf Tryz.prog kStr (encStr k)=some (.string k):=by
 have:=Go.WideMaps.keyOf_string_mk (P:=Tryz.prog) (k:=9) Tryz.underlying9 (s:=⟨k.toArray⟩) (by simpa [ByteArray.size] using hk)
 simpa [encStr] using this
theorem zero_ptr (w:World):(zeroValue 148).run Tryz.prog w = .ok (.pointer none) w:=by
 first | exact Tryz.zeroValue148 w | (simp[Tryz.zeroValue148])
theorem named_len {n:Bs} (h:named n=true):n.length<=maxLen:=by
 unfold named at h
 have:=of_decide_eq_true h
 unfold maxLen;omega
theorem DirAt.run_look {w:World} {mv:Value} {l:Dir} (h:DirAt Tryz.prog kStr w mv l) {k:Bs} (hk:k.length<=maxLen):(Instr.lookup 151 mv (encStr k) false).run Tryz.prog w = .ok (ptr (find l k)) w:=
 h.look keyed undirU (zero_ptr w) (key_of hk)
set_option maxRecDepth 100000 in
theorem named_any (n:Bs) (w:World):Calls Tryz.prog 56 #[encStr n] w fun x w'=>x = .returned (.bool (named n))/\w=w':=by
 unfold named
 by_cases h1:1<=n.length
 ·by_cases h2:n.length<=1024
  ·have d1:(1:Int)<=(n.length:Int):=by omega
   have d2:(n.length:Int)<=1024:=by omega
   go_enter Tryz.func56,Tryz.ntmps56
   go_wp2
   go_ret
   exact⟨by simp[h1,h2],rfl⟩
  ·have d1:(1:Int)<=(n.length:Int):=by omega
   have d2:¬ (n.length:Int)<=1024:=by omega
   go_enter Tryz.func56,Tryz.ntmps56
   go_wp2
   go_ret
   exact⟨by simp,rfl⟩
 ·have d1:¬ (1:Int)<=(n.length:Int):=by omega
  go_enter Tryz.func56,Tryz.ntmps56
  go_wp2
  go_ret
  exact⟨by simp,rfl⟩
section
variable {w:World} {S:Nat->Prop} {d:Nat} {D:D} {u:Int} {β:Nat->Nat} {vs:Nat->Value} {nv kv pv:Value} {ss:List Value} {m N:Nat}
def found (β:Nat->Nat) (r:Except Int Nat):Value:=
 match r with
 | .ok i=>.tuple #[.pointer (some ⟨β i,0,none⟩),.int .i64 0]
 | .error e=>.tuple #[.pointer none,.int .i64 e]
set_option maxRecDepth 100000 in
theorem find_any (h:DvAt w S d D u β vs nv kv pv ss) (n:Bs):Calls Tryz.prog 83 #[.pointer (some ⟨d,0,none⟩),encStr n] w fun x w'=>x = .returned (found β (D.look n))/\w=w':=by
 obtain⟨_,_,c2,_,_,_⟩:=h.cells
 cases hn:named n with
 | false=>
  have hl:D.look n = .error 91:=by unfold Dr.D.look;rw[if_neg (by simp[hn])]
  rw[hl]
  go_enter Tryz.func83,Tryz.ntmps83
  go_wp2_with (go_at_call 56;refine (named_any n _).mono ?_;rintro x w1 ⟨rfl,rfl⟩;rw[hn])
  refine bodyPost_ret (v:=.tuple #[.pointer none,.int .i64 91]) (by simp[results,Tryz.results83,go_sem]) rfl ?_
  exact⟨rfl,rfl⟩
 | true=>
  have hk:=h.now.run_look (named_len hn)
  rw[find_at] at hk
  cases hf:find D.now n with
  | none=>
   have hl:D.look n = .error 110:=by unfold Dr.D.look;rw[if_pos hn,hf]
   rw[hl]
   rw[hf] at hk
   simp only[Option.map_none,ptr] at hk
   go_enter Tryz.func83,Tryz.ntmps83
   go_wp2_with (go_at_call 56;refine (named_any n _).mono ?_;rintro x w1 ⟨rfl,rfl⟩;rw[hn])
   refine bodyPost_ret (v:=.tuple #[.pointer none,.int .i64 110]) (by simp[results,Tryz.results83,go_sem]) rfl ?_
   exact⟨rfl,rfl⟩
  | some i=>
   have hl:D.look n = .ok i:=by unfold Dr.D.look;rw[if_pos hn,hf]
   rw[hl]
   rw[hf] at hk
   simp only[Option.map_some,ptr] at hk
   go_enter Tryz.func83,Tryz.ntmps83
   go_wp2_with (go_at_call 56;refine (named_any n _).mono ?_;rintro x w1 ⟨rfl,rfl⟩;rw[hn])
   refine bodyPost_ret (v:=.tuple #[.pointer (some ⟨β i,0,none⟩),.int .i64 0]) (by simp[results,Tryz.results83,go_sem]) rfl ?_
   exact⟨rfl,rfl⟩
end
theorem fresh_dv (w:World) (r:Nat) {w':World} {d a b:Nat} (hd:w'.heap[d]?=some (.cells #[.int .i64 (r:Int),.int .i64 0,.map (some a),.map (some b),.slice none 0 0] tDrive (0,0)))
  (ha:DirAt Tryz.prog kStr w' (.map (some a)) []) (hb:DirAt Tryz.prog kStr w' (.map (some b)) []) (hab:a≠b) (h1:w.heap.size<=d) (h2:w.heap.size<=a) (h3:w.heap.size<=b) :
  DvAt w' (fun k=>w.heap.size<=k/\k<w'.heap.size) d (D.fresh r) (wrap64 ((D.fresh r).used:Int)) (fun _=>0) (fun _=>.slice none 0 0) (.map (some a)) (.map (some b)) (.slice none 0 0) []:=by
 have no:∀ (i:Nat) {p:Prop},i<(D.fresh r).bd.length->p:=fun i _ h=>absurd h (Nat.not_lt_zero _)
 exact {
  head:=by rw[show wrap64 ((D.fresh r).used:Int)=0 by show wrap64 ((0:Nat):Int)=0;unfold wrap64;omega];exact hd
  now:=ha
  kept:=hb
  apart:=fun x hx e=>hab (by simp[mapBlock] at hx e;omega)
  both:=by simp[mapBlock]
  inj:=fun i j hi=>no i hi
  body:=fun i hi=>no i hi
  row:=fun i hi=>no i hi
  own:=fun i j g hi=>no i hi
  pend:=World.ownsRow_nil _ _ _ _
  steps:=fun j c s hc=>(by cases hc)
  inD:=⟨h1,(Array.getElem?_eq_some_iff.1 hd).1⟩
  inN:=fun x hx=>(by have:=ha.lt hx;simp[mapBlock] at hx;subst hx;exact⟨h2,this⟩)
  inK:=fun x hx=>(by have:=hb.lt hx;simp[mapBlock] at hx;subst hx;exact⟨h3,this⟩)
  inB:=fun i hi=>no i hi
  inV:=fun i g hi=>no i hi
  inP:=fun g hg=>(by cases hg)
  inS:=fun s hs=>(by cases hs)
  low:=fun k hk=>hk.2
  live:=fun e=>(by simp[mapBlock] at e)}
set_option maxRecDepth 100000 in
theorem new_dv (r:Nat) (hr:r<=1073741824) (w:World):Calls Tryz.prog 55 #[.int .i64 (r:Int)] w fun x w'=>∃ d a b,x = .returned (.pointer (some ⟨d,0,none⟩))/\w.heap.size<=d/\DvAt w' (fun k=>w.heap.size<=k/\k<w'.heap.size) d (D.fresh r) (wrap64 ((D.fresh r).used:Int)) (fun _=>0) (fun _=>.slice none 0 0) (.map (some a)) (.map (some b)) (.slice none 0 0) []/\Below w.heap.size w w':=by
 have h1:¬ (r:Int)<0:=by omega
 have h2:¬ (r:Int)>1073741824:=by omega
 have hmk:=fun w=>run_makeMap (P:=Tryz.prog) 151 w
 go_enter Tryz.func55,Tryz.ntmps55
 go_wp2
 go_ret
 have m0:=DirAt.made Tryz.prog w kStr
 have m1:=DirAt.made Tryz.prog (w.alloc (.map #[] 0)) kStr
 have hs:((w.alloc (.map #[] 0)).alloc (.map #[] 0)).heap.size=w.heap.size+1+1:=by simp
 have hd:=heap_alloc_new ((w.alloc (.map #[] 0)).alloc (.map #[] 0)) (.cells #[.int .i64 (r:Int),.int .i64 0,.map (some w.heap.size),.map (some (w.heap.size+1)),.slice none 0 0] tDrive)
 rw[hs] at hd
 refine⟨_,rfl,?_,⟨_,_,fresh_dv w r (a:=w.heap.size) (b:=w.heap.size+1) hd ?_ ?_ ?_ ?_ ?_ ?_⟩,?_⟩
 ·omega
 ·refine m0.same fun b hb=>(alloc_was _ _ ?_).trans (alloc_was _ _ (m0.lt hb))
  have:=m0.lt hb;simp at this ⊢;omega
 ·rw[show (w.alloc (.map #[] 0)).heap.size=w.heap.size+1 by simp] at m1
  exact m1.same fun b hb=>alloc_was _ _ (m1.lt hb)
 ·omega
 ·omega
 ·omega
 ·omega
 ·exact (((Below.refl _ _).alloc (Nat.le_refl _) _).alloc (by simp) _).alloc (by simp;omega) _
set_option maxRecDepth 100000 in
theorem new_not (r:Int) (hr:okRoom r=false) (w:World):Calls Tryz.prog 55 #[.int .i64 r] w fun x w'=>x = .returned (.pointer none)/\w=w':=by
 have hr':r<0\/1073741824<r:=by
  have:=of_decide_eq_false hr
  omega
 rcases hr' with h | h
 ·go_enter Tryz.func55,Tryz.ntmps55
  go_wp2
  go_ret
  exact⟨rfl,rfl⟩
 ·have h0:¬ r<0:=by omega
  go_enter Tryz.func55,Tryz.ntmps55
  go_wp2
  go_ret
  exact⟨rfl,rfl⟩
end Go.Proofs.YtmgljaecmchgaaaGreat.Dr
namespace Go.Proofs.YtmgljaecmchgaaaGreat
open Go.RowKit Go.Proofs
section
variable {P:Program} (w:World)
theorem run_append_keeps (t ty:TypeId) (base:Nat) (e:TypeId) (i:TypeInfo) (z:Value) (size bytes:Nat) (ht:P.underlying t=some (.slice e)) (hi:P.info? e=some i) (hz:i.zero=some z)
  (hsize:i.size=size) (hby:i.bytes=bytes) (hzs:z.cells.size=size) (hsz:0<size)
  (v:Value) (n:Nat) (xs:List Value) (hown:w.ownsRow base e size v n xs)
  (ad:Addr) (m c:Nat) (news:List Value) (hl:news.length=m*size) (hnews:∀ j u,news[j]?=some u->w.cell? (ad.add j)=some u) (h1:∀ u∈news,u.oneCell'=true)
  (hm:0<m) (h63:n+m<=maxLen) (hbytes:(n+m)*bytes<=140737488355328) (hbase:base<=w.heap.size) :
  ∃ g cap w',(Builtin.append_ #[t,t] ty #[v,.slice (some ad) m c]).run P w = .ok (.slice (some ⟨g,0,none⟩) (n+m) cap) w'/\
   w'.ownsRow base e size (.slice (some ⟨g,0,none⟩) (n+m) cap) (n+m) (xs++news)/\w.grownBy w' v.ownBlock/\(v.ownBlock=some g\/g=w.heap.size)/\g<w'.heap.size/\
   ∀ b2 v2 n2 xs2,w.ownsRow b2 e size v2 n2 xs2->(v2.ownBlock=v.ownBlock->n2<=n)->w'.ownsRow b2 e size v2 n2 xs2:=by
 obtain⟨g,cap,w',hr,ho,hg,hat,hlt⟩:=run_append_lies (P:=P) w t ty base e i z size bytes ht hi hz hsize hby hzs hsz v n xs hown ad m c news hl hnews h1 hm h63 hbytes hbase _ rfl
 refine⟨g,cap,w',hr,ho,hg,hat,hlt,?_⟩
 intro b2 v2 n2 xs2 h2 hle
 subst hsize
 subst hby
 rcases hown.2 with ⟨rfl,rfl⟩ | ⟨g',cap',cur,rfl,hbg,hgg,hnc,hcm,hcs,htake⟩
 ·refine h2.kept hg ?_
  cases hv:v2.ownBlock<;>simp[Value.ownBlock]
 ·by_cases hsame:v2.ownBlock=some g'
  ·have hn2:n2<=n:=hle (by rw[hsame];rfl)
   by_cases hroom:n+m<=cap'
   ·have hfit:n*i.size+news.length<=cur.size:=by rw[hl,hcs,<-Nat.add_mul];exact Nat.mul_le_mul_right _ hroom
    have hr2:=run_append_room (P:=P) w t ty e i ht hi g' n cap' cur hgg ad m c news hl hnews h1 hroom hfit
    rw[hr] at hr2
    injection hr2 with _ hw
    subst hw
    rcases h2.2 with ⟨rfl,_⟩ | ⟨g2,cap2,cur2,rfl,hb2,hg2,hnc2,hcm2,hcs2,htake2⟩
    ·simp[Value.ownBlock] at hsame
    ·simp[Value.ownBlock] at hsame
     subst hsame
     rw[hgg] at hg2
     injection hg2 with hg2
     injection hg2 with hcc _ _
     subst hcc
     refine⟨h2.1,.inr ⟨g2,cap2,_,rfl,hb2,setRow_heap w g2 cur _ e _ hgg,hnc2,hcm2,?_,?_⟩⟩
     ·simp only[List.size_toArray,List.length_append,List.length_take,List.length_drop,Array.length_toList]
      omega
     ·have hmul:n2*i.size<=n*i.size:=Nat.mul_le_mul_right _ hn2
      have hcl:n*i.size<=cur.size:=by omega
      rw[<-htake2]
      show List.take (n2*i.size) ((cur.toList.take (n*i.size)++news)++cur.toList.drop (n*i.size+news.length))=_
      rw[List.append_assoc,List.take_append_of_le_length (by simp;omega),List.take_take,Nat.min_eq_left hmul]
   ·have holds:∀ j u,xs[j]?=some u->w.cell? ((⟨g',0,none⟩:Addr).add j)=some u:=hown.cells (g:=g') rfl
    have hr2:=run_append_grow (P:=P) w t ty e i z ht hi hz ⟨g',0,none⟩ n cap' xs hown.1 holds ad m c news hl hnews (by omega) (by simp only[maxLen] at h63;omega) (growslice_fits (by omega) hbytes)
    rw[hr] at hr2
    injection hr2 with _ hw
    subst hw
    refine h2.kept (row:=none) ⟨rfl,rfl,rfl,by simp,fun k hk _=>alloc_was w.drew _ hk⟩ ?_
    cases hv:v2.ownBlock<;>simp
  ·refine h2.kept hg ?_
   cases hv:v2.ownBlock with
   | none=>simp
   | some b=>rw[hv] at hsame;simp[Value.ownBlock];simpa using hsame
theorem wpList_append_keeps {ops:Array Oper} {rest:List Oper} {o:Oper} {a:Act} {Q:Exit->Act->World->Prop} (hgd:o.guard=none) (s x:Operand) (t:TypeId)
  (ho:o.op = .call {callee:=.builtin .append,args:=#[s,x],argTypes:=#[t,t]})
  (base:Nat) (e:TypeId) (i:TypeInfo) (z:Value) (size bytes:Nat) (ht:P.underlying t=some (.slice e)) (hi:P.info? e=some i) (hz:i.zero=some z)
  (hsize:i.size=size) (hby:i.bytes=bytes) (hzs:z.cells.size=size) (hsz:0<size)
  (v:Value) (n:Nat) (xs:List Value) (hs:a.eval s=v) (hown:w.ownsRow base e size v n xs)
  (ad:Addr) (m c:Nat) (news:List Value) (hx:a.eval x = .slice (some ad) m c) (hl:news.length=m*size) (hnews:∀ j u,news[j]?=some u->w.cell? (ad.add j)=some u) (h1:∀ u∈news,u.oneCell'=true)
  (hm:0<m) (h63:n+m<=maxLen) (hbytes:(n+m)*bytes<=140737488355328) (hbase:base<=w.heap.size)
  (h:∀ g cap w',w'.ownsRow base e size (.slice (some ⟨g,0,none⟩) (n+m) cap) (n+m) (xs++news)->w.grownBy w' v.ownBlock->(v.ownBlock=some g\/g=w.heap.size)->g<w'.heap.size->
   (∀ b2 v2 n2 xs2,w.ownsRow b2 e size v2 n2 xs2->(v2.ownBlock=v.ownBlock->n2<=n)->w'.ownsRow b2 e size v2 n2 xs2)->wpList P ops Q rest (a.put o.dst (.slice (some ⟨g,0,none⟩) (n+m) cap)) w'):wpList P ops Q (o::rest) a w:=by
 refine wpList_plain hgd fun K hK=>?_
 obtain⟨g,cap,w',hr,h2,h3,h4,h5,h6⟩:=run_append_keeps (P:=P) w t o.type base e i z size bytes ht hi hz hsize hby hzs hsz v n xs hown ad m c news hl hnews h1 hm h63 hbytes hbase
 unfold Oper.wp execOp
 simp only[ho,resolve,invoke,builtin,Sem.run_bind,Sem.run_pure,Result.andThen_ok,List.map_toArray,List.map_cons,List.map_nil,hs,hx,hr]
 exact hK _ _ (h g cap w' h2 h3 h4 h5 h6)
end
end Go.Proofs.YtmgljaecmchgaaaGreat
namespace Go.Proofs.YtmgljaecmchgaaaGreat.Dr
open Go.RowKit Go.Proofs Go.Proofs.YtmgljaecmchgaaaGreat.Ring
theorem c_now {w:World} {d:Nat} {a b x y z:Value} (h:w.heap[d]?=some (.cells #[a,b,x,y,z] tDrive (0,0))):w.cell? ⟨d,1,none⟩=some b/\w.cell? ⟨d,2,none⟩=some x/\w.cell? ⟨d,4,none⟩=some z/\w.frozen? ⟨d,1,none⟩=false/\w.frozen? ⟨d,4,none⟩=false:=by
 refine⟨?_,?_,?_,?_,?_⟩<;>first | (rw[cell_of_row w d _ _ _ _ h];rfl) | (unfold World.frozen?;rw[show w.heap[(⟨d,_,none⟩:Addr).block]?=_ from h];simp)
theorem c_maps {w:World} {d:Nat} {a b x y z:Value} (h:w.heap[d]?=some (.cells #[a,b,x,y,z] tDrive (0,0))):w.cell? ⟨d,2,none⟩=some x/\w.cell? ⟨d,3,none⟩=some y/\w.frozen? ⟨d,2,none⟩=false/\w.frozen? ⟨d,3,none⟩=false:=by
 refine⟨?_,?_,?_,?_⟩<;>first | (rw[cell_of_row w d _ _ _ _ h];rfl) | (unfold World.frozen?;rw[show w.heap[(⟨d,_,none⟩:Addr).block]?=_ from h];simp)
theorem wrap_add (x y:Int):wrap64 (wrap64 x+y)=wrap64 (x+y):=by unfold wrap64;omega
end Go.Proofs.YtmgljaecmchgaaaGreat.Dr
namespace Go.Proofs.YtmgljaecmchgaaaGreat.Dr
open Go.RowKit Go.Proofs Go.Proofs.YtmgljaecmchgaaaGreat.Ring
theorem ne_ty {w:World} {a b:Nat} {c1 c2:Array Value} {T1 T2:TypeId} {f1 f2:Nat×Nat} (h1:w.heap[a]?=some (.cells c1 T1 f1)) (h2:w.heap[b]?=some (.cells c2 T2 f2)) (hT:T1≠T2):a≠b:=by
 rintro rfl
 rw[h1] at h2
 injection h2 with h2
 injection h2 with _ h2 _
 exact hT h2
section
variable {w w':World} {S:Nat->Prop} {d:Nat} {D:D} {u:Int} {β:Nat->Nat} {vs:Nat->Value} {nv kv pv:Value} {ss:List Value} {m N:Nat}
theorem look_ne {D:Dr.D} {n:Bs} {e:Int} (hl:D.look n = .error e):(e==0)=false:=by
 unfold Dr.D.look at hl
 split at hl
 ·split at hl
  ·cases hl
  ·injection hl with hl;subst hl;rfl
 ·injection hl with hl;subst hl;rfl
theorem c_body {w:World} {b:Nat} {x y:Value} (h:w.heap[b]?=some (.cells #[x,y] tBody (0,0))):w.cell? ⟨b,0,none⟩=some x/\w.cell? ⟨b,1,none⟩=some y/\w.frozen? ⟨b,0,none⟩=false/\w.frozen? ⟨b,1,none⟩=false:=by
 refine⟨?_,?_,?_,?_⟩<;>first | (rw[cell_of_row w b _ _ _ _ h];rfl) | (unfold World.frozen?;rw[show w.heap[(⟨b,_,none⟩:Addr).block]?=_ from h];simp)
section
variable {w:World} {S:Nat->Prop} {d m N:Nat} {D:Dr.D}
theorem infoU8:(Tryz.prog.info? tU8).map (fun i=>(i.zero,i.size,i.bytes))=some (some (.int .u8 0),1,1):=by kernel_rfl
end
end
end Go.Proofs.YtmgljaecmchgaaaGreat.Dr
namespace Go.Proofs.YtmgljaecmchgaaaGreat.Dr
open Go.RowKit Go.Proofs Go.Proofs.YtmgljaecmchgaaaGreat.Ring
section
variable {w w':World} {S:Nat->Prop} {d:Nat} {D:Dr.D} {u:Int} {β:Nat->Nat} {vs:Nat->Value} {nv kv pv:Value} {ss:List Value} {m N:Nat}
theorem at_snoc {D:Dr.D} {b:Bd} {j:Nat}:({D with bd:=D.bd++[b]}:Dr.D).at j=if j=D.bd.length then b else D.at j:=by
 unfold Dr.D.at
 simp only
 rw[List.getD_eq_getElem?_getD,List.getD_eq_getElem?_getD]
 rcases Nat.lt_trichotomy j D.bd.length with h | h | h
 ·rw[List.getElem?_append_left h,if_neg (by omega)]
 ·subst h;rw[List.getElem?_append_right (Nat.le_refl _)];simp
 ·rw[if_neg (by omega),List.getElem?_eq_none (show (D.bd++[b]).length<=j by simp;omega),List.getElem?_eq_none (show D.bd.length<=j by omega)]
theorem sumL_snoc {bd:List Bd} {b:Bd}:∀ {l:Dir},(∀ p∈l,p.2<bd.length)->sumL (bd++[b]) l=sumL bd l
 | [],_=>rfl
 | p::r,h=>by
  rw[sumL_cons,sumL_cons,sumL_snoc fun x hx=>h x (by simp[hx])]
  congr 1
  unfold lenAt
  rw[List.getD_eq_getElem?_getD,List.getElem?_append_left (h p (by simp)),<-List.getD_eq_getElem?_getD]
end
end Go.Proofs.YtmgljaecmchgaaaGreat.Dr
