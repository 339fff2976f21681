/- XK01: merged by tools/merge.py. -/
import GoSem.ClaimWide
set_option linter.unusedVariables false
set_option linter.unusedSimpArgs false
set_option linter.unusedSectionVars false
namespace Go.Proofs.YtmgljaecmchgaaaGreat.Dr
open Go
abbrev Bs:=List UInt8
abbrev Dir:=List (Bs×Nat)
section
variable {α:Type}
def ins (x:Bs×α):List (Bs×α)->List (Bs×α)
 | []=>[x]
 | y::r=>if bytesBefore x.1 y.1 then x::y::r else y::ins x r
def del (l:List (Bs×α)) (k:Bs):List (Bs×α):=l.filter fun p=>decide (p.1≠k)
def put (l:List (Bs×α)) (k:Bs) (to:Option α):List (Bs×α):=
 match to with
 | none=>del l k
 | some b=>ins (k,b) (del l k)
def find (l:List (Bs×α)) (k:Bs):Option α:=(l.find? fun p=>decide (p.1=k)).map (·.2)
def apply (l:List (Bs×α)) (c:List (Bs×Option α)):List (Bs×α):=c.foldl (fun l s=>put l s.1 s.2) l
def Rise (l:List (Bs×α)):Prop:=l.Pairwise fun p q=>bytesBefore p.1 q.1=true
theorem before_irrefl (a:Bs):bytesBefore a a=false:=by
 induction a with
 | nil=>rfl
 | cons x r ih=>simp[bytesBefore,ih]
theorem before_trans:∀ {a b c:Bs},bytesBefore a b=true->bytesBefore b c=true->bytesBefore a c=true
 | [],[],_,h,_=>by simp[bytesBefore] at h
 | [],_::_,[],_,h=>by simp[bytesBefore] at h
 | [],_::_,_::_,_,_=>rfl
 | _::_,[],_,h,_=>by simp[bytesBefore] at h
 | _::_,_::_,[],_,h=>by simp[bytesBefore] at h
 | x::a,y::b,z::c,h1,h2=>by
  simp only[bytesBefore,Bool.or_eq_true,Bool.and_eq_true,beq_iff_eq,decide_eq_true_eq] at h1 h2 ⊢
  rcases h1 with h1 | ⟨rfl,h1⟩
  ·rcases h2 with h2 | ⟨rfl,_⟩
   ·exact .inl (UInt8.lt_trans h1 h2)
   ·exact .inl h1
  ·rcases h2 with h2 | ⟨rfl,h2⟩
   ·exact .inl h2
   ·exact .inr ⟨rfl,before_trans h1 h2⟩
theorem before_total:∀ {a b:Bs},bytesBefore a b=false->a≠b->bytesBefore b a=true
 | [],[],_,h=>absurd rfl h
 | [],_::_,h,_=>by simp[bytesBefore] at h
 | _::_,[],_,_=>rfl
 | x::a,y::b,h,hne=>by
  simp only[bytesBefore,Bool.or_eq_false_iff,Bool.and_eq_false_iff,beq_eq_false_iff_ne,decide_eq_false_iff_not] at h
  simp only[bytesBefore,Bool.or_eq_true,Bool.and_eq_true,beq_iff_eq,decide_eq_true_eq]
  by_cases hxy:x=y
  ·subst hxy
   refine .inr ⟨rfl,before_total ?_ (fun e=>hne (by rw[e]))⟩
   rcases h.2 with h2 | h2
   ·exact absurd rfl h2
   ·exact h2
  ·refine .inl ?_
   have h1:¬ x.toNat<y.toNat:=h.1
   have h2:x.toNat≠y.toNat:=fun e=>hxy (UInt8.toNat_inj.1 e)
   show y.toNat<x.toNat
   omega
theorem before_ne {a b:Bs} (h:bytesBefore a b=true):a≠b:=fun e=>by rw[e,before_irrefl] at h;cases h
theorem before_asymm {a b:Bs} (h:bytesBefore a b=true):bytesBefore b a=false:=by
 cases h2:bytesBefore b a
 ·rfl
 ·have:=before_trans h h2;rw[before_irrefl] at this;cases this
theorem mem_ins {x y:Bs×α} {l:List (Bs×α)}:y∈ins x l↔y=x\/y∈l:=by
 induction l with
 | nil=>simp[ins]
 | cons z r ih=>
  unfold ins
  split
  ·simp
  ·simp[ih];grind
theorem mem_del {y:Bs×α} {l:List (Bs×α)} {k:Bs}:y∈del l k↔y∈l/\y.1≠k:=by simp[del]
theorem mem_put {y:Bs×α} {l:List (Bs×α)} {k:Bs} {to:Option α}:y∈put l k to↔(y∈l/\y.1≠k)\/(y.1=k/\to=some y.2):=by
 cases to with
 | none=>simp[put,mem_del]
 | some b=>
  simp only[put,mem_ins,mem_del,Option.some.injEq]
  constructor
  ·rintro (rfl | h)
   ·exact .inr ⟨rfl,rfl⟩
   ·exact .inl h
  ·rintro (h | ⟨h1,h2⟩)
   ·exact .inr h
   ·exact .inl (Prod.ext h1 h2.symm)
theorem rise_ins {x:Bs×α} {l:List (Bs×α)} (h:Rise l) (hx:∀ y∈l,y.1≠x.1):Rise (ins x l):=by
 induction l with
 | nil=>simp[ins,Rise]
 | cons z r ih=>
  obtain⟨h1,h2⟩:=List.pairwise_cons.1 h
  unfold ins
  split
  ·rename_i hb
   refine List.pairwise_cons.2 ⟨fun y hy=>?_,h⟩
   rcases List.mem_cons.1 hy with rfl | hy
   ·exact hb
   ·exact before_trans hb (h1 y hy)
  ·rename_i hb
   refine List.pairwise_cons.2 ⟨fun y hy=>?_,ih h2 fun y hy=>hx y (by simp[hy])⟩
   rcases mem_ins.1 hy with rfl | hy
   ·exact before_total (by simpa using hb) (fun e=>hx z (by simp) e.symm)
   ·exact h1 y hy
theorem rise_del {l:List (Bs×α)} (h:Rise l) (k:Bs):Rise (del l k):=h.filter _
theorem rise_put {l:List (Bs×α)} (h:Rise l) (k:Bs) (to:Option α):Rise (put l k to):=by
 cases to with
 | none=>exact rise_del h k
 | some b=>exact rise_ins (rise_del h k) fun y hy=>(mem_del.1 hy).2
theorem find_some {l:List (Bs×α)} (h:Rise l) {k:Bs} {b:α}:find l k=some b↔(k,b)∈l:=by
 induction l with
 | nil=>simp[find]
 | cons z r ih=>
  obtain⟨h1,h2⟩:=List.pairwise_cons.1 h
  have ih:=ih h2
  unfold find at ih ⊢
  rw[List.find?_cons]
  by_cases hz:z.1=k
  ·rw[decide_eq_true hz]
   simp only[Option.map_some,Option.some.injEq,List.mem_cons]
   constructor
   ·rintro rfl;exact .inl (Prod.ext hz.symm rfl)
   ·rintro (h3 | h3)
    ·rw[<-h3]
    ·have:=before_ne (h1 _ h3);exact absurd hz this
  ·rw[decide_eq_false hz]
   simp only[List.mem_cons]
   rw[ih]
   constructor
   ·exact .inr
   ·rintro (h3 | h3)
    ·rw[<-h3] at hz;exact absurd rfl hz
    ·exact h3
theorem find_none {l:List (Bs×α)} {k:Bs}:find l k=none↔∀ y∈l,y.1≠k:=by
 unfold find
 rw[Option.map_eq_none_iff,List.find?_eq_none]
 simp
theorem len_ins (x:Bs×α) (l:List (Bs×α)):(ins x l).length=l.length+1:=by
 induction l with
 | nil=>rfl
 | cons z r ih=>unfold ins;split<;>simp[ih]
theorem len_del_le (l:List (Bs×α)) (k:Bs):(del l k).length<=l.length:=List.length_filter_le _ _
theorem len_put_le (l:List (Bs×α)) (k:Bs) (to:Option α):(put l k to).length<=l.length+1:=by
 have:=len_del_le l k
 cases to with
 | none=>simp only[put];omega
 | some b=>simp only[put,len_ins];omega
end
end Go.Proofs.YtmgljaecmchgaaaGreat.Dr
namespace Go.Proofs.YtmgljaecmchgaaaGreat.Dr
open Go
structure Bd where
 data:Bs
 safe:Nat
structure D where
 room:Nat
 bd:List Bd
 now:Dir
 kept:Dir
 pend:List (List (Bs×Option Nat))
def named (n:Bs):Bool:=decide (1<=n.length/\n.length<=1024)
def D.at (d:D) (i:Nat):Bd:=d.bd.getD i ⟨[],0⟩
def sumL (bd:List Bd) (l:Dir):Nat:=(l.map fun p=>(bd.getD p.2 ⟨[],0⟩).data.length).sum
def D.used (d:D):Nat:=sumL d.bd d.now
def D.change (d:D) (c:List (Bs×Option Nat)):D:={d with now:=apply d.now c,pend:=d.pend++[c]}
def D.look (d:D) (n:Bs):Except Int Nat:=
 if named n then (match find d.now n with | some i=>.ok i | none=>.error 110) else .error 91
def D.files (d:D) (l:Dir) (f:Bd->Bs):List (Bs×Bs):=l.map fun p=>(p.1,f (d.at p.2))
def D.image (d:D):List (Bs×Bs):=d.files d.now (·.data)
def D.safe (d:D):List (Bs×Bs):=d.files d.kept fun b=>b.data.take b.safe
def D.fresh (room:Nat):D:=⟨room,[],[],[],[]⟩
def loadAt:D->List (Bs×Bs)->Option D
 | d,[]=>some d
 | d,(n,x)::r=>
  if (find d.now n).isSome||!named n then none
  else loadAt ⟨d.room,d.bd++[⟨x,x.length⟩],put d.now n (some d.bd.length),put d.kept n (some d.bd.length),[]⟩ r
def okRoom (room:Int):Bool:=decide (0<=room/\room<=1073741824)
def D.load (room:Int) (fs:List (Bs×Bs)):Option D:=if okRoom room then loadAt (D.fresh room.toNat) fs else none
structure Ac where
 kind:Int
 name:Bs
 dst:Bs
 n:Int
 data:Bs
 dirs:List Bool
 cuts:List Int
structure An where
 code:Int:=0
 n:Int:=0
 data:Bs:=[]
 names:List Bs:=[]
 files:List (Bs×Bs):=[]
structure D.Ok (d:D) (m N:Nat):Prop where
 room:d.room<=1073741824
 now:Rise d.now
 kept:Rise d.kept
 inN:∀ p∈d.now,p.2<d.bd.length
 inK:∀ p∈d.kept,p.2<d.bd.length
 inP:∀ c∈d.pend,∀ s∈c,named s.1=true/\∀ i,s.2=some i->i<d.bd.length
 one:(d.now.map (·.2)).Nodup
 oneP:∀ c∈d.pend,c.countP (fun s=>s.2.isSome)<=1
 safe:∀ b∈d.bd,b.safe<=b.data.length/\b.data.length<=m
 lenN:d.now.length<=N
 lenK:d.kept.length+d.pend.length<=N
 namN:∀ p∈d.now,named p.1=true
 namK:∀ p∈d.kept,named p.1=true
end Go.Proofs.YtmgljaecmchgaaaGreat.Dr
namespace Go.Proofs.YtmgljaecmchgaaaGreat.Dr
open Go
section
variable {α:Type}
theorem ins_perm (x:Bs×α) (l:List (Bs×α)):(ins x l).Perm (x::l):=by
 induction l with
 | nil=>exact .refl _
 | cons y r ih=>
  unfold ins
  split
  ·exact .refl _
  ·exact (ih.cons y).trans (.swap x y r)
theorem del_same {l:List (Bs×α)} {k:Bs} (h:find l k=none):del l k=l:=
 List.filter_eq_self.2 fun y hy=>by simpa using find_none.1 h y hy
theorem del_perm {l:List (Bs×α)} (h:Rise l) {k:Bs} {b:α} (hf:find l k=some b):l.Perm ((k,b)::del l k):=by
 induction l with
 | nil=>simp[find] at hf
 | cons z r ih=>
  obtain⟨h1,h2⟩:=List.pairwise_cons.1 h
  by_cases hz:z.1=k
  ·have hzb:z=(k,b):=by
    have:=(find_some h).1 hf
    rcases List.mem_cons.1 this with e | h3
    ·exact e.symm
    ·have:=before_ne (h1 _ h3);exact absurd hz this
   subst hzb
   have:del ((k,b)::r) k=r:=by
    unfold del
    rw[List.filter_cons]
    simp only[ne_eq,not_true_eq_false,decide_false,Bool.false_eq_true,if_false]
    exact List.filter_eq_self.2 fun y hy=>by have:=before_ne (h1 y hy);simpa using fun e=>this e.symm
   rw[this]
  ·have hf2:find r k=some b:=by
    unfold find at hf ⊢
    rw[List.find?_cons,decide_eq_false hz] at hf
    exact hf
   have:del (z::r) k=z::del r k:=by
    unfold del
    rw[List.filter_cons]
    simp[hz]
   rw[this]
   exact ((ih h2 hf2).cons z).trans (.swap (k,b) z (del r k))
end
theorem sumL_perm {bd:List Bd} {l l':Dir} (h:l.Perm l'):sumL bd l=sumL bd l':=(h.map _).sum_nat
def lenAt (bd:List Bd) (i:Nat):Nat:=(bd.getD i ⟨[],0⟩).data.length
theorem sumL_cons (bd:List Bd) (p:Bs×Nat) (l:Dir):sumL bd (p::l)=lenAt bd p.2+sumL bd l:=rfl
def lenOf (bd:List Bd):Option Nat->Nat
 | none=>0
 | some i=>lenAt bd i
theorem sumL_del {bd:List Bd} {l:Dir} (h:Rise l) (k:Bs):sumL bd l=lenOf bd (find l k)+sumL bd (del l k):=by
 cases hf:find l k with
 | none=>rw[del_same hf];simp[lenOf]
 | some b=>rw[sumL_perm (del_perm h hf),sumL_cons];rfl
theorem sumL_put {bd:List Bd} {l:Dir} (h:Rise l) (k:Bs) (to:Option Nat):sumL bd (put l k to)+lenOf bd (find l k)=sumL bd l+lenOf bd to:=by
 have h1:=sumL_del (bd:=bd) h k
 cases to with
 | none=>show sumL bd (del l k)+_=_+0;omega
 | some b=>
  have h2:sumL bd (put l k (some b))=lenAt bd b+sumL bd (del l k):=by
   show sumL bd (ins (k,b) (del l k))=_
   rw[sumL_perm (ins_perm _ _),sumL_cons]
  have h3:lenOf bd (some b)=lenAt bd b:=rfl
  omega
section
variable {d:D} {m N:Nat}
theorem D.Ok.mono (h:d.Ok m N) {m' N':Nat} (hm:m<=m') (hN:N<=N'):d.Ok m' N':=
 ⟨h.room,h.now,h.kept,h.inN,h.inK,h.inP,h.one,h.oneP,fun b hb=>⟨(h.safe b hb).1,Nat.le_trans (h.safe b hb).2 hm⟩,Nat.le_trans h.lenN hN,Nat.le_trans h.lenK hN,h.namN,h.namK⟩
theorem D.Ok.at_ok (h:d.Ok m N) (i:Nat):(d.at i).safe<=(d.at i).data.length/\(d.at i).data.length<=m:=by
 unfold D.at
 rcases Nat.lt_or_ge i d.bd.length with hi | hi
 ·rw[List.getD_eq_getElem?_getD,List.getElem?_eq_getElem hi]
  exact h.safe _ (List.getElem_mem hi)
 ·rw[List.getD_eq_getElem?_getD,List.getElem?_eq_none hi]
  exact⟨Nat.le_refl _,Nat.zero_le _⟩
theorem look_ok (_h:d.Ok m N) {n:Bs} {i:Nat} (hl:d.look n = .ok i):named n=true/\find d.now n=some i:=by
 unfold D.look at hl
 split at hl
 ·rename_i hn
  split at hl
  ·rename_i j hf
   injection hl with hl
   subst hl
   exact⟨hn,hf⟩
  ·cases hl
 ·cases hl
theorem look_in (h:d.Ok m N) {n:Bs} {i:Nat} (hl:d.look n = .ok i):(n,i)∈d.now/\i<d.bd.length:=by
 have h1:=(find_some h.now).1 (look_ok h hl).2
 exact⟨h1,h.inN _ h1⟩
theorem vals_put {l:Dir} (hl:(l.map (·.2)).Nodup) {k:Bs} {i:Nat} (hi:∀ p∈del l k,p.2≠i):((put l k (some i)).map (·.2)).Nodup:=by
 have hd:((del l k).map (·.2)).Nodup:=hl.sublist (List.filter_sublist.map _)
 refine ((ins_perm (k,i) (del l k)).map (·.2)).nodup_iff.2 ?_
 rw[List.map_cons,List.nodup_cons]
 refine⟨fun hm=>?_,hd⟩
 obtain⟨p,hp,e⟩:=List.mem_map.1 hm
 exact hi p hp e
theorem D.Ok.fresh {room:Nat} (hr:room<=1073741824) (m N:Nat):(D.fresh room).Ok m N:=
 ⟨hr,.nil,.nil,fun p hp=>(by cases hp),fun p hp=>(by cases hp),fun c hc=>(by cases hc),.nil,fun c hc=>(by cases hc),fun b hb=>(by cases hb),Nat.zero_le _,Nat.zero_le _,fun p hp=>(by cases hp),fun p hp=>(by cases hp)⟩
theorem rise_names {α β:Type} {a:List (Bs×α)} {b:List (Bs×β)} (h:Rise a) (hn:b.map (·.1)=a.map (·.1)):Rise b:=by
 have h1:(a.map (·.1)).Pairwise fun x y=>bytesBefore x y=true:=List.pairwise_map.2 h
 rw[<-hn] at h1
 exact List.pairwise_map.1 h1
def bulk (fs:List (Bs×Bs)):Nat:=(fs.map fun f=>f.2.length).sum
theorem loadAt_ok {m N:Nat}:∀ (fs:List (Bs×Bs)) {d d':D},d.Ok m N->d.pend=[]->loadAt d fs=some d'->d'.Ok (m+bulk fs) (N+fs.length)
 | [],d,d',h,_,he=>by
  injection he with he;subst he
  exact h.mono (Nat.le_add_right _ _) (Nat.le_add_right _ _)
 | (n,x)::r,d,d',h,hp,he=>by
  unfold loadAt at he
  split at he
  ·cases he
  ·rename_i hc
   simp only[Bool.or_eq_true,Bool.not_eq_true',not_or,Bool.not_eq_true,Bool.not_eq_false,Option.isSome_eq_false_iff,Option.isNone_iff_eq_none] at hc
   have hlt:∀ i,i<d.bd.length->i<d.bd.length+1:=fun i=>Nat.lt_succ_of_lt
   have h':D.Ok ⟨d.room,d.bd++[⟨x,x.length⟩],put d.now n (some d.bd.length),put d.kept n (some d.bd.length),[]⟩ (m+x.length) (N+1):=by
    refine⟨h.room,rise_put h.now n (some d.bd.length),rise_put h.kept n (some d.bd.length),fun p hp=>?_,fun p hp=>?_,fun c hc=>(by cases hc),vals_put h.one fun p hp e=>?_,fun c hc=>(by cases hc),fun b hb=>?_,?_,?_,fun p hp=>?_,fun p hp=>?_⟩
    ·rcases (mem_put (l:=d.now) (k:=n) (to:=some d.bd.length)).1 hp with ⟨h1,_⟩ | ⟨_,h2⟩
     ·simpa using hlt _ (h.inN p h1)
     ·injection h2 with h2;simp[<-h2]
    ·rcases (mem_put (l:=d.kept) (k:=n) (to:=some d.bd.length)).1 hp with ⟨h1,_⟩ | ⟨_,h2⟩
     ·simpa using hlt _ (h.inK p h1)
     ·injection h2 with h2;simp[<-h2]
    ·have:=h.inN p (mem_del.1 hp).1;omega
    ·rcases List.mem_append.1 hb with hb | hb
     ·have:=h.safe b hb;exact⟨this.1,by omega⟩
     ·obtain rfl:b=_:=by simpa using hb
      exact⟨Nat.le_refl _,by simp⟩
    ·have:=len_put_le d.now n (some d.bd.length);have:=h.lenN;simp only;omega
    ·have:=len_put_le d.kept n (some d.bd.length);have:=h.lenK;simp only[List.length_nil];omega
    ·rcases (mem_put (l:=d.now) (k:=n) (to:=some d.bd.length)).1 hp with ⟨h1,_⟩ | ⟨h2,_⟩
     ·exact h.namN p h1
     ·rw[h2];exact hc.2
    ·rcases (mem_put (l:=d.kept) (k:=n) (to:=some d.bd.length)).1 hp with ⟨h1,_⟩ | ⟨h2,_⟩
     ·exact h.namK p h1
     ·rw[h2];exact hc.2
   have:=loadAt_ok r h' rfl he
   refine this.mono ?_ ?_
   ·simp[bulk];omega
   ·simp;omega
end
end Go.Proofs.YtmgljaecmchgaaaGreat.Dr
namespace Go.Proofs.YtmgljaecmchgaaaGreat.Dr
open Go
section
variable {d:D} {m N:Nat}
theorem loadAt_joined:∀ (fs:List (Bs×Bs)) {d d':D},d.now=d.kept->d.pend=[]->loadAt d fs=some d'->d'.now=d'.kept/\d'.pend=[]
 | [],d,d',h,hp,he=>by injection he with he;subst he;exact⟨h,hp⟩
 | (n,x)::r,d,d',h,hp,he=>by
  unfold loadAt at he
  split at he
  ·cases he
  ·exact loadAt_joined r (d:=⟨d.room,d.bd++[⟨x,x.length⟩],put d.now n (some d.bd.length),put d.kept n (some d.bd.length),[]⟩) (congrArg (fun l=>put l n (some d.bd.length)) h) rfl he
end
end Go.Proofs.YtmgljaecmchgaaaGreat.Dr
namespace Go.Proofs.YtmgljaecmchgaaaGreat.Dr
open Go
section
variable {s:Nat->Nat} {d:D} {m N:Nat} {n:Bs} {q:Nat}
theorem loadAt_whole:∀ (fs:List (Bs×Bs)) {d d':D},d.now.length=d.bd.length->(∀ b∈d.bd,b.safe=b.data.length)->loadAt d fs=some d'->d'.now.length=d'.bd.length/\∀ b∈d'.bd,b.safe=b.data.length
 | [],d,d',h,hs,he=>by injection he with he;subst he;exact⟨h,hs⟩
 | (n,x)::r,d,d',h,hs,he=>by
  unfold loadAt at he
  split at he
  ·cases he
  ·rename_i hc
   simp only[Bool.or_eq_true,Bool.not_eq_true',not_or,Bool.not_eq_true,Bool.not_eq_false,Option.isSome_eq_false_iff,Option.isNone_iff_eq_none] at hc
   refine loadAt_whole r (d:=⟨d.room,d.bd++[⟨x,x.length⟩],put d.now n (some d.bd.length),put d.kept n (some d.bd.length),[]⟩) ?_ (fun b hb=>?_) he
   ·show (ins (n,d.bd.length) (del d.now n)).length=_
    rw[len_ins,del_same hc.1]
    simp[h]
   ·rcases List.mem_append.1 hb with hb | hb
    ·exact hs b hb
    ·rw[List.mem_singleton.1 hb]
end
end Go.Proofs.YtmgljaecmchgaaaGreat.Dr
namespace Go.Proofs.YtmgljaecmchgaaaGreat.Dr
open Go
abbrev Ents:=List (Bs×Int)
def zOf:Option Nat->Int
 | none=>-1
 | some i=>(i:Int)
def dirE (l:Dir):Ents:=l.map fun p=>(p.1,(p.2:Int))
def chgE (c:List (Bs×Option Nat)):Ents:=c.map fun s=>(s.1,zOf s.2)
def findE (l:Ents) (n:Bs):Int:=match l.find? fun p=>decide (p.1=n) with
 | some p=>p.2
 | none=>-1
def aheadE (l:Ents) (n:Bs):Ents:=l.takeWhile fun p=>bytesBefore p.1 n
def fromE (l:Ents) (n:Bs):Ents:=l.dropWhile fun p=>bytesBefore p.1 n
def skipE (l:Ents) (n:Bs):Ents:=match l with
 | p::r=>if p.1=n then r else p::r
 | []=>[]
def setE (l:Ents) (n:Bs) (z:Int):Ents:=aheadE l n++(if 0<=z then [(n,z)] else [])++skipE (fromE l n) n
theorem findE_dir (l:Dir) (n:Bs):findE (dirE l) n=zOf (find l n):=by
 unfold findE dirE find
 rw[List.find?_map]
 have e:((fun p:Bs×Int=>decide (p.1=n))∘fun p:Bs×Nat=>(p.1,(p.2:Int)))=fun p:Bs×Nat=>decide (p.1=n):=rfl
 rw[e]
 cases l.find? fun p=>decide (p.1=n)<;>rfl
theorem ahead_of {l:Ents} {n:Bs} {i:Nat} (hi:i<=l.length) (h1:∀ (j:Nat) p,j<i->l[j]?=some p->bytesBefore p.1 n=true) (h2:∀ p,l[i]?=some p->bytesBefore p.1 n=false):aheadE l n=l.take i/\fromE l n=l.drop i:=by
 unfold aheadE fromE
 induction l generalizing i with
 | nil=>simp
 | cons p r ih=>
  cases i with
  | zero=>
   have:=h2 p rfl
   simp[this]
  | succ i=>
   have hp:=h1 0 p (by omega) rfl
   obtain⟨e1,e2⟩:=ih (i:=i) (by simpa using hi) (fun j q hj hq=>h1 (j+1) q (by omega) (by simpa using hq)) (fun q hq=>h2 q (by simpa using hq))
   simp[hp,e1,e2]
theorem skip_of {l:Ents} {n:Bs} {i:Nat}:skipE (l.drop i) n=if (match l[i]? with | some p=>decide (p.1=n) | none=>false)=true then l.drop (i+1) else l.drop i:=by
 rcases Nat.lt_or_ge i l.length with h | h
 ·rw[List.drop_eq_getElem_cons h,List.getElem?_eq_getElem h]
  unfold skipE
  dsimp only
  by_cases hp:l[i].1=n
  ·simp[hp]
  ·simp[hp]
 ·rw[List.drop_eq_nil_of_le h,List.getElem?_eq_none h]
  rfl
theorem setE_cons {p:Bs×Int} {l:Ents} {n:Bs} {z:Int} (h:bytesBefore p.1 n=true):setE (p::l) n z=p::setE l n z:=by
 unfold setE aheadE fromE
 simp[h]
theorem del_rise {l:Dir} {n:Bs} (h:Rise l) (hn:∀ p∈l,bytesBefore p.1 n=false):dirE (del l n)=skipE (dirE l) n:=by
 cases l with
 | nil=>rfl
 | cons p r=>
  obtain⟨h1,h2⟩:=List.pairwise_cons.1 h
  have hr:∀ q∈r,q.1≠n:=fun q hq e=>by
   have h3:=h1 q hq
   rw[e] at h3
   have:=hn p (by simp)
   rw[h3] at this;cases this
  have hdel:del r n=r:=del_same (find_none.2 hr)
  unfold skipE dirE
  by_cases hp:p.1=n
  ·have:del (p::r) n=r:=by unfold del at hdel ⊢;rw[List.filter_cons,if_neg (by simp[hp])];exact hdel
   rw[this]
   simp[hp]
  ·have:del (p::r) n=p::r:=by unfold del at hdel ⊢;rw[List.filter_cons,if_pos (by simp[hp]),hdel]
   rw[this]
   simp[hp]
theorem setE_dir:∀ {l:Dir},Rise l->∀ (n:Bs) (to:Option Nat),setE (dirE l) n (zOf to)=dirE (put l n to)
 | [],_,n,to=>by
  cases to with
  | none=>rfl
  | some b=>
   show setE [] n (b:Int)=dirE (ins (n,b) (del [] n))
   unfold setE aheadE fromE
   simp[skipE,del,ins,dirE]
 | p::r,h,n,to=>by
  obtain⟨h1,h2⟩:=List.pairwise_cons.1 h
  by_cases hp:bytesBefore p.1 n=true
  ·have hne:p.1≠n:=before_ne hp
   have hd:del (p::r) n=p::del r n:=by unfold del;rw[List.filter_cons,if_pos (by simp[hne])]
   have hput:put (p::r) n to=p::put r n to:=by
    cases to with
    | none=>exact hd
    | some b=>
     show ins (n,b) (del (p::r) n)=_
     rw[hd]
     show (if bytesBefore n p.1 then _ else p::ins (n,b) (del r n))=_
     rw[if_neg (by rw[before_asymm hp];simp)]
     rfl
   rw[hput]
   show setE ((p.1,(p.2:Int))::dirE r) n (zOf to)=(p.1,(p.2:Int))::dirE (put r n to)
   rw[setE_cons (by exact hp),setE_dir h2 n to]
  ·have hp:bytesBefore p.1 n=false:=by simpa using hp
   have hall:∀ q∈p::r,bytesBefore q.1 n=false:=by
    intro q hq
    rcases List.mem_cons.1 hq with rfl | hq
    ·exact hp
    ·cases hb:bytesBefore q.1 n with
     | false=>rfl
     | true=>
      have:=before_trans (h1 q hq) hb
      rw[hp] at this;cases this
   have hah:aheadE (dirE (p::r)) n=[]/\fromE (dirE (p::r)) n=dirE (p::r):=by
    unfold aheadE fromE
    simp[dirE,hp]
   unfold setE
   rw[hah.1,hah.2,<-del_rise h hall]
   cases to with
   | none=>rfl
   | some b=>
    have hi:ins (n,b) (del (p::r) n)=(n,b)::del (p::r) n:=by
     cases hd:del (p::r) n with
     | nil=>rfl
     | cons q t=>
      have hq:q∈del (p::r) n:=by rw[hd];simp
      obtain⟨hq1,hq2⟩:=mem_del.1 hq
      show (if bytesBefore n q.1 then _ else _)=_
      rw[if_pos (before_total (hall q hq1) (fun e=>hq2 e))]
    show _=dirE (ins (n,b) (del (p::r) n))
    rw[hi]
    have:(0:Int)<=zOf (some b):=by show (0:Int)<=(b:Int);omega
    rw[if_pos this]
    rfl
end Go.Proofs.YtmgljaecmchgaaaGreat.Dr
