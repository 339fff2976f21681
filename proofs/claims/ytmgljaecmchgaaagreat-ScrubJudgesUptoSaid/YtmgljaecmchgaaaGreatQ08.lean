/- XK04: merged by tools/merge.py. -/
import Derived.Test.YtmgljaecmchgaaaGreatIter
import Derived.Test.YtmgljaecmchgaaaGreatShelf
import Derived.Test.YtmgljaecmchgaaaGreatChecked
import Derived.Test.YtmgljaecmchgaaaGreatQ05
import Derived.Test.YtmgljaecmchgaaaGreatQ07
import Derived.Laws.BitsAllLaws
import Derived.WideKeyEntry
set_option linter.unusedVariables false
set_option linter.unusedSimpArgs false
set_option linter.unusedSectionVars false
namespace Go.Proofs.YtmgljaecmchgaaaGreat.Dr
open Go.RowKit Go.Proofs Go.Maps Go.Sort Go.Shelf Go.Proofs.YtmgljaecmchgaaaGreat.Ring
theorem sorts (m:Nat):AnyZ.SortsIn Tryz.prog Tryz.sorted95_ren Fence.wide m:=
 ⟨fun blk off cap ss W hH hblk hsz=>callsIn_wide.2 (Tryz.slices_Sort_string blk off cap ss W hH hblk hsz),
  fun p cap W=>callsIn_wide.2 (Tryz.slices_Sort_string_none p cap W)⟩
theorem keys_in (mb:Option Nat) (W:World):CallsIn Fence.wide 5 Tryz.prog 96 #[.map mb] W fun e w'=>e = .returned (.func (.func 114) #[] #[.pointer (some ⟨W.heap.size,0,none⟩)])/\w'=W.alloc (.cells #[.map mb] 151):=
 AnyZ.keys_in Tryz.keys96 Fence.wide 5 trivial rfl mb W
set_option maxHeartbeats 1000000 in
theorem sorted_in (b nn:Nat) (D0:DataW Unit) (w:World) (hown:w.ownsMap Tryz.prog 9 ptrs.R b nn D0) (hmax:Maps.size D0<=maxLen) (hbytes:Maps.size D0*16<=140737488355328) :
  CallsIn Fence.wide 5 Tryz.prog 95 #[.func (.func 114) #[] #[.pointer (some ⟨w.heap.size,0,none⟩)]] (w.alloc (.cells #[.map (some b)] 151)) fun e w'=>∃ (v:Value) (ss:List (List UInt8)),e = .returned v/\ss.Perm (strKeys D0)/\
   w'.ownsRow (w.alloc (.cells #[.map (some b)] 151)).heap.size 9 1 v ss.length ((ss.mergeSort (fun x y=>decide (x<=y))).map encStr)/\(v = .slice none 0 0↔ss=[])/\Below (w.alloc (.cells #[.map (some b)] 151)).heap.size (w.alloc (.cells #[.map (some b)] 151)) w':=by
 have hbl:=hown.lt
 have hseq:SeqGives Fence.wide 2 Tryz.prog 114 #[.pointer (some ⟨w.heap.size,0,none⟩)] encStr (fun ss=>ss.Perm (strKeys D0)) (Maps.size D0) (w.alloc (.cells #[.map (some b)] 151)):=
  AnyZ.keys_gives (ρ:=Tryz.keys96_ren) {Tryz.keys96 with} Fence.wide _ trivial rfl (by omega) w.heap.size b nn D0 _ (by simp) (by simp) (by
   obtain⟨es,clock,hb,Ft,hs,hD⟩:=hown
   exact⟨es,clock,(Below.heap_alloc _ _ b hbl).trans hb,Ft,hs,hD⟩)
 exact AnyZ.sorted_in Tryz.sorted95 Fence.wide 5 trivial trivial trivial trivial rfl (by omega) (sorts _) (enters_of Tryz.func113 (by kernel_rfl) rfl) 114 #[.pointer (some ⟨w.heap.size,0,none⟩)] trivial (enters_of Tryz.func114 (by kernel_rfl) rfl) _ _ hmax hbytes _ hseq
set_option maxHeartbeats 1000000 in
theorem sorted_nil (w:World) :
  CallsIn Fence.wide 5 Tryz.prog 95 #[.func (.func 114) #[] #[.pointer (some ⟨w.heap.size,0,none⟩)]] (w.alloc (.cells #[.map none] 151)) fun e w'=>∃ (v:Value) (ss:List (List UInt8)),e = .returned v/\ss=[]/\
   w'.ownsRow (w.alloc (.cells #[.map none] 151)).heap.size 9 1 v ss.length ((ss.mergeSort (fun x y=>decide (x<=y))).map encStr)/\(v = .slice none 0 0↔ss=[])/\Below (w.alloc (.cells #[.map none] 151)).heap.size (w.alloc (.cells #[.map none] 151)) w':=by
 have hseq:SeqGives Fence.wide 2 Tryz.prog 114 #[.pointer (some ⟨w.heap.size,0,none⟩)] encStr (fun ss:List (List UInt8)=>ss=[]) 0 (w.alloc (.cells #[.map none] 151)):=
  AnyZ.keys_gives_nil (ρ:=Tryz.keys96_ren) {Tryz.keys96 with} Fence.wide _ trivial rfl w.heap.size _ (by simp) (by simp)
 exact AnyZ.sorted_in Tryz.sorted95 Fence.wide 5 trivial trivial trivial trivial rfl (by omega) (sorts _) (enters_of Tryz.func113 (by kernel_rfl) rfl) 114 #[.pointer (some ⟨w.heap.size,0,none⟩)] trivial (enters_of Tryz.func114 (by kernel_rfl) rfl) _ 0 (Nat.zero_le _) (by omega) _ hseq
theorem before_lt:∀ {a b:Bs},bytesBefore a b=true->a<b
 | [],[],h=>by simp[bytesBefore] at h
 | [],_::_,_=>List.nil_lt_cons _ _
 | _::_,[],h=>by simp[bytesBefore] at h
 | x::a,y::b,h=>by
  simp only[bytesBefore,Bool.or_eq_true,Bool.and_eq_true,beq_iff_eq,decide_eq_true_eq] at h
  rcases h with h | ⟨rfl,h⟩
  ·exact List.Lex.rel h
  ·exact List.Lex.cons (before_lt h)
theorem sorted_names {l:Dir} (h:Rise l):(l.map (·.1)).mergeSort leB=l.map (·.1):=by
 refine List.mergeSort_of_pairwise ?_
 refine List.pairwise_map.2 (h.imp fun {p q} hpq=>?_)
 exact decide_eq_true (List.le_of_lt (before_lt hpq))
set_option maxHeartbeats 1000000 in
theorem names_any {w:World} {mv:Value} {l:Dir} (h:DirAt Tryz.prog 9 w mv l) (hr:Rise l) (hl:l.length*16<=140737488355328) :
  Calls Tryz.prog 82 #[mv] w fun e w'=>∃ v:Value,e = .returned v/\w'.ownsRow w.heap.size 9 1 v l.length (cStr (l.map (·.1)))/\Below w.heap.size w w':=by
 have hfK:Fence.wide.fn 96:=trivial
 have hfS:Fence.wide.fn 95:=trivial
 rcases h with ⟨rfl,rfl⟩ | ⟨b,rfl,hown⟩
 ·refine (callsIn_wide (n:=6)).1 ?_
  refine callsIn_of_wp Tryz.func82 rfl trivial ?_ rfl
  simp only[Tryz.ntmps82,List.size_toArray,List.length_cons,List.length_nil,Nat.reduceAdd,Nat.reduceSub,Array.replicate_succ,Array.replicate_zero,List.push_toArray,List.append_toArray,List.nil_append,List.cons_append]
  gi_wp2_with (first
   | (gi_at_call 96;refine (keys_in _ _).mono ?_;rintro e w' ⟨rfl,rfl⟩)
   | (gi_at_call 95;refine (sorted_nil w).mono ?_;rintro e w' ⟨v,ss,rfl,hS,hrow,hnil,hb⟩))
  go_ret
  obtain rfl:=hnil.2 hS
  exact⟨_,rfl,World.ownsRow_nil _ _ _ _,((Below.refl _ w).alloc (Nat.le_refl _) _).trans (hb.mono (by simp))⟩
 ·have hsz:Maps.size (dirD l)=l.length:=by rw[dirD,Maps.size_eq,List.length_map]
  have hmax:Maps.size (dirD l)<=maxLen:=by rw[hsz];unfold maxLen;omega
  have hbytes:Maps.size (dirD l)*16<=140737488355328:=by rw[hsz];exact hl
  refine (callsIn_wide (n:=6)).1 ?_
  refine callsIn_of_wp Tryz.func82 rfl trivial ?_ rfl
  simp only[Tryz.ntmps82,List.size_toArray,List.length_cons,List.length_nil,Nat.reduceAdd,Nat.reduceSub,Array.replicate_succ,Array.replicate_zero,List.push_toArray,List.append_toArray,List.nil_append,List.cons_append]
  gi_wp2_with (first
   | (gi_at_call 96;refine (keys_in _ _).mono ?_;rintro e w' ⟨rfl,rfl⟩)
   | (gi_at_call 95;refine (sorted_in b l.length (dirD l) w hown hmax hbytes).mono ?_;rintro e w' ⟨v,ss,rfl,hS,hrow,hnil,hb⟩))
  go_ret
  rw[DirAt.names] at hS
  have he:ss.mergeSort leB=l.map (·.1):=by rw[mergeSort_of_perm hS,sorted_names hr]
  have hlen:ss.length=l.length:=by rw[hS.length_eq,List.length_map]
  rw[show (ss.mergeSort (fun x y=>decide (x<=y)))=l.map (·.1) from he,hlen] at hrow
  exact⟨_,rfl,own_base hrow (by simp),((Below.refl _ w).alloc (Nat.le_refl _) _).trans (hb.mono (by simp))⟩
end Go.Proofs.YtmgljaecmchgaaaGreat.Dr
namespace Go.Proofs.YtmgljaecmchgaaaGreat.Dr
open Go.RowKit Go.Proofs Go.Proofs.YtmgljaecmchgaaaGreat.Ring
section
variable {w w':World} {S:Nat->Prop} {d:Nat} {D:Dr.D} {u:Int} {β:Nat->Nat} {vs:Nat->Value} {nv kv pv:Value} {ss:List Value} {m N:Nat}
theorem pending_any (h:Dv w S d D m N):Calls Tryz.prog 42 #[.pointer (some ⟨d,0,none⟩)] w fun x w'=>x = .returned (.int .i64 (D.pend.length:Int))/\w=w':=by
 obtain⟨ho,β,vs,nv,kv,pv,ss,h⟩:=h
 obtain⟨_,_,_,_,c4,_⟩:=h.cells
 obtain⟨A,c,rfl,_,_⟩:=own_form h.pend
 clear h ho
 go_enter Tryz.func42,Tryz.ntmps42
 go_wp2
 go_ret
 exact⟨rfl,rfl⟩
def looseV (D:Dr.D) (n:Bs):Value:=
 match D.look n with
 | .ok i=>.tuple #[.int .i64 ((D.at i).data.length - (D.at i).safe:Int),.int .i64 0]
 | .error e=>.tuple #[.int .i64 0,.int .i64 e]
set_option maxRecDepth 100000 in
theorem loose_any (h:Dv w S d D m N) (hm:m<=140737488355328) (n:Bs):Calls Tryz.prog 48 #[.pointer (some ⟨d,0,none⟩),encStr n] w fun x w'=>x = .returned (looseV D n)/\Below w.heap.size w w':=by
 obtain⟨ho,β,vs,nv,kv,pv,ss,h⟩:=h
 unfold looseV
 cases hl:D.look n with
 | error e=>
  have hne:=look_ne hl
  have H:=Lib.hid h
  have HL:=Hd hl
  clear h ho hl
  go_enter Tryz.func48,Tryz.ntmps48
  go_wp2_with (go_at_call 83;refine (find_any H.out n).mono ?_;rintro x w1 ⟨rfl,rfl⟩;rw[HL.out];simp only[found])
  refine bodyPost_ret (v:=.tuple #[.int .i64 0,.int .i64 e]) (by simp[results,Tryz.results48,go_sem]) rfl ?_
  exact⟨rfl,Below.refl _ _⟩
 | ok i=>
  have hi:=(look_in ho hl).2
  have hai:=ho.at_ok i
  obtain⟨A,c,hv,_,_⟩:=own_form (h.row i hi)
  obtain⟨c0,c1,f0,f1⟩:=c_body (w:=w.drew) (h.body i hi)
  rw[hv] at c0
  have H:=Lib.hid h
  have HL:=Hd hl
  clear h ho hl hv
  go_enter Tryz.func48,Tryz.ntmps48
  go_upto_region 4 with (go_at_call 83;refine (find_any H.out n).mono ?_;rintro x w1 ⟨rfl,rfl⟩;rw[HL.out];simp only[found])
  go_region
  go_wp2
  refine bodyPost_ret (v:=.tuple #[.int .i64 ((D.at i).data.length - (D.at i).safe:Int),.int .i64 0]) (by simp[results,Tryz.results48,go_sem]) rfl ?_
  exact⟨rfl,(Below.refl _ _).drew⟩
theorem clone_any {w:World} {base n:Nat} {v:Value} {x:Bs} (h:w.ownsRow base tU8 1 v n (cU8 x)) (hn:n<=140737488355328):Calls Tryz.prog 57 #[v] w fun e w'=>∃ v',e = .returned v'/\w'.ownsRow w.heap.size tU8 1 v' n (cU8 x)/\Below w.heap.size w w':=by
 have hl:x.length=n:=by simpa using h.1
 obtain⟨A,c,rfl,_,_⟩:=own_form h
 have hr:=Rd.of_own h
 cases A with
 | none=>
  have h0:n=0:=by
   rcases h.2 with ⟨_,h0⟩ | ⟨g,cap,cur,e,_⟩
   ·exact h0
   ·cases e
  subst h0
  obtain rfl:x=[]:=List.eq_nil_of_length_eq_zero hl
  refine (Tryz.bytes_Clone_nil 0 c w).mono ?_
  rintro e w' ⟨rfl,rfl⟩
  exact⟨_,rfl,World.ownsRow_nil _ _ _ _,Below.refl _ _⟩
 | some a=>
  refine (Tryz.bytes_Clone_at a n c (x.map fun b=>(b.toNat:Int)) w (by simpa using hl) hn (fun i hi=>?_)).mono ?_
  ·refine hr.cell rfl hi ?_
   rw[List.getElem?_map,List.getElem?_eq_getElem (by omega),List.getD_eq_getElem?_getD,List.getElem?_map,List.getElem?_eq_getElem (by omega)]
   rfl
  ·rintro e w' ⟨v',rfl,h1,_,h2⟩
   refine⟨v',rfl,?_,h2⟩
   rw[List.map_map] at h1
   exact h1
end
end Go.Proofs.YtmgljaecmchgaaaGreat.Dr
namespace Go.Proofs.YtmgljaecmchgaaaGreat.Dr
open Go.RowKit Go.Proofs Go.Proofs.YtmgljaecmchgaaaGreat.Ring
section
variable {w w':World} {S:Nat->Prop} {d:Nat} {D:Dr.D} {u:Int} {β:Nat->Nat} {vs:Nat->Value} {nv kv pv:Value} {ss:List Value} {m N:Nat}
theorem c_kp {w:World} {d:Nat} {a b x y z:Value} (h:w.heap[d]?=some (.cells #[a,b,x,y,z] tDrive (0,0))):w.cell? ⟨d,3,none⟩=some y/\w.cell? ⟨d,4,none⟩=some z/\w.frozen? ⟨d,3,none⟩=false/\w.frozen? ⟨d,4,none⟩=false:=by
 refine⟨?_,?_,?_,?_⟩<;>first | (rw[cell_of_row w d _ _ _ _ h];rfl) | (unfold World.frozen?;rw[show w.heap[(⟨d,_,none⟩:Addr).block]?=_ from h];simp)
end
end Go.Proofs.YtmgljaecmchgaaaGreat.Dr
namespace Go.Proofs.YtmgljaecmchgaaaGreat.Dr
open Go.RowKit Go.Proofs Go.Proofs.YtmgljaecmchgaaaGreat.Ring
theorem own_front {w:World} {base:Nat} {e:TypeId} {A:Option Addr} {n c q:Nat} {xs:List Value} (h:w.ownsRow base e 1 (.slice A n c) n xs) (hq:q<n):w.ownsRow base e 1 (.slice A q c) q (xs.take q):=by
 have hl:=h.1
 rcases h.2 with ⟨_,h0⟩ | ⟨g,cap,cur,e1,h1,h2,h3,h4,h5,h6⟩
 ·omega
 ·injection e1 with e1 e2 e3
  subst e1 e3
  refine⟨by rw[List.length_take];omega,.inr ⟨g,c,cur,rfl,h1,h2,by omega,h4,h5,?_⟩⟩
  rw[<-h6,List.take_take]
  congr 1
  omega
end Go.Proofs.YtmgljaecmchgaaaGreat.Dr
namespace Go.Proofs.YtmgljaecmchgaaaGreat.Dr
open Go.RowKit Go.Proofs Go.Proofs.YtmgljaecmchgaaaGreat.Ring
abbrev tFile:=130
def cF:List (Bs×Bs)->List Value->List Value
 | f::fs,x::dv=>encStr f.1::x::cF fs dv
 | _,_=>[]
theorem cF_snoc:∀ (fs:List (Bs×Bs)) (dv:List Value),dv.length=fs.length->∀ f x,cF (fs++[f]) (dv++[x])=cF fs dv++[encStr f.1,x]
 | [],[],_,_,_=>rfl
 | [],_::_,h,_,_=>by simp at h
 | _::_,[],h,_,_=>by simp at h
 | a::fs,y::dv,h,f,x=>by
  show encStr a.1::y::cF (fs++[f]) (dv++[x])=encStr a.1::y::(cF fs dv++[encStr f.1,x])
  rw[cF_snoc fs dv (by simpa using h)]
structure FilesAt (w:World) (base:Nat) (v:Value) (dv:List Value) (fs:List (Bs×Bs)):Prop where
 row:w.ownsRow base tFile 2 v fs.length (cF fs dv)
 len:dv.length=fs.length
 data:∀ (j:Nat) (f:Bs×Bs) (x:Value),fs[j]?=some f->dv[j]?=some x->w.ownsRow base tU8 1 x f.2.length (cU8 f.2)
 own:∀ (i j:Nat) (x y:Value) (g:Nat),dv[i]?=some x->dv[j]?=some y->x.ownBlock=some g->y.ownBlock=some g->i=j
section
variable {w w1 w2:World} {base:Nat} {v v2:Value} {dv:List Value} {fs:List (Bs×Bs)}
theorem FilesAt.nil (w:World) (base:Nat):FilesAt w base (.slice none 0 0) [] []:=
 ⟨World.ownsRow_nil _ _ _ _,rfl,fun j f x h=>(by cases h),fun i j x y g h=>(by cases h)⟩
theorem FilesAt.lower (h:FilesAt w base v dv fs) {b2:Nat} (hb:b2<=base):FilesAt w b2 v dv fs:=
 ⟨own_base h.row hb,h.len,fun j f x hf hx=>own_base (h.data j f x hf hx) hb,h.own⟩
theorem FilesAt.below (h:FilesAt w base v dv fs) (hb:Below w.heap.size w w1):FilesAt w1 base v dv fs:=
 ⟨own_below h.row hb,h.len,fun j f x hf hx=>own_below (h.data j f x hf hx) hb,h.own⟩
theorem FilesAt.snoc (h:FilesAt w1 base v dv fs) {f:Bs×Bs} {x:Value} (hx:w1.ownsRow base tU8 1 x f.2.length (cU8 f.2)) (hnew:∀ g,x.ownBlock=some g->∀ y∈dv,y.ownBlock≠some g)
  (hr:w2.ownsRow base tFile 2 v2 (fs.length+1) (cF fs dv++[encStr f.1,x])) (hg:w1.grownBy w2 v.ownBlock):FilesAt w2 base v2 (dv++[x]) (fs++[f]):=by
 have hk:∀ {y:Value} {n:Nat} {xs:List Value},w1.ownsRow base tU8 1 y n xs->w2.ownsRow base tU8 1 y n xs:=by
  intro y n xs hy
  refine own_same hy fun g hgy=>?_
  obtain⟨cur,h1⟩:=own_lt hy hgy
  refine hg.block g (Array.getElem?_eq_some_iff.1 h1).1 fun e=>?_
  obtain⟨cur',h2⟩:=own_lt h.row e.symm
  rw[h1] at h2
  injection h2 with h2
  injection h2 with _ h2 _
  revert h2;decide
 refine⟨by rw[cF_snoc _ _ h.len,List.length_append];exact hr,by simp[h.len],fun j f' y hf hy=>?_,fun i j y z g hi hj h1 h2=>?_⟩
 ·rcases Nat.lt_or_ge j fs.length with hlt | hge
  ·rw[List.getElem?_append_left hlt] at hf
   rw[List.getElem?_append_left (by rw[h.len];exact hlt)] at hy
   exact hk (h.data j f' y hf hy)
  ·have hj0:j=fs.length:=by have:=(List.getElem?_eq_some_iff.1 hf).1;simp at this;omega
   subst hj0
   rw[List.getElem?_append_right (Nat.le_refl _)] at hf
   rw[List.getElem?_append_right (by rw[h.len];exact Nat.le_refl _)] at hy
   simp at hf
   simp[h.len] at hy
   subst hf hy
   exact hk hx
 ·have hc:∀ (k:Nat) (z:Value),(dv++[x])[k]?=some z->(dv[k]?=some z)\/(k=dv.length/\z=x):=by
   intro k z hz
   rcases Nat.lt_or_ge k dv.length with hlt | hge
   ·rw[List.getElem?_append_left hlt] at hz;exact .inl hz
   ·have hk0:k=dv.length:=by have:=(List.getElem?_eq_some_iff.1 hz).1;simp at this;omega
    subst hk0
    rw[List.getElem?_append_right (Nat.le_refl _)] at hz
    simp at hz
    exact .inr ⟨rfl,hz.symm⟩
  rcases hc i y hi with hi2 | ⟨hi2,hy2⟩<;>rcases hc j z hj with hj2 | ⟨hj2,hz2⟩
  ·exact h.own i j y z g hi2 hj2 h1 h2
  ·subst hz2;exact absurd h1 (hnew g h2 y (List.mem_of_getElem? hi2))
  ·subst hy2;exact absurd h2 (hnew g h1 z (List.mem_of_getElem? hj2))
  ·omega
end
theorem own_ge {w:World} {base:Nat} {e:TypeId} {size n:Nat} {v:Value} {xs:List Value} (h:w.ownsRow base e size v n xs) {g:Nat} (hg:v.ownBlock=some g):base<=g:=by
 rcases h.2 with ⟨rfl,_⟩ | ⟨g',cap,cur,rfl,hb,_⟩
 ·cases hg
 ·obtain rfl:g'=g:=by simpa [Value.ownBlock] using hg
  exact hb
theorem FilesAt.fresh {w:World} {base:Nat} {v:Value} {dv:List Value} {fs:List (Bs×Bs)} (h:FilesAt w base v dv fs) {g:Nat} (hg:w.heap.size<=g):∀ y∈dv,y.ownBlock≠some g:=by
 intro y hy e
 obtain⟨j,hj,rfl⟩:=List.getElem_of_mem hy
 obtain⟨f,hf⟩:∃ f,fs[j]?=some f:=⟨_,List.getElem?_eq_getElem (by have:=h.len;omega)⟩
 obtain⟨cur,h1⟩:=own_lt (h.data j f _ hf (List.getElem?_eq_getElem hj)) e
 have:=(Array.getElem?_eq_some_iff.1 h1).1
 omega
theorem take_snoc_f {α:Type} {xs:List α} {i:Nat} {x:α} (hx:xs[i]?=some x):xs.take (i+1)=xs.take i++[x]:=by
 rw[List.take_add_one,hx]
 rfl
theorem infoFile:(Tryz.prog.info? tFile).map (fun i=>(i.zero,i.size,i.bytes))=some (some (.agg #[.string ⟨#[]⟩,.slice none 0 0]),2,40):=by kernel_rfl
end Go.Proofs.YtmgljaecmchgaaaGreat.Dr
namespace Go.Proofs.YtmgljaecmchgaaaGreat.Dr
open Go.RowKit Go.Proofs Go.Proofs.YtmgljaecmchgaaaGreat.Ring
section
variable {w w':World} {S:Nat->Prop} {d:Nat} {D:Dr.D} {m N:Nat}
theorem Rise.get_find {l:Dir} (h:Rise l) {i:Nat} {p:Bs×Nat} (hp:l[i]?=some p):find l p.1=some p.2:=(find_some h).2 (List.mem_of_getElem? hp)
set_option maxRecDepth 100000 in
set_option maxHeartbeats 4000000 in
theorem image_any (h:Dv w S d D m N) (hm:m<=140737488355328) (hN:N*40<=140737488355328):Calls Tryz.prog 39 #[.pointer (some ⟨d,0,none⟩)] w fun x w'=>∃ v dv,x = .returned v/\FilesAt w' w.heap.size v dv D.image/\Below w.heap.size w w':=by
 obtain⟨ho,β,vs,nv,kv,pv,ss,h⟩:=h
 obtain⟨_,_,c2,_⟩:=h.cells
 have hr:Rise (at_ β D.now):=rise_names ho.now (by simp[at_,Function.comp_def])
 have hl:(at_ β D.now).length*16<=140737488355328:=by have:=ho.lenN;simp only[at_,List.length_map];omega
 obtain⟨n,hn⟩:∃ n,D.now.length=n:=⟨_,rfl⟩
 have hnN:n<=N:=by rw[<-hn];exact ho.lenN
 have HN:=Hd hn
 have H:=Lib.hid h
 have HO:=Hd ho
 have HR:=Hd hr
 clear h ho hr hn
 go_enter Tryz.func39,Tryz.ntmps39
 go_upto_region 5 with (go_at_call 82;refine (names_any H.out.now HR.out hl).mono ?_;rintro x w1 ⟨v1,rfl,hv1,hb1⟩;rw[show (at_ β D.now).length=n by rw[<-HN.out];simp[at_],show (at_ β D.now).map (·.1)=D.now.map (·.1) by simp[at_,Function.comp_def]] at hv1;obtain⟨A1,k1,rfl,_,_⟩:=own_form hv1)
 have HV1:=Hd hv1
 have HB1:=Hd hb1
 clear hv1 hb1
 obtain⟨j0,hj0,hq0,hq1,hq2⟩:=info_parts infoFile
 go_loopw [3,14] (fun ov iv wr=>∃ (i:Nat) (dv:List Value),iv = .int .i64 (i:Int)/\i<=n/\FilesAt wr w1.heap.size ov dv (D.image.take i)/\Below w1.heap.size w1 wr) (fun _ iv _=>n - (intOf iv).toNat)
 case atStart=>exact⟨0,[],rfl,by omega,by rw[List.take_zero];exact FilesAt.nil _ _,Below.refl _ _⟩
 case round=>
  obtain⟨i,dv,rfl,hi,hf,hb⟩:=hrel
  by_cases hlt:i<n
  ·obtain⟨p,hp⟩:∃ p,D.now[i]?=some p:=⟨_,List.getElem?_eq_getElem (by have:=HN.out;omega)⟩
   obtain⟨nm,k⟩:=p
   have hk:k<D.bd.length:=HO.out.inN _ (List.mem_of_getElem? hp)
   have hnm:=HO.out.namN _ (List.mem_of_getElem? hp)
   have hfind:find D.now nm=some k:=Rise.get_find HO.out.now hp
   have hbw:Below w.heap.size w wr:=bch HB1.out hb
   have hD:=H.out.same (w':=wr) (fun q hq=>hbw.block q (H.out.low q hq)) hbw.size
   have e0:wr.cell? ⟨d,2,none⟩=some nv:=(c_now hD.head).2.1
   have e1:(Instr.lookup 151 nv (encStr nm) false).run Tryz.prog wr = .ok (.pointer (some ⟨β k,0,none⟩)) wr:=by
    have:=hD.now.run_look (named_len hnm)
    rw[find_at,hfind] at this
    exact this
   have e2:wr.cell? ⟨β k,0,none⟩=some (vs k):=(c_body (hD.body k hk)).1
   obtain⟨ad1,hA1,_,had1⟩:=(Rd.of_own HV1.out).2 (by omega)
   subst hA1
   have e3:wr.cell? (ad1.add i)=some (encStr nm):=by
    have h1:=((Rd.of_own HV1.out).below hb).cell rfl (k:=i) (u:=encStr nm) hlt (by simp[cStr,hp])
    exact h1
   have hlt2:(i:Int)<(n:Int):=by omega
   have hkl:=(HO.out.at_ok k).2
   have hrow:=hD.row k hk
   have HD:=Hd hD
   have HROW:=Hd hrow
   have HF:=Hd hf
   have HB:=Hd hb
   have HBW:=Hd hbw
   have HP:=Hd hp
   have hlen:(D.image.take i).length=i:=by have:=HN.out;simp[Dr.D.image,Dr.D.files,List.length_take];omega
   have HLEN:=Hd hlen
   clear hD hf hb hbw hp hfind hnm hrow had1 hlen
   have hro:wr.ownsRow w1.heap.size tFile 2 u3 i (cF (D.image.take i) dv):=by have:=HF.out.row;rw[HLEN.out] at this;exact this
   have HRO:=Hd hro
   clear hro
   go_wp2_with (first
    | (go_at_call 57;refine (clone_any HROW.out (by omega)).mono ?_;rintro x w5 ⟨x5,rfl,hx5,hb5⟩;obtain⟨A5,c5,rfl,_,_⟩:=own_form hx5;have HX5:=Hd hx5;have HB5:=Hd hb5;clear hx5 hb5)
    | (at_builtin;refine wpList_append_own _ rfl (.tmp 18) (.tmp 31) 90 rfl w1.heap.size tFile j0 (.agg #[.string ⟨#[]⟩,.slice none 0 0]) 2 40 Tryz.underlying90 hj0 hq0 hq1 hq2 rfl (by decide) _ _ _ rfl (own_alloc (own_below HRO.out HB5.out) _) ⟨w5.heap.size,0,none⟩ 1 1 [encStr nm,.slice A5 (D.at k).data.length c5] rfl rfl (new_cells _ _ _) (by simp[Value.oneCell',encStr]) (by unfold maxLen;omega) (by omega) (by have:=HB.out.size;have:=HB5.out.size;simp;omega) ?_;intro v2 w6 hrow2 hg2 _;have HR2:=Hd hrow2;have HG2:=Hd hg2;clear hrow2 hg2))
   have hbA:Below wr.heap.size wr (w5.alloc (.cells #[encStr nm,.slice A5 (D.at k).data.length c5] tFile)):=HB5.out.alloc HB5.out.size _
   have himg:D.image[i]?=some (nm,(D.at k).data):=by
    unfold Dr.D.image Dr.D.files
    rw[List.getElem?_map,HP.out]
    rfl
   have hF2:=(HF.out.below hbA).snoc (f:=(nm,(D.at k).data)) (x:=.slice A5 (D.at k).data.length c5) (own_alloc (own_base HX5.out HB.out.size) _) (fun g hg=>HF.out.fresh (own_ge HX5.out hg)) (v2:=v2) (w2:=w6) (by rw[HLEN.out];exact HR2.out) HG2.out
   rw[<-take_snoc_f himg] at hF2
   have hb6:Below w1.heap.size w1 w6:=(HB.out.trans (hbA.mono HB.out.size)).grown HG2.out (by have:=HB.out.size;have:=hbA.size;omega) (fun g hg=>own_ge HRO.out hg)
   have HF2:=Hd hF2
   have HB6:=Hd hb6
   clear hF2 hb6 hbA himg e0 e1 e2 e3
   go_roundw
   case rel=>exact⟨i+1,_,by go_num,by omega,HF2.out,HB6.out⟩
   case measure=>simp[intOf];omega
  ·obtain rfl:n=i:=by omega
   rw[List.take_of_length_le (by have:=HN.out;simp[Dr.D.image,Dr.D.files];omega)] at hf
   have HF:=Hd hf
   have HB:=Hd hb
   clear hf hb
   go_wp2
   go_ret
   exact⟨_,dv,rfl,HF.out.lower HB1.out.size,bch HB1.out HB.out⟩
set_option maxRecDepth 100000 in
set_option maxHeartbeats 4000000 in
theorem safe_any (h:Dv w S d D m N) (hm:m<=140737488355328) (hN:N*40<=140737488355328):Calls Tryz.prog 40 #[.pointer (some ⟨d,0,none⟩)] w fun x w'=>∃ v dv,x = .returned v/\FilesAt w' w.heap.size v dv D.safe/\Below w.heap.size w w':=by
 obtain⟨ho,β,vs,nv,kv,pv,ss,h⟩:=h
 obtain⟨_,_,_,c2,_⟩:=h.cells
 have hr:Rise (at_ β D.kept):=rise_names ho.kept (by simp[at_,Function.comp_def])
 have hl:(at_ β D.kept).length*16<=140737488355328:=by have:=ho.lenK;simp only[at_,List.length_map];omega
 obtain⟨n,hn⟩:∃ n,D.kept.length=n:=⟨_,rfl⟩
 have hnN:n<=N:=by rw[<-hn];have:=ho.lenK;omega
 have HN:=Hd hn
 have H:=Lib.hid h
 have HO:=Hd ho
 have HR:=Hd hr
 clear h ho hr hn
 go_enter Tryz.func40,Tryz.ntmps40
 go_upto_region 5 with (go_at_call 82;refine (names_any H.out.kept HR.out hl).mono ?_;rintro x w1 ⟨v1,rfl,hv1,hb1⟩;rw[show (at_ β D.kept).length=n by rw[<-HN.out];simp[at_],show (at_ β D.kept).map (·.1)=D.kept.map (·.1) by simp[at_,Function.comp_def]] at hv1;obtain⟨A1,k1,rfl,_,_⟩:=own_form hv1)
 have HV1:=Hd hv1
 have HB1:=Hd hb1
 clear hv1 hb1
 obtain⟨j0,hj0,hq0,hq1,hq2⟩:=info_parts infoFile
 go_loopw [3,15] (fun ov iv wr=>∃ (i:Nat) (dv:List Value),iv = .int .i64 (i:Int)/\i<=n/\FilesAt wr w1.heap.size ov dv (D.safe.take i)/\Below w1.heap.size w1 wr) (fun _ iv _=>n - (intOf iv).toNat)
 case atStart=>exact⟨0,[],rfl,by omega,by rw[List.take_zero];exact FilesAt.nil _ _,Below.refl _ _⟩
 case round=>
  obtain⟨i,dv,rfl,hi,hf,hb⟩:=hrel
  by_cases hlt:i<n
  ·obtain⟨p,hp⟩:∃ p,D.kept[i]?=some p:=⟨_,List.getElem?_eq_getElem (by have:=HN.out;omega)⟩
   obtain⟨nm,k⟩:=p
   have hk:k<D.bd.length:=HO.out.inK _ (List.mem_of_getElem? hp)
   have hnm:=HO.out.namK _ (List.mem_of_getElem? hp)
   have hfind:find D.kept nm=some k:=Rise.get_find HO.out.kept hp
   have hbw:Below w.heap.size w wr:=bch HB1.out hb
   have hD:=H.out.same (w':=wr) (fun q hq=>hbw.block q (H.out.low q hq)) hbw.size
   have e0:wr.cell? ⟨d,3,none⟩=some kv:=(c_kp hD.head).1
   have e1:(Instr.lookup 151 kv (encStr nm) false).run Tryz.prog wr = .ok (.pointer (some ⟨β k,0,none⟩)) wr:=by
    have:=hD.kept.run_look (named_len hnm)
    rw[find_at,hfind] at this
    exact this
   have e2:wr.cell? ⟨β k,0,none⟩=some (vs k):=(c_body (hD.body k hk)).1
   obtain⟨ad1,hA1,_,had1⟩:=(Rd.of_own HV1.out).2 (by omega)
   subst hA1
   have e3:wr.cell? (ad1.add i)=some (encStr nm):=by
    have h1:=((Rd.of_own HV1.out).below hb).cell rfl (k:=i) (u:=encStr nm) hlt (by simp[cStr,hp])
    exact h1
   have hlt2:(i:Int)<(n:Int):=by omega
   have hkl:=(HO.out.at_ok k).2
   have hrow:=hD.row k hk
   have HD:=Hd hD
   have HROW:=Hd hrow
   have HF:=Hd hf
   have HB:=Hd hb
   have HBW:=Hd hbw
   have HP:=Hd hp
   have hlen:(D.safe.take i).length=i:=by have:=HN.out;simp[Dr.D.safe,Dr.D.files,List.length_take];omega
   have HLEN:=Hd hlen
   clear hD hf hb hbw hp hfind hnm hrow had1 hlen
   have hro:wr.ownsRow w1.heap.size tFile 2 u3 i (cF (D.safe.take i) dv):=by have:=HF.out.row;rw[HLEN.out] at this;exact this
   have HRO:=Hd hro
   clear hro
   go_upto_region 8 with (fail)
   obtain⟨Ak,ck,hvk,hck1,hck2⟩:=own_form HROW.out
   have hbk:=HD.out.body k hk
   rw[hvk] at hbk
   have hro2:=HROW.out
   rw[hvk] at hro2
   have HBK:=Hd hbk
   have hsafe:=(HO.out.at_ok k).1
   have hs1:((D.at k).safe:Int)<=(ck:Int):=by omega
   have hs2:(ck:Int)<=9223372036854775807:=by unfold maxLen at hck2;omega
   have hcut:wr.ownsRow 0 tU8 1 (.slice Ak (D.at k).safe ck) (D.at k).safe (cU8 ((D.at k).data.take (D.at k).safe)):=by
    rw[show cU8 ((D.at k).data.take (D.at k).safe)=(cU8 (D.at k).data).take (D.at k).safe by simp[cU8,List.map_take]]
    rcases Nat.lt_or_ge (D.at k).safe (D.at k).data.length with h | h
    ·exact own_front hro2 h
    ·have e:(D.at k).safe=(D.at k).data.length:=by omega
     rw[e,List.take_of_length_le (by simp[cU8])]
     exact hro2
   have HROW2:=Hd (show wr.drew.ownsRow 0 tU8 1 (.slice Ak (D.at k).safe ck) (D.at k).safe (cU8 ((D.at k).data.take (D.at k).safe)) from hcut)
   clear hvk hbk hro2 hcut hck1 hck2 e0 e1 e2
   refine wp_region_any (by kernel_rfl) ?_
   change wpAny _ _ _ _ _ _ _ (World.drew _)
   refine wpAny_of_P (S:=fun w'=>w'.heap[β k]?=some (.cells #[.slice Ak (D.at k).data.length ck,.int .i64 ((D.at k).safe:Int)] tBody (0,0))) (late:=[10]) _ _ _ _ ?_
   refine tT 0 HBK.out ?_
   try go_frame
   refine tT 1 HBK.out ?_
   try go_frame
   refine tT 2 HBK.out ?_
   try go_frame
   refine tT 3 HBK.out ?_
   try go_frame
   refine tT 4 HBK.out ?_
   try go_frame
   refine takeP (i:=5) (v:=?_) rfl (by kernel_rfl) (by kernel_rfl) (by kernel_rfl) (by kernel_rfl) (by kernel_rfl) (fun _ _ _ h=>h) (HBK.out) (.inl ⟨by rfl,fun w hw=>.inl ?hy5⟩) ?_;case hy5=>(obtain⟨y0,y1,_,_⟩:=c_body hw;clear hw;go_simp;try with_reducible rfl)
   try go_frame
   refine tT 6 HBK.out ?_
   try go_frame
   refine tT 7 HBK.out ?_
   try go_frame
   refine tT 8 HBK.out ?_
   try go_frame
   refine takeP (i:=9) (v:=?_) rfl (by kernel_rfl) (by kernel_rfl) (by kernel_rfl) (by kernel_rfl) (by kernel_rfl) (fun _ _ _ h=>h) (HBK.out) (.inl ⟨by rfl,fun w hw=>.inl ?hy9⟩) ?_;case hy9=>(obtain⟨y0,y1,_,_⟩:=c_body hw;clear hw;go_simp;try with_reducible rfl)
   try go_frame
   refine lP 10 fun K hK=>?_
   go_simp
   refine hK _ _ ?_;clear hK K
   try go_frame
   refine fL 11 fun K hK=>?_
   go_simp
   refine (clone_any HROW2.out (by omega)).mono ?_;rintro x w5 ⟨x5,rfl,hx5,hb5⟩
   obtain⟨A5,c5,rfl,_,_⟩:=own_form hx5
   have HX5:=Hd hx5
   have HB5:=Hd (bch (show Below wr.heap.size wr wr.drew from (Below.refl _ _).drew) hb5)
   clear hx5 hb5
   refine hK _ _ ?_;clear hK K
   try go_frame
   refine tL 12 ?_
   try go_frame
   refine fL 13 fun K hK=>?_
   go_simp
   refine hK _ _ ?_;clear hK K
   try go_frame
   refine fL 14 fun K hK=>?_
   refine wp_append_own _ _ _ 90 rfl w1.heap.size tFile j0 (.agg #[.string ⟨#[]⟩,.slice none 0 0]) 2 40 Tryz.underlying90 hj0 hq0 hq1 hq2 rfl (by decide) u3 _ _ rfl (own_alloc (own_below HRO.out HB5.out) _) ⟨w5.heap.size,0,none⟩ 1 1 [encStr nm,.slice A5 (D.at k).safe c5] rfl rfl ?_ ?_ ?_ ?_ ?_ ?_
   ·exact new_cells _ _ _
   ·simp[Value.oneCell',encStr]
   ·unfold maxLen;omega
   ·omega
   ·have:=HB.out.size;have:=HB5.out.size;simp;omega
   intro v2 w6 hrow2 hg2 _
   have HR2:=Hd hrow2
   have HG2:=Hd hg2
   clear hrow2 hg2
   refine hK _ _ ?_;clear hK K
   try go_frame
   refine tL 15 ?_
   try go_frame
   refine wpAny_done (by kernel_rfl) ?_ _
   have hbA:Below wr.heap.size wr (w5.alloc (.cells #[encStr nm,.slice A5 (D.at k).safe c5] tFile)):=HB5.out.alloc HB5.out.size _
   have himg:D.safe[i]?=some (nm,(D.at k).data.take (D.at k).safe):=by
    unfold Dr.D.safe Dr.D.files
    rw[List.getElem?_map,HP.out]
    rfl
   have hF2:=(HF.out.below hbA).snoc (f:=(nm,(D.at k).data.take (D.at k).safe)) (x:=.slice A5 (D.at k).safe c5) (by rw[show ((nm,(D.at k).data.take (D.at k).safe):Bs×Bs).2.length=(D.at k).safe by simp only[List.length_take];omega];exact own_alloc (own_base HX5.out HB.out.size) _) (fun g hg=>HF.out.fresh (own_ge HX5.out hg)) (v2:=v2) (w2:=w6) (by rw[HLEN.out];exact HR2.out) HG2.out
   rw[<-take_snoc_f himg] at hF2
   have hb6:Below w1.heap.size w1 w6:=(HB.out.trans (hbA.mono HB.out.size)).grown HG2.out (by have:=HB.out.size;have:=hbA.size;omega) (fun g hg=>own_ge HRO.out hg)
   have HF2:=Hd hF2
   have HB6:=Hd hb6
   clear hF2 hb6 hbA himg e3
   go_wp2
   go_roundw
   case rel=>exact⟨i+1,_,by go_num,by omega,HF2.out,HB6.out⟩
   case measure=>simp[intOf];omega
  ·obtain rfl:n=i:=by omega
   rw[List.take_of_length_le (by have:=HN.out;simp[Dr.D.safe,Dr.D.files];omega)] at hf
   have HF:=Hd hf
   have HB:=Hd hb
   clear hf hb
   go_wp2
   go_ret
   exact⟨_,dv,rfl,HF.out.lower HB1.out.size,bch HB1.out HB.out⟩
end
end Go.Proofs.YtmgljaecmchgaaaGreat.Dr
namespace Go.Proofs.YtmgljaecmchgaaaGreat.Dr
open Go.RowKit Go.Proofs Go.Proofs.YtmgljaecmchgaaaGreat.Ring
theorem DirAt.entry {w:World} {b:Nat} {l:Dir} (h:DirAt Tryz.prog kStr w (.map (some b)) l) {k:Bs} (hk:k.length<=maxLen) (hl:l.length<maxLen) (g:Nat) :
  ∃ (v0:Value) (st:Nat) (w1:World),(Instr.mapEntry 151 (.map (some b)) (encStr k)).run Tryz.prog w = .ok (.tuple #[v0,.int .i64 (st:Int)]) w1/\w.grownBy w1 (some b)/\w1.heap.size=w.heap.size/\
   ∀ w2:World,w2.heap[b]?=w1.heap[b]?->∃ w3,(Instr.entryStore 151 (.map (some b)) (.int .i64 (st:Int)) (.pointer (some ⟨g,0,none⟩))).run Tryz.prog w2 = .ok () w3/\DirAt Tryz.prog kStr w3 (.map (some b)) (Dr.put l k (some g))/\w2.grownBy w3 (some b)/\w3.heap.size=w2.heap.size:=by
 have hp:=h.put keyed undirU hl (key_of hk) g
 have h0:=h
 rcases h with ⟨h0,_⟩ | ⟨b',h0,ho⟩
 ·cases h0
 ·obtain rfl:b=b':=by simpa using h0
  obtain⟨es,clock,hb,F,_⟩:=ho
  obtain⟨v0,st,es1,cl1,hr1,_,hr2⟩:=Go.WideElems.entry_then_store (Go.WideMaps.string_law Tryz.underlying9) undirU zero_ptr hb F (key_of hk)
  refine⟨v0,st,_,hr1,⟨rfl,rfl,rfl,by simp[Go.ChangeMaps.setBlock],fun i _ hi=>Go.ChangeMaps.heap_setBlock_other hb _ (fun e=>hi (by rw[e]))⟩,by simp[Go.ChangeMaps.setBlock],fun w2 hw2=>?_⟩
  have hb2:w2.heap[b]?=some (.map es1 cl1):=hw2.trans (Go.ChangeMaps.heap_setBlock_same hb _)
  obtain⟨es',cl',hr3,hr4⟩:=hr2 w2 (.pointer (some ⟨g,0,none⟩)) hb2
  obtain⟨w',hr5,hd,_,_⟩:=hp
  rw[hr4] at hr5
  injection hr5 with _ hr5
  subst hr5
  refine⟨_,hr3,hd.same fun x hx=>?_,⟨rfl,rfl,rfl,by simp[Go.ChangeMaps.setBlock],fun i _ hi=>Go.ChangeMaps.heap_setBlock_other hb2 _ (fun e=>hi (by rw[e]))⟩,by simp[Go.ChangeMaps.setBlock]⟩
  obtain rfl:b=x:=by simpa [mapBlock] using hx
  rw[Go.ChangeMaps.heap_setBlock_same hb2,Go.ChangeMaps.heap_setBlock_same hb]
section
variable {w w':World} {S:Nat->Prop} {d:Nat} {D:Dr.D} {u:Int} {β:Nat->Nat} {vs:Nat->Value} {nv kv pv:Value} {ss:List Value} {m N:Nat}
theorem DvAt.keeps (h:DvAt w S d D u β vs nv kv pv ss) {b:Nat} (hb:mapBlock kv=some b) {l:Dir} (hl:DirAt Tryz.prog kStr w' kv (at_ β l)) (hk:Kept w w' (fun k=>k=b)):DvAt w' S d {D with kept:=l} u β vs nv kv pv ss:=by
 have hne:∀ (g:Nat) (cur:Array Value) (e:TypeId) (fr:Nat×Nat),w.heap[g]?=some (.cells cur e fr)->w'.heap[g]?=w.heap[g]?:=fun g cur e fr hg=>hk.block g (Array.getElem?_eq_some_iff.1 hg).1 fun e=>h.kept.apart hb hg e.symm
 refine⟨(hne d _ _ _ h.head).trans h.head,h.now.same fun x hx=>hk.block x (h.now.lt hx) fun e=>h.apart x hx (e▸hb),hl,h.apart,h.both,h.inj,fun i hi=>(hne _ _ _ _ (h.body i hi)).trans (h.body i hi),fun i hi=>own_same (h.row i hi) fun g hg=>?_,h.own,
  own_same h.pend fun g hg=>?_,fun j c s hc hj=>own_same (h.steps j c s hc hj) fun g hg=>?_,h.inD,h.inN,h.inK,h.inB,h.inV,h.inP,h.inS,fun k hk'=>Nat.lt_of_lt_of_le (h.low k hk') hk.size,h.live⟩
 ·obtain⟨cur,h1⟩:=own_lt (h.row i hi) hg
  exact hne g _ _ _ h1
 ·obtain⟨cur,h1⟩:=own_lt h.pend hg
  exact hne g _ _ _ h1
 ·obtain⟨cur,h1⟩:=own_lt (h.steps j c s hc hj) hg
  exact hne g _ _ _ h1
theorem DvAt.bodyAdd (h:DvAt w S d D u β vs nv kv pv ss) (hb:Below w.heap.size w w') {x:Nat} {v:Value} {b:Bd} (hx:w'.heap[x]?=some (.cells #[v,.int .i64 (b.safe:Int)] tBody (0,0))) (hxn:w.heap.size<=x) (hr:w'.ownsRow 0 tU8 1 v b.data.length (cU8 b.data)) (hv:∀ g,v.ownBlock=some g->w.heap.size<=g)
  (hN:∀ p∈D.now,p.2<D.bd.length) (hK:∀ p∈D.kept,p.2<D.bd.length) (hP:∀ c∈D.pend,∀ s∈c,∀ i,s.2=some i->i<D.bd.length) :
  DvAt w' (fun k=>S k\/k=x\/v.ownBlock=some k) d {D with bd:=D.bd++[b]} u (fun i=>if i=D.bd.length then x else β i) (fun i=>if i=D.bd.length then v else vs i) nv kv pv ss:=by
 have hold:∀ k,S k->w'.heap[k]?=w.heap[k]?:=fun k hk=>hb.block k (h.low k hk)
 have hβ:∀ i,i<D.bd.length->(fun i=>if i=D.bd.length then x else β i) i=β i:=fun i hi=>by simp only[if_neg (Nat.ne_of_lt hi)]
 have hlen:({D with bd:=D.bd++[b]}:Dr.D).bd.length=D.bd.length+1:=by simp
 have hnot:∀ i,i<D.bd.length->β i≠x:=fun i hi e=>by have:=h.low _ (h.inB i hi);omega
 have hc:∀ i,i<D.bd.length+1->i<D.bd.length\/i=D.bd.length:=fun i hi=>by omega
 refine⟨(hold d h.inD).trans h.head,?_,?_,h.apart,h.both,fun i j hi hj=>?_,fun i hi=>?_,fun i hi=>?_,fun i j g hi hj=>?_,own_same h.pend fun g hg=>hold g (h.inP g hg),fun j c s hc' hj=>?_,.inl h.inD,fun b hb=>.inl (h.inN b hb),fun b hb=>.inl (h.inK b hb),fun i hi=>?_,fun i g hi=>?_,fun g hg=>.inl (h.inP g hg),fun s hs g hg=>.inl (h.inS s hs g hg),fun k hk=>?_,h.live⟩
 ·rw[at_congr hβ hN];exact h.now.same fun b hb=>hold b (h.inN b hb)
 ·rw[at_congr hβ hK];exact h.kept.same fun b hb=>hold b (h.inK b hb)
 ·rw[hlen] at hi hj
  rcases hc i hi with hi | rfl<;>rcases hc j hj with hj | rfl
  ·simp only[if_neg (Nat.ne_of_lt hi),if_neg (Nat.ne_of_lt hj)];exact h.inj i j hi hj
  ·simp only[if_neg (Nat.ne_of_lt hi),if_true];exact fun e=>absurd e (hnot i hi)
  ·simp only[if_neg (Nat.ne_of_lt hj),if_true];exact fun e=>absurd e.symm (hnot j hj)
  ·exact fun _=>rfl
 ·rw[hlen] at hi
  rcases hc i hi with hi | rfl
  ·rw[at_snoc,if_neg (Nat.ne_of_lt hi)];simp only[if_neg (Nat.ne_of_lt hi)];exact (hold _ (h.inB i hi)).trans (h.body i hi)
  ·rw[at_snoc,if_pos rfl];simp only[if_true];exact hx
 ·rw[hlen] at hi
  rcases hc i hi with hi | rfl
  ·rw[at_snoc,if_neg (Nat.ne_of_lt hi)];simp only[if_neg (Nat.ne_of_lt hi)];exact own_same (h.row i hi) fun g hg=>hold g (h.inV i g hi hg)
  ·rw[at_snoc,if_pos rfl];simp only[if_true];exact hr
 ·rw[hlen] at hi hj
  rcases hc i hi with hi | rfl<;>rcases hc j hj with hj | rfl
  ·simp only[if_neg (Nat.ne_of_lt hi),if_neg (Nat.ne_of_lt hj)];exact h.own i j g hi hj
  ·simp only[if_neg (Nat.ne_of_lt hi),if_true];exact fun e1 e2=>by have:=h.low _ (h.inV i g hi e1);have:=hv g e2;omega
  ·simp only[if_neg (Nat.ne_of_lt hj),if_true];exact fun e1 e2=>by have:=h.low _ (h.inV j g hj e2);have:=hv g e1;omega
  ·exact fun _ _=>rfl
 ·rw[cStep_congr hβ fun s hs i hi=>hP c (List.mem_of_getElem? hc') s hs i hi]
  exact own_same (h.steps j c s hc' hj) fun g hg=>hold g (h.inS s (List.mem_of_getElem? hj) g hg)
 ·rw[hlen] at hi
  rcases hc i hi with hi | rfl
  ·simp only[if_neg (Nat.ne_of_lt hi)];exact .inl (h.inB i hi)
  ·simp only[if_true];exact .inr (.inl trivial)
 ·rw[hlen] at hi
  rcases hc i hi with hi | rfl
  ·simp only[if_neg (Nat.ne_of_lt hi)];exact fun hg=>.inl (h.inV i g hi hg)
  ·simp only[if_true];exact fun e=>.inr (.inr e)
 ·rcases hk with hk | rfl | hk
  ·exact Nat.lt_of_lt_of_le (h.low k hk) hb.size
  ·exact (Array.getElem?_eq_some_iff.1 hx).1
  ·obtain⟨cur,h1⟩:=own_lt hr hk
   exact (Array.getElem?_eq_some_iff.1 h1).1
end
end Go.Proofs.YtmgljaecmchgaaaGreat.Dr
