/- XK02: merged by tools/merge.py. -/
import Derived.WalkKit
import Derived.WalkLawsBesides
import Derived.WalkSpells
import Derived.Lib.Hide
import Derived.Deep.QuietTactic
import Derived.BigQuiet
import Derived.Deep.RegionWith
import Derived.Deep.CutRange
import Derived.Deep.AppendLies
import Derived.Maps.AppendAt
import Derived.Laws.BytesArg
import Derived.Sort.EncStr
import Derived.Lib.Strings
import Derived.Maps.RangeWalk
import Derived.Maps.OwnSet
import Derived.Laws.AppendOwnNone
import Derived.Test.YtmgljaecmchgaaaGreatRows
import Derived.Shelf.SlMaps.Clone
import Derived.Sort.KeysCollected
import Derived.Test.YtmgljaecmchgaaaGreatQ01
set_option linter.unusedVariables false
set_option linter.unusedSimpArgs false
set_option linter.unusedSectionVars false
namespace Go.Proofs.YtmgljaecmchgaaaGreat
open Go.RowKit Go.Proofs
theorem Hd {p:Prop} (h:p):Hid p:=Lib.hid h
theorem alloc_was (w:World) (o:Obj) {r:Nat} (h:r<w.heap.size):(w.alloc o).heap[r]?=w.heap[r]?:=by
 show (w.heap.push o)[r]?=w.heap[r]?
 rw[Array.getElem?_push_lt h,Array.getElem?_eq_getElem h]
theorem ret_int {k:IntKind} {a b:Int} (h:a=b):Ending.returned (.int k a) = .returned (.int k b):=by rw[h]
theorem ba_inj {X Y:ByteArray} (h:X.data.toList=Y.data.toList):X=Y:=by
 apply ByteArray.ext;exact Array.ext' h
abbrev cU8 (l:List UInt8):List Value:=l.map fun b=>Value.int .u8 (b.toNat:Int)
abbrev cStr (l:List (List UInt8)):List Value:=l.map encStr
theorem cU8_one (l:List UInt8):∀ u∈cU8 l,u.oneCell'=true:=by
 intro u hu;obtain⟨b,_,rfl⟩:=List.mem_map.1 hu;rfl
theorem add_block (a:Addr) (n:Nat):(a.add n).block=a.block:=by unfold Addr.add;split<;>rfl
theorem add_add (a:Addr) (i j:Nat):(a.add i).add j=a.add (i+j):=by
 unfold Addr.add
 by_cases hi:i=0<;>by_cases hj:j=0<;>simp[hi,hj,Nat.add_assoc]
def Rd (w:World) (B size:Nat) (A:Option Addr) (n:Nat) (xs:List Value):Prop:=
 xs.length=n*size/\(0<n->∃ ad,A=some ad/\ad.block<B/\∀ j u,xs[j]?=some u->w.cell? (ad.add j)=some u)
section
variable {w w':World} {B B' size n:Nat} {A:Option Addr} {xs:List Value}
theorem Rd.none_:Rd w B size A 0 []:=⟨by simp,fun h=>absurd h (by omega)⟩
theorem Rd.at_ {k:Nat} (h:Rd w B 1 A n xs) (hk:k<n):∃ ad u,A=some ad/\ad.block<B/\xs[k]?=some u/\w.cell? (ad.add k)=some u:=by
 obtain⟨ad,e,hb,hc⟩:=h.2 (by omega)
 have hl:k<xs.length:=by have:=h.1;omega
 exact⟨ad,xs[k],e,hb,List.getElem?_eq_getElem hl,hc k _ (List.getElem?_eq_getElem hl)⟩
theorem Rd.keep (h:Rd w B size A n xs) (hk:∀ p:Addr,p.block<B->w'.cell? p=w.cell? p):Rd w' B size A n xs:=
 ⟨h.1,fun hn=>by
  obtain⟨ad,e,hb,hc⟩:=h.2 hn
  exact⟨ad,e,hb,fun j u hu=>(hk _ (by rw[add_block];exact hb)).trans (hc j u hu)⟩⟩
theorem Rd.more (h:Rd w B size A n xs) (hB:B<=B'):Rd w B' size A n xs:=
 ⟨h.1,fun hn=>by
  obtain⟨ad,e,hb,hc⟩:=h.2 hn
  exact⟨ad,e,by omega,hc⟩⟩
theorem Rd.below (h:Rd w B size A n xs) (hb:Below B w w'):Rd w' B size A n xs:=h.keep fun _ hp=>hb.cell hp
theorem Rd.drew (h:Rd w B size A n xs):Rd w.drew B size A n xs:=h
theorem Rd.alloc (h:Rd w B size A n xs) (hB:B<=w.heap.size) (o:Obj):Rd (w.alloc o) B size A n xs:=h.keep fun p hp=>World.cell?_alloc_lt w o p (by omega)
theorem Rd.of_own {base:Nat} {e:TypeId} {c:Nat} (h:w.ownsRow base e size (.slice A n c) n xs):Rd w w.heap.size size A n xs:=by
 refine⟨h.1,fun hn=>?_⟩
 obtain⟨g,cap,hv,_,hlt⟩:=h.form hn
 have hA:A=some ⟨g,0,none⟩:=by injection hv
 subst hA
 exact⟨_,rfl,hlt,h.cells (g:=g) rfl⟩
theorem Rd.cell (h:Rd w B 1 A n xs) {ad:Addr} (hA:A=some ad) {k:Nat} {u:Value} (hk:k<n) (hu:xs[k]?=some u):w.cell? (ad.add k)=some u:=by
 obtain⟨ad',e,_,hc⟩:=h.2 (by omega)
 rw[hA] at e
 obtain rfl:ad=ad':=by injection e
 exact hc k u hu
end
theorem grown_of_below {a w:World} (h:Below a.heap.size a w) (row:Option Nat):a.grownBy w row:=⟨h.os,h.tape,h.output,h.size,fun i hi _=>h.block i hi⟩
theorem own_below {w w':World} {base:Nat} {e:TypeId} {size n:Nat} {v:Value} {xs:List Value} (h:w.ownsRow base e size v n xs) (hb:Below w.heap.size w w'):w'.ownsRow base e size v n xs:=
 h.kept (grown_of_below hb none) (by cases hv:v.ownBlock<;>simp)
theorem own_base {w:World} {base base':Nat} {e:TypeId} {size n:Nat} {v:Value} {xs:List Value} (h:w.ownsRow base' e size v n xs) (hb:base<=base'):w.ownsRow base e size v n xs:=by
 refine⟨h.1,?_⟩
 rcases h.2 with h2 | ⟨g,cap,cur,hv,hg,rest⟩
 ·exact .inl h2
 ·exact .inr ⟨g,cap,cur,hv,by omega,rest⟩
theorem below_drewN {B:Nat} {a w:World} (h:Below B a w) (n:Nat):Below B a (w.drewN n):=⟨h.os,h.tape,h.output,h.size,h.block⟩
theorem bch {w w1 w2:World} (h1:Below w.heap.size w w1) (h2:Below w1.heap.size w1 w2):Below w.heap.size w w2:=h1.trans (h2.mono h1.size)
theorem Rd.next {w w1:World} {size n:Nat} {A:Option Addr} {xs:List Value} (h:Rd w w.heap.size size A n xs) (hb:Below w.heap.size w w1):Rd w1 w1.heap.size size A n xs:=(h.below hb).more hb.size
theorem new_cells (w:World) (l:List Value) (e:TypeId):∀ j u,l[j]?=some u->(w.alloc (.cells l.toArray e)).cell? ((⟨w.heap.size,0,none⟩:Addr).add j)=some u:=by
 intro j u hu
 have hadd:(⟨w.heap.size,0,none⟩:Addr).add j=⟨w.heap.size,j,none⟩:=by unfold Addr.add;split<;>simp_all
 rw[hadd,cell_of_row _ w.heap.size j l.toArray e (0,0) (heap_alloc_new w _)]
 simpa using hu
theorem own_form {w:World} {base:Nat} {e:TypeId} {size n:Nat} {v:Value} {xs:List Value} (h:w.ownsRow base e size v n xs):∃ A c,v = .slice A n c/\n<=c/\c<=maxLen:=by
 rcases h.2 with ⟨hv,hx⟩ | ⟨g,cap,cur,hv,_,_,h1,h2,_⟩
 ·subst hv;subst hx
  exact⟨none,0,rfl,Nat.le_refl _,Nat.zero_le _⟩
 ·exact⟨_,_,hv,h1,h2⟩
section
variable {P:Program} (w:World)
theorem run_text (src dst e:TypeId) (hs:P.underlying src=some (.slice e)) (he:P.underlying e=some (.int .u8)) (hd:P.underlying dst=some .string)
  {B n:Nat} {A:Option Addr} (c:Nat) {l:List UInt8} (h:Rd w B 1 A n (cU8 l)) :
  (convert src dst (.slice A n c)).run P w = .ok (.string ⟨l.toArray⟩) w:=by
 have hl:l.length=n:=by simpa using h.1
 cases A with
 | none=>
  have h0:n=0:=by
   rcases Nat.eq_zero_or_pos n with h0 | h0
   ·exact h0
   ·obtain⟨ad,e,_⟩:=h.2 h0;cases e
  subst h0
  have:l=[]:=List.eq_nil_of_length_eq_zero hl
  subst this
  rw[run_convert_bytes_nil w src e hs he 0 c dst hd];rfl
 | some ad=>
  rw[run_convert_bytes_string w src dst e _ n c hs he hd]
  have hload:(loadCells ad n).run P w = .ok ((l.map fun b=>(b.toNat:Int)).map (Value.int .u8)).toArray w:=by
   have:=run_loadCells_list (P:=P) w ad (cU8 l) (fun j v hj=>by
    have hn:0<n:=by
     rcases Nat.eq_zero_or_pos n with h0 | h0
     ·have:l=[]:=List.eq_nil_of_length_eq_zero (by omega)
      subst this;simp at hj
     ·exact h0
    obtain⟨ad',e,_,hc⟩:=h.2 hn
    obtain rfl:ad=ad':=by injection e
    exact hc j v hj)
   simpa [hl,List.map_map,Function.comp_def] using this
  rw[run_bytesToString w ad n c _ hload,foldl_push_bytes]
  congr 2
  apply ba_inj
  have e1:∀ b:UInt8,UInt8.ofNat ((b.toNat:Int)).toNat=b:=fun b=>by simp
  simp only[ByteArray.empty,ByteArray.emptyWithCapacity,List.map_map,Function.comp_def,e1,List.map_id']
  rw[Array.toList_append]
  rfl
end
end Go.Proofs.YtmgljaecmchgaaaGreat
namespace Go.Proofs.YtmgljaecmchgaaaGreat
open Go.RowKit Go.Proofs
section
variable {P:Program} (w:World)
theorem wpList_append_rd {ops:Array Oper} {rest:List Oper} {o:Oper} {a:Act} {Q:Exit->Act->World->Prop} (hgd:o.guard=none) (s x:Operand) (t:TypeId)
  (ho:o.op = .call {callee:=.builtin .append,args:=#[s,x],argTypes:=#[t,t]})
  (base:Nat) (e:TypeId) (i:TypeInfo) (z:Value) (size bytes:Nat) (ht:P.underlying t=some (.slice e)) (hi:P.info? e=some i) (hz:i.zero=some z)
  (hsize:i.size=size) (hby:i.bytes=bytes) (hzs:z.cells.size=size) (hsz:0<size)
  (v:Value) (n:Nat) (xs:List Value) (hs:a.eval s=v) (hown:w.ownsRow base e size v n xs)
  (B:Nat) (A:Option Addr) (m c:Nat) (news:List Value) (hx:a.eval x = .slice A m c) (hr:Rd w B size A m news) (hc:A=none->c=0) (h1:∀ u∈news,u.oneCell'=true)
  (h63:n+m<=maxLen) (hbytes:(n+m)*bytes<=140737488355328) (hbase:base<=w.heap.size)
  (h:∀ v' w',w'.ownsRow base e size v' (n+m) (xs++news)->w.grownBy w' v.ownBlock->wpList P ops Q rest (a.put o.dst v') w'):wpList P ops Q (o::rest) a w:=by
 cases A with
 | none=>
  have h0:m=0:=by
   rcases Nat.eq_zero_or_pos m with h0 | h0
   ·exact h0
   ·obtain⟨ad,e,_⟩:=hr.2 h0;cases e
  subst h0
  have hn:news=[]:=List.eq_nil_of_length_eq_zero (by simpa using hr.1)
  subst hn
  have hc0:=hc rfl
  subst hc0
  refine wpList_append_own_none hgd s x t ho base e i size ht hi v n xs hs hown hx ?_
  exact h v w (by simpa using hown) (World.grownBy.refl w _)
 | some ad=>
  refine wpList_append_own w hgd s x t ho base e i z size bytes ht hi hz hsize hby hzs hsz v n xs hs hown ad m c news hx hr.1 ?_ h1 h63 hbytes hbase fun v' w' h2 h3 _=>h v' w' h2 h3
  intro j u hu
  rcases Nat.eq_zero_or_pos m with h0 | h0
  ·subst h0
   have hn:news=[]:=List.eq_nil_of_length_eq_zero (by simpa using hr.1)
   subst hn
   simp at hu
  ·obtain⟨ad',e,_,hcell⟩:=hr.2 h0
   obtain rfl:ad=ad':=by injection e
   exact hcell j u hu
end
theorem own_none {w:World} {base:Nat} {e:TypeId} {size n:Nat} {A:Option Addr} {c:Nat} {xs:List Value} (h:w.ownsRow base e size (.slice A n c) n xs):A=none->c=0:=by
 intro hA
 rcases h.2 with ⟨hv,_⟩ | ⟨g,cap,cur,hv,_⟩
 ·injection hv
 ·rw[hA] at hv;cases hv
end Go.Proofs.YtmgljaecmchgaaaGreat
namespace Go.Proofs.YtmgljaecmchgaaaGreat
theorem bulk_one {H:Type} (d:DataW H):1<=Rows.uptoBulk d:=by
 cases d with
 | lit l=>cases l<;>simp[Rows.uptoBulk]
 | _=>simp[Rows.uptoBulk]
theorem bulk_len {H:Type} (l:List (DataW H)):l.length<=Rows.uptoBulkAll l:=by
 induction l with
 | nil=>simp[Rows.uptoBulkAll]
 | cons x r ih=>have:=bulk_one x;simp only[Rows.uptoBulkAll,List.length_cons];omega
theorem bulk_slice {H:Type} (elems spare:List (DataW H)):elems.length+spare.length+1<=Rows.uptoBulk (.slice elems spare):=by
 have h1:=bulk_len elems
 have h2:=bulk_len spare
 simp only[Rows.uptoBulk]
 omega
theorem bulk_part {H:Type} {d:DataW H} {l:List (DataW H)} {i:Nat} (h:l[i]?=some d):Rows.uptoBulk d<=Rows.uptoBulkAll l:=by
 induction l generalizing i with
 | nil=>simp at h
 | cons x r ih=>
  simp only[Rows.uptoBulkAll]
  cases i with
  | zero=>simp at h;subst h;omega
  | succ j=>simp at h;have:=ih h;omega
end Go.Proofs.YtmgljaecmchgaaaGreat
namespace Go.Proofs.YtmgljaecmchgaaaGreat
open Go.RowKit Go.Proofs
structure Kept (w w':World) (S:Nat->Prop):Prop where
 os:w'.os=w.os
 tape:w'.tape=w.tape
 output:w'.output=w.output
 size:w.heap.size<=w'.heap.size
 block:∀ k,k<w.heap.size->¬ S k->w'.heap[k]?=w.heap[k]?
theorem Kept.refl (w:World) (S:Nat->Prop):Kept w w S:=⟨rfl,rfl,rfl,Nat.le_refl _,fun _ _ _=>rfl⟩
theorem Kept.below {w w1 w2:World} {S:Nat->Prop} (h:Kept w w1 S) (hb:Below w1.heap.size w1 w2):Kept w w2 S:=
 ⟨hb.os.trans h.os,hb.tape.trans h.tape,hb.output.trans h.output,Nat.le_trans h.size hb.size,fun k hk hs=>(hb.block k (Nat.lt_of_lt_of_le hk h.size)).trans (h.block k hk hs)⟩
theorem Kept.of_below {w w1:World} (S:Nat->Prop) (hb:Below w.heap.size w w1):Kept w w1 S:=(Kept.refl w S).below hb
theorem Kept.trans {w w1 w2:World} {S T:Nat->Prop} (h:Kept w w1 S) (h2:Kept w1 w2 T) (ht:∀ k,T k->S k\/w.heap.size<=k):Kept w w2 S:=
 ⟨h2.os.trans h.os,h2.tape.trans h.tape,h2.output.trans h.output,Nat.le_trans h.size h2.size,fun k hk hs=>(h2.block k (Nat.lt_of_lt_of_le hk h.size) (fun h1=>by
  rcases ht k h1 with h3 | h3
  ·exact hs h3
  ·omega)).trans (h.block k hk hs)⟩
theorem Kept.grown {w w1 w2:World} {S:Nat->Prop} (h:Kept w w1 S) {row:Option Nat} (hg:w1.grownBy w2 row) (hr:∀ b,row=some b->S b\/w.heap.size<=b):Kept w w2 S:=
 ⟨hg.os.trans h.os,hg.tape.trans h.tape,hg.output.trans h.output,Nat.le_trans h.size hg.size,fun k hk hs=>(hg.block k (Nat.lt_of_lt_of_le hk h.size) (fun e=>by
  rcases hr k e.symm with h1 | h1
  ·exact hs h1
  ·omega)).trans (h.block k hk hs)⟩
theorem Kept.to_below {w w':World} {S:Nat->Prop} {B:Nat} (h:Kept w w' S) (hB:B<=w.heap.size) (hs:∀ k,S k->B<=k):Below B w w':=
 ⟨h.os,h.tape,h.output,h.size,fun k hk=>h.block k (by omega) (fun h1=>by have:=hs k h1;omega)⟩
namespace Ring
theorem heap_same {w:World} {b i:Nat} {cs:Array Value} {T:TypeId} {fr:Nat×Nat} (hb:w.heap[b]?=some (.cells cs T fr)) (v:Value) :
  (w.setCell ⟨b,i,none⟩ v).heap[b]?=some (.cells (cs.setIfInBounds i v) T fr):=by
 simp[World.setCell,Array.getElem?_modify,hb]
def ptr:Option Nat->Value
 | none=>.pointer none
 | some b=>.pointer (some ⟨b,0,none⟩)
structure En (κ ν:Type) where
 b:Nat
 key:κ
 val:ν
 wt:Nat
section
variable {κ ν:Type} (ek:κ->ν->Value) (ev:ν->Value) (t:TypeId)
def hd:List (En κ ν)->Option Nat->Option Nat
 | [],n=>n
 | e::_,_=>some e.b
end
structure Rdr (α:Type) where
 av:α->Value
 dt:α->DataW Unit
 R:Value->Option (DataW Unit×List MemPlace)
 read:∀ x,R (av x)=some (dt x,[])
 inv:∀ v x ps,R v=some (dt x,ps)->v=av x
def dtPtr:Option Nat->DataW Unit
 | none=>.nil
 | some b=>.lit (.int .i64 (b:Int))
def pRead:Value->Option (DataW Unit×List MemPlace)
 | .pointer none=>some (.nil,[])
 | .pointer (some ⟨b,0,none⟩)=>some (.lit (.int .i64 (b:Int)),[])
 | _=>none
def ptrs:Rdr (Option Nat) where
 av:=ptr
 dt:=dtPtr
 R:=pRead
 read:=fun o=>by cases o<;>rfl
 inv:=fun v o ps h=>by
  unfold pRead at h
  split at h
  ·cases o with
   | none=>rfl
   | some b=>simp[dtPtr] at h
  ·cases o with
   | none=>simp[dtPtr] at h
   | some b=>simp[dtPtr] at h;exact congrArg (fun x=>ptr (some x)) (by omega)
  ·cases h
section
variable {P:Program} {κ α:Type}
variable {kt:TypeId} {kl:κ->Lit} {X:Rdr α} {z:α} {w w':World} {mv:Value} {cnt:Nat} {f:κ->α}
def mapBlock:Value->Option Nat
 | .map b=>b
 | _=>none
variable {ops:Array Oper} {rest:List Oper} {o:Oper} {a:Act} {Q:Exit->Act->World->Prop}
end
end Ring
end Go.Proofs.YtmgljaecmchgaaaGreat
namespace Go.Proofs.YtmgljaecmchgaaaGreat.Dr
open Go.RowKit Go.Proofs Go.Proofs.YtmgljaecmchgaaaGreat.Ring
def dirD (l:Dir):DataW Unit:=.map (l.map fun p=>(Lit.string p.1,dtPtr (some p.2)))
theorem dirD_ins (x:Bs×Nat) (l:Dir):DataW.insert (Lit.string x.1,dtPtr (some x.2)) (l.map fun p=>(Lit.string p.1,dtPtr (some p.2)))=(ins x l).map fun p=>(Lit.string p.1,dtPtr (some p.2)):=by
 induction l with
 | nil=>rfl
 | cons y r ih=>
  by_cases hb:bytesBefore x.1 y.1=true
  ·rw[show ins x (y::r)=x::y::r from if_pos hb]
   exact if_pos (show (Lit.string x.1).before (Lit.string y.1)=true from hb)
  ·rw[show ins x (y::r)=y::ins x r from if_neg hb,List.map_cons,List.map_cons,<-ih]
   exact if_neg (show ¬ (Lit.string x.1).before (Lit.string y.1)=true from hb)
theorem dirD_strike (l:Dir) (k:Bs):(l.map fun p=>(Lit.string p.1,dtPtr (some p.2))).filter (fun p=>!p.1.sameKey (.string k))=(del l k).map fun p=>(Lit.string p.1,dtPtr (some p.2)):=by
 unfold del
 rw[List.filter_map]
 congr 1
 refine List.filter_congr fun p _=>?_
 simp only[Function.comp_apply,Lit.sameKey]
 by_cases h:p.1=k
 ·simp[h]
 ·simp[h]
theorem dirD_put (l:Dir) (k:Bs) (b:Nat):(dirD l).put (.string k) (dtPtr (some b))=dirD (put l k (some b)):=by
 show DataW.map _=DataW.map _
 rw[dirD_strike,dirD_ins (k,b)]
 rfl
theorem dirD_at (l:Dir) (k:Bs):(dirD l).atKey (.string k) (dtPtr none)=dtPtr (find l k):=by
 unfold dirD find DataW.atKey
 simp only
 rw[List.find?_map]
 have:((fun p:Lit×DataW Unit=>p.1.sameKey (.string k))∘fun p:Bs×Nat=>(Lit.string p.1,dtPtr (some p.2)))=fun p=>decide (p.1=k):=by
  funext p
  simp only[Function.comp_apply,Lit.sameKey]
  by_cases h:p.1=k<;>simp[h]
 rw[this]
 cases l.find? fun p=>decide (p.1=k)<;>rfl
section
variable {P:Program} {kt:TypeId} {w w':World} {mv:Value} {l:Dir}
def DirAt (P:Program) (kt:TypeId) (w:World) (mv:Value) (l:Dir):Prop:=
 (mv = .map none/\l=[])\/∃ b,mv = .map (some b)/\w.ownsMap P kt ptrs.R b l.length (dirD l)
theorem DirAt.isMap (h:DirAt P kt w mv l) {b:Nat} (hb:mapBlock mv=some b):∃ es clock,w.heap[b]?=some (.map es clock):=by
 rcases h with ⟨rfl,_⟩ | ⟨b',rfl,ho⟩
 ·cases hb
 ·obtain rfl:b'=b:=by simpa [mapBlock] using hb
  obtain⟨es,clock,h1,_⟩:=ho
  exact⟨es,clock,h1⟩
theorem DirAt.lt (h:DirAt P kt w mv l) {b:Nat} (hb:mapBlock mv=some b):b<w.heap.size:=by
 obtain⟨_,_,h1⟩:=h.isMap hb
 exact (Array.getElem?_eq_some_iff.1 h1).1
theorem DirAt.apart (h:DirAt P kt w mv l) {b:Nat} (hb:mapBlock mv=some b) {g:Nat} {cs:Array Value} {t:TypeId} {fr:Nat×Nat} (hg:w.heap[g]?=some (.cells cs t fr)):b≠g:=by
 intro e
 subst e
 obtain⟨es,clock,h1⟩:=h.isMap hb
 rw[h1] at hg
 cases hg
theorem DirAt.same (h:DirAt P kt w mv l) (hw:∀ b,mapBlock mv=some b->w'.heap[b]?=w.heap[b]?):DirAt P kt w' mv l:=by
 rcases h with h | ⟨b,rfl,ho⟩
 ·exact .inl h
 ·refine .inr ⟨b,rfl,?_⟩
  obtain⟨es,clock,hb,r⟩:=ho
  exact⟨es,clock,(hw b rfl).trans hb,r⟩
theorem DirAt.made (P:Program) (w:World) (kt:TypeId):DirAt P kt (w.alloc (.map #[] 0)) (.map (some w.heap.size)) []:=
 .inr ⟨w.heap.size,rfl,World.ownsMap_made w P kt ptrs.R⟩
theorem owns_exact {b n:Nat} {D:DataW Unit} (h:w.ownsMap P kt ptrs.R b n D):w.ownsMap P kt ptrs.R b (Maps.size D) D:=by
 obtain⟨es,clock,h1,h2,h3,h4⟩:=h
 refine⟨es,clock,h1,h2,?_,h4⟩
 rw[h4,Maps.size_eq,length_read]
 exact Nat.le_refl _
theorem DirAt.of_owns {b n:Nat} (h:w.ownsMap P kt ptrs.R b n (dirD l)):DirAt P kt w (.map (some b)) l:=by
 refine .inr ⟨b,rfl,?_⟩
 have:=owns_exact h
 rw[show Maps.size (dirD l)=l.length by rw[dirD,Maps.size_eq,List.length_map]] at this
 exact this
theorem DirAt.look (h:DirAt P kt w mv l) (K:Maps.Keyed P kt) {t e:TypeId} (ht:P.underlying t=some (.map kt e)) (hz:(zeroValue e).run P w = .ok (.pointer none) w) {key:Value} {k:Bs} (hk:keyOf P kt key=some (.string k)) :
  (Instr.lookup t mv key false).run P w = .ok (ptr (find l k)) w:=by
 rcases h with ⟨rfl,rfl⟩ | ⟨b,rfl,ho⟩
 ·rw[Maps.look_nil false K ht hz hk];rfl
 ·obtain⟨v,ps,hrun,hv⟩:=ho.lookup K ht hz (ptrs.read none) hk
  rw[show ptrs.dt none=dtPtr none from rfl,dirD_at l k] at hv
  rw[hrun,ptrs.inv _ _ _ hv]
  rfl
theorem DirAt.put {b:Nat} (h:DirAt P kt w (.map (some b)) l) (K:Maps.Keyed P kt) {t e:TypeId} (ht:P.underlying t=some (.map kt e)) (hn:l.length<maxLen) {key:Value} {k:Bs} (hk:keyOf P kt key=some (.string k)) (g:Nat) :
  ∃ w',(Instr.mapUpdate t (.map (some b)) key (.pointer (some ⟨g,0,none⟩))).run P w = .ok () w'/\DirAt P kt w' (.map (some b)) (put l k (some g))/\w.grownBy w' (some b)/\w'.heap.size=w.heap.size:=by
 rcases h with ⟨h0,_⟩ | ⟨b',h0,ho⟩
 ·cases h0
 ·obtain rfl:b=b':=by simpa using h0
  obtain⟨w',hrun,ho',hturn⟩:=ho.store K ht hn hk (ptrs.read (some g))
  refine⟨w',hrun,?_,hturn.grown,?_⟩
  ·rw[show ptrs.dt (some g)=dtPtr (some g) from rfl,dirD_put] at ho'
   exact DirAt.of_owns ho'
  ·obtain⟨_,_,es',clock',_,rfl⟩:=hturn;simp[Go.ChangeMaps.setBlock]
theorem DirAt.names (l:Dir):strKeys (dirD l)=l.map (·.1):=by
 unfold dirD strKeys
 simp[strOf,Function.comp_def]
variable {ops:Array Oper} {rest:List Oper} {o:Oper} {a:Act} {Q:Exit->Act->World->Prop}
end
end Go.Proofs.YtmgljaecmchgaaaGreat.Dr
namespace Go.Proofs.YtmgljaecmchgaaaGreat
open Go.RowKit Go.Proofs
section
variable {P:Program} {ops:Array Oper} {Q:Exit->Act->World->Prop} {md:Region.Mode}
def YieldsAt (P:Program) (o:Oper) (a:Act) (w:World) (v:Value):Prop:=
 (execOp a.eval o).run P w = .ok (.value v) w\/∃ f args,(execOp a.eval o).run P w = .ok (.enter f args) w/\Calls P f args w (fun e w''=>e = .returned v/\w=w'')
def YieldsW (P:Program) (ops:Array Oper) (o:Oper) (v:Value) (a:Act):Prop:=
 (Region.wanted o (yielded ops a.tmps)=true/\∀ w,YieldsAt P o a w v)\/(Region.wanted o (yielded ops a.tmps)=false/\v=undef)
theorem YieldsW.wpOp {i:Nat} {o:Oper} {v:Value} {a:Act} (hi:ops[i]?=some o) (hy:YieldsW P ops o v a)
  {K:Act->World->Prop} {w:World} (h:K (a.put o.dst v) w):wpOp P ops Q i K a w:=by
 unfold Go.wpOp
 simp only[hi]
 rcases hy with ⟨hw,hv⟩ | ⟨hw,rfl⟩
 ·simp only[hw,if_true,Oper.wp]
  refine .inl ?_
  rcases hv w with hr | ⟨f,args,hr,hc⟩
  ·rw[hr];exact h
  ·rw[hr]
   show Calls P f args w _
   refine hc.mono ?_
   rintro e w'' ⟨rfl,rfl⟩
   exact h
 ·simp only[hw,Bool.false_eq_true,if_false];exact h
theorem YieldsW.of_same {o:Oper} {v:Value} {a a':Act} (hy:YieldsW P ops o v a) (he:execOp a'.eval o=execOp a.eval o)
  (hw:Region.wanted o (yielded ops a'.tmps)=Region.wanted o (yielded ops a.tmps)):YieldsW P ops o v a':=by
 unfold YieldsW YieldsAt at *
 rw[he,hw]
 exact hy
theorem wpOp_putW {j:Nat} {oi oj:Oper} {v:Value} (hj:ops[j]?=some oj) (hap:oi.apart ops oj=true)
  (hsi:∀ cs b,oi.op≠.select cs b) (hsj:∀ cs b,oj.op≠.select cs b)
  (hQ:∀ c a w,Q (.panic c) (a.put oi.dst v) w->Q (.panic c) a w) {K:Act->World->Prop} {a:Act} {w:World}
  (hy:YieldsW P ops oi v a) (h:wpOp P ops Q j K (a.put oi.dst v) w) :
  wpOp P ops Q j (fun a' w'=>YieldsW P ops oi v a'/\K (a'.put oi.dst v) w') a w:=by
 obtain⟨h1,h2,h3⟩:=Oper.apart_spec hap
 have keep:∀ (a:Act),YieldsW P ops oi v a->∀ u,YieldsW P ops oi v (a.put oj.dst u):=fun a hy u=>
  hy.of_same (execOp_put oi hsi a oj.dst u h3) (wanted_put oi a oj.dst u h3)
 have keepD:∀ d,YieldsW P ops oi v {a with defers:=d::a.defers}:=fun d=>hy.of_same rfl rfl
 unfold wpOp at *
 simp only[hj] at *
 rw[wanted_put oj a oi.dst v h1] at h
 split
 ·rename_i hw
  simp only[hw,if_true] at h
  rcases h with h | ⟨hasks,hlets⟩
  case inr=>exact .inr ⟨by unfold Oper.asks at *;rw[execOp_put oj hsj a oi.dst v h1] at hasks;exact hasks,hlets⟩
  refine .inl ?_
  unfold Oper.wp at *
  rw[execOp_put oj hsj a oi.dst v h1] at h
  generalize (execOp a.eval oj).run P w=r at *
  cases r with
  | ok n w'=>
   cases n<;>simp only[Oper.upon] at h ⊢
   case value u=>exact⟨keep a hy u,by rw[<-Act.put_comm a v u h2];exact h⟩
   case skip=>exact⟨keep a hy _,by rw[<-Act.put_comm a v undef h2];exact h⟩
   case defer d=>
    refine⟨keep _ (keepD d) _,?_⟩
    rw[<-Act.put_comm _ v undef h2,<-Act.put_defers]
    exact h
   case enter f args=>
    refine Calls.mono h fun e w'' he=>?_
    cases e with
    | returned u=>exact⟨keep a hy u,by rw[<-Act.put_comm a v u h2];exact he⟩
    | panicked c=>exact hQ _ _ _ he
    | outgrown=>exact he
   case row row args=>exact Rows.mono h fun u w'' he=>⟨keep a hy u,by rw[<-Act.put_comm a v u h2];exact he⟩
  | halt x w'=>
   cases x<;>simp only[Oper.upon] at h ⊢
   case panic u=>exact hQ _ _ _ h
 ·rename_i hw
  simp only[hw] at h
  exact⟨keep a hy _,by rw[<-Act.put_comm a v undef h2];exact h⟩
theorem wpAny_firstW {i:Nat} {oi:Oper} {v:Value} (hi:ops[i]?=some oi) (hsel:∀ (j:Nat) (o:Oper) cs b,ops[j]?=some o->o.op≠.select cs b)
  (hQ:∀ c a w,Q (.panic c) (a.put oi.dst v) w->Q (.panic c) a w) :
  ∀ (fuel:Nat) (listed:Array Bool) (a:Act) (w:World),
   (∀ j oj,ops[j]?=some oj->j≠i->listed.getD j true=false->(∀ e∈oj.after,Region.binds md e=true->e.on≠i)->oi.apart ops oj=true)->
   i∈Region.ready md ops listed->YieldsW P ops oi v a->
   wpAny P md ops Q fuel (listed.setIfInBounds i true) (a.put oi.dst v) w->wpAny P md ops Q (fuel+1) listed a w:=by
 intro fuel
 induction fuel with
 | zero=>
  intro listed a w _ hr hy H
  refine⟨fun h=>(by rw[h] at hr;cases hr),fun j hj=>?_⟩
  by_cases hji:j=i
  ·subst hji;exact hy.wpOp hi H
  ·have:=ready_mono hj hji
   rw[H.1] at this
   cases this
 | succ fuel ih=>
  intro listed a w hfree hr hy H
  refine⟨fun h=>(by rw[h] at hr;cases hr),fun j hj=>?_⟩
  by_cases hji:j=i
  ·subst hji;exact hy.wpOp hi H
  ·have h1:=H.2 j (ready_mono hj hji)
   obtain⟨hjun,oj,hoj,hall⟩:=mem_ready.1 hj
   have hnot:∀ e∈oj.after,Region.binds md e=true->e.on≠i:=fun e he hb heq=>by
    have h1:=hall e he hb
    have h0:=(mem_ready.1 hr).1
    rw[heq] at h1
    rcases Nat.lt_or_ge i listed.size with h' | h'
    ·simp[h'] at h0 h1;rw[h0] at h1;cases h1
    ·simp[Array.getElem?_eq_none h'] at h1
   have h2:=wpOp_putW hoj (hfree j oj hoj hji hjun hnot) (fun cs b=>hsel i oi cs b hi) (fun cs b=>hsel j oj cs b hoj) hQ hy h1
   have hfree':∀ k ok,ops[k]?=some ok->k≠i->(listed.setIfInBounds j true).getD k true=false->
     (∀ e∈ok.after,Region.binds md e=true->e.on≠i)->oi.apart ops ok=true:=fun k ok hk hki hun hno=>by
    refine hfree k ok hk hki ?_ hno
    by_cases hjk:j=k
    ·subst hjk;exact hjun
    ·rw[getD_set_ne true hjk] at hun;exact hun
   refine wpOp_mono (fun a' w' h3=>ih (listed.setIfInBounds j true) a' w' hfree' (ready_mono hr (Ne.symm hji)) h3.1 ?_) h2
   rw[Array.setIfInBounds_comm _ _ hji]
   exact h3.2
theorem takeW {i:Nat} {oi:Oper} {v:Value} {fuel:Nat} {listed:Array Bool} {a:Act} {w:World} (hi:ops[i]?=some oi)
  (hs:Region.noSelect ops=true) (hf:Region.free md ops listed i=true) (hr:(Region.ready md ops listed).contains i=true)
  (hQ:∀ c a w,Q (.panic c) (a.put oi.dst v) w->Q (.panic c) a w) (hy:YieldsW P ops oi v a)
  (h:wpAny P md ops Q fuel (listed.setIfInBounds i true) (a.put oi.dst v) w):wpAny P md ops Q (fuel+1) listed a w:=
 wpAny_firstW hi (Region.noSelect_spec hs) hQ fuel listed a w (Region.free_spec hi hf) (by simpa using hr) hy h
theorem forced {i:Nat} {o:Oper} {fuel:Nat} {listed:Array Bool} {a:Act} {w:World} (hi:ops[i]?=some o) (hr:Region.ready md ops listed=[i])
  (h:∀ K:Act->World->Prop,(∀ a w,wpAny P md ops Q fuel (listed.setIfInBounds i true) a w->K a w)->if Region.wanted o (yielded ops a.tmps) then o.wp P a w K Q else K (a.put o.dst undef) w) :
  wpAny P md ops Q (fuel+1) listed a w:=by
 refine⟨fun h0=>(by rw[hr] at h0;cases h0),fun j hj=>?_⟩
 rw[hr] at hj
 obtain rfl:j=i:=by simpa using hj
 have h1:=h _ (fun _ _ h=>h)
 unfold wpOp
 simp only[hi]
 split
 ·rename_i hw;simp only[hw,if_true] at h1;exact .inl h1
 ·rename_i hw;simp only[hw] at h1;exact h1
theorem forced_plain {i:Nat} {o:Oper} {fuel:Nat} {listed:Array Bool} {a:Act} {w:World} (hi:ops[i]?=some o) (hg:o.guard=none) (hr:Region.ready md ops listed=[i])
  (h:∀ K:Act->World->Prop,(∀ a w,wpAny P md ops Q fuel (listed.setIfInBounds i true) a w->K a w)->o.wp P a w K Q) :
  wpAny P md ops Q (fuel+1) listed a w:=
 forced hi hr fun K hK=>by simp only[Region.wanted,hg,if_true];exact h K hK
theorem takeL {l:List Oper} {i:Nat} {oi:Oper} {v:Value} {fuel:Nat} {listed:Array Bool} {a:Act} {w:World} (hi:l[i]?=some oi)
  (hs:Region.noSelect l.toArray=true) (hf:Region.free md l.toArray listed i=true) (hr:(Region.ready md l.toArray listed).contains i=true)
  (hQ:∀ c a w,Q (.panic c) (a.put oi.dst v) w->Q (.panic c) a w) (hy:YieldsW P l.toArray oi v a)
  (h:wpAny P md l.toArray Q fuel (listed.setIfInBounds i true) (a.put oi.dst v) w):wpAny P md l.toArray Q (fuel+1) listed a w:=
 takeW (by simpa using hi) hs hf hr hQ hy h
theorem forcedL {l:List Oper} {i:Nat} {o:Oper} {fuel:Nat} {listed:Array Bool} {a:Act} {w:World} (hi:l[i]?=some o) (hg:o.guard=none) (hr:Region.ready md l.toArray listed=[i])
  (h:∀ K:Act->World->Prop,(∀ a w,wpAny P md l.toArray Q fuel (listed.setIfInBounds i true) a w->K a w)->o.wp P a w K Q) :
  wpAny P md l.toArray Q (fuel+1) listed a w:=
 forced_plain (by simpa using hi) hg hr h
end
end Go.Proofs.YtmgljaecmchgaaaGreat
