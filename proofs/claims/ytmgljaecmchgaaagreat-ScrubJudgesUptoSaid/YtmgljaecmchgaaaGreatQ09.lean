/- XK05: merged by tools/merge.py. -/
import Derived.Laws.IdiomRangeMap
import Derived.Test.YtmgljaecmchgaaaGreatQ08
set_option linter.unusedVariables false
set_option linter.unusedSimpArgs false
set_option linter.unusedSectionVars false
namespace Go.Proofs.YtmgljaecmchgaaaGreat.Dr
open Go.RowKit Go.Proofs Go.Proofs.YtmgljaecmchgaaaGreat.Ring
def FilesRd (w:World) (A:Option Addr) (n:Nat) (fs:List (Bs×Bs)):Prop:=
 fs.length=n/\∀ (i:Nat) (f:Bs×Bs),fs[i]?=some f->∃ g Af cf,A=some ⟨g,0,none⟩/\g<w.heap.size/\w.cell? ⟨g,i*2,none⟩=some (.string ⟨f.1.toArray⟩)/\w.cell? ⟨g,i*2+1,none⟩=some (.slice Af f.2.length cf)/\Rd w w.heap.size 1 Af f.2.length (cU8 f.2)
theorem loadAt_snoc:∀ (a:List (Bs×Bs)) (d:D) (f:Bs×Bs),loadAt d (a++[f])=(loadAt d a).bind fun d'=>loadAt d' [f]
 | [],d,f=>rfl
 | (n,x)::r,d,f=>by
  simp only[List.cons_append,loadAt]
  split
  ·rfl
  ·exact loadAt_snoc r _ f
theorem below_at {w w':World} (h:Below w.heap.size w w') {b:Nat} {o:Obj} (hb:w.heap[b]?=some o):w'.heap[b]?=some o:=(h.block b (Array.getElem?_eq_some_iff.1 hb).1).trans hb
theorem D.Ok.bound {d:D} {m M N:Nat} (h:d.Ok M N) (hb:∀ b∈d.bd,b.data.length<=m):d.Ok m N:=
 ⟨h.room,h.now,h.kept,h.inN,h.inK,h.inP,h.one,h.oneP,fun b hb'=>⟨(h.safe b hb').1,hb b hb'⟩,h.lenN,h.lenK,h.namN,h.namK⟩
theorem loadAt_bd {m:Nat}:∀ (fs:List (Bs×Bs)) {d d':D},(∀ b∈d.bd,b.data.length<=m)->(∀ f∈fs,f.2.length<=m)->loadAt d fs=some d'->∀ b∈d'.bd,b.data.length<=m
 | [],d,d',h,_,he=>by injection he with he;subst he;exact h
 | (n,x)::r,d,d',h,hf,he=>by
  unfold loadAt at he
  split at he
  ·cases he
  ·refine loadAt_bd r (d:=⟨d.room,d.bd++[⟨x,x.length⟩],put d.now n (some d.bd.length),put d.kept n (some d.bd.length),[]⟩) (fun b hb=>?_) (fun f hf'=>hf f (by simp[hf'])) he
   rcases List.mem_append.1 hb with h1 | h1
   ·exact h b h1
   ·rw[List.mem_singleton.1 h1];exact hf (n,x) (by simp)
theorem loadAt_none:∀ (a b:List (Bs×Bs)) (d:D),loadAt d a=none->loadAt d (a++b)=none
 | [],b,d,h=>by cases h
 | (n,x)::r,b,d,h=>by
  simp only[List.cons_append,loadAt] at h ⊢
  split
  ·rfl
  ·rename_i hc
   rw[if_neg hc] at h
   exact loadAt_none r b _ h
theorem find_cons (p:Bs×Nat) (r:Dir) (k:Bs):find (p::r) k=if p.1=k then some p.2 else find r k:=by
 unfold find
 rw[List.find?_cons]
 by_cases h:p.1=k
 ·rw[decide_eq_true h,if_pos h];rfl
 ·rw[decide_eq_false h,if_neg h]
theorem has_dirD (l:Dir) (k:Bs):Maps.has (dirD l) (Lit.string k)=(find l k).isSome:=by
 unfold dirD
 rw[Maps.has_eq]
 induction l with
 | nil=>rfl
 | cons p r ih=>
  rw[List.map_cons,List.any_cons,ih,find_cons]
  by_cases h:p.1=k
  ·rw[if_pos h,show (Lit.string p.1).sameKey (Lit.string k)=true by unfold Lit.sameKey;exact beq_iff_eq.2 h];rfl
  ·rw[if_neg h,show (Lit.string p.1).sameKey (Lit.string k)=false by unfold Lit.sameKey;exact beq_eq_false_iff_ne.2 h];rfl
set_option maxRecDepth 10000 in
theorem DirAt.run_look2 {w:World} {mv:Value} {l:Dir} (h:DirAt Tryz.prog kStr w mv l) {k:Bs} (hk:k.length<=maxLen):(Instr.lookup 151 mv (encStr k) true).run Tryz.prog w = .ok (.tuple #[ptr (find l k),.bool (find l k).isSome]) w:=by
 rcases h with ⟨rfl,rfl⟩ | ⟨b,rfl,ho⟩
 ·rw[Maps.look_nil true keyed undirU (zero_ptr w) (key_of hk)];rfl
 ·obtain⟨v,ps,hrun,hv⟩:=ho.look_ok keyed undirU (zero_ptr w) (ptrs.read none) (key_of hk)
  rw[show ptrs.dt none=dtPtr none from rfl,dirD_at l k] at hv
  have hhas:=has_dirD l k
  rw[hrun,ptrs.inv _ _ _ hv,hhas]
  rfl
theorem clone_rd {w:World} {B n c:Nat} {A:Option Addr} {x:Bs} (h:Rd w B 1 A n (cU8 x)) (hn:n<=140737488355328):Calls Tryz.prog 57 #[.slice A n c] w fun e w'=>∃ v',e = .returned v'/\w'.ownsRow w.heap.size tU8 1 v' n (cU8 x)/\Below w.heap.size w w':=by
 have hl:x.length=n:=by simpa using h.1
 cases A with
 | none=>
  have h0:n=0:=by
   rcases Nat.eq_zero_or_pos n with h0 | h0
   ·exact h0
   ·obtain⟨ad,e,_⟩:=h.2 h0;cases e
  subst h0
  obtain rfl:x=[]:=List.eq_nil_of_length_eq_zero hl
  refine (Tryz.bytes_Clone_nil 0 c w).mono ?_
  rintro e w' ⟨rfl,rfl⟩
  exact⟨_,rfl,World.ownsRow_nil _ _ _ _,Below.refl _ _⟩
 | some a=>
  refine (Tryz.bytes_Clone_at a n c (x.map fun b=>(b.toNat:Int)) w (by simpa using hl) hn (fun i hi=>?_)).mono ?_
  ·refine h.cell rfl hi ?_
   rw[List.getElem?_map,List.getElem?_eq_getElem (by omega),List.getD_eq_getElem?_getD,List.getElem?_map,List.getElem?_eq_getElem (by omega)]
   rfl
  ·rintro e w' ⟨v',rfl,h1,_,h2⟩
   refine⟨v',rfl,?_,h2⟩
   rw[List.map_map] at h1
   exact h1
theorem c_file {w:World} {d:Nat} {a b:Value} (h:w.heap[d]?=some (.cells #[a,b] tFile (0,0))):w.cell? ⟨d,0,none⟩=some a/\w.cell? ⟨d,1,none⟩=some b:=
 ⟨by rw[cell_of_row w d _ _ _ _ h];rfl,by rw[cell_of_row w d _ _ _ _ h];rfl⟩
theorem wpList_loadFile {ops:Array Oper} {rest:List Oper} {o:Oper} {a:Act} {w:World} {Q:Exit->Act->World->Prop} (hg:o.guard=none) (x:Operand) (ho:o.op = .load tFile x) (b off:Nat) (hx:a.eval x = .pointer (some ⟨b,off,none⟩)) {nm:Bs} {A:Option Addr} {n c:Nat}
  (c0:w.cell? ⟨b,off,none⟩=some (.string ⟨nm.toArray⟩)) (c1:w.cell? ⟨b,off+1,none⟩=some (.slice A n c))
  (h:wpList Tryz.prog ops Q rest (a.put o.dst (.agg #[.string ⟨nm.toArray⟩,.slice A n c])) w):wpList Tryz.prog ops Q (o::rest) a w:=by
 refine wpList_load_mid hg tFile x ho b off hx [.string ⟨nm.toArray⟩,.slice A n c] _ (fun j v hv=>?_) Tryz.underlying130 rfl (by kernel_rfl) h
 match j,hv with
 | 0,hv=>cases hv;exact c0
 | 1,hv=>cases hv;exact c1
 | j+2,hv=>cases hv
set_option maxRecDepth 100000 in
set_option maxHeartbeats 8000000 in
theorem load_any (r:Int) {w:World} {A:Option Addr} {n c m:Nat} {fs:List (Bs×Bs)} (hf:FilesRd w A n fs) (hk:∀ f∈fs,f.1.length<=maxLen) (hm:∀ f∈fs,f.2.length<=m) (hm2:m<=140737488355328) (hn:n<=4398046511104) :
  Calls Tryz.prog 26 #[.int .i64 r,.slice A n c] w fun x w'=>Below w.heap.size w w'/\
   ((Dr.D.load r fs=none/\x = .returned (.pointer none))\/∃ D d S,Dr.D.load r fs=some D/\x = .returned (.pointer (some ⟨d,0,none⟩))/\Dv w' S d D m n/\∀ k,S k->w.heap.size<=k):=by
 cases hr:okRoom r with
 | false=>
  have he:Dr.D.load r fs=none:=by unfold Dr.D.load;rw[if_neg (by simp[hr])]
  go_enter Tryz.func26,Tryz.ntmps26
  go_wp2_with (go_at_call 55;refine (new_not r hr _).mono ?_;rintro x w1 ⟨rfl,rfl⟩)
  go_ret
  exact⟨Below.refl _ _,.inl ⟨he,rfl⟩⟩
 | true=>
  obtain⟨q,rfl⟩:∃ q:Nat,r=(q:Int):=⟨r.toNat,by have:=of_decide_eq_true hr;omega⟩
  have hq:q<=1073741824:=by have:=of_decide_eq_true hr;omega
  have he:Dr.D.load (q:Int) fs=loadAt (Dr.D.fresh q) fs:=by unfold Dr.D.load;rw[if_pos hr];rfl
  rw[he]
  have HF:=Hd hf
  have HK:=Hd hk
  have HM:=Hd hm
  clear hf hk he hr hm
  go_enter Tryz.func26,Tryz.ntmps26
  go_upto_region 5 with (go_at_call 55;refine (new_dv q hq _).mono ?_;rintro x w1 ⟨d,ba,bk,rfl,hd,hD,hb⟩)
  go_loopw [17] (fun iv wr=>∃ (i:Nat) (Di:Dr.D) (Si:Nat->Prop) (βi:Nat->Nat) (vi:Nat->Value),iv = .int .i64 (i:Int)/\i<=n/\loadAt (Dr.D.fresh q) (fs.take i)=some Di/\DvAt wr Si d Di (wrap64 (Di.used:Int)) βi vi (.map (some ba)) (.map (some bk)) (.slice none 0 0) []/\(∀ k,Si k->w.heap.size<=k)/\Below w.heap.size w wr) (fun iv _=>n - (intOf iv).toNat)
  case atStart=>exact⟨0,_,_,_,_,rfl,by omega,rfl,hD,fun k hk=>hk.1,hb⟩
  case round=>
   obtain⟨i,Di,Si,βi,vi,rfl,hi,hld,hDi,hlow,hbr⟩:=hrel
   by_cases hlt:i<n
   ·obtain⟨f,hf⟩:∃ f,fs[i]?=some f:=⟨_,List.getElem?_eq_getElem (by have:=HF.out.1;omega)⟩
    obtain⟨nm,x⟩:=f
    obtain⟨g,Af,cf,rfl,hg,c0,c1,hx⟩:=HF.out.2 i _ hf
    have hnk:=HK.out _ (List.mem_of_getElem? hf)
    simp only at c0 c1 hx hnk
    have hgb:wr.heap[g]?=w.heap[g]?:=hbr.block g hg
    have d0:wr.cell? ⟨g,i*2,none⟩=some (.string ⟨nm.toArray⟩):=(World.cell?_of_block hgb).trans c0
    have d1:wr.cell? ⟨g,i*2+1,none⟩=some (.slice Af x.length cf):=(World.cell?_of_block hgb).trans c1
    have hlt2:(i:Int)<(n:Int):=by omega
    have HX:=Hd hx
    have HD:=Hd hDi
    have HB:=Hd hbr
    have HLD:=Hd hld
    have HLOW:=Hd hlow
    have HFI:=Hd hf
    clear c0 c1 hgb hx hDi hbr hld hlow hf
    go_upto_region 7 with (refine wpList_loadFile rfl (.tmp 19) rfl g (i*2) rfl d0 d1 ?_)
    have hA:DvAt (wr.alloc (.cells #[.string ⟨nm.toArray⟩,.slice Af x.length cf] tFile)) Si d Di (wrap64 (Di.used:Int)) βi vi (.map (some ba)) (.map (some bk)) (.slice none 0 0) []:=HD.out.same (fun k hk=>alloc_was _ _ (HD.out.low k hk)) (by simp)
    have hVa:=heap_alloc_new wr (.cells #[.string ⟨nm.toArray⟩,.slice Af x.length cf] tFile)
    have hBa:Below w.heap.size w (wr.alloc (.cells #[.string ⟨nm.toArray⟩,.slice Af x.length cf] tFile)):=HB.out.alloc HB.out.size _
    have hV1:¬ Si wr.heap.size:=fun h=>by have:=HD.out.low _ h;omega
    obtain⟨wa,hwa⟩:∃ wa,wr.alloc (.cells #[.string ⟨nm.toArray⟩,.slice Af x.length cf] tFile)=wa:=⟨_,rfl⟩
    obtain⟨V,hV⟩:∃ V,wr.heap.size=V:=⟨_,rfl⟩
    have hVw:w.heap.size<=V:=by rw[<-hV];exact HB.out.size
    rw[hwa] at hA hVa hBa ⊢
    rw[hV] at hVa hV1 ⊢
    have HA:=Hd hA
    have HVA:=Hd hVa
    have HBA:=Hd hBa
    have HV1:=Hd hV1
    clear hA hVa hBa hwa hV d0 d1 hV1
    have y2:wa.drew.cell? ⟨d,2,none⟩=some (.map (some ba)):=(c_now HA.out.head).2.1
    obtain⟨z0,z1⟩:=c_file (w:=wa.drew) HVA.out
    have hlk:=(HA.out.now.same (w':=wa.drew) fun b _=>rfl).run_look2 hnk
    rw[find_at] at hlk
    have hls:fs.take (i+1)=fs.take i++[(nm,x)]:=take_snoc_f HFI.out
    have hls2:=loadAt_snoc (fs.take i) (Dr.D.fresh q) (nm,x)
    rw[<-hls,HLD.out] at hls2
    by_cases hbad:((find Di.now nm).isSome||!named nm)=true
    ·have hno:loadAt (Dr.D.fresh q) fs=none:=by
      have h1:loadAt (Dr.D.fresh q) (fs.take (i+1))=none:=by
       rw[hls2]
       show loadAt Di [(nm,x)]=none
       unfold loadAt
       rw[if_pos hbad]
      have:=loadAt_none _ (fs.drop (i+1)) _ h1
      rwa [List.take_append_drop] at this
     clear hls hls2
     have hcase:(find Di.now nm).isSome=true\/(find Di.now nm).isSome=false/\named nm=false:=by
      cases h1:(find Di.now nm).isSome
      ·rw[h1] at hbad;exact .inr ⟨rfl,by simpa using hbad⟩
      ·exact .inl rfl
     rw[Option.isSome_map] at hlk
     obtain⟨pv2,hpv2⟩:∃ p,ptr ((find Di.now nm).map βi)=p:=⟨_,rfl⟩
     rw[hpv2] at hlk
     rcases hcase with hs | ⟨hs,hnm⟩
     all_goals
      rw[hs] at hlk
      go_region
      go_wp2_with (first | (go_at_call 56;refine (named_any nm _).mono ?_;rintro y w3 ⟨rfl,rfl⟩;rw[hnm]))
      go_ret
      exact⟨HBA.out.trans (show Below w.heap.size wa wa.drew from (Below.refl _ _).drew),.inl ⟨hno,rfl⟩⟩
    ·have hfn:find Di.now nm=none:=by
      cases h1:find Di.now nm with
      | none=>rfl
      | some k=>rw[h1] at hbad;exact absurd rfl hbad
     have hnm:named nm=true:=by
      cases h1:named nm with
      | true=>rfl
      | false=>rw[hfn,h1] at hbad;exact absurd rfl hbad
     rw[hfn] at hlk
     simp only[Option.map_none,ptr,Option.isSome_none] at hlk
     have HNM:=Hd hnm
     have HFN:=Hd hfn
     have hok:=loadAt_ok (fs.take i) (D.Ok.fresh hq 0 0) rfl HLD.out
     have hpend:Di.pend=[]:=by
      have:∀ (l:List (Bs×Bs)) (d0 d1:Dr.D),d0.pend=[]->loadAt d0 l=some d1->d1.pend=[]:=by
       intro l
       induction l with
       | nil=>intro d0 d1 h0 h1;injection h1 with h1;rw[<-h1];exact h0
       | cons f r ih=>
        intro d0 d1 h0 h1
        unfold loadAt at h1
        split at h1
        ·cases h1
        ·exact ih _ _ rfl h1
      exact this _ _ _ rfl HLD.out
     have HOK:=Hd hok
     have HPE:=Hd hpend
     have hst:loadAt (Dr.D.fresh q) (fs.take (i+1))=some ⟨Di.room,Di.bd++[⟨x,x.length⟩],put Di.now nm (some Di.bd.length),put Di.kept nm (some Di.bd.length),[]⟩:=by
      rw[hls2]
      show loadAt Di [(nm,x)]=_
      unfold loadAt
      rw[if_neg hbad]
      rfl
     have HST:=Hd hst
     have hxl:x.length<=m:=HM.out _ (List.mem_of_getElem? HFI.out)
     have hxm:x.length<=140737488355328:=by omega
     clear hls hls2 hok hpend hst hbad hfn
     go_region
     go_upto_region 10 with (go_at_call 56;refine (named_any nm _).mono ?_;rintro y w3 ⟨rfl,rfl⟩;rw[hnm])
     clear y2 z0 z1 hlk
     have hrda:Rd wa.drew.drew w.heap.size 1 Af x.length (cU8 x):=HX.out.below HBA.out.drew.drew
     have HRDA:=Hd hrda
     clear hrda
     refine wp_region_any (by kernel_rfl) ?_
     change wpAny _ _ _ _ _ _ _ (World.drew _)
     refine wpAny_of_P (S:=fun w'=>w'.heap[V]?=some (.cells #[.string ⟨nm.toArray⟩,.slice Af x.length cf] tFile (0,0))) (late:=[6]) _ _ _ _ ?_
     refine tT 0 HVA.out ?_
     try go_frame
     refine tP 8 1 rfl HVA.out (fun w hw=>by obtain⟨y0,y1⟩:=c_file hw;clear hw;go_simp;try with_reducible rfl) ?_
     try go_frame
     refine tT 3 HVA.out ?_
     try go_frame
     refine tP 8 4 rfl HVA.out (fun w hw=>by obtain⟨y0,y1⟩:=c_file hw;clear hw;go_simp;try with_reducible rfl) ?_
     try go_frame
     refine tT 5 HVA.out ?_
     try go_frame
     refine fP 2 fun K hK=>?_
     go_simp
     refine (clone_rd HRDA.out hxm).mono ?_;rintro y w5 ⟨x5,rfl,hx5,hb5⟩
     obtain⟨A5,c5,rfl,_,_⟩:=own_form hx5
     have HX5:=Hd hx5
     have HB5:=Hd (bch (show Below wa.heap.size wa wa.drew.drew from (Below.refl _ _).drew.drew) hb5)
     clear hx5 hb5
     refine hK _ _ (below_at HB5.out HVA.out) ?_;clear hK K
     try go_frame
     refine lP 6 fun K hK=>?_
     go_simp
     refine hK _ _ ?_;clear hK K
     try go_frame
     refine fL 7 fun K hK=>?_
     go_simp
     refine hK _ _ ?_;clear hK K
     try go_frame
     refine tL 8 ?_
     try go_frame
     refine wpAny_done (by kernel_rfl) ?_ _
     have hB:Below wa.heap.size wa (w5.alloc (.cells #[.slice A5 x.length c5,.int .i64 (x.length:Int)] tBody)):=HB5.out.alloc HB5.out.size _
     have hD2:=HA.out.bodyAdd hB (x:=w5.heap.size) (v:=.slice A5 x.length c5) (b:=⟨x,x.length⟩) (heap_alloc_new w5 _) HB5.out.size (own_alloc (own_base HX5.out (Nat.zero_le _)) _) (fun g hg=>own_ge HX5.out hg) HOK.out.inN HOK.out.inK (fun c hc=>(by rw[HPE.out] at hc;cases hc))
     have hVb:=below_at hB HVA.out
     have hBw:Below w.heap.size w (w5.alloc (.cells #[.slice A5 x.length c5,.int .i64 (x.length:Int)] tBody)):=HBA.out.trans (hB.mono HBA.out.size)
     have hbx:=heap_alloc_new w5 (.cells #[.slice A5 x.length c5,.int .i64 (x.length:Int)] tBody)
     obtain⟨wb,hwb⟩:∃ wb,w5.alloc (.cells #[.slice A5 x.length c5,.int .i64 (x.length:Int)] tBody)=wb:=⟨_,rfl⟩
     obtain⟨bx,hbx0⟩:∃ bx,w5.heap.size=bx:=⟨_,rfl⟩
     have hbxl:wa.heap.size<=bx:=by rw[<-hbx0];exact HB5.out.size
     rw[hwb] at hD2 hVb hBw hbx ⊢
     rw[hbx0] at hD2 hbx ⊢
     have HD2:=Hd hD2
     have HVB:=Hd hVb
     have HBW:=Hd hBw
     have HBX:=Hd hbx
     clear hB hD2 hVb hBw hbx hwb hbx0
     go_upto_region 11 with (fail)
     have HLB:=Hd (show w.heap.size<=ba from HLOW.out ba (HD.out.inN ba rfl))
     have HLK:=Hd (show w.heap.size<=bk from HLOW.out bk (HD.out.inK bk rfl))
     have hnl:(at_ (fun i=>if i=Di.bd.length then bx else βi i) Di.now).length<maxLen:=by have:=HOK.out.lenN;simp only[at_,List.length_map];rw[List.length_take] at this;unfold maxLen;omega
     have hkl:(at_ (fun i=>if i=Di.bd.length then bx else βi i) Di.kept).length<maxLen:=by have:=HOK.out.lenK;simp only[at_,List.length_map];rw[List.length_take] at this;unfold maxLen;omega
     refine wp_region_any (by kernel_rfl) ?_
     change wpAny _ _ _ _ _ _ _ (World.drew _)
     refine wpAny_of_P (S:=fun w'=>w'.heap[d]?=some (.cells #[.int .i64 (Di.room:Int),.int .i64 (wrap64 (Di.used:Int)),.map (some ba),.map (some bk),.slice none 0 0] tDrive (0,0))/\w'.heap[V]?=some (.cells #[.string ⟨nm.toArray⟩,.slice Af x.length cf] tFile (0,0))) (late:=[17]) _ _ _ _ ?_
     refine tT 0 ⟨HD2.out.head,HVB.out⟩ ?_
     try go_frame
     refine tT 1 ⟨HD2.out.head,HVB.out⟩ ?_
     try go_frame
     refine tT 2 ⟨HD2.out.head,HVB.out⟩ ?_
     try go_frame
     refine tP 8 3 rfl ⟨HD2.out.head,HVB.out⟩ (fun w hw=>by obtain⟨hw1,hw2⟩:=hw;have y2:=(c_now hw1).2.1;have y3:=(c_maps hw1).2.1;obtain⟨y0,y1⟩:=c_file hw2;clear hw1 hw2;go_simp;try with_reducible rfl) ?_
     try go_frame
     refine tT 4 ⟨HD2.out.head,HVB.out⟩ ?_
     try go_frame
     refine tP 8 5 rfl ⟨HD2.out.head,HVB.out⟩ (fun w hw=>by obtain⟨hw1,hw2⟩:=hw;have y2:=(c_now hw1).2.1;have y3:=(c_maps hw1).2.1;obtain⟨y0,y1⟩:=c_file hw2;clear hw1 hw2;go_simp;try with_reducible rfl) ?_
     try go_frame
     refine tT 6 ⟨HD2.out.head,HVB.out⟩ ?_
     try go_frame
     refine tT 7 ⟨HD2.out.head,HVB.out⟩ ?_
     try go_frame
     refine tT 8 ⟨HD2.out.head,HVB.out⟩ ?_
     try go_frame
     refine tP 8 9 rfl ⟨HD2.out.head,HVB.out⟩ (fun w hw=>by obtain⟨hw1,hw2⟩:=hw;have y2:=(c_now hw1).2.1;have y3:=(c_maps hw1).2.1;obtain⟨y0,y1⟩:=c_file hw2;clear hw1 hw2;go_simp;try with_reducible rfl) ?_
     try go_frame
     refine tT 10 ⟨HD2.out.head,HVB.out⟩ ?_
     try go_frame
     refine tP 8 11 rfl ⟨HD2.out.head,HVB.out⟩ (fun w hw=>by obtain⟨hw1,hw2⟩:=hw;have y2:=(c_now hw1).2.1;have y3:=(c_maps hw1).2.1;obtain⟨y0,y1⟩:=c_file hw2;clear hw1 hw2;go_simp;try with_reducible rfl) ?_
     try go_frame
     refine tT 12 ⟨HD2.out.head,HVB.out⟩ ?_
     try go_frame
     refine tT 13 ⟨HD2.out.head,HVB.out⟩ ?_
     try go_frame
     refine fP 14 fun K hK=>?_
     obtain⟨va,sa,wc,hra,hga,hsa,hta⟩:=DirAt.entry (w:=wb.drew) (HD2.out.now.same fun b _=>rfl) hnk hnl bx
     have hdc:wc.heap[d]?=wb.heap[d]?:=hga.block d (Array.getElem?_eq_some_iff.1 HD2.out.head).1 (fun e=>HD2.out.d_not.1 ba rfl (by injection e with e;exact e.symm))
     have hVc:wc.heap[V]?=wb.heap[V]?:=hga.block V (Array.getElem?_eq_some_iff.1 HVB.out).1 (fun e=>HD2.out.now.apart (b:=ba) rfl HVB.out (by injection e with e;exact e.symm))
     go_simp
     refine hK _ _ (⟨hdc.trans HD2.out.head,hVc.trans HVB.out⟩) ?_;clear hK K
     try go_frame
     refine tT 15 ⟨hdc.trans HD2.out.head,hVc.trans HVB.out⟩ ?_
     try go_frame
     refine fP 16 fun K hK=>?_
     obtain⟨wd,hrb,hdd,hgd,hsd⟩:=hta wc rfl
     have hde:wd.heap[d]?=wb.heap[d]?:=(hgd.block d (by rw[hsa];exact (Array.getElem?_eq_some_iff.1 HD2.out.head).1) (fun e=>HD2.out.d_not.1 ba rfl (by injection e with e;exact e.symm))).trans hdc
     have hVe:wd.heap[V]?=wb.heap[V]?:=(hgd.block V (by rw[hsa];exact (Array.getElem?_eq_some_iff.1 HVB.out).1) (fun e=>HD2.out.now.apart (b:=ba) rfl HVB.out (by injection e with e;exact e.symm))).trans hVc
     go_simp
     refine hK _ _ (⟨hde.trans HD2.out.head,hVe.trans HVB.out⟩) ?_;clear hK K
     try go_frame
     refine lP 17 fun K hK=>?_
     have hbk:bk≠ba:=fun e=>HD2.out.apart ba rfl (by rw[<-e];rfl)
     have heq:wd.heap[bk]?=wb.heap[bk]?:=(hgd.block bk (by rw[hsa];exact HD2.out.kept.lt rfl) (fun e=>hbk (by injection e with e))).trans (hga.block bk (HD2.out.kept.lt rfl) (fun e=>hbk (by injection e with e)))
     have hkd:=HD2.out.kept.same (w':=wd) (fun b hb=>(by (obtain rfl:bk=b:=(by simpa [mapBlock] using hb));exact heq))
     obtain⟨vb,sb,we,hrc,hgc,hsc,htc⟩:=DirAt.entry hkd hnk hkl bx
     go_simp
     refine hK _ _ ?_;clear hK K
     try go_frame
     refine tL 18 ?_
     try go_frame
     refine fL 19 fun K hK=>?_
     obtain⟨wf,hrd,hdf,hgf,hsf⟩:=htc we rfl
     go_simp
     refine hK _ _ ?_;clear hK K
     try go_frame
     refine wpAny_done (by kernel_rfl) ?_ _
     have hβ:(some bx:Option Nat)=(some Di.bd.length:Option Nat).map (fun i=>if i=Di.bd.length then bx else βi i):=by simp
     rw[hβ,put_at] at hdd hdf
     have hK1:Kept wb wd (fun k=>k=ba):=(((Kept.refl wb (fun k=>k=ba)).below (show Below wb.heap.size wb wb.drew from (Below.refl _ _).drew)).grown hga fun b hb=>.inl (by injection hb with hb;exact hb.symm)).grown hgd fun b hb=>.inl (by injection hb with hb;exact hb.symm)
     have hS1:=HD2.out.stands (w':=wd) (b:=ba) rfl hdd hK1
     have hK2:Kept wd wf (fun k=>k=bk):=((Kept.refl wd (fun k=>k=bk)).grown hgc fun b hb=>.inl (by injection hb with hb;exact hb.symm)).grown hgf fun b hb=>.inl (by injection hb with hb;exact hb.symm)
     have hS2:=hS1.keeps (w':=wf) (b:=bk) rfl hdf hK2
     have hBf:Below w.heap.size w wf:=HBW.out.trans ((hK1.to_below HBW.out.size (fun k e=>by rw[e];exact HLB.out)).trans (hK2.to_below (Nat.le_trans HBW.out.size hK1.size) (fun k e=>by rw[e];exact HLK.out)))
     have hVf:=(hK2.block V (by rw[hsd,hsa];exact (Array.getElem?_eq_some_iff.1 HVB.out).1) (fun e=>HD2.out.kept.apart (b:=bk) rfl HVB.out e.symm)).trans (hVe.trans HVB.out)
     have HS:=Hd hS2
     have HBF:=Hd hBf
     clear hβ hdd hdf hK1 hK2 hS1 hS2 hBf hVf hga hgd hgc hgf hra hrb hrc hrd hdc hVc hde hVe hkd heq hta htc hsa hsd hsc hsf hbk
     have hbf:wf.heap[bx]?=some (.cells #[.slice A5 x.length c5,.int .i64 (x.length:Int)] tBody (0,0)):=by
      have h1:=HS.out.body Di.bd.length (by simp)
      simp only[if_true] at h1
      rw[show Dr.D.at (⟨Di.room,Di.bd++[⟨x,x.length⟩],put Di.now nm (some Di.bd.length),put Di.kept nm (some Di.bd.length),Di.pend⟩:Dr.D) Di.bd.length=⟨x,x.length⟩ from (at_snoc (D:=Di) (b:=⟨x,x.length⟩) (j:=Di.bd.length)).trans (if_pos rfl)] at h1
      exact h1
     obtain⟨_,g1,_,_⟩:=c_body (w:=wf.drew) hbf
     have e1:wf.drew.cell? ⟨d,1,none⟩=some (.int .i64 (wrap64 (Di.used:Int))):=(c_now HS.out.head).1
     have e2:wf.drew.frozen? ⟨d,1,none⟩=false:=(c_now HS.out.head).2.2.2.1
     have hbd:d≠bx:=ne_ty HS.out.head hbf (by decide)
     clear hbf
     go_upto_region 12 with (fail)
     go_region
     have hu:wrap64 (wrap64 (Di.used:Int)+(x.length:Int))=wrap64 (((⟨Di.room,Di.bd++[⟨x,x.length⟩],put Di.now nm (some Di.bd.length),put Di.kept nm (some Di.bd.length),[]⟩:Dr.D).used:Nat):Int):=by
      have h1:=sumL_put (bd:=Di.bd++[⟨x,x.length⟩]) HOK.out.now nm (some Di.bd.length)
      rw[HFN.out,sumL_snoc HOK.out.inN] at h1
      have h2:lenOf (Di.bd++[⟨x,x.length⟩]) (some Di.bd.length)=x.length:=by simp[lenOf,lenAt]
      rw[h2] at h1
      have h3:(⟨Di.room,Di.bd++[⟨x,x.length⟩],put Di.now nm (some Di.bd.length),put Di.kept nm (some Di.bd.length),[]⟩:Dr.D).used=Di.used+x.length:=h1
      rw[h3,wrap_add]
      exact congrArg wrap64 (by omega)
     have hfin:=(HS.out.used (wrap64 (wrap64 (Di.used:Int)+(x.length:Int)))).same (w':=(wf.setCell ⟨d,1,none⟩ (.int .i64 (wrap64 (wrap64 (Di.used:Int)+(x.length:Int))))).drew) (fun k _=>rfl) (Nat.le_refl _)
     rw[show (⟨Di.room,Di.bd++[⟨x,x.length⟩],put Di.now nm (some Di.bd.length),put Di.kept nm (some Di.bd.length),Di.pend⟩:Dr.D)=⟨Di.room,Di.bd++[⟨x,x.length⟩],put Di.now nm (some Di.bd.length),put Di.kept nm (some Di.bd.length),[]⟩ by rw[HPE.out]] at hfin
     have hfin2:DvAt (wf.setCell ⟨d,1,none⟩ (.int .i64 (wrap64 (wrap64 (Di.used:Int)+(x.length:Int))))).drew (fun k=>Si k\/k=bx\/(Value.slice A5 x.length c5).ownBlock=some k) d ⟨Di.room,Di.bd++[⟨x,x.length⟩],put Di.now nm (some Di.bd.length),put Di.kept nm (some Di.bd.length),[]⟩ (wrap64 (((⟨Di.room,Di.bd++[⟨x,x.length⟩],put Di.now nm (some Di.bd.length),put Di.kept nm (some Di.bd.length),[]⟩:Dr.D).used:Nat):Int)) (fun i=>if i=Di.bd.length then bx else βi i) (fun i=>if i=Di.bd.length then .slice A5 x.length c5 else vi i) (.map (some ba)) (.map (some bk)) (.slice none 0 0) []:=by
      rw[<-hu]
      exact hfin
     have HFIN:=Hd hfin2
     clear hfin2
     have hlow2:∀ k,((Si k\/k=bx\/(Value.slice A5 x.length c5).ownBlock=some k)->w.heap.size<=k):=by
      rintro k (hk | rfl | hk)
      ·exact HLOW.out k hk
      ·have:=HBA.out.size;omega
      ·have h1:wa.heap.size<=k:=own_ge HX5.out hk;have:=HBA.out.size;omega
     have HLOW2:=Hd hlow2
     have hBf2:=(HBF.out.setCell (p:=⟨d,1,none⟩) (by have:=HLOW.out d HD.out.inD;exact this) (.int .i64 (wrap64 (wrap64 (Di.used:Int)+(x.length:Int))))).drew
     have HBF2:=Hd hBf2
     clear hfin hlow2 hBf2 hu e1 e2 g1
     go_wp2
     go_roundw
     case rel=>exact⟨i+1,_,_,_,_,by go_num,by omega,HST.out,HFIN.out,HLOW2.out,HBF2.out⟩
     case measure=>simp[intOf];omega
   ·obtain rfl:n=i:=by omega
    rw[List.take_of_length_le (by have:=HF.out.1;omega)] at hld
    have hok:=loadAt_ok fs (D.Ok.fresh hq 0 0) rfl hld
    have HLD:=Hd hld
    have HD:=Hd hDi
    have HLOW:=Hd hlow
    have HB:=Hd hbr
    have HOK:=Hd ((hok.mono (m':=0+bulk fs) (N':=n) (Nat.le_refl _) (by have:=HF.out.1;omega)).bound (loadAt_bd fs (by intro b hb;cases hb) HM.out hld))
    clear hld hDi hlow hbr hok
    go_wp2
    go_ret
    exact⟨HB.out,.inr ⟨Di,d,Si,HLD.out,rfl,⟨HOK.out,_,_,_,_,_,_,HD.out⟩,HLOW.out⟩⟩
end Go.Proofs.YtmgljaecmchgaaaGreat.Dr
namespace Go.Proofs.YtmgljaecmchgaaaGreat.Dr
open Go.RowKit Go.Proofs Go.Proofs.YtmgljaecmchgaaaGreat.Ring
abbrev cBool (l:List Bool):List Value:=l.map Value.bool
abbrev cInt (l:List Int):List Value:=l.map (Value.int .i64)
end Go.Proofs.YtmgljaecmchgaaaGreat.Dr
namespace Go.Proofs.YtmgljaecmchgaaaGreat.Dr
open Go.RowKit Go.Proofs Go.Proofs.YtmgljaecmchgaaaGreat.Ring
theorem own_some {w:World} {base:Nat} {e:TypeId} {size n c:Nat} {A:Option Addr} {xs:List Value} (h:w.ownsRow base e size (.slice A n c) n xs) (hn:0<n):∃ g,A=some ⟨g,0,none⟩:=by
 rcases h.2 with ⟨hv,_⟩ | ⟨g,cap,cur,hv,_⟩
 ·injection hv with _ hv _;omega
 ·injection hv with hv _ _;exact⟨g,hv⟩
end Go.Proofs.YtmgljaecmchgaaaGreat.Dr
