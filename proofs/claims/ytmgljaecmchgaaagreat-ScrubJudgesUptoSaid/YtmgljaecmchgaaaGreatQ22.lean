/- XMe4, XMe5: merged by tools/merge.py. -/
import Derived.Test.YtmgljaecmchgaaaGreatQ21
set_option linter.unusedVariables false
set_option linter.unusedSimpArgs false
set_option linter.unusedSectionVars false
namespace Go.Proofs.YtmgljaecmchgaaaGreat.Gf
open Go.RowKit Go.Proofs
structure RowsRd (W:World) (B:Nat) (A:Option Addr) (n:Nat) (R:List (List UInt8)):Prop where
 len:R.length=n
 rows:∃ vs:List Value,Rd W B 1 A n vs/\∀ (i:Nat) (r:List UInt8),R[i]?=some r->∃ (Ai:Option Addr) (ci:Nat),vs[i]?=some (Value.slice Ai r.length ci)/\Rd W B 1 Ai r.length (cU8 r)
theorem RowsRd.below {W W':World} {B:Nat} {A:Option Addr} {n:Nat} {R:List (List UInt8)} (h:RowsRd W B A n R) (hb:Below B W W'):RowsRd W' B A n R:=by
 obtain⟨vs,h1,h2⟩:=h.rows
 exact⟨h.len,vs,h1.below hb,fun i r hr=>by obtain⟨Ai,ci,h3,h4⟩:=h2 i r hr;exact⟨Ai,ci,h3,h4.below hb⟩⟩
theorem RowsRd.more {W:World} {B B':Nat} {A:Option Addr} {n:Nat} {R:List (List UInt8)} (h:RowsRd W B A n R) (hb:B<=B'):RowsRd W B' A n R:=by
 obtain⟨vs,h1,h2⟩:=h.rows
 exact⟨h.len,vs,h1.more hb,fun i r hr=>by obtain⟨Ai,ci,h3,h4⟩:=h2 i r hr;exact⟨Ai,ci,h3,h4.more hb⟩⟩
theorem RowsRd.at_ {W:World} {B:Nat} {A:Option Addr} {n i:Nat} {R:List (List UInt8)} (h:RowsRd W B A n R) (hi:i<n):∃ ad Ai ci,A=some ad/\ad.block<B/\W.cell? (ad.add i)=some (.slice Ai (R.getD i []).length ci)/\Rd W B 1 Ai (R.getD i []).length (cU8 (R.getD i [])):=by
 obtain⟨vs,h1,h2⟩:=h.rows
 obtain⟨Ai,ci,h3,h4⟩:=h2 i _ (getD_get (d:=[]) (by rw[h.len];exact hi))
 obtain⟨ad,e,hb,hc⟩:=rd_get h1 hi h3
 exact⟨ad,Ai,ci,e,hb,hc,h4⟩
theorem rd_byte {w:World} {B n i:Nat} {A:Option Addr} {l:List UInt8} (h:Rd w B 1 A n (cU8 l)) (hi:i<n):∃ ad,A=some ad/\ad.block<B/\w.cell? (ad.add i)=some (.int .u8 ((l.getD i 0).toNat:Int)):=by
 have hl:l.length=n:=by simpa using h.1
 exact rd_get h hi (by rw[List.getElem?_map,getD_get (d:=0) (by omega)];rfl)
abbrev tBool:TypeId:=4
theorem infoBool:(Tryz.prog.info? tBool).map (fun i=>(i.zero,i.size,i.bytes))=some (some (.bool false),1,1):=by kernel_rfl
def lostB (R:List (List UInt8)):List Bool:=R.map fun r=>decide (r.length=0)
theorem lostB_at {R:List (List UInt8)} {i:Nat} (hi:i<R.length):(lostB R).getD i false=decide ((R.getD i []).length=0):=by
 unfold lostB
 rw[List.getD_eq_getElem?_getD,List.getElem?_map,List.getElem?_eq_getElem hi,List.getD_eq_getElem?_getD,List.getElem?_eq_getElem hi];rfl
theorem thereR_eq (R:List (List UInt8)):thereR R=thB (lostB R) R.length:=by
 unfold thereR thB
 refine List.filter_congr fun i hi=>?_
 rw[lostB_at (by simpa using hi)]
 simp
theorem drop_at {R:List (List UInt8)} {i:Nat} (hi:i<R.length):R.drop i=R.getD i []::R.drop (i+1):=by
 rw[List.drop_eq_getElem_cons hi,List.getD_eq_getElem?_getD,List.getElem?_eq_getElem hi];rfl
theorem lostB_fromV (R:List (List UInt8)):fromV R.length (fun i=>Value.bool (decide ((R.getD i []).length=0)))=Dr.cBool (lostB R):=by
 have:=fromV_list (lostB R) Value.bool
 have e:(lostB R).length=R.length:=by simp[lostB]
 rw[e] at this
 show _=List.map Value.bool (lostB R)
 rw[<-this]
 refine fromV_congr fun i hi=>?_
 show _=Value.bool ((lostB R).getD i false)
 rw[lostB_at hi]
structure MeasOk (w w':World) (R:List (List UInt8)) (n:Nat) (x:Ending):Prop where
 out:(meas R 0=none/\x = .returned (.tuple #[.slice none 0 0,.int .i64 0,.int .i64 41]))\/
  (∃ len L,meas R 0=some len/\w.heap.size<=L/\x = .returned (.tuple #[slE L n,.int .i64 (len:Int),.int .i64 0])/\w'.ownsRow w.heap.size tBool 1 (slE L n) n (Dr.cBool (lostB R)))
 back:Below w.heap.size w w'
theorem meas_le {R:List (List UInt8)} {N:Nat} (hR:∀ r∈R,r.length<=N):∀ {l len:Nat},l<=N->meas R l=some len->len<=N:=by
 induction R with
 | nil=>intro l len hl h;simp[meas] at h;omega
 | cons r R ih=>
  intro l len hl h
  unfold meas at h
  have hr:=hR r (List.mem_cons_self ..)
  split at h
  ·exact ih (fun r h=>hR r (List.mem_cons_of_mem _ h)) hl h
  ·split at h
   ·cases h
   ·exact ih (fun r h=>hR r (List.mem_cons_of_mem _ h)) hr h
theorem meas_all {R:List (List UInt8)}:∀ {l len:Nat},meas R l=some len->(l≠0->len=l)/\∀ r∈R,r.length≠0->r.length=len:=by
 induction R with
 | nil=>intro l len h;simp[meas] at h;exact⟨fun _=>h.symm,by simp⟩
 | cons r R ih=>
  intro l len h
  unfold meas at h
  split at h
  ·rename_i h0
   obtain⟨h1,h2⟩:=ih h
   refine⟨h1,fun r' hr' hn=>?_⟩
   rcases List.mem_cons.1 hr' with e | e
   ·subst e;exact absurd h0 hn
   ·exact h2 r' e hn
  ·rename_i h0
   split at h
   ·cases h
   ·rename_i h3
    obtain⟨h1,h2⟩:=ih h
    have e1:=h1 h0
    refine⟨fun hl=>?_,fun r' hr' hn=>?_⟩
    ·by_cases e:r.length=l
     ·omega
     ·exact absurd ⟨hl,e⟩ h3
    ·rcases List.mem_cons.1 hr' with e | e
     ·subst e;exact e1.symm
     ·exact h2 r' e hn
theorem meas_cons (r:List UInt8) (R:List (List UInt8)) (l:Nat):meas (r::R) l=if r.length=0 then meas R l else if l≠0/\r.length≠l then none else meas R r.length:=rfl
set_option maxRecDepth 100000 in
set_option maxHeartbeats 8000000 in
theorem measure_any {w:World} {B n c:Nat} {A:Option Addr} {R:List (List UInt8)} (hR:RowsRd w B A n R) (hB:B<=w.heap.size) (hn:n<=1024) (hlen:∀ r∈R,r.length<=281474976710656) :
  Calls Tryz.prog 75 #[.slice A n c] w fun x w'=>MeasOk w w' R n x:=by
 have hRl:=hR.len
 have hmk:=fun W=>run_makeV W 73 tBool (.bool false) 1 Tryz.underlying73 infoBool rfl (by decide) n (by omega)
 obtain⟨V,hV⟩:∃ V,w.heap.size=V:=⟨_,rfl⟩
 obtain⟨Z,hZ⟩:∃ Z:List Value,(fromV n fun _=>Value.bool false)=Z:=⟨_,rfl⟩
 obtain⟨f,hf⟩:∃ f:Nat->Value,(fun i=>Value.bool (decide ((R.getD i []).length=0)))=f:=⟨_,rfl⟩
 have hfi:∀ i,f i=Value.bool (decide ((R.getD i []).length=0)):=fun i=>by rw[<-hf]
 have hfall:fromV n f=Dr.cBool (lostB R):=by rw[<-hf,<-hRl];exact lostB_fromV R
 have hr0:(w.alloc (.cells Z.toArray tBool)).ownsRow V tBool 1 (slE V n) n (fromV n (upto f (.bool false) 0)):=by
  rw[upto_zero,hZ,<-hV]
  exact Dr.own_new w (Nat.le_refl _) tBool 1 n Z (by rw[<-hZ];simp[fromV]) (by unfold maxLen;omega)
 have hb0:Below V w (w.alloc (.cells Z.toArray tBool)):=by rw[<-hV];exact (Below.refl _ w).alloc (Nat.le_refl _) _
 rw[hZ] at hmk
 have HR:=Hd hR
 have HR0:=Hd hr0
 have HB0:=Hd hb0
 have HF:=Hd hfi
 have HFA:=Hd hfall
 have HV:=Hd hV
 have HRL:=Hd hRl
 have HLEN:=Hd hlen
 clear hR hr0 hb0 hf hfi hfall hRl hZ hlen
 go_enter Tryz.func75,Tryz.ntmps75
 go_wp2
 clear hV hmk
 go_loopw [6,14] (fun lv iv wr=>∃ (i l:Nat),iv = .int .i64 (i:Int)/\lv = .int .i64 (l:Int)/\i<=n/\l<=281474976710656/\meas R 0=meas (R.drop i) l/\wr.ownsRow V tBool 1 (slE V n) n (fromV n (upto f (.bool false) i))/\Below V w wr) (fun _ iv _=>n - (intOf iv).toNat)
 case atStart=>exact⟨0,0,rfl,rfl,Nat.zero_le _,Nat.zero_le _,by rw[List.drop_zero],HR0.out,HB0.out⟩
 case round=>
  obtain⟨i,l,rfl,rfl,hi,hl,hm,hown,hb⟩:=hrel
  by_cases hin:i<n
  ·have hin2:(i:Int)<(n:Int):=by omega
   have hiR:i<R.length:=by rw[HRL.out];exact hin
   obtain⟨ad,Ai,ci,rfl,had,hcd,hrow⟩:=HR.out.at_ hin
   obtain⟨r,hr⟩:∃ r,R.getD i []=r:=⟨_,rfl⟩
   have hrm:r∈R:=by rw[<-hr];exact List.mem_of_getElem? (getD_get hiR)
   have hrl:=HLEN.out r hrm
   rw[hr] at hcd hrow
   rw[drop_at hiR,hr,meas_cons] at hm
   have e1:=(hb.cell (p:=ad.add i) (by rw[add_block];have:=HV.out;omega)).trans hcd
   have c1:=ow_cell hown hin (fromV_get hin)
   have f1:=ow_free (i:=i) hown
   by_cases h0:r.length=0
   ·have h0i:(r.length:Int)=0:=by omega
    rw[if_pos h0] at hm
    have hnew:=ow_store (i:=i) hown (.bool true)
    rw[fromV_set,upto_step' (by rw[HF.out,hr];simp[h0])] at hnew
    have HNEW:=Hd hnew
    have HBX:=Hd (hb.setCell (p:=⟨V,i,none⟩) (Nat.le_refl _) (.bool true))
    have HM:=Hd hm
    clear hown hb hm hnew hrow hrm hcd hiR
    go_wp2
    go_roundw
    case rel=>exact⟨i+1,l,by go_num,rfl,by omega,hl,HM.out,HNEW.out,HBX.out⟩
    case measure=>simp[intOf];omega
   ·have h0i:¬ (r.length:Int)=0:=by omega
    rw[if_neg h0] at hm
    by_cases h1:l≠0/\r.length≠l
    ·rw[if_pos h1] at hm
     have h2:¬ (l:Int)=0:=by omega
     have h3:¬ (r.length:Int)=(l:Int):=by omega
     have h2b:((l:Int)==0)=false:=by simpa using h2
     have h3b:((r.length:Int)==(l:Int))=false:=by simpa using h3
     have h2c:((l:Int) != 0)=true:=by simpa using h2
     have h3c:((r.length:Int) != (l:Int))=true:=by simpa using h3
     have HM:=Hd hm
     have HBX:=Hd hb
     clear hown hb hm hrow hrm hcd h1 hiR
     go_wp2
     refine bodyPost_ret (v:=.tuple #[.slice none 0 0,.int .i64 0,.int .i64 41]) (by simp[results,Tryz.results75,go_sem]) rfl ?_
     exact⟨.inl ⟨HM.out,rfl⟩,by rw[HV.out];exact HBX.out⟩
    ·rw[if_neg h1] at hm
     have hkeep:fromV n (upto f (.bool false) (i+1))=fromV n (upto f (.bool false) i):=fromV_congr fun j hj=>by
      unfold upto
      by_cases hji:j=i
      ·subst hji
       rw[if_pos (by omega),if_neg (by omega),HF.out,hr]
       simp[h0]
      ·by_cases h4:j<i
       ·rw[if_pos h4,if_pos (by omega)]
       ·rw[if_neg h4,if_neg (by omega)]
     have HK:=Hd hkeep
     have HM:=Hd hm
     have HO:=Hd hown
     have HBX:=Hd hb
     by_cases hl0:l=0
     ·have hl0i:(l:Int)=0:=by omega
      have hl0b:((l:Int)==0)=true:=by simpa using hl0i
      clear hown hb hm hrow hrm hcd h1 hkeep hl0 hiR
      go_wp2
      go_roundw
      case rel=>exact⟨i+1,r.length,by go_num,rfl,by omega,hrl,HM.out,by rw[HK.out];exact HO.out,HBX.out⟩
      case measure=>simp[intOf];omega
     ·have hrl2:(r.length:Int)=(l:Int):=by
       by_cases e:r.length=l
       ·omega
       ·exact absurd ⟨hl0,e⟩ h1
      have hl0i:¬ (l:Int)=0:=by omega
      have hl0b:((l:Int)==0)=false:=by simpa using hl0i
      have h0l:¬ l=0:=hl0
      have hrln:r.length=l:=by omega
      have HRLN:=Hd hrln
      clear hown hb hm hrow hrm hcd h1 hkeep hl0 hrln hiR
      go_wp2
      go_roundw
      case rel=>exact⟨i+1,r.length,by go_num,by rw[HRLN.out],by omega,hrl,HM.out,by rw[HK.out];exact HO.out,HBX.out⟩
      case measure=>simp[intOf];omega
  ·obtain rfl:i=n:=by omega
   have hd:R.drop i=[]:=List.drop_of_length_le (by rw[HRL.out];omega)
   rw[hd] at hm
   have hfin:fromV i (upto f (.bool false) i)=Dr.cBool (lostB R):=by rw[<-HFA.out];exact fromV_congr fun j hj=>upto_all hj
   rw[hfin] at hown
   have HM:=Hd (show meas R 0=some l from hm)
   have HO:=Hd hown
   have HBX:=Hd hb
   clear hown hb hm hd hfin
   go_wp2
   refine bodyPost_ret (v:=.tuple #[slE V i,.int .i64 (l:Int),.int .i64 0]) (by simp[results,Tryz.results75,go_sem]) rfl ?_
   exact⟨.inr ⟨l,V,HM.out,Nat.le_of_eq HV.out,rfl,by rw[HV.out];exact HO.out⟩,by rw[HV.out];exact HBX.out⟩
def colL (R:List (List UInt8)) (c:Nat):List E:=fromN R.length fun i=>toE (colOf R c i)
theorem colL_at {R:List (List UInt8)} {c i:Nat} (hi:i<R.length):co (colL R c) i=toE (colOf R c i):=by unfold colL;rw[co_fromN,if_pos hi]
set_option maxRecDepth 100000 in
set_option maxHeartbeats 8000000 in
theorem colE_any {w:World} {B n c col:Nat} {A:Option Addr} {R:List (List UInt8)} (hR:RowsRd w B A n R) (hB:B<=w.heap.size) (hn:n<=1024) (hcol:∀ r∈R,r.length≠0->col<r.length) (hc:col<=281474976710656) :
  Calls Tryz.prog 81 #[.slice A n c,.int .i64 (col:Int)] w fun x w'=>∃ v,x = .returned v/\PolR w w' v (colL R col):=by
 have hRl:=hR.len
 have hmk:=fun W=>run_makeE W n (by omega)
 obtain⟨V,hV⟩:∃ V,w.heap.size=V:=⟨_,rfl⟩
 obtain⟨Z,hZ⟩:∃ Z:List Value,cE (fromN n fun _=>0)=Z:=⟨_,rfl⟩
 obtain⟨f,hf⟩:∃ f:Nat->E,(fun i=>toE (colOf R col i))=f:=⟨_,rfl⟩
 have hfi:∀ i,f i=toE (colOf R col i):=fun i=>by rw[<-hf]
 have hfall:fromN n f=colL R col:=by rw[<-hf,<-hRl];rfl
 have hr0:(w.alloc (.cells Z.toArray tEl)).ownsRow V tEl 1 (slE V n) n (cE (fromN n (upto f 0 0))):=by
  rw[upto_zero,hZ,<-hV]
  exact Dr.own_new w (Nat.le_refl _) tEl 1 n Z (by rw[<-hZ];simp[fromN]) (by unfold maxLen;omega)
 have hb0:Below V w (w.alloc (.cells Z.toArray tEl)):=by rw[<-hV];exact (Below.refl _ w).alloc (Nat.le_refl _) _
 rw[hZ] at hmk
 have HR:=Hd hR
 have HR0:=Hd hr0
 have HB0:=Hd hb0
 have HF:=Hd hfi
 have HFA:=Hd hfall
 have HV:=Hd hV
 have HRL:=Hd hRl
 have HCOL:=Hd hcol
 clear hR hr0 hb0 hf hfi hfall hRl hZ hcol
 go_enter Tryz.func81,Tryz.ntmps81
 go_wp2
 clear hV hmk
 go_loopw [13] (fun iv wr=>∃ i:Nat,iv = .int .i64 (i:Int)/\i<=n/\wr.ownsRow V tEl 1 (slE V n) n (cE (fromN n (upto f 0 i)))/\Below V w wr) (fun iv _=>n - (intOf iv).toNat)
 case atStart=>exact⟨0,rfl,Nat.zero_le _,HR0.out,HB0.out⟩
 case round=>
  obtain⟨i,rfl,hi,hown,hb⟩:=hrel
  by_cases hin:i<n
  ·have hin2:(i:Int)<(n:Int):=by omega
   have hiR:i<R.length:=by rw[HRL.out];exact hin
   obtain⟨ad,Ai,ci,rfl,had,hcd,hrow⟩:=HR.out.at_ hin
   obtain⟨r,hr⟩:∃ r,R.getD i []=r:=⟨_,rfl⟩
   have hrm:r∈R:=by rw[<-hr];exact List.mem_of_getElem? (getD_get hiR)
   have hcr:=HCOL.out r hrm
   rw[hr] at hcd hrow
   have e1:=(hb.cell (p:=ad.add i) (by rw[add_block];have:=HV.out;omega)).trans hcd
   have hfr:f i=toE (r.getD col 0):=by rw[HF.out];unfold colOf;rw[hr]
   by_cases h0:r.length=0
   ·have h0i:¬ (0:Int)<(r.length:Int):=by omega
    have hz:f i=0:=by
     rw[hfr,List.eq_nil_of_length_eq_zero h0];rfl
    have hkeep:fromN n (upto f 0 (i+1))=fromN n (upto f 0 i):=fromN_congr fun j hj=>by
     unfold upto
     by_cases hji:j=i
     ·subst hji
      rw[if_pos (by omega),if_neg (by omega),hz]
     ·by_cases h4:j<i
      ·rw[if_pos h4,if_pos (by omega)]
      ·rw[if_neg h4,if_neg (by omega)]
    have HK:=Hd hkeep
    have HO:=Hd hown
    have HBX:=Hd hb
    clear hown hb hrow hrm hcd hkeep hz hfr hcr hiR h0
    go_wp2
    go_roundw
    case rel=>exact⟨i+1,by go_num,by omega,by rw[HK.out];exact HO.out,HBX.out⟩
    case measure=>simp[intOf];omega
   ·have h0i:(0:Int)<(r.length:Int):=by omega
    have hcl:=hcr h0
    have hcl2:(col:Int)<(r.length:Int):=by omega
    obtain⟨ai,rfl,hai,hci⟩:=rd_byte hrow hcl
    obtain⟨y,hy⟩:∃ y,r.getD col 0=y:=⟨_,rfl⟩
    rw[hy] at hci hfr
    have e2:=(hb.cell (p:=ai.add col) (by rw[add_block];have:=HV.out;omega)).trans hci
    have c1:=ow_cell hown hin (cE_get (fromN_get hin))
    have f1:=ow_free (i:=i) hown
    have hnew:=ow_store (i:=i) hown (.int .u8 ((unE (toE y)).toNat:Int))
    rw[cE_set,upto_step' hfr] at hnew
    have HNEW:=Hd (show (wr.setCell ⟨V,i,none⟩ (.int .u8 (y.toNat:Int))).ownsRow V tEl 1 (slE V n) n (cE (fromN n (upto f 0 (i+1)))) from hnew)
    have HBX:=Hd (hb.setCell (p:=⟨V,i,none⟩) (Nat.le_refl _) (.int .u8 (y.toNat:Int)))
    have hy8:=u8_le y
    clear hown hb hrow hrm hcd hci hfr hcr hiR h0 hnew hy
    go_wp2
    go_roundw
    case rel=>exact⟨i+1,by go_num,by omega,HNEW.out,HBX.out⟩
    case measure=>simp[intOf];omega
  ·obtain rfl:i=n:=by omega
   have hfin:fromN i (upto f 0 i)=colL R col:=by rw[<-HFA.out];exact fromN_congr fun j hj=>upto_all hj
   rw[hfin] at hown
   have hcl:(colL R col).length=i:=by unfold colL;rw[length_fromN];exact HRL.out
   have HP:=Hd (show PolR w wr (slE V i) (colL R col) from PolR.of_own (by rw[hcl,HV.out];exact hown) (by rw[HV.out];exact hb))
   clear hown hb hfin hcl
   go_wp2
   go_ret
   exact⟨_,rfl,HP.out⟩
end Go.Proofs.YtmgljaecmchgaaaGreat.Gf
namespace Go.Proofs.YtmgljaecmchgaaaGreat.Gf
open Go.RowKit Go.Proofs
theorem slice_toI (w:World) {A:Option Addr} {n c q:Nat} (hq:q<=c):(Instr.slice 30 (.slice A n c) none (some (.int .i64 (q:Int))) none).run Tryz.prog w = .ok (.slice A q c) w:=by
 rw[run_slice_h (P:=Tryz.prog) w 30 A n c (by kernel_rfl) .i64 (q:Int) (by omega) (by omega)]
 have hs:(sizeOf (Tryz.prog.elem 30)).run Tryz.prog w = .ok 1 w:=by kernel_rfl
 rw[hs]
 unfold sliced
 cases A with
 | none=>simp[Result.andThen]
 | some ad=>
  simp[Result.andThen]
  intro _
  unfold Addr.add
  simp
theorem slice_fromI (ad:Addr) {n c q:Nat} (hq:q<=n) (hnc:n<=c):∃ A',(∀ w,(Instr.slice 30 (.slice (some ad) n c) (some (.int .i64 (q:Int))) none none).run Tryz.prog w = .ok (.slice A' (n - q) (c - q)) w)/\(q<c->A'=some (ad.add q)):=by
 refine⟨if c=q then some ad else some (ad.add q),fun w=>?_,fun h=>by rw[if_neg (by omega)]⟩
 rw[run_slice_l (P:=Tryz.prog) w 30 (some ad) n c (by kernel_rfl) .i64 (q:Int) (by omega) (by omega)]
 have hs:(sizeOf (Tryz.prog.elem 30)).run Tryz.prog w = .ok 1 w:=by kernel_rfl
 rw[hs]
 unfold sliced
 simp[Result.andThen]
theorem addr_two (ad:Addr) (i j:Nat):(ad.add i).add j=ad.add (i+j):=add_add ad i j
theorem rd_drop {w:World} {B n q:Nat} {ad:Addr} {l:List Nat} (h:Rd w B 1 (some ad) n (cN l)) (hq:q<n):Rd w B 1 (some (ad.add q)) (n - q) (cN (l.drop q)):=by
 have hl:l.length=n:=by simpa using h.1
 obtain⟨ad',e,hb,hc⟩:=h.2 (by omega)
 injection e with e
 subst e
 refine⟨by simp[hl],fun _=>⟨_,rfl,by rw[add_block];exact hb,fun j u hu=>?_⟩⟩
 rw[addr_two]
 refine hc (q+j) u ?_
 rw[List.getElem?_map,List.getElem?_drop,<-List.getElem?_map] at hu
 exact hu
def MenS (O n:Nat) (b:Nat):Prop:=O+1<=b/\b<=O+1+n
structure MenM (ws W:World) (O n len:Nat) (f:Nat->Bool):Prop where
 kept:Kept ws W (MenS O n)
 met:W.ownsRow 0 tBool 1 (slE (O+1+n) n) n (fromV n fun i=>.bool (f i))
 outs:∀ x,x<n->∃ l:List UInt8,W.ownsRow 0 Dr.tU8 1 (slE (O+1+x) len) len (cU8 l)
section
variable {ws W W':World} {O n len:Nat} {f:Nat->Bool}
theorem MenM.below (h:MenM ws W O n len f) (hb:Below W.heap.size W W'):MenM ws W' O n len f:=
 ⟨h.kept.below hb,own_below h.met hb,fun x hx=>by obtain⟨l,hl⟩:=h.outs x hx;exact⟨l,own_below hl hb⟩⟩
theorem MenM.drew (h:MenM ws W O n len f):MenM ws W.drew O n len f:=h.below (Below.refl _ _).drew
theorem MenM.cell (h:MenM ws W O n len f) {p:Addr} (hp:p.block<ws.heap.size) (hn:¬ MenS O n p.block):W.cell? p=ws.cell? p:=World.cell?_of_block (h.kept.block _ hp hn)
theorem kept_set {S:Nat->Prop} {p:Addr} {v:Value} (h:Kept ws W S) (hp:S p.block):Kept ws (W.setCell p v) S:=
 h.grown (row:=some p.block) ⟨rfl,rfl,rfl,(KeepsWalks.setCell W _ v).size,fun k _ hk=>Below.heap_setCell _ _ _ k (fun e=>hk (by rw[e]))⟩ (fun b e=>by cases e;exact .inl hp)
theorem cU8_set (l:List UInt8) (j:Nat) (v:UInt8):(cU8 l).set j (.int .u8 (v.toNat:Int))=cU8 (l.set j v):=by rw[cU8,cU8,List.map_set]
theorem MenM.setOut (h:MenM ws W O n len f) {x:Nat} (hx:x<n) (j:Nat) (v:UInt8):MenM ws (W.setCell ⟨O+1+x,j,none⟩ (.int .u8 (v.toNat:Int))) O n len f:=by
 refine⟨kept_set h.kept ⟨by show O+1<=O+1+x;omega,by show O+1+x<=O+1+n;omega⟩,ow_other h.met (by omega) _,fun y hy=>?_⟩
 obtain⟨l,hl⟩:=h.outs y hy
 by_cases e:y=x
 ·subst e
  exact⟨l.set j v,by rw[<-cU8_set];exact ow_store hl _⟩
 ·exact⟨l,ow_other hl (by omega) _⟩
theorem MenM.setMet (h:MenM ws W O n len f) (i:Nat) (b:Bool):MenM ws (W.setCell ⟨O+1+n,i,none⟩ (.bool b)) O n len (fun j=>if j=i then b else f j):=by
 refine⟨kept_set h.kept ⟨by show O+1<=O+1+n;omega,Nat.le_refl _⟩,?_,fun y hy=>?_⟩
 ·have h1:=ow_store (i:=i) h.met (.bool b)
  rw[fromV_set] at h1
  have e:fromV n (fun j=>if j=i then Value.bool b else .bool (f j))=fromV n (fun j=>.bool (if j=i then b else f j)):=fromV_congr fun j _=>by split<;>rfl
  rw[e] at h1
  exact h1
 ·obtain⟨l,hl⟩:=h.outs y hy
  exact⟨l,ow_other hl (by omega) _⟩
theorem MenM.congr {g:Nat->Bool} (h:MenM ws W O n len f) (hg:∀ i,i<n->f i=g i):MenM ws W O n len g:=by
 refine⟨h.kept,?_,h.outs⟩
 have e:fromV n (fun i=>Value.bool (f i))=fromV n fun i=>.bool (g i):=fromV_congr fun i hi=>by rw[hg i hi]
 rw[<-e];exact h.met
theorem MenM.outCell (h:MenM ws W O n len f) {x j:Nat} (hx:x<n) (hj:j<len):∃ v:UInt8,W.cell? ⟨O+1+x,j,none⟩=some (.int .u8 (v.toNat:Int)):=by
 obtain⟨l,hl⟩:=h.outs x hx
 have hll:l.length=len:=by simpa using hl.1
 exact⟨l.getD j 0,ow_cell hl hj (by rw[List.getElem?_map,getD_get (d:=0) (by omega)];rfl)⟩
theorem MenM.outFree (h:MenM ws W O n len f) {x j:Nat} (hx:x<n):W.frozen? ⟨O+1+x,j,none⟩=false:=by
 obtain⟨l,hl⟩:=h.outs x hx
 exact ow_free hl
theorem MenM.metCell (h:MenM ws W O n len f) {i:Nat} (hi:i<n):W.cell? ⟨O+1+n,i,none⟩=some (.bool (f i)):=ow_cell h.met hi (fromV_get hi)
theorem MenM.metFree (h:MenM ws W O n len f) {i:Nat}:W.frozen? ⟨O+1+n,i,none⟩=false:=ow_free h.met
theorem MenM.low {wO:World} {B:Nat} (h:MenM ws W O n len f) (hO:B<=O) (hb:Below B wO ws) (hs:B<=ws.heap.size):Below B wO W:=
 hb.trans (h.kept.to_below hs (fun k hk=>by have:=hk.1;omega))
end
theorem WgtM.pick {W:World} {V O n:Nat} {A:List Nat} {i:Nat} {g:Nat->Nat} (h:WgtM W V O n A i g):∃ lw:Nat->List E,∀ x,x<i->W.ownsRow (O+1) tEl 1 (slE (g x) A.length) A.length (cE (lw x))/\(x∉A->lw x=wRow A x):=
 ⟨fun x=>if hx:x<i then (h.rows x hx).choose else [],fun x hx=>by dsimp only;rw[dif_pos hx];exact (h.rows x hx).choose_spec⟩
def sumW (l:List E) (A:List Nat) (word:Nat->UInt8) (t:Nat):E:=sumN t fun j=>co l j*toE (word (A.getD j 0))
theorem colOf_word (R:List (List UInt8)) (c:Nat):(fun i=>unE (co (colL R c) i))=colOf R c:=by
 funext i
 by_cases hi:i<R.length
 ·rw[colL_at hi];rfl
 ·rw[co_ge (by unfold colL;rw[length_fromN];omega)]
  unfold colOf
  rw[List.getD_eq_getElem?_getD (l:=R),List.getElem?_eq_none (by omega)]
  rfl
theorem col_line {R:List (List UInt8)} {k c:Nat} {AL:List Nat} (hnd:AL.Nodup) (hlt:∀ i∈AL,i<256) (hk:k<=AL.length) {lw:Nat->List E} (hlw:∀ x,x∈AL.drop k->lw x=wRow (AL.take k) x)
  (h:∀ x,x∈AL.drop k->sumW (lw x) (AL.take k) (colOf R c) k=toE (colOf R c x)):colR k AL (colOf R c)=some []:=by
 have hkl:(AL.take k).length=k:=by rw[List.length_take];omega
 have hsp:AL.take k++AL.drop k=AL:=List.take_append_drop k AL
 obtain⟨p,hp,hpv⟩:=line_of_weights (A:=AL.take k) (R:=AL.drop k) (word:=colOf R c) (by rw[hsp];exact hnd) (by rw[hsp];exact hlt) (fun x hx=>by
  rw[<-h x hx,hkl]
  refine sumN_congr fun j hj=>?_
  rw[hlw x hx]
  unfold wRow
  rw[co_fromN,hkl,if_pos hj])
 rw[hsp] at hpv
 rw[hkl] at hp
 exact colR_line hnd hlt hk hp hpv
end Go.Proofs.YtmgljaecmchgaaaGreat.Gf
