/- XMe3: merged by tools/merge.py. -/
import Derived.Test.YtmgljaecmchgaaaGreatQ20
set_option linter.unusedVariables false
set_option linter.unusedSimpArgs false
set_option linter.unusedSectionVars false
namespace Go.Proofs.YtmgljaecmchgaaaGreat.Gf
open Go.RowKit Go.Proofs
theorem xor_pt {a b:Nat} (ha:a<256) (hb:b<256):bits .xor .i64 (a:Int) (b:Int)=((unE (ptE a+ptE b)).toNat:Int):=by
 rw[bx64 a b (by omega) (by omega)]
 have h:unE (ptE a+ptE b)=UInt8.ofNat a ^^^ UInt8.ofNat b:=(add_unE _ _).symm
 rw[h,UInt8.toNat_xor,UInt8.toNat_ofNat',UInt8.toNat_ofNat',Nat.mod_eq_of_lt (by omega),Nat.mod_eq_of_lt (by omega)]
theorem wrap8 (x:UInt8):IntKind.u8.wrap (x.toNat:Int)=(x.toNat:Int):=by
 have:=u8_le x
 simp[IntKind.wrap,IntKind.bits,IntKind.signed]
 omega
def lowF (A:List Nat) (a t:Nat):E:=ev (van (oth ((A.take t).map ptE) (ptE a))) (ptE a)
theorem lowF_zero (A:List Nat) (a:Nat):lowF A a 0=1:=by
 show (1:E)+ptE a*0=1
 rw[mul_zero,Fld.add_zero]
theorem take_get {A:List Nat} {t b:Nat} (ht:t<A.length) (hb:A.getD t 0=b):A.take (t+1)=A.take t++[b]:=by
 rw[List.take_succ_eq_append_getElem ht,<-hb,List.getD_eq_getElem?_getD,List.getElem?_eq_getElem ht];rfl
theorem lowF_step {A:List Nat} {a t b:Nat} (ht:t<A.length) (hb:A.getD t 0=b) (ha256:a<256) (hb256:b<256):lowF A a (t+1)=if a=b then lowF A a t else lowF A a t*(ptE a+ptE b):=by
 unfold lowF oth
 rw[take_get ht hb,List.map_append,List.filter_append]
 by_cases h:a=b
 ·subst h
  rw[if_pos rfl]
  simp
 ·rw[if_neg h]
  have hne:ptE b≠ptE a:=fun e=>h (ptE_inj hb256 ha256 e).symm
  simp only[List.map_cons,List.map_nil]
  rw[List.filter_cons_of_pos (by simpa using hne),List.filter_nil,ev_van_snoc,Fld.add_comm]
theorem lowF_all (A:List Nat) (a:Nat):lowF A a A.length=ev (van (oth (A.map ptE) (ptE a))) (ptE a):=by unfold lowF;rw[List.take_length]
def allF (A:List Nat) (x t:Nat):E:=ev (van ((A.take t).map ptE)) (ptE x)
theorem allF_zero (A:List Nat) (x:Nat):allF A x 0=1:=by
 show (1:E)+ptE x*0=1
 rw[mul_zero,Fld.add_zero]
theorem allF_step {A:List Nat} {x t b:Nat} (ht:t<A.length) (hb:A.getD t 0=b):allF A x (t+1)=allF A x t*(ptE x+ptE b):=by
 unfold allF
 rw[take_get ht hb,List.map_append,List.map_cons,List.map_nil,ev_van_snoc,Fld.add_comm]
theorem allF_all (A:List Nat) (x:Nat):allF A x A.length=ev (van (A.map ptE)) (ptE x):=by unfold allF;rw[List.take_length]
theorem wgt_eq {A:List Nat} {x a:Nat} {y l c q:E} (hy:allF A x A.length=y) (hl:lowF A a A.length=l) (hq:(ptE x+ptE a)*l=q) (hc:y*Fld.inv q=c):wgt A x a=c:=by
 unfold wgt
 rw[<-allF_all,<-lowF_all,hy,hl,hq,hc]
def wRow (A:List Nat) (x:Nat):List E:=fromN A.length fun j=>wgt A x (A.getD j 0)
theorem set_set {β:Type} {f:Nat->β} {j:Nat} {X Y:β}:(fun q=>if q=j then Y else (if q=j then X else f q))=fun q=>if q=j then Y else f q:=by
 funext q
 by_cases h:q=j
 ·rw[if_pos h,if_pos h]
 ·rw[if_neg h,if_neg h,if_neg h]
abbrev tEls:TypeId:=181
theorem infoEls:(Tryz.prog.info? tEls).map (fun i=>(i.zero,i.size,i.bytes))=some (some (.slice none 0 0),1,24):=by kernel_rfl
abbrev slE (g m:Nat):Value:=.slice (some ⟨g,0,none⟩) m m
structure WgtM (W:World) (V O n:Nat) (A:List Nat) (i:Nat) (g:Nat->Nat):Prop where
 low:W.ownsRow V tEl 1 (slE V A.length) A.length (cE (fromN A.length fun j=>lowF A (A.getD j 0) A.length))
 out:W.ownsRow O tEls 1 (slE O n) n (fromV n (upto (fun x=>slE (g x) A.length) (.slice none 0 0) i))
 rows:∀ x,x<i->∃ l:List E,W.ownsRow (O+1) tEl 1 (slE (g x) A.length) A.length (cE l)/\(x∉A->l=wRow A x)
 vo:V<O
structure WgtR (W:World) (V O n:Nat) (A:List Nat) (i:Nat) (g:Nat->Nat) (b:Nat) (l:List E):Prop where
 low:W.ownsRow V tEl 1 (slE V A.length) A.length (cE (fromN A.length fun j=>lowF A (A.getD j 0) A.length))
 out:W.ownsRow O tEls 1 (slE O n) n (fromV n (upto (fun x=>slE (if x=i then b else g x) A.length) (.slice none 0 0) (i+1)))
 rows:∀ x,x<i->g x≠b/\∃ l:List E,W.ownsRow (O+1) tEl 1 (slE (g x) A.length) A.length (cE l)/\(x∉A->l=wRow A x)
 row:W.ownsRow (O+1) tEl 1 (slE b A.length) A.length (cE l)
 vo:V<O
theorem WgtM.begin {W W2:World} {V O n:Nat} {A:List Nat} {i:Nat} {g:Nat->Nat} (h:WgtM W V O n A i g) {b:Nat} {Z:List Value} (hb:W.heap.size=b) (hZ:cE (fromN A.length fun _=>0)=Z) (hW2:(W.alloc (.cells Z.toArray tEl)).setCell ⟨O,i,none⟩ (slE b A.length)=W2) (hA:A.length<=65536):WgtR W2 V O n A i g b (fromN A.length fun _=>0):=by
 subst hW2 hb hZ
 have hvo:=h.vo
 have hO:=(ow_lt h.out).2
 have h1:=ow_store (i:=i) (Dr.own_alloc h.out (.cells (cE (fromN A.length fun _=>0)).toArray tEl)) (slE W.heap.size A.length)
 rw[fromV_set] at h1
 have e:fromV n (fun j=>if j=i then slE W.heap.size A.length else upto (fun x=>slE (g x) A.length) (.slice none 0 0) i j)=fromV n (upto (fun x=>slE (if x=i then W.heap.size else g x) A.length) (.slice none 0 0) (i+1)):=fromV_congr fun j _=>by
  unfold upto
  by_cases hj:j=i
  ·subst hj
   rw[if_pos rfl,if_pos (by omega)]
   show _=slE (if j=j then W.heap.size else g j) A.length
   rw[if_pos rfl]
  ·rw[if_neg hj]
   by_cases h2:j<i
   ·rw[if_pos h2,if_pos (by omega)]
    show _=slE (if j=i then W.heap.size else g j) A.length
    rw[if_neg hj]
   ·rw[if_neg h2,if_neg (by omega)]
 rw[e] at h1
 have hnew:=Dr.own_new W (base:=O+1) (by omega) tEl 1 A.length (cE (fromN A.length fun _=>0)) (by simp[fromN]) (by unfold maxLen;omega)
 refine⟨ow_other (Dr.own_alloc h.low _) (by omega) _,h1,fun x hx=>?_,ow_other hnew (by omega) _,hvo⟩
 obtain⟨l,h2,h3⟩:=h.rows x hx
 have hg:=ow_lt h2
 exact⟨by omega,l,ow_other (Dr.own_alloc h2 _) (by omega) _,h3⟩
theorem WgtR.set {W:World} {V O n:Nat} {A:List Nat} {i:Nat} {g:Nat->Nat} {b:Nat} {f:Nat->E} (h:WgtR W V O n A i g b (fromN A.length f)) (j:Nat) (x:E):WgtR (W.setCell ⟨b,j,none⟩ (.int .u8 ((unE x).toNat:Int))) V O n A i g b (fromN A.length fun q=>if q=j then x else f q):=by
 have h1:=ow_lt h.row
 have hvo:=h.vo
 refine⟨ow_other h.low (by omega) _,ow_other h.out (by omega) _,fun y hy=>?_,?_,hvo⟩
 ·obtain⟨h2,l,h3,h4⟩:=h.rows y hy
  exact⟨h2,l,ow_other h3 h2 _,h4⟩
 ·rw[<-cE_set]
  exact ow_store h.row _
theorem WgtR.drew {W:World} {V O n:Nat} {A:List Nat} {i:Nat} {g:Nat->Nat} {b:Nat} {l:List E} (h:WgtR W V O n A i g b l):WgtR W.drew V O n A i g b l:=⟨h.low,h.out,h.rows,h.row,h.vo⟩
theorem WgtR.done {W:World} {V O n:Nat} {A:List Nat} {i:Nat} {g:Nat->Nat} {b:Nat} {l:List E} (h:WgtR W V O n A i g b l) (hl:i∉A->l=wRow A i):WgtM W V O n A (i+1) (fun x=>if x=i then b else g x):=by
 refine⟨h.low,h.out,fun x hx=>?_,h.vo⟩
 by_cases hxi:x=i
 ·subst hxi
  rw[if_pos rfl]
  exact⟨l,h.row,hl⟩
 ·rw[if_neg hxi]
  obtain⟨_,l2,h3,h4⟩:=h.rows x (by omega)
  exact⟨l2,h3,h4⟩
structure WgtOk (w w':World) (n:Nat) (A:List Nat) (x:Ending):Prop where
 out:∃ V O g,w.heap.size<=V/\x = .returned (slE O n)/\WgtM w' V O n A n g/\Below w.heap.size w w'
theorem lowF_ne (A:List Nat) (a:Nat):lowF A a A.length≠0:=by rw[lowF_all];exact van_oth_ne
theorem pt_ne {a b:Nat} (ha:a<256) (hb:b<256) (h:a≠b):ptE a+ptE b≠0:=fun e=>h (ptE_inj ha hb (add_eq_zero.1 e))
set_option maxRecDepth 100000 in
set_option maxHeartbeats 16000000 in
theorem weights_any {w:World} {B n m c:Nat} {A1:Option Addr} {A:List Nat} (hA:Rd w B 1 A1 m (cN A)) (hB:B<=w.heap.size) (hn:n<=255) (hm:m<=255) (hlt:∀ i∈A,i<n) :
  Calls Tryz.prog 77 #[.int .i64 (n:Int),.slice A1 m c] w fun x w'=>WgtOk w w' n A x:=by
 have hAl:A.length=m:=by simpa using hA.1
 obtain⟨V,hV⟩:∃ V,w.heap.size=V:=⟨_,rfl⟩
 have hmk:=fun W=>run_makeE W m (by omega)
 obtain⟨Z,hZ⟩:∃ Z:List Value,cE (fromN m fun _=>0)=Z:=⟨_,rfl⟩
 obtain⟨LW,hLW⟩:∃ LW:Nat->E,(fun j=>lowF A (A.getD j 0) m)=LW:=⟨_,rfl⟩
 have hLWj:∀ j,LW j=lowF A (A.getD j 0) m:=fun j=>by rw[<-hLW]
 have hr0:(w.alloc (.cells Z.toArray tEl)).ownsRow V tEl 1 (slE V m) m (cE (fromN m (upto LW 0 0))):=by
  rw[upto_zero,hZ,<-hV]
  exact Dr.own_new w (Nat.le_refl _) tEl 1 m Z (by rw[<-hZ];simp[fromN]) (by unfold maxLen;omega)
 have hb0:Below V w (w.alloc (.cells Z.toArray tEl)):=by rw[<-hV];exact (Below.refl _ w).alloc (Nat.le_refl _) _
 have hZl:Z.length=m:=by rw[<-hZ];simp[fromN]
 rw[hZ] at hmk
 have HA:=Hd hA
 have HR0:=Hd hr0
 have HB0:=Hd hb0
 have HLT:=Hd hlt
 have HV:=Hd hV
 have HAL:=Hd hAl
 have HLW:=Hd hLWj
 have HLWF:=Hd hLW
 have HZ:=Hd hZ
 have HZL:=Hd hZl
 clear hA hr0 hb0 hlt hAl hLW hLWj hZ hZl
 go_enter Tryz.func77,Tryz.ntmps77
 go_upto_block 1 with (fail)
 have HMK:=Hd hmk
 clear hmk hV
 go_loopw [23] (fun iv wr=>∃ i:Nat,iv = .int .i64 (i:Int)/\i<=m/\wr.ownsRow V tEl 1 (slE V m) m (cE (fromN m (upto LW 0 i)))/\Below V w wr) (fun iv _=>m - (intOf iv).toNat)
 case atStart=>exact⟨0,rfl,Nat.zero_le _,HR0.out,HB0.out⟩
 case round=>
  obtain⟨i,rfl,hi,hown,hb⟩:=hrel
  have hVs:V<=wr.heap.size:=by have:=hb.size;have:=HV.out;omega
  by_cases him:i<m
  ·have him2:(i:Int)<(m:Int):=by omega
   obtain⟨ad,rfl,had,hcd⟩:=rd_num HA.out him
   obtain⟨a,ha⟩:∃ a,A.getD i 0=a:=⟨_,rfl⟩
   rw[ha] at hcd
   have han:a<n:=HLT.out a (by rw[<-ha];exact List.mem_of_getElem? (getD_get (by rw[HAL.out];exact him)))
   have e1:=(hb.cell (p:=ad.add i) (by rw[add_block];have:=HV.out;omega)).trans hcd
   have c1:=ow_cell hown him (cE_get (fromN_get him))
   have f1:=ow_free (i:=i) hown
   have hnew:=ow_store (i:=i) hown (.int .u8 ((unE (1:E)).toNat:Int))
   rw[cE_set,<-lowF_zero A a] at hnew
   have hone:((unE (1:E)).toNat:Int)=1:=rfl
   have HNEW:=Hd (show (wr.setCell ⟨V,i,none⟩ (.int .u8 1)).ownsRow V tEl 1 (slE V m) m (cE (fromN m fun q=>if q=i then lowF A a 0 else upto LW 0 i q)) by rw[lowF_zero,<-hone] at *;exact hnew)
   have HB:=Hd (hb.setCell (p:=⟨V,i,none⟩) (Nat.le_refl _) (.int .u8 1))
   have HAI:=Hd ha
   have HHAD:=Hd had
   clear hown hb hnew hone ha hcd had
   obtain⟨wo,rfl⟩:∃ wo,wo=wr:=⟨_,rfl⟩
   go_upto_block 3 with (fail)
   go_loopw [33] (fun jv wr=>∃ j:Nat,jv = .int .i64 (j:Int)/\j<=m/\wr.ownsRow V tEl 1 (slE V m) m (cE (fromN m fun q=>if q=i then lowF A a j else upto LW 0 i q))/\Below V w wr) (fun jv _=>m - (intOf jv).toNat)
   case atStart=>exact⟨0,rfl,Nat.zero_le _,HNEW.out,HB.out⟩
   case round=>
    obtain⟨j,rfl,hj,hown,hb⟩:=hrel
    by_cases hjm:j<m
    ·have hjm2:(j:Int)<(m:Int):=by omega
     obtain⟨ad2,had2,hlt2,hcd2⟩:=rd_num HA.out hjm
     injection had2 with had2
     subst had2
     obtain⟨b,hbb⟩:∃ b,A.getD j 0=b:=⟨_,rfl⟩
     rw[hbb] at hcd2
     have hbn:b<n:=HLT.out b (by rw[<-hbb];exact List.mem_of_getElem? (getD_get (by rw[HAL.out];exact hjm)))
     have e2:=(hb.cell (p:=ad.add j) (by rw[add_block];have:=HV.out;omega)).trans hcd2
     have hst:=lowF_step (a:=a) (show j<A.length by rw[HAL.out];exact hjm) hbb (by omega) (by omega)
     by_cases hab:a=b
     ·subst hab
      rw[if_pos rfl] at hst
      have HO:=Hd hown
      have HBX:=Hd hb
      have HST:=Hd hst
      clear hown hb hst hbb hcd2
      go_wp2
      go_roundw
      case rel=>exact⟨j+1,by go_num,by omega,by rw[HST.out];exact HO.out,HBX.out⟩
      case measure=>simp[intOf];omega
     ·rw[if_neg hab] at hst
      have hab2:¬ (a:Int)=(b:Int):=by omega
      obtain⟨z,hz⟩:∃ z,lowF A a j=z:=⟨_,rfl⟩
      obtain⟨u,hu⟩:∃ u,ptE a+ptE b=u:=⟨_,rfl⟩
      rw[hz,hu] at hst
      rw[hz] at hown
      have hxo:bits .xor .i64 (a:Int) (b:Int)=((unE u).toNat:Int):=by rw[<-hu];exact xor_pt (by omega) (by omega)
      have hu8:=u8_le (unE u)
      have e3:=ow_cell hown him (cE_get (by rw[fromN_get him,if_pos rfl]))
      have f3:=ow_free (i:=i) hown
      have hnew:=ow_store (i:=i) hown (.int .u8 ((unE (z*u)).toNat:Int))
      rw[cE_set,set_set] at hnew
      have HNW:=Hd hnew
      have HST:=Hd hst
      have HBX:=Hd (hb.setCell (p:=⟨V,i,none⟩) (Nat.le_refl _) (.int .u8 ((unE (z*u)).toNat:Int)))
      have hmu:=mul_unE z u
      have HMU:=Hd hmu
      clear hown hb hst hbb hcd2 hnew hz hu hmu
      go_wp2_with (go_at_call 79;refine (times_any (unE z) (unE u) _).mono ?_;rintro e w5 ⟨rfl,rfl⟩;rw[HMU.out])
      go_roundw
      case rel=>exact⟨j+1,by go_num,by omega,by rw[HST.out];exact HNW.out,HBX.out⟩
      case measure=>simp[intOf];omega
    ·obtain rfl:j=m:=by omega
     have hfin:(fun q=>if q=i then lowF A a j else upto LW 0 i q)=upto LW 0 (i+1):=upto_step' (by rw[HLW.out i,HAI.out])
     rw[hfin] at hown
     have HO:=Hd hown
     have HBX:=Hd hb
     clear hown hb hfin
     go_wp2
     go_roundw
     case rel=>exact⟨i+1,by go_num,by omega,HO.out,HBX.out⟩
     case measure=>simp[intOf];omega
  ·obtain rfl:i=m:=by omega
   have e1:fromN i (upto LW 0 i)=fromN i LW:=fromN_congr fun j hj=>upto_all hj
   rw[e1] at hown
   obtain⟨O,hO⟩:∃ O,wr.heap.size=O:=⟨_,rfl⟩
   have hVO:V<O:=by rw[<-hO];exact (ow_lt hown).2
   have hmk2:=run_makeV wr 177 tEls (.slice none 0 0) 24 Tryz.underlying177 infoEls rfl (by decide) n (by omega)
   have hM0:WgtM (wr.alloc (.cells (fromV n fun _=>.slice none 0 0).toArray tEls)) V O n A 0 (fun _=>0):=by
    refine⟨?_,?_,fun x hx=>by omega,hVO⟩
    ·have h:=Dr.own_alloc hown (.cells (fromV n fun _=>.slice none 0 0).toArray tEls)
     rw[HAL.out]
     rw[<-HLWF.out] at h
     exact h
    ·rw[upto_zero,<-hO]
     exact Dr.own_new wr (Nat.le_refl _) tEls 1 n _ (by simp[fromV]) (by unfold maxLen;omega)
   have HM0:=Hd hM0
   have HB:=Hd (hb.alloc hVs (.cells (fromV n fun _=>.slice none 0 0).toArray tEls))
   clear hM0 hown hb e1
   go_wp2
   clear hmk2 hO
   go_loopw [58] (fun iv wr=>∃ (x:Nat) (g:Nat->Nat),iv = .int .i64 (x:Int)/\x<=n/\WgtM wr V O n A x g/\Below V w wr) (fun iv _=>n - (intOf iv).toNat)
   case atStart=>exact⟨0,_,rfl,Nat.zero_le _,HM0.out,HB.out⟩
   case round=>
    obtain⟨x,g,rfl,hx,hM,hb⟩:=hrel
    by_cases hxn:x<n
    ·have hxn2:(x:Int)<(n:Int):=by omega
     obtain⟨b,hbs⟩:∃ b,wr.heap.size=b:=⟨_,rfl⟩
     have hmk3:=HMK.out
     have c1:(wr.alloc (.cells Z.toArray tEl)).cell? ⟨O,x,none⟩=some (.slice none 0 0):=ow_cell (Dr.own_alloc hM.out _) hxn (by rw[fromV_get hxn,upto_at])
     have f1:(wr.alloc (.cells Z.toArray tEl)).frozen? ⟨O,x,none⟩=false:=ow_free (Dr.own_alloc hM.out _)
     obtain⟨w2,hw2⟩:∃ w2,(wr.alloc (.cells Z.toArray tEl)).setCell ⟨O,x,none⟩ (slE b i)=w2:=⟨_,rfl⟩
     have hR:=hM.begin (b:=b) (Z:=Z) (W2:=w2) hbs (by rw[HAL.out];exact HZ.out) (by rw[HAL.out];exact hw2) (by rw[HAL.out];omega)
     have hb2:Below V w w2:=by rw[<-hw2];exact (hb.alloc (by have:=hb.size;have:=HV.out;omega) _).setCell (p:=⟨O,x,none⟩) (by show V<=O;omega) _
     have HR:=Hd hR
     have HB2:=Hd hb2
     clear hM hb hR hb2
     go_wp2
     clear hmk3 c1 f1 hw2 hbs
     go_loop [12,13,69] (fun av ov tv=>∃ t:Nat,tv = .int .i64 (t:Int)/\t<=i/\((∃ z:Int,z<0/\ov = .int .i64 z/\x∉A.take t/\av = .int .u8 ((unE (allF A x t)).toNat:Int))\/(∃ (j:Nat) (y:E),j<i/\ov = .int .i64 (j:Int)/\x∈A/\av = .int .u8 ((unE y).toNat:Int)))) (fun _ _ tv=>i - (intOf tv).toNat)
     case atStart=>exact⟨0,rfl,Nat.zero_le _,.inl ⟨-1,by omega,rfl,by simp,by rw[allF_zero];rfl⟩⟩
     case round=>
      obtain⟨t,rfl,ht,hor⟩:=hrel
      by_cases hti:t<i
      ·have hti2:(t:Int)<(i:Int):=by omega
       obtain⟨ad,rfl,had,hcd⟩:=rd_num HA.out hti
       obtain⟨a,ha⟩:∃ a,A.getD t 0=a:=⟨_,rfl⟩
       rw[ha] at hcd
       have han:a<n:=HLT.out a (by rw[<-ha];exact List.mem_of_getElem? (getD_get (by rw[HAL.out];exact hti)))
       have haA:a∈A:=by rw[<-ha];exact List.mem_of_getElem? (getD_get (by rw[HAL.out];exact hti))
       have e1:=(HB2.out.cell (p:=ad.add t) (by rw[add_block];have:=HV.out;omega)).trans hcd
       have htk:=take_get (show t<A.length by rw[HAL.out];exact hti) ha
       have hal:=allF_step (x:=x) (show t<A.length by rw[HAL.out];exact hti) ha
       obtain⟨u,hu⟩:∃ u,ptE x+ptE a=u:=⟨_,rfl⟩
       rw[hu] at hal
       have hxo:bits .xor .i64 (x:Int) (a:Int)=((unE u).toNat:Int):=by rw[<-hu];exact xor_pt (by omega) (by omega)
       have hu8:=u8_le (unE u)
       by_cases hax:a=x
       ·subst hax
        have HAA:=Hd haA
        rcases hor with ⟨z,hz0,rfl,hnx,rfl⟩ | ⟨j,y,hji,rfl,hxA,rfl⟩
        ·clear hal htk hu hxo hcd ha haA hnx
         go_wp2
         go_round
         case rel=>exact⟨t+1,by go_num,by omega,.inr ⟨t,_,hti,rfl,HAA.out,rfl⟩⟩
         case measure=>simp[intOf];omega
        ·clear hal htk hu hxo hcd ha haA hxA
         go_wp2
         go_round
         case rel=>exact⟨t+1,by go_num,by omega,.inr ⟨t,_,hti,rfl,HAA.out,rfl⟩⟩
         case measure=>simp[intOf];omega
       ·have hax2:¬ (a:Int)=(x:Int):=by omega
        rcases hor with ⟨z,hz0,rfl,hnx,rfl⟩ | ⟨j,y,hji,rfl,hxA,rfl⟩
        ·obtain⟨y,hy⟩:∃ y,allF A x t=y:=⟨_,rfl⟩
         rw[hy] at hal ⊢
         have hmu:=mul_unE y u
         have hnx2:x∉A.take (t+1):=by
          rw[htk]
          intro h
          rcases List.mem_append.1 h with h | h
          ·exact hnx h
          ·exact hax (List.mem_singleton.1 h).symm
         have HMU:=Hd hmu
         have HAL2:=Hd hal
         have HNX:=Hd hnx2
         clear hal htk hu hcd ha haA hmu hnx hnx2 hy
         go_wp2_with (go_at_call 79;refine (times_any (unE y) (unE u) _).mono ?_;rintro e w5 ⟨rfl,rfl⟩;rw[HMU.out])
         go_round
         case rel=>exact⟨t+1,by go_num,by omega,.inl ⟨z,hz0,rfl,HNX.out,by rw[HAL2.out]⟩⟩
         case measure=>simp[intOf];omega
        ·have hmu:=mul_unE y u
         have HMU:=Hd hmu
         have HXA:=Hd hxA
         clear hal htk hu hcd ha haA hmu hxA
         go_wp2_with (go_at_call 79;refine (times_any (unE y) (unE u) _).mono ?_;rintro e w5 ⟨rfl,rfl⟩;rw[HMU.out])
         go_round
         case rel=>exact⟨t+1,by go_num,by omega,.inr ⟨j,_,hji,rfl,HXA.out,rfl⟩⟩
         case measure=>simp[intOf];omega
      ·obtain rfl:t=i:=by omega
       rcases hor with ⟨z,hz0,rfl,hnx,rfl⟩ | ⟨j,y,hji,rfl,hxA,rfl⟩
       ·have hnA:x∉A:=by have h:=hnx;rw[<-HAL.out,List.take_length] at h;exact h
        obtain⟨y,hy⟩:∃ y,allF A x t=y:=⟨_,rfl⟩
        rw[hy]
        have hz1:¬ (0:Int)<=z:=by omega
        have HNA:=Hd hnA
        have HY:=Hd hy
        clear hnx hnA hy
        go_wp2
        go_loopw [95] (fun jv wr=>∃ j:Nat,jv = .int .i64 (j:Int)/\j<=t/\WgtR wr V O n A x g b (fromN A.length (upto (fun q=>wgt A x (A.getD q 0)) 0 j))/\Below V w wr) (fun jv _=>t - (intOf jv).toNat)
        case atStart=>exact⟨0,rfl,Nat.zero_le _,by rw[upto_zero];exact HR.out,HB2.out⟩
        case round=>
         obtain⟨j,rfl,hj,hR,hb⟩:=hrel
         by_cases hjt:j<t
         ·have hjt2:(j:Int)<(t:Int):=by omega
          obtain⟨ad,rfl,had,hcd⟩:=rd_num HA.out hjt
          obtain⟨a,ha⟩:∃ a,A.getD j 0=a:=⟨_,rfl⟩
          rw[ha] at hcd
          have haA:a∈A:=by rw[<-ha];exact List.mem_of_getElem? (getD_get (by rw[HAL.out];exact hjt))
          have han:a<n:=HLT.out a haA
          have hxa:x≠a:=fun h=>HNA.out (h▸haA)
          obtain⟨u,hu⟩:∃ u,ptE x+ptE a=u:=⟨_,rfl⟩
          have hxo:bits .xor .i64 (x:Int) (a:Int)=((unE u).toNat:Int):=by rw[<-hu];exact xor_pt (by omega) (by omega)
          have hu8:=u8_le (unE u)
          have hw8:=wrap8 (unE u)
          obtain⟨lj,hlj⟩:∃ lj,lowF A a A.length=lj:=⟨_,rfl⟩
          obtain⟨q,hq⟩:∃ q,u*lj=q:=⟨_,rfl⟩
          obtain⟨cc,hcc⟩:∃ cc,y*Fld.inv q=cc:=⟨_,rfl⟩
          have hq0:unE q≠0:=by
           have h:q≠0:=by rw[<-hq,<-hu,<-hlj];exact mul_ne_zero (pt_ne (by omega) (by omega) hxa) (lowF_ne A a)
           exact h
          have hw:=wgt_eq (A:=A) (x:=x) (a:=a) (by rw[HAL.out];exact HY.out) hlj (by rw[hu];exact hq) hcc
          have hm1:mul8 (unE u) (unE lj)=unE q:=by rw[mul_unE,hq]
          have hm2:mul8 (unE y) (pow254 (unE q))=unE cc:=by rw[inv_unE _ hq0,show Fld.inv (F:=E) (unE q)=Fld.inv q from rfl,mul_unE,hcc]
          have e1:=(hb.cell (p:=ad.add j) (by rw[add_block];have:=HV.out;omega)).trans hcd
          have hjA:j<A.length:=by rw[HAL.out];exact hjt
          have k1:wr.cell? ⟨O,x,none⟩=some (slE b t):=by
           have:=ow_cell hR.out hxn (fromV_get hxn)
           rw[this]
           unfold upto
           rw[if_pos (by omega)]
           show some (slE (if x=x then b else g x) A.length)=_
           rw[if_pos rfl,HAL.out]
          have k2:wr.cell? ⟨V,j,none⟩=some (.int .u8 ((unE lj).toNat:Int)):=ow_cell hR.low hjA (cE_get (by rw[fromN_get hjA,ha,hlj]))
          have k3:wr.cell? ⟨b,j,none⟩=some (.int .u8 ((unE (0:E)).toNat:Int)):=ow_cell hR.row hjA (cE_get (by rw[fromN_get hjA,upto_at]))
          have k4:wr.frozen? ⟨b,j,none⟩=false:=ow_free hR.row
          have hR2:=hR.set j cc
          rw[upto_step' (by simp only[ha,hw])] at hR2
          have hbV:V<=b:=by have:=(ow_lt hR.row).1;omega
          have hb2:=hb.setCell (p:=⟨b,j,none⟩) hbV (.int .u8 ((unE cc).toNat:Int))
          have HS0:=Hd (And.intro k1 (And.intro k2 (And.intro k3 k4)))
          have HR2:=Hd hR2.drew
          have HB3:=Hd hb2.drew
          have HQ0:=Hd hq0
          have HM1:=Hd hm1
          have HM2:=Hd hm2
          clear hR hb hR2 hb2 k1 k2 k3 k4 hq0 hm1 hm2 hw hcc hq hlj hu hcd ha haA hjA
          go_upto_region 32 with (fail)
          refine wp_region_any (by kernel_rfl) ?_
          change wpAny _ _ _ _ _ _ _ (World.drew _)
          refine wpAny_of_P (S:=fun w'=>w'.cell? ⟨O,x,none⟩=some (slE b t)/\w'.cell? ⟨V,j,none⟩=some (.int .u8 ((unE lj).toNat:Int))/\w'.cell? ⟨b,j,none⟩=some (.int .u8 ((unE (0:E)).toNat:Int))/\w'.frozen? ⟨b,j,none⟩=false) (late:=[20]) _ _ _ _ ?_
          refine tT 0 HS0.out ?_
          try go_frame
          refine tT 1 HS0.out ?_
          try go_frame
          refine tT 2 HS0.out ?_
          try go_frame
          refine tP 8 3 rfl HS0.out (fun w hw=>by obtain⟨y1,y2,y3,y4⟩:=hw;go_simp;try with_reducible rfl) ?_
          try go_frame
          refine tT 4 HS0.out ?_
          try go_frame
          refine tT 5 HS0.out ?_
          try go_frame
          refine tT 6 HS0.out ?_
          try go_frame
          refine tT 7 HS0.out ?_
          try go_frame
          refine tT 8 HS0.out ?_
          try go_frame
          refine tT 9 HS0.out ?_
          try go_frame
          refine tT 10 HS0.out ?_
          try go_frame
          refine tT 11 HS0.out ?_
          try go_frame
          refine tT 12 HS0.out ?_
          try go_frame
          refine tP 8 13 rfl HS0.out (fun w hw=>by obtain⟨y1,y2,y3,y4⟩:=hw;go_simp;try with_reducible rfl) ?_
          try go_frame
          refine fP 14 fun K hK=>?_
          go_simp
          refine (times_any (unE u) (unE lj) _).mono ?_;rintro e w5 ⟨rfl,rfl⟩;rw[HM1.out]
          refine hK _ _ (HS0.out) ?_;clear hK K
          try go_frame
          refine fP 15 fun K hK=>?_
          go_simp
          refine (over_any (unE y) (unE q) HQ0.out _).mono ?_;rintro e w5 ⟨rfl,rfl⟩;rw[HM2.out]
          refine hK _ _ (HS0.out) ?_;clear hK K
          try go_frame
          refine tT 16 HS0.out ?_
          try go_frame
          refine tT 17 HS0.out ?_
          try go_frame
          refine tT 18 HS0.out ?_
          try go_frame
          refine tT 19 HS0.out ?_
          try go_frame
          refine lP 20 fun K hK=>?_
          obtain⟨y1,y2,y3,y4⟩:(World.drew wr).cell? ⟨O,x,none⟩=some (slE b t)/\(World.drew wr).cell? ⟨V,j,none⟩=some (.int .u8 ((unE lj).toNat:Int))/\(World.drew wr).cell? ⟨b,j,none⟩=some (.int .u8 ((unE (0:E)).toNat:Int))/\(World.drew wr).frozen? ⟨b,j,none⟩=false:=HS0.out
          go_simp
          refine hK _ _ ?_;clear hK K
          try go_frame
          refine wpAny_done (by kernel_rfl) ?_ _
          go_wp2
          go_roundw
          case rel=>exact⟨j+1,by go_num,by omega,HR2.out,HB3.out⟩
          case measure=>simp[intOf];omega
         ·obtain rfl:j=t:=by omega
          have hfin:fromN A.length (upto (fun q=>wgt A x (A.getD q 0)) 0 j)=wRow A x:=fromN_congr fun q hq=>upto_all (by rw[<-HAL.out];exact hq)
          rw[hfin] at hR
          have HMX:=Hd (hR.done fun _=>rfl)
          have HBX:=Hd hb
          clear hR hb hfin
          go_wp2
          go_roundw
          case rel=>exact⟨x+1,_,by go_num,by omega,HMX.out,HBX.out⟩
          case measure=>simp[intOf];omega
       ·have hR:=HR.out
        have hjA:j<A.length:=by rw[HAL.out];exact hji
        have k1:w2.cell? ⟨O,x,none⟩=some (slE b t):=by
         have:=ow_cell hR.out hxn (fromV_get hxn)
         rw[this]
         unfold upto
         rw[if_pos (by omega)]
         show some (slE (if x=x then b else g x) A.length)=_
         rw[if_pos rfl,HAL.out]
        have k3:w2.cell? ⟨b,j,none⟩=some (.int .u8 ((unE (0:E)).toNat:Int)):=ow_cell hR.row hjA (cE_get (fromN_get hjA))
        have k4:w2.frozen? ⟨b,j,none⟩=false:=ow_free hR.row
        have hone:((unE (1:E)).toNat:Int)=1:=rfl
        have hR2:=hR.set j 1
        rw[hone] at hR2
        have hbV:V<=b:=by have:=(ow_lt hR.row).1;omega
        have hb2:=HB2.out.setCell (p:=⟨b,j,none⟩) hbV (.int .u8 1)
        have hj0:(0:Int)<=(j:Int):=by omega
        have hjt:(j:Int)<(t:Int):=by omega
        have HMX:=Hd (hR2.done fun h=>absurd hxA h)
        have HBX:=Hd hb2
        clear hR hR2 hb2 hxA hjA
        go_wp2
        go_roundw
        case rel=>exact⟨x+1,_,by go_num,by omega,HMX.out,HBX.out⟩
        case measure=>simp[intOf];omega
    ·obtain rfl:x=n:=by omega
     have HMX:=Hd hM
     have HBX:=Hd hb
     clear hM hb
     go_wp2
     go_ret
     exact⟨_,_,_,Nat.le_of_eq HV.out,rfl,HMX.out,by rw[HV.out];exact HBX.out⟩
end Go.Proofs.YtmgljaecmchgaaaGreat.Gf
