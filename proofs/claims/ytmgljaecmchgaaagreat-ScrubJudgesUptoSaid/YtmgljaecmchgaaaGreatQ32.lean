/- XSc4, XSc5: merged by tools/merge.py. -/
import Derived.Test.YtmgljaecmchgaaaGreatQ31
import Derived.Test.YtmgljaecmchgaaaGreatQ20
import Derived.Test.YtmgljaecmchgaaaGreatQ17
set_option linter.unusedVariables false
set_option linter.unusedSimpArgs false
set_option linter.unusedSectionVars false
namespace Go.Proofs.YtmgljaecmchgaaaGreat.Gf
open Go.RowKit Go.Proofs
structure WrongOk (w w':World) (res:Nat->Option (List Nat)) (c:Nat) (x:Ending):Prop where
 out:x = .returned (.tuple #[.agg (flC (metB res c)).toArray,.bool (unkB res c)])
 back:Below w.heap.size w w'
theorem MendOk.form {w w':World} {k:Int} {R:List (List UInt8)} {x:Ending} (h:MendOk w w' k R x):∃ ov A c e,x = .returned (.tuple #[ov,.slice A ((mendF k R).getD []).length c,.int .i64 e])/\(e != 0)=(mendF k R).isNone/\Rd w' w'.heap.size 1 A ((mendF k R).getD []).length (cN ((mendF k R).getD []))/\Below w.heap.size w w':=by
 rcases h.out with ⟨h1,e,he,rfl⟩ | ⟨ov,wv,ws,h1,rfl,A,c,rfl,hr⟩
 ·rw[h1]
  exact⟨_,none,0,e,rfl,by simpa using he,⟨rfl,fun h=>by simp at h⟩,h.back⟩
 ·rw[h1]
  exact⟨ov,A,c,0,rfl,rfl,hr,h.back⟩
theorem mendF_lt {k:Int} {R:List (List UInt8)} {m:Nat} (h:m∈(mendF k R).getD []):m<R.length:=by
 unfold mendF at h
 split at h
 ·simp at h
 ·split at h
  ·simp at h
  ·split at h
   ·simp at h
   ·unfold mendR at h
    split at h
    ·simp at h;exact h.1
    ·simp at h
theorem ws_le {k:Int} {R:List (List UInt8)}:((mendF k R).getD []).length<=R.length:=by
 unfold mendF
 split
 ·simp
 ·split
  ·simp
  ·split
   ·simp
   ·unfold mendR
    split
    ·exact Nat.le_trans (List.length_filter_le _ _) (by simp)
    ·simp
theorem FlM.ne {W:World} {G:Nat} {F:Nat->Bool} (h:FlM W G F) {p:Addr} {k:IntKind} {z:Int} (hp:W.cell? p=some (.int k z)):p.block≠G:=fun e=>by
 obtain⟨b,o,s⟩:=p
 obtain rfl:b=G:=e
 have h1:W.cell? ⟨b,o,s⟩=(flC F).toArray[o]?:=by
  cases s with
  | none=>exact cell_of_row W b o _ _ _ h
  | some q=>
   unfold FlM at h
   simp[World.cell?,h] at hp
 rw[h1,List.getElem?_toArray] at hp
 obtain⟨_,_,e2⟩:=List.mem_map.1 (List.mem_of_getElem? hp)
 cases e2
theorem rowsJ_get {v:Vd} {L:List Sn} {j i:Nat} {s:Sn} (h:L[i]?=some s):(rowsJ v L j)[i]?=some ((ownB v s).getD j []):=by
 unfold rowsJ ownB
 rw[List.getElem?_map,h]
 by_cases ho:own v s<;>simp[ho]
theorem row_pick {W:World} {B n:Nat} {A:Option Addr} {R:List (List UInt8)} (h:RowsRd W B A n R) (j:Nat):∃ u:Value,(∃ Ai ci,u = .slice Ai (R.getD j []).length ci/\Rd W B 1 Ai (R.getD j []).length (cU8 (R.getD j [])))/\(j<n->∃ ad,A=some ad/\ad.block<B/\W.cell? (ad.add j)=some u)/\(n<=j->u = .slice none 0 0):=by
 by_cases hj:j<n
 ·obtain⟨ad,Ai,ci,h1,h2,h3,h4⟩:=h.at_ hj
  exact⟨_,⟨Ai,ci,rfl,h4⟩,fun _=>⟨ad,h1,h2,h3⟩,fun h=>by omega⟩
 ·have e:R.getD j []=[]:=by rw[List.getD_eq_getElem?_getD,List.getElem?_eq_none (by rw[h.len];omega)];rfl
  rw[e]
  exact⟨.slice none 0 0,⟨none,0,rfl,rfl,fun h=>by simp at h⟩,fun h=>by omega,fun _=>rfl⟩
theorem mst_le {v:Vd} {L:List Sn} {b:Nat} (h:∀ s∈L,s.blocks.length<=b):mst v L<=b:=by
 have key:∀ (l:List Sn) (m:Nat),m<=b->(∀ s∈l,s.blocks.length<=b)->l.foldl (fun m s=>if own v s then max m s.blocks.length else m) m<=b:=by
  intro l
  induction l with
  | nil=>intro m hm _;exact hm
  | cons s l ih=>
   intro m hm hl
   rw[List.foldl_cons]
   refine ih _ ?_ (fun s hs=>hl s (List.mem_cons_of_mem _ hs))
   have:=hl s (List.mem_cons_self ..)
   split<;>omega
 exact key L 0 (Nat.zero_le _) h
theorem kept_mono {w w':World} {S T:Nat->Prop} (h:Kept w w' S) (hs:∀ k,S k->T k):Kept w w' T:=⟨h.os,h.tape,h.output,h.size,fun k hk ht=>h.block k hk fun h1=>ht (hs k h1)⟩
theorem contains_take {l:List Nat} {u m:Nat} (h:l[u]?=some m) (i:Nat):(l.take (u+1)).contains i=((l.take u).contains i||(i==m)):=by
 rw[List.take_add_one,h,List.contains_eq_any_beq,List.contains_eq_any_beq,List.any_append]
 simp
theorem results_cell_tmp {P:Program} {fn:Func} {tmps:Array Value} {a t t2:Nat} {ad:Addr} {v1 v2:Value} {w:World} (hf:fn.results=#[.cell a t,.tmp t2]) (ha:tmps.getD a undef = .pointer (some ad)) (hl:(loadVar t ad).run P w = .ok v1 w) (h2:tmps.getD t2 undef=v2) :
  (results fn tmps).run P w = .ok (.tuple #[v1,v2]) w:=by
 unfold results
 rw[hf]
 simp only[List.mapM_toArray,List.mapM_cons,List.mapM_nil,ha,h2,asAddr,bind_pure_comp,map_pure,pure_bind]
 generalize loadVar t ad=m at *
 simp[hl]
set_option maxRecDepth 100000 in
set_option maxHeartbeats 16000000 in
theorem wrong_any {w:World} {B n c:Nat} {A:Option Addr} {k:Int} {v:Vd} {pl:Value} {L:List Sn} (hL:SnsRd w B A n L) (hB:B<=w.heap.size) (hn:n<=255) (hpl:pl.oneCell'=true)
  (hbn:∀ s∈L,s.blocks.length<=1099511627776) (hlen:∀ s∈L,∀ b∈s.blocks,b.length<=1099511627776) :
  Calls Tryz.prog 20 #[.int .i64 k,.agg #[.int .i64 v.kind,.int .i64 v.ep,.int .i64 v.ct,.int .i64 v.size,pl],.slice A n c] w fun x w'=>WrongOk w w' (resJ k v L) (mst v L) x:=by
 have hLl:=hL.len
 obtain⟨G,hG⟩:∃ G,w.heap.size=G:=⟨_,rfl⟩
 obtain⟨Z,hZ⟩:∃ Z,(List.replicate 255 (Value.bool false)).toArray=Z:=⟨_,rfl⟩
 have hz83:=(zero_of_info infoFl).1
 rw[hZ] at hz83
 obtain⟨w0,hw0⟩:∃ w0,((w.alloc (.cells #[.int .i64 v.kind,.int .i64 v.ep,.int .i64 v.ct,.int .i64 v.size,pl] tVd)).alloc (.cells Z tFl)).alloc (.cells Z tFl)=w0:=⟨_,rfl⟩
 have hb0:Below w.heap.size w w0:=by rw[<-hw0];exact (((Below.refl _ _).alloc (Nat.le_refl _) _).alloc (by simp) _).alloc (by simp;omega) _
 have hs0:w0.heap.size=G+3:=by rw[<-hw0,<-hG];simp
 have hf1:FlM w0 (G+1) fun _=>false:=by
  have h:=fl_new (w.alloc (.cells #[.int .i64 v.kind,.int .i64 v.ep,.int .i64 v.ct,.int .i64 v.size,pl] tVd)) fun _=>false
  rw[flC_false,hZ] at h
  rw[show (w.alloc (.cells #[.int .i64 v.kind,.int .i64 v.ep,.int .i64 v.ct,.int .i64 v.size,pl] tVd)).heap.size=G+1 by simp[hG]] at h
  have h2:=h.below ((Below.refl _ _).alloc (Nat.le_refl _) (.cells Z tFl))
  rw[hw0] at h2
  exact h2
 have hf2:FlM w0 (G+2) fun _=>false:=by
  have h:=fl_new ((w.alloc (.cells #[.int .i64 v.kind,.int .i64 v.ep,.int .i64 v.ct,.int .i64 v.size,pl] tVd)).alloc (.cells Z tFl)) fun _=>false
  rw[flC_false,hZ,hw0,show ((w.alloc (.cells #[.int .i64 v.kind,.int .i64 v.ep,.int .i64 v.ct,.int .i64 v.size,pl] tVd)).alloc (.cells Z tFl)).heap.size=G+2 by simp[hG]] at h
  exact h
 have hM40:=mst_le (v:=v) hbn
 obtain⟨M,hM⟩:∃ M,mst v L=M:=⟨_,rfl⟩
 rw[hM] at hM40
 obtain⟨res,hres⟩:∃ res,resJ k v L=res:=⟨_,rfl⟩
 rw[hM,hres]
 have HL:=Hd hL
 have HL0:=Hd (show SnsRd w0 B A n L from hL.below (hb0.mono hB))
 have HLL:=Hd hLl
 have HG:=Hd hG
 have HZ:=Hd hZ
 have HW0:=Hd hw0
 have HB0:=Hd hb0
 have HS0:=Hd hs0
 have HF1:=Hd hf1
 have HF2:=Hd hf2
 have HM:=Hd hM
 have HRES:=Hd (show ∀ j,mendF k (rowsJ v L j)=res j from fun j=>by rw[<-hres];rfl)
 have HRL:=Hd (show ∀ j,∀ r∈rowsJ v L j,r.length<=1099511627776 from fun j r hr=>by
  obtain⟨s,hs,rfl⟩:=List.mem_map.1 hr
  split
  ·rw[List.getD_eq_getElem?_getD]
   cases hb:s.blocks[j]? with
   | none=>simp
   | some b=>exact hlen s hs b (List.mem_of_getElem? hb)
  ·simp)
 have hgBG:B<=G:=by omega
 clear hL hLl hG hZ hw0 hb0 hs0 hf1 hf2 hM hres hbn hlen
 go_enter Tryz.func20,Tryz.ntmps20
 go_wp2_with (go_at_call 34;rw[HW0.out];refine (writing_any HL0.out (by have:=HS0.out;omega) (by omega) hpl).mono ?_;rintro x w1 ⟨⟨V,vs,rfl,h1,h2⟩,h3⟩;rw[HM.out];have HOWN:=Hd h1;have HVS:=Hd h2;have HB1:=Hd h3;clear h1 h2 h3)
 clear hz83
 rw[HG.out]
 have HB1':=Hd (show Below (G+3) w0 w1 by have:=HB1.out;rwa [HS0.out] at this)
 have HK0:=Hd (show Kept w1 w1 (fun b=>b=G+2) from Kept.refl _ _)
 have hVlt:=ow_lt HOWN.out
 have hs0:=HS0.out
 have hV2:G+3<=V/\V<w1.heap.size:=by omega
 clear hVlt hs0
 have HFM0:=Hd (show FlM w1 (G+2) (metB res 0) from (HF2.out.below HB1.out).congr (fun i=>rfl))
 have HFR0:=Hd (HF1.out.below HB1.out)
 go_wp2
 go_loopw [9,28] (fun lv jv wr=>∃ j:Nat,jv = .int .i64 (j:Int)/\j<=M/\lv = .bool (unkB res j)/\FlM wr (G+2) (metB res j)/\Kept w1 wr (fun b=>b=G+2)) (fun _ jv _=>M - (intOf jv).toNat)
 case atStart=>exact⟨0,rfl,Nat.zero_le _,rfl,HFM0.out,HK0.out⟩
 case round=>
  obtain⟨j,rfl,hj,rfl,hfl,hk⟩:=hrel
  by_cases hjM:j<M
  ·have hjM2:(j:Int)<(M:Int):=by omega
   obtain⟨lo,hlo⟩:∃ lo,unkB res j=lo:=⟨_,rfl⟩
   rw[hlo]
   have hpk:∀ i,∃ u:Value,∀ s,L[i]?=some s->∃ Ab cb,vs i = .slice Ab (ownB v s).length cb/\(∃ Ai ci,u = .slice Ai ((ownB v s).getD j []).length ci/\Rd w1 B 1 Ai ((ownB v s).getD j []).length (cU8 ((ownB v s).getD j [])))/\(j<(ownB v s).length->∃ ad,Ab=some ad/\ad.block<B/\w1.cell? (ad.add j)=some u)/\((ownB v s).length<=j->u = .slice none 0 0):=fun i=>by
    cases h:L[i]? with
    | none=>exact⟨undef,fun s hs=>by cases hs⟩
    | some s=>
     obtain⟨Ab,cb,h1,h2⟩:=HVS.out i s h
     obtain⟨u,h3,h4,h5⟩:=row_pick h2 j
     exact⟨u,fun s' hs=>by injection hs with hs;subst hs;exact⟨Ab,cb,h1,h3,h4,h5⟩⟩
   obtain⟨us,hus⟩:=Classical.axiomOfChoice hpk
   have hmk:=run_makeV wr 67 tRs (.slice none 0 0) 24 Tryz.underlying67 infoRs rfl (by decide) n (by omega)
   obtain⟨Zr,hZr⟩:∃ Z,(fromV n fun _=>Value.slice none 0 0)=Z:=⟨_,rfl⟩
   rw[hZr] at hmk
   obtain⟨wo,rfl⟩:∃ wo,wo=wr:=⟨_,rfl⟩
   obtain⟨R,hR⟩:∃ R,wo.heap.size=R:=⟨_,rfl⟩
   have hrow0:(wo.alloc (.cells Zr.toArray tRs)).ownsRow R tRs 1 (slE R n) n (fromV n (upto us (.slice none 0 0) 0)):=by
    rw[upto_zero,hZr,<-hR]
    exact Dr.own_new wo (Nat.le_refl _) tRs 1 n Zr (by rw[<-hZr];simp[fromV]) (by unfold maxLen;omega)
   have hbR0:Below R wo (wo.alloc (.cells Zr.toArray tRs)):=by rw[<-hR];exact (Below.refl _ wo).alloc (Nat.le_refl _) _
   rw[hR] at hmk
   have hV2R:V<R:=by have:=hk.size;omega
   have hGR:G+3<=R:=by omega
   have HMK:=Hd hmk
   have HR:=Hd hR
   have HLO:=Hd hlo
   have HFL:=Hd hfl
   have HK:=Hd hk
   have HUS:=Hd hus
   have HZR:=Hd hZr
   have HROW0:=Hd hrow0
   have HBR0:=Hd hbR0
   clear hpk hus hmk hZr hR hrow0 hbR0 hfl hk hlo
   have hmk:=HMK.out
   have hR:=HR.out
   go_wp2
   clear hmk hR
   go_loopw [36] (fun iv wr=>∃ i:Nat,iv = .int .i64 (i:Int)/\i<=n/\wr.ownsRow R tRs 1 (slE R n) n (fromV n (upto us (.slice none 0 0) i))/\Below R wo wr) (fun iv _=>n - (intOf iv).toNat)
   case atStart=>exact⟨0,rfl,Nat.zero_le _,HROW0.out,HBR0.out⟩
   case round=>
    obtain⟨i,rfl,hi,hrow,hb⟩:=hrel
    by_cases hin:i<n
    ·have hin2:(i:Int)<(n:Int):=by omega
     have hi00:(0:Int)<=(i:Int):=by omega
     have hj00:(0:Int)<=(j:Int):=by omega
     obtain⟨s,hs⟩:∃ s,L[i]?=some s:=⟨_,List.getElem?_eq_getElem (by rw[HLL.out];exact hin)⟩
     obtain⟨Ab,cb,hvs,hrow1,hcell,hnil⟩:=HUS.out i s hs
     obtain⟨len,hlen⟩:∃ len,(ownB v s).length=len:=⟨_,rfl⟩
     rw[hlen] at hvs hcell hnil
     have hkw:Kept w1 wr (fun b=>b=G+2):=HK.out.trans (Kept.of_below (fun _=>False) (by rw[HR.out];exact hb)) (fun k h=>h.elim)
     have c0:wr.cell? ⟨V,i,none⟩=some (.slice Ab len cb):=by
      have h:=ow_cell HOWN.out hin (fromV_get hin)
      rw[hvs] at h
      exact (World.cell?_of_block (hkw.block V hV2.2 (by omega))).trans h
     have HNIL:=Hd hnil
     by_cases hjl:j<len
     ·have hjl2:(j:Int)<(len:Int):=by omega
      obtain⟨ad,rfl,had,hc⟩:=hcell hjl
      obtain⟨Ai,ci,hu,hrd⟩:=hrow1
      have hadG:ad.block<G:=by omega
      have c1:wr.cell? (ad.add j)=some (us i):=by
       refine (World.cell?_of_block (hkw.block _ ?_ ?_)).trans hc
       ·rw[add_block];omega
       ·rw[add_block];omega
      rw[hu] at c1
      have c2:=ow_cell hrow hin (fromV_get hin)
      have f2:=ow_free (i:=i) hrow
      have hn2:=ow_store (i:=i) hrow (.slice Ai ((ownB v s).getD j []).length ci)
      rw[fromV_set,upto_step' hu] at hn2
      have HN2:=Hd hn2
      have HB2:=Hd (hb.setCell (p:=⟨R,i,none⟩) (Nat.le_refl _) (.slice Ai ((ownB v s).getD j []).length ci))
      clear hrow hb hvs hlen hcell hnil hkw hc hu hrd hn2
      go_wp2
      go_roundw
      case rel=>exact⟨i+1,by go_num,by omega,HN2.out,HB2.out⟩
      case measure=>simp[intOf];omega
     ·have hjl2:¬ (j:Int)<(len:Int):=by omega
      have HKEEP:=Hd (upto_keep (HNIL.out (by omega)))
      have HROW:=Hd hrow
      have HB2:=Hd hb
      clear hrow hb hvs hlen hcell hnil hkw hrow1
      go_wp2
      go_roundw
      case rel=>exact⟨i+1,by go_num,by omega,by rw[HKEEP.out];exact HROW.out,HB2.out⟩
      case measure=>simp[intOf];omega
    ·obtain rfl:i=n:=by omega
     have e:fromV i (upto us (.slice none 0 0) i)=fromV i us:=fromV_congr fun q hq=>upto_all hq
     rw[e] at hrow
     have hkw:Kept w1 wr (fun b=>b=G+2):=HK.out.trans (Kept.of_below (fun _=>False) (by rw[HR.out];exact hb)) (fun k h=>h.elim)
     have hrR:=ow_lt hrow
     have hrows:RowsRd wr wr.heap.size (some ⟨R,0,none⟩) i (rowsJ v L j):=by
      refine⟨by simp[rowsJ,HLL.out],_,Rd.of_own hrow,fun q r hr=>?_⟩
      have hqL:q<L.length:=by
       have:=(List.getElem?_eq_some_iff.1 hr).1
       simpa [rowsJ] using this
      obtain⟨s,hs⟩:∃ s,L[q]?=some s:=⟨_,List.getElem?_eq_getElem hqL⟩
      rw[rowsJ_get hs] at hr
      injection hr with hr
      subst hr
      obtain⟨_,_,_,⟨Ai,ci,hu,hrd⟩,_,_⟩:=HUS.out q s hs
      refine⟨Ai,ci,by rw[fromV_get (by rw[HLL.out] at hqL;exact hqL),hu],?_⟩
      exact (hrd.keep fun p hp=>World.cell?_of_block (hkw.block _ (by omega) (by omega))).more (by omega)
     have HROWS:=Hd hrows
     have HB2:=Hd hb
     have HKW:=Hd hkw
     clear hrow hb hkw hrows hrR e
     go_upto_region 15 with (go_at_call 35;refine (mend_any HROWS.out (Nat.le_refl _) (HRL.out j)).mono ?_;intro x w4 h4;obtain⟨ov,A5,c5,e5,rfl,he5,hr5,hb5⟩:=h4.form;clear h4;rw[HRES.out j] at he5 hr5;rw[HRES.out j])
     obtain⟨ws,hws⟩:∃ ws,(res j).getD []=ws:=⟨_,rfl⟩
     rw[hws] at hr5 ⊢
     have hwl:∀ m∈ws,m<255:=fun m hm=>by
      have h:=mendF_lt (k:=k) (R:=rowsJ v L j) (m:=m) (by rw[HRES.out j,hws];exact hm)
      simp[rowsJ,HLL.out] at h
      omega
     obtain⟨eb,heb⟩:∃ eb,(res j).isNone=eb:=⟨_,rfl⟩
     rw[heb] at he5
     have HE5:=Hd he5
     have hK4:Kept w1 w4 (fun b=>b=G+2):=HKW.out.below hb5
     have hF4:FlM w4 (G+2) (metB res j):=by
      have h1:FlM wr (G+2) (metB res j):=HFL.out.below (by rw[HR.out];exact HB2.out)
      exact h1.below hb5
     have HK4:=Hd hK4
     have HF4:=Hd hF4
     have HR5:=Hd hr5
     have HWS:=Hd hws
     have HWL:=Hd hwl
     have HEB:=Hd heb
     obtain⟨N5,hN5⟩:∃ N5,ws.length=N5:=⟨_,rfl⟩
     have hN5m:N5<=1099511627776:=by
      have h0:ws.length<=255:=by
       have h:=HRES.out j
       have h2:=ws_le (k:=k) (R:=rowsJ v L j)
       rw[h,hws] at h2
       have h3:(rowsJ v L j).length=i:=by simp[rowsJ,HLL.out]
       omega
      omega
     rw[hN5]
     have HN5:=Hd hN5
     clear he5 hK4 hF4 hr5 hws hwl heb hN5 HROWS
     have HF40:=Hd (show FlM w4 (G+2) (fun q=>metB res j q||(ws.take 0).contains q) from HF4.out.congr fun q=>by simp)
     have HK40:=Hd (Kept.refl w4 (fun b=>b=G+2))
     have hG4:G+3<=w4.heap.size:=by have:=HK4.out.size;omega
     cases lo with
     | true=>
      have tok:=trivial
      have HNEW:=Hd (show unkB res (j+1)=true by rw[unkB_succ,HLO.out,HEB.out];cases eb<;>rfl)
      go_wp2
      clear tok
      go_loopw [67] (fun uv wu=>∃ u:Nat,uv = .int .i64 (u:Int)/\u<=N5/\FlM wu (G+2) (fun q=>metB res j q||(ws.take u).contains q)/\Kept w4 wu (fun b=>b=G+2)) (fun uv _=>N5 - (intOf uv).toNat)
      case atStart=>exact⟨0,rfl,Nat.zero_le _,HF40.out,HK40.out⟩
      case round=>
       obtain⟨u,rfl,hu,hfl,hk⟩:=hrel
       by_cases hul:u<N5
       ·have hul2:(u:Int)<(N5:Int):=by omega
        have hu00:(0:Int)<=(u:Int):=by omega
        obtain⟨m,hm⟩:∃ m,ws[u]?=some m:=⟨_,List.getElem?_eq_getElem (by rw[HN5.out];exact hul)⟩
        have hm255:m<255:=HWL.out m (List.mem_of_getElem? hm)
        have hm255':(m:Int)<255:=by omega
        have hm00:(0:Int)<=(m:Int):=by omega
        obtain⟨ad,v5,rfl,had,hv5,hc5⟩:=HR5.out.at_ (show u<ws.length by rw[HN5.out];exact hul)
        have hv6:v5 = .int .i64 (m:Int):=by
         rw[List.getElem?_map,hm] at hv5
         injection hv5 with hv5
         exact hv5.symm
        subst hv6
        have hne:=HF4.out.ne hc5
        rw[add_block] at hne
        have c5':wr.cell? (ad.add u)=some (.int .i64 (m:Int)):=(World.cell?_of_block (hk.block _ (by rw[add_block];exact had) (by rw[add_block];exact hne))).trans hc5
        have f5:=hfl.free (i:=m)
        have x5:=hfl.cell (i:=m) hm255
        have HFL5:=Hd ((hfl.set m).congr (F':=fun q=>metB res j q||(ws.take (u+1)).contains q) (fun q=>by rw[contains_take hm,Bool.or_assoc]))
        have HK5:=Hd (show Kept w4 (wr.setCell ⟨G+2,m,none⟩ (.bool true)) (fun b=>b=G+2) from kept_set hk rfl)
        clear hfl hk hm hv5 hc5 hne
        go_wp2
        go_roundw
        case rel=>exact⟨u+1,by go_num,by omega,HFL5.out,HK5.out⟩
        case measure=>simp[intOf];omega
       ·obtain rfl:u=N5:=by omega
        have HFJ:=Hd (show FlM wr (G+2) (metB res (j+1)) from hfl.congr fun q=>by
         rw[metB_succ,HWS.out,List.take_of_length_le (by rw[HN5.out];exact Nat.le_refl _)])
        have HKJ:=Hd (show Kept w1 wr (fun b=>b=G+2) from HK4.out.trans hk (fun b hb=>.inl hb))
        clear hfl hk
        go_wp2
        go_roundw
        case rel=>exact⟨j+1,by go_num,by omega,by rw[HNEW.out],HFJ.out,HKJ.out⟩
        case measure=>simp[intOf];omega
     | false=>
      have he5:=HE5.out
      have HNEW:=Hd (show unkB res (j+1)=eb by rw[unkB_succ,HLO.out,HEB.out];cases eb<;>rfl)
      go_wp2
      clear he5
      go_loopw [67] (fun uv wu=>∃ u:Nat,uv = .int .i64 (u:Int)/\u<=N5/\FlM wu (G+2) (fun q=>metB res j q||(ws.take u).contains q)/\Kept w4 wu (fun b=>b=G+2)) (fun uv _=>N5 - (intOf uv).toNat)
      case atStart=>exact⟨0,rfl,Nat.zero_le _,HF40.out,HK40.out⟩
      case round=>
       obtain⟨u,rfl,hu,hfl,hk⟩:=hrel
       by_cases hul:u<N5
       ·have hul2:(u:Int)<(N5:Int):=by omega
        have hu00:(0:Int)<=(u:Int):=by omega
        obtain⟨m,hm⟩:∃ m,ws[u]?=some m:=⟨_,List.getElem?_eq_getElem (by rw[HN5.out];exact hul)⟩
        have hm255:m<255:=HWL.out m (List.mem_of_getElem? hm)
        have hm255':(m:Int)<255:=by omega
        have hm00:(0:Int)<=(m:Int):=by omega
        obtain⟨ad,v5,rfl,had,hv5,hc5⟩:=HR5.out.at_ (show u<ws.length by rw[HN5.out];exact hul)
        have hv6:v5 = .int .i64 (m:Int):=by
         rw[List.getElem?_map,hm] at hv5
         injection hv5 with hv5
         exact hv5.symm
        subst hv6
        have hne:=HF4.out.ne hc5
        rw[add_block] at hne
        have c5':wr.cell? (ad.add u)=some (.int .i64 (m:Int)):=(World.cell?_of_block (hk.block _ (by rw[add_block];exact had) (by rw[add_block];exact hne))).trans hc5
        have f5:=hfl.free (i:=m)
        have x5:=hfl.cell (i:=m) hm255
        have HFL5:=Hd ((hfl.set m).congr (F':=fun q=>metB res j q||(ws.take (u+1)).contains q) (fun q=>by rw[contains_take hm,Bool.or_assoc]))
        have HK5:=Hd (show Kept w4 (wr.setCell ⟨G+2,m,none⟩ (.bool true)) (fun b=>b=G+2) from kept_set hk rfl)
        clear hfl hk hm hv5 hc5 hne
        go_wp2
        go_roundw
        case rel=>exact⟨u+1,by go_num,by omega,HFL5.out,HK5.out⟩
        case measure=>simp[intOf];omega
       ·obtain rfl:u=N5:=by omega
        have HFJ:=Hd (show FlM wr (G+2) (metB res (j+1)) from hfl.congr fun q=>by
         rw[metB_succ,HWS.out,List.take_of_length_le (by rw[HN5.out];exact Nat.le_refl _)])
        have HKJ:=Hd (show Kept w1 wr (fun b=>b=G+2) from HK4.out.trans hk (fun b hb=>.inl hb))
        clear hfl hk
        go_wp2
        go_roundw
        case rel=>exact⟨j+1,by go_num,by omega,by rw[HNEW.out],HFJ.out,HKJ.out⟩
        case measure=>simp[intOf];omega
  ·obtain rfl:j=M:=by omega
   have HFL:=Hd hfl
   have HK:=Hd hk
   have HFR:=Hd (show FlM wr (G+1) fun _=>false from (hk.block _ HFR0.out.lt (by omega)).trans HFR0.out)
   have HST:=Hd (fl_store HFR.out (metB res j))
   have hne:G+1≠G+2:=by omega
   have HLD:=Hd (fl_load (fl_stored HFR.out (metB res j)))
   have HRG:=Hd hfl.range
   clear hfl hk
   obtain⟨Fa,hFa⟩:∃ Fa,flC (metB res j)=Fa:=⟨_,rfl⟩
   have hFl:(Tryz.prog.info? tFl).map (fun i=>i.size)=some Fa.length:=by rw[<-hFa,flC_len];exact fl_size
   rw[hFa] at HRG HST HLD
   have HFA:=Hd hFa
   have HFI:=Hd hFl
   clear hFa hFl
   go_wp2_with (first | (refine wpList_load_mid rfl tFl (.tmp 8) rfl (G+2) 0 rfl Fa _ HRG.out Tryz.underlying83 rfl HFI.out ?_) | (refine wpList_store_by rfl tFl (.tmp 6) (.tmp 75) rfl _ _ rfl rfl HST.out ?_))
   have hld:=HLD.out
   refine bodyPost_ret (v:=.tuple #[.agg Fa.toArray,.bool (unkB res j)]) (results_cell_tmp Tryz.results20 rfl hld rfl) rfl ?_
   refine⟨by rw[HFA.out],?_⟩
   have h1:=kept_row (G:=G+1) (kept_mono HK.out (T:=fun b=>G<=b) (fun b (h:b=G+2)=>show G<=b by omega)) (.inl (show G<=G+1 by omega)) Fa.toArray
   have h2:=h1.to_below (B:=G) (by omega) (fun b h=>h)
   have h3:=HB0.out
   rw[HG.out] at h3 ⊢
   exact h3.trans ((HB1'.out.mono (by omega)).trans h2)
end Go.Proofs.YtmgljaecmchgaaaGreat.Gf
namespace Go.Proofs.YtmgljaecmchgaaaGreat.Gf
open Go.RowKit Go.Proofs
theorem set_all (n:Nat):∀ (l:List Value) (k:Nat) (acc:Array Value),acc.size=k+l.length->(l.zipIdx k).foldl (fun cs x=>cs.setIfInBounds (0*n+x.2) x.1) acc=(acc.toList.take k++l).toArray
 | [],k,acc,h=>by
  have:acc.toList.length=k:=by simpa using h
  rw[List.append_nil,List.take_of_length_le (by omega)]
  simp
 | v::l,k,acc,h=>by
  rw[List.zipIdx_cons,List.foldl_cons,set_all n l (k+1) _ (by simp at h ⊢;omega)]
  congr 1
  simp only[Nat.zero_mul,Nat.zero_add,Array.toList_setIfInBounds]
  have hk:k<acc.toList.length:=by simp at h ⊢;omega
  rw[List.take_add_one,List.getElem?_set_self hk,List.take_set,List.set_eq_of_length_le (by simp;omega)]
  simp
theorem fill_one (C z:Array Value) (n:Nat) (hn:C.size=n):Instr.fill (fun i=>some (i*n,n)) ((Array.range (1*n)).map (z[· % z.size]!)) [(0,.agg C)]=some C:=by
 have h:=set_all n C.toList 0 ((Array.range (1*n)).map (z[· % z.size]!)) (by simp[hn])
 subst hn
 have e:(Value.agg C).cells=C:=rfl
 unfold Instr.fill
 simp only[e]
 have h1:((C.size≠C.size)||(0*C.size+C.size>((Array.range (1*C.size)).map (z[· % z.size]!)).size))=false:=by simp
 rw[h1]
 unfold Instr.fill
 simp only[Bool.false_eq_true,if_false]
 congr 1
 rw[<-Array.foldl_toList]
 simpa using h
theorem run_litS (W:World) (t e:TypeId) (z:Value) (n sz:Nat) (ht:Tryz.prog.underlying t=some (.slice e)) (he:(Tryz.prog.info? e).map (fun i=>(i.zero,i.size,i.bytes))=some (some z,n,sz)) (hn0:0<n) (hn1:n<=1024) (C:Array Value) (hC:C.size=n) :
  (Instr.buildSlice t 1 #[(0,.agg C)]).run Tryz.prog W = .ok (.slice (some ⟨W.heap.size,0,none⟩) 1 1) (W.alloc (.cells C e)):=by
 obtain⟨i0,hi,hz0,hz1,hz2⟩:=info_parts he
 exact run_buildSlice (P:=Tryz.prog) W t e 1 #[(0,.agg C)] C i0 z ht hi hz0 (by rw[hz1];omega) (by rw[hz1];omega) (by rw[hz1];exact fill_one C z.cells n hC)
theorem rd_newS (W:World) (n:Nat) (C:List Value) (hC:C.length=n) (e:TypeId):Rd (W.alloc (.cells C.toArray e)) (W.alloc (.cells C.toArray e)).heap.size n (some ⟨W.heap.size,0,none⟩) 1 C:=
 ⟨by omega,fun _=>⟨_,rfl,by simp,new_cells W C e⟩⟩
abbrev tFinds:TypeId:=47
theorem infoFd:(Tryz.prog.info? tFind).map (fun i=>(i.zero,i.size,i.bytes))=some (some (.agg #[.string ⟨#[]⟩,.int .i64 0,.int .i64 0,.int .i64 0,.int .i64 0]),5,48):=by kernel_rfl
def fdC (key:List UInt8) (f:Fd):List Value:=[.string ⟨key.toArray⟩,.int .i64 f.place,.int .i64 f.kind,.int .i64 f.ep,.int .i64 f.ct]
def cFd (key:List UInt8) (l:List Fd):List Value:=l.flatMap (fdC key)
theorem cFd_snoc (key:List UInt8) (l:List Fd) (f:Fd):cFd key (l++[f])=cFd key l++fdC key f:=by simp[cFd]
structure FO (W:World) (base U:Nat) (key:List UInt8) (l:List Fd):Prop where
 row:∃ A c,W.heap[U]?=some (.cells #[.slice A l.length c] tFinds (0,0))/\W.ownsRow base tFind 5 (.slice A l.length c) l.length (cFd key l)
section
variable {W W':World} {base U:Nat} {key:List UInt8} {l:List Fd}
theorem FO.below (h:FO W base U key l) (hb:Below W.heap.size W W'):FO W' base U key l:=by
 obtain⟨A,c,h1,h2⟩:=h.row
 exact⟨A,c,(hb.block U (Array.getElem?_eq_some_iff.1 h1).1).trans h1,own_below h2 hb⟩
end
theorem fdC_one (key:List UInt8) (f:Fd):∀ u∈fdC key f,u.oneCell'=true:=by
 intro u hu
 simp[fdC] at hu
 rcases hu with rfl | rfl | rfl | rfl | rfl<;>rfl
theorem own_off {w:World} {base:Nat} {e:TypeId} {size n:Nat} {v:Value} {xs:List Value} (h:w.ownsRow base e size v n xs) {U:Nat} (hU:U<base):some U≠v.ownBlock:=by
 rcases h.2 with ⟨rfl,_⟩ | ⟨g,cap,cur,rfl,hb,_⟩
 ·simp[Value.ownBlock]
 ·intro e
  injection e with e
  have e2:U=g:=e
  omega
theorem own_blk {w:World} {base:Nat} {e:TypeId} {size n:Nat} {v:Value} {xs:List Value} (h:w.ownsRow base e size v n xs) {b:Nat} (hb:v.ownBlock=some b):base<=b:=by
 rcases h.2 with ⟨rfl,_⟩ | ⟨g,cap,cur,rfl,h1,_⟩
 ·simp[Value.ownBlock] at hb
 ·simp[Value.ownBlock] at hb;omega
structure SayOk (W w':World) (base U:Nat) (key:List UInt8) (l:List Fd) (x:Ending):Prop where
 out:x = .returned (.tuple #[])
 now:FO w' base U key l
 kept:Kept W w' (fun b=>b=U\/base<=b)
set_option maxRecDepth 100000 in
set_option maxHeartbeats 4000000 in
theorem say_any {W:World} {base U Kb:Nat} {key:List UInt8} {l:List Fd} (f:Fd) (h:FO W base U key l) (hU:U<base) (hKb:Kb<base) (hbase:base<=W.heap.size) (hK:W.cell? ⟨Kb,0,none⟩=some (.string ⟨key.toArray⟩)) (hl:l.length<=100000) :
  Calls Tryz.prog 19 #[.int .i64 f.place,.int .i64 f.kind,.agg #[.int .i64 f.ep,.int .i64 f.ct],.pointer (some ⟨U,0,none⟩),.pointer (some ⟨Kb,0,none⟩)] W fun x w'=>SayOk W w' base U key (l++[f]) x:=by
 obtain⟨A,c,h1,h2⟩:=h.row
 obtain⟨i0,hi0,hz0,hz1,hz2⟩:=info_parts infoFd
 have hUl:U<W.heap.size:=(Array.getElem?_eq_some_iff.1 h1).1
 have hKl:Kb<W.heap.size:=by omega
 have hcU:W.cell? ⟨U,0,none⟩=some (.slice A l.length c):=by rw[cell_of_row W U 0 _ _ _ h1];rfl
 obtain⟨w1,hw1⟩:∃ w1,W.alloc (.cells #[.int .i64 f.ep,.int .i64 f.ct] 27)=w1:=⟨_,rfl⟩
 have hb1:Below W.heap.size W w1:=by rw[<-hw1];exact (Below.refl _ _).alloc (Nat.le_refl _) _
 have hs1:w1.heap.size=W.heap.size+1:=by rw[<-hw1];simp
 have hl1:=run_litS w1 tFinds tFind _ 5 48 Tryz.underlying47 infoFd (by decide) (by decide) #[.string ⟨key.toArray⟩,.int .i64 f.place,.int .i64 f.kind,.int .i64 f.ep,.int .i64 f.ct] rfl
 obtain⟨w2,hw2⟩:∃ w2,w1.alloc (.cells (fdC key f).toArray tFind)=w2:=⟨_,rfl⟩
 have hb2:Below W.heap.size W w2:=by rw[<-hw2];exact hb1.alloc (by omega) _
 have hs2:W.heap.size<=w2.heap.size:=hb2.size
 have hr2:=rd_newS w1 5 (fdC key f) rfl tFind
 rw[hw2,hs1] at hr2
 rw[hs1] at hl1
 have ho2:w2.ownsRow base tFind 5 (.slice A l.length c) l.length (cFd key l):=own_below h2 hb2
 have hh2:w2.heap[U]?=some (.cells #[.slice A l.length c] tFinds (0,0)):=(hb2.block U hUl).trans h1
 have HO2:=Hd ho2
 have HR2:=Hd hr2
 have HB2:=Hd hb2
 have HW2:=Hd (show (W.alloc (.cells #[.int .i64 f.ep,.int .i64 f.ct] 27)).alloc (.cells #[.string ⟨key.toArray⟩,.int .i64 f.place,.int .i64 f.kind,.int .i64 f.ep,.int .i64 f.ct] tFind)=w2 by rw[hw1];exact hw2)
 have HH:=Hd hh2
 have HOLD:=Hd h2
 rw[<-hw1] at hl1
 clear hw2 hb1 hs1 hb2 hr2 ho2 h2 hh2 h h1 hw1
 go_enter Tryz.func19,Tryz.ntmps19
 go_wp2_with (at_builtin;rw[HW2.out];go_loud (refine wpList_append_rd _ rfl (.tmp 8) (.tmp 14) 47 rfl base tFind i0 _ 5 48 Tryz.underlying47 hi0 hz0 hz1 hz2 rfl (by decide) (.slice A l.length c) l.length (cFd key l) rfl HO2.out _ (some ⟨W.heap.size+1,0,none⟩) 1 1 (fdC key f) rfl HR2.out (fun h=>by cases h) (fdC_one key f) (by unfold maxLen;omega) (by omega) (by omega) ?_);intro v3 w3 h3 hg3;rw[<-cFd_snoc] at h3;obtain⟨A3,c3,rfl,_,_⟩:=own_form h3;have hne3:=own_off HO2.out hU;have hh3:=(hg3.block U (Array.getElem?_eq_some_iff.1 HH.out).1 hne3).trans HH.out;have HO3:=Hd h3;have HH3:=Hd hh3;have HG3:=Hd hg3;have x3:w3.cell? ⟨U,0,none⟩=some (.slice A l.length c):=(by rw[cell_of_row w3 U 0 _ _ _ hh3];rfl);have f3:w3.frozen? ⟨U,0,none⟩=false:=frozen_of_row w3 U 0 _ _ hh3;clear h3 hh3 hg3 hne3)
 refine bodyPost_end (v:=.tuple #[]) (by simp[results,Tryz.results19,go_sem]) rfl ?_
 have hlen:l.length+1=(l++[f]).length:=by simp
 refine⟨rfl,⟨A3,c3,?_,?_⟩,?_⟩
 ·rw[<-hlen]
  exact Ring.heap_same HH3.out _
 ·rw[<-hlen]
  exact row_other HO3.out (fun e=>own_off HO3.out hU e.symm)
 ·exact kept_set (((Kept.of_below _ HB2.out).grown HG3.out (fun b hb=>by
   exact .inl (.inr (own_blk HO2.out hb))))) (.inl rfl)
end Go.Proofs.YtmgljaecmchgaaaGreat.Gf
