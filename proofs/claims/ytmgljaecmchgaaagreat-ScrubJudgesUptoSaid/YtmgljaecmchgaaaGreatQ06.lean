/- XFe, XRa1: merged by tools/merge.py. -/
import Derived.Test.YtmgljaecmchgaaaGreatQ05
import Derived.Test.YtmgljaecmchgaaaGreatQ02
set_option linter.unusedVariables false
set_option linter.unusedSimpArgs false
set_option linter.unusedSectionVars false
namespace Go.Proofs.YtmgljaecmchgaaaGreat.Gf
open Go.RowKit Go.Proofs
theorem bx64 (a b:Nat) (ha:a<65536) (hb:b<65536):bits .xor .i64 (a:Int) (b:Int)=((a ^^^ b:Nat):Int):=by
 have hx:a ^^^ b<2 ^ 16:=Nat.xor_lt_two_pow (by omega) (by omega)
 have h1:(BitVec.ofInt 64 (a:Int)).toNat=a:=by rw[BitVec.ofInt_natCast,BitVec.toNat_ofNat];exact Nat.mod_eq_of_lt (by omega)
 have h2:(BitVec.ofInt 64 (b:Int)).toNat=b:=by rw[BitVec.ofInt_natCast,BitVec.toNat_ofNat];exact Nat.mod_eq_of_lt (by omega)
 show IntKind.i64.wrap ((BitVec.ofInt 64 (a:Int) ^^^ BitVec.ofInt 64 (b:Int)).toNat:Int)=_
 rw[BitVec.toNat_xor,h1,h2]
 generalize a ^^^ b=q at hx
 simp[IntKind.wrap,IntKind.bits,IntKind.signed]
 omega
theorem bx8 (a b:UInt8):bits .xor .u8 (a.toNat:Int) (b.toNat:Int)=((a ^^^ b).toNat:Int):=by
 have ha:=UInt8.toNat_lt a
 have hb:=UInt8.toNat_lt b
 have hx:a.toNat ^^^ b.toNat<2 ^ 8:=Nat.xor_lt_two_pow (by omega) (by omega)
 have h1:(BitVec.ofInt 8 (a.toNat:Int)).toNat=a.toNat:=by rw[BitVec.ofInt_natCast,BitVec.toNat_ofNat];exact Nat.mod_eq_of_lt (by omega)
 have h2:(BitVec.ofInt 8 (b.toNat:Int)).toNat=b.toNat:=by rw[BitVec.ofInt_natCast,BitVec.toNat_ofNat];exact Nat.mod_eq_of_lt (by omega)
 show IntKind.u8.wrap ((BitVec.ofInt 8 (a.toNat:Int) ^^^ BitVec.ofInt 8 (b.toNat:Int)).toNat:Int)=_
 rw[BitVec.toNat_xor,h1,h2,UInt8.toNat_xor]
 generalize a.toNat ^^^ b.toNat=q at hx
 simp[IntKind.wrap,IntKind.bits,IntKind.signed]
 omega
theorem bit8 (b:UInt8) (k:Nat) (hk:k<8):(bits .and .u8 ((b.toNat:Int)/2 ^ k) 1==1)=b.toBitVec.getLsbD k:=by
 have h:∀ n:Fin 256,∀ k:Fin 8,(bits .and .u8 ((n.val:Int)/2 ^ k.val) 1==1)=(UInt8.ofNat n.val).toBitVec.getLsbD k.val:=by decide +kernel
 have:=h ⟨b.toNat,UInt8.toNat_lt b⟩ ⟨k,hk⟩
 simpa using this
theorem u8_le (a:UInt8):a.toNat<256:=UInt8.toNat_lt a
set_option maxRecDepth 100000 in
theorem times_any (a b:UInt8) (w:World):Calls Tryz.prog 79 #[.int .u8 (a.toNat:Int),.int .u8 (b.toNat:Int)] w fun e w'=>e = .returned (.int .u8 ((mul8 a b).toNat:Int))/\w=w':=by
 have ha:=u8_le a
 go_enter Tryz.func79,Tryz.ntmps79
 go_wp2
 go_loop [5,6,10] (fun p x i=>∃ k:Nat,k<=8/\i = .int .i64 k/\p = .int .i64 ((mulU k a b).toNat:Int)/\x = .int .i64 ((xtn k a).toNat:Int)) (fun _ _ i=>8 - (intOf i).toNat)
 case atStart=>exact⟨0,by omega,rfl,rfl,rfl⟩
 case round=>
  obtain⟨k,hk,rfl,rfl,rfl⟩:=hrel
  by_cases hlt:k<8
  ·obtain⟨P,hP⟩:∃ P,mulU k a b=P:=⟨_,rfl⟩
   obtain⟨X,hX⟩:∃ X,xtn k a=X:=⟨_,rfl⟩
   have hP':mulU (k+1) a b=P ^^^ bitOf b k X:=by rw[mulU,hP,hX]
   have hX':(xtn (k+1) a).toNat=if 255<2*X.toNat then (2*X.toNat) ^^^ 285 else 2*X.toNat:=by rw[xtn,hX];exact xt_nat X
   have hb:=bit8 b k hlt
   have hp:=u8_le P
   have hx:=u8_le X
   rw[hP,hX]
   have h1:bits .xor .i64 (P.toNat:Int) (X.toNat:Int)=((P ^^^ X).toNat:Int):=by rw[bx64 _ _ (by omega) (by omega),UInt8.toNat_xor]
   have h2:bits .xor .i64 ((X.toNat:Int)*2) 285=(((2*X.toNat) ^^^ 285:Nat):Int):=by
    have:=bx64 (2*X.toNat) 285 (by omega) (by omega)
    rw[<-this]
    congr 1
    omega
   have HP:=Hd hP'
   have HX:=Hd hX'
   clear hP' hX' hP hX
   unfold bitOf at HP
   by_cases hq:255<2*X.toNat
   ·have hq2:(255:Int)<(X.toNat:Int)*2:=by omega
    cases hbb:b.toBitVec.getLsbD k with
    | true=>
     rw[hbb] at hb HP
     clear hbb
     go_wp2
     go_round
     case rel=>exact⟨k+1,by omega,by go_num,by rw[HP.out];rfl,by rw[HX.out,if_pos hq]⟩
     case measure=>simp[intOf];omega
    | false=>
     rw[hbb] at hb HP
     clear hbb
     go_wp2
     go_round
     case rel=>exact⟨k+1,by omega,by go_num,by rw[HP.out];simp,by rw[HX.out,if_pos hq]⟩
     case measure=>simp[intOf];omega
   ·have hq2:¬ (255:Int)<(X.toNat:Int)*2:=by omega
    have h3:(((2*X.toNat:Nat)):Int)=(X.toNat:Int)*2:=by omega
    have H3:=Hd h3
    clear h3
    cases hbb:b.toBitVec.getLsbD k with
    | true=>
     rw[hbb] at hb HP
     clear hbb
     go_wp2
     go_round
     case rel=>exact⟨k+1,by omega,by go_num,by rw[HP.out];rfl,by rw[HX.out,if_neg hq,H3.out]⟩
     case measure=>simp[intOf];omega
    | false=>
     rw[hbb] at hb HP
     clear hbb
     go_wp2
     go_round
     case rel=>exact⟨k+1,by omega,by go_num,by rw[HP.out];simp,by rw[HX.out,if_neg hq,H3.out]⟩
     case measure=>simp[intOf];omega
  ·obtain rfl:k=8:=by omega
   have hm:=u8_le (mulU 8 a b)
   go_wp2
   go_ret
   exact⟨rfl,rfl⟩
set_option maxRecDepth 100000 in
theorem plus_any (a b:UInt8) (w:World):Calls Tryz.prog 78 #[.int .u8 (a.toNat:Int),.int .u8 (b.toNat:Int)] w fun e w'=>e = .returned (.int .u8 ((a ^^^ b).toNat:Int))/\w=w':=by
 have h:=bx8 a b
 go_enter Tryz.func78,Tryz.ntmps78
 go_wp2
 go_ret
 exact⟨rfl,rfl⟩
set_option maxRecDepth 100000 in
theorem isZero_any (a:UInt8) (w:World):Calls Tryz.prog 130 #[.int .u8 (a.toNat:Int)] w fun e w'=>e = .returned (.bool (decide (a=0)))/\w=w':=by
 have h:((a.toNat:Int)==0)=decide (a=0):=by
  by_cases e:a=0
  ·subst e;rfl
  ·have:¬ (a.toNat=0):=fun h=>e (UInt8.toNat_inj.1 (by simpa using h))
   simp[e,this]
 go_enter Tryz.func130,Tryz.ntmps130
 go_wp2
 go_ret
 exact⟨rfl,rfl⟩
set_option maxRecDepth 100000 in
theorem pow_any (a:UInt8) (ha:a≠0) (w:World):Calls Tryz.prog 117 #[.int .u8 (a.toNat:Int),.int .i64 254] w fun e w'=>e = .returned (.int .u8 ((pow254 a).toNat:Int))/\w=w':=by
 have h0:¬ ((a.toNat:Int)=0):=fun h=>ha (UInt8.toNat_inj.1 (by simpa using h))
 have h00:((a.toNat:Int)==0)=false:=by simpa using h0
 clear ha h0
 go_enter Tryz.func117,Tryz.ntmps117
 go_wp2
 go_loop [0,1,5] (fun x n p=>∃ (f n0:Nat) (a0 p0:UInt8),n0<2 ^ f/\n = .int .i64 (n0:Int)/\x = .int .u8 (a0.toNat:Int)/\p = .int .u8 (p0.toNat:Int)/\powU f p0 a0 n0=pow254 a/\f<=8) (fun _ n _=>(intOf n).toNat)
 case atStart=>exact⟨8,254,a,1,by decide,rfl,rfl,rfl,rfl,by omega⟩
 case round=>
  obtain⟨f,n0,a0,p0,hf,rfl,rfl,rfl,hp,hf8⟩:=hrel
  by_cases hn:n0=0
  ·subst hn
   have hp2:p0=pow254 a:=by
    rw[<-hp]
    cases f with
    | zero=>rfl
    | succ f=>rfl
   clear hp
   subst hp2
   go_wp2
   go_ret
   exact⟨rfl,rfl⟩
  ·obtain⟨f,rfl⟩:∃ g,f=g+1:=⟨f - 1,by cases f with | zero=>simp at hf;omega | succ f=>omega⟩
   rw[powU,if_neg hn] at hp
   have hf2:n0/2<2 ^ f:=by rw[Nat.pow_succ] at hf;omega
   have hpos:(0:Int)<(n0:Int):=by omega
   have hn9:n0<512:=Nat.lt_of_lt_of_le hf (Nat.pow_le_pow_right (by omega) (show f+1<=9 by omega))
   have hd:((n0:Int)).tdiv 2=((n0/2:Nat):Int):=by rw[Int.tdiv_eq_ediv_of_nonneg (by omega)];omega
   by_cases hm:n0%2=1
   ·have hm2:((n0:Int)).tmod 2=1:=by rw[Int.tmod_eq_emod_of_nonneg (by omega)];omega
    rw[if_pos hm] at hp
    have HP:=Hd hp
    have HF:=Hd hf2
    clear hp hf hf2 hn
    go_wp2_with (go_at_call 79;refine (times_any _ _ _).mono ?_;rintro e w1 ⟨rfl,rfl⟩)
    go_round
    case rel=>exact⟨f,n0/2,mul8 a0 a0,mul8 p0 a0,HF.out,by congr 1,rfl,rfl,HP.out,by omega⟩
    case measure=>simp[intOf];omega
   ·have hm2:((n0:Int)).tmod 2=0:=by rw[Int.tmod_eq_emod_of_nonneg (by omega)];omega
    rw[if_neg hm] at hp
    have HP:=Hd hp
    have HF:=Hd hf2
    clear hp hf hf2 hn
    go_wp2_with (go_at_call 79;refine (times_any _ _ _).mono ?_;rintro e w1 ⟨rfl,rfl⟩)
    go_round
    case rel=>exact⟨f,n0/2,mul8 a0 a0,p0,HF.out,by congr 1,rfl,rfl,HP.out,by omega⟩
    case measure=>simp[intOf];omega
set_option maxRecDepth 100000 in
theorem inverse_any (a:UInt8) (ha:a≠0) (w:World):Calls Tryz.prog 106 #[.int .u8 (a.toNat:Int)] w fun e w'=>e = .returned (.tuple #[.int .u8 ((pow254 a).toNat:Int),.bool true])/\w=w':=by
 have h0:¬ ((a.toNat:Int)=0):=fun h=>ha (UInt8.toNat_inj.1 (by simpa using h))
 have h00:((a.toNat:Int)==0)=false:=by simpa using h0
 have HA:=Hd ha
 clear ha h0
 go_enter Tryz.func106,Tryz.ntmps106
 go_wp2_with (go_at_call 117;refine (pow_any _ HA.out _).mono ?_;rintro e w1 ⟨rfl,rfl⟩)
 refine bodyPost_ret (v:=.tuple #[.int .u8 ((pow254 a).toNat:Int),.bool true]) (by simp[results,Tryz.results106,go_sem]) rfl ?_
 exact⟨rfl,rfl⟩
set_option maxRecDepth 100000 in
theorem over_any (a b:UInt8) (hb:b≠0) (w:World):Calls Tryz.prog 92 #[.int .u8 (a.toNat:Int),.int .u8 (b.toNat:Int)] w fun e w'=>e = .returned (.tuple #[.int .u8 ((mul8 a (pow254 b)).toNat:Int),.int .i64 0])/\w=w':=by
 have HB:=Hd hb
 clear hb
 go_enter Tryz.func92,Tryz.ntmps92
 go_wp2_with (first
  | (go_at_call 106;refine (inverse_any _ HB.out _).mono ?_;rintro e w1 ⟨rfl,rfl⟩)
  | (go_at_call 79;refine (times_any _ _ _).mono ?_;rintro e w1 ⟨rfl,rfl⟩))
 refine bodyPost_ret (v:=.tuple #[.int .u8 ((mul8 a (pow254 b)).toNat:Int),.int .i64 0]) (by simp[results,Tryz.results92,go_sem]) rfl ?_
 exact⟨rfl,rfl⟩
end Go.Proofs.YtmgljaecmchgaaaGreat.Gf
namespace Go.Proofs.YtmgljaecmchgaaaGreat.Gf
open Go.RowKit Go.Proofs
theorem bit64 (b:UInt8) (k:Nat) (hk:k<8):(bits .and .i64 ((b.toNat:Int)/2 ^ k) 1==1)=b.toBitVec.getLsbD k:=by
 have h:∀ n:Fin 256,∀ k:Fin 8,(bits .and .i64 ((n.val:Int)/2 ^ k.val) 1==1)=(UInt8.ofNat n.val).toBitVec.getLsbD k.val:=by decide +kernel
 have:=h ⟨b.toNat,UInt8.toNat_lt b⟩ ⟨k,hk⟩
 simpa using this
set_option maxRecDepth 100000 in
theorem mulR_any (a b:UInt8) (w:World):Calls Tryz.prog 72 #[.int .u8 (a.toNat:Int),.int .u8 (b.toNat:Int)] w fun e w'=>e = .returned (.int .u8 ((mul8 a b).toNat:Int))/\w=w':=by
 have ha:=u8_le a
 have hbl:=u8_le b
 go_enter Tryz.func72,Tryz.ntmps72
 go_wp2
 go_loop [5,6,7] (fun p x i=>∃ k:Nat,k<=8/\i = .int .i64 k/\p = .int .i64 ((mulU k a b).toNat:Int)/\x = .int .i64 ((xtn k a).toNat:Int)) (fun _ _ i=>8 - (intOf i).toNat)
 case atStart=>exact⟨0,by omega,rfl,rfl,rfl⟩
 case round=>
  obtain⟨k,hk,rfl,rfl,rfl⟩:=hrel
  by_cases hlt:k<8
  ·obtain⟨P,hP⟩:∃ P,mulU k a b=P:=⟨_,rfl⟩
   obtain⟨X,hX⟩:∃ X,xtn k a=X:=⟨_,rfl⟩
   have hP':mulU (k+1) a b=P ^^^ bitOf b k X:=by rw[mulU,hP,hX]
   have hX':(xtn (k+1) a).toNat=if 255<2*X.toNat then (2*X.toNat) ^^^ 285 else 2*X.toNat:=by rw[xtn,hX];exact xt_nat X
   have hb:=bit64 b k hlt
   have hp:=u8_le P
   have hx:=u8_le X
   rw[hP,hX]
   have h1:bits .xor .i64 (P.toNat:Int) (X.toNat:Int)=((P ^^^ X).toNat:Int):=by rw[bx64 _ _ (by omega) (by omega),UInt8.toNat_xor]
   have h2:bits .xor .i64 (2*(X.toNat:Int)) 285=(((2*X.toNat) ^^^ 285:Nat):Int):=by
    have:=bx64 (2*X.toNat) 285 (by omega) (by omega)
    rw[<-this]
    congr 1
   have HP:=Hd hP'
   have HX:=Hd hX'
   clear hP' hX' hP hX
   unfold bitOf at HP
   by_cases hq:255<2*X.toNat
   ·have hq2:(255:Int)<2*(X.toNat:Int):=by omega
    cases hbb:b.toBitVec.getLsbD k with
    | true=>
     rw[hbb] at hb HP
     clear hbb
     go_wp2
     go_round
     case rel=>exact⟨k+1,by omega,by go_num,by rw[HP.out];rfl,by rw[HX.out,if_pos hq]⟩
     case measure=>simp[intOf];omega
    | false=>
     rw[hbb] at hb HP
     clear hbb
     go_wp2
     go_round
     case rel=>exact⟨k+1,by omega,by go_num,by rw[HP.out];simp,by rw[HX.out,if_pos hq]⟩
     case measure=>simp[intOf];omega
   ·have hq2:¬ (255:Int)<2*(X.toNat:Int):=by omega
    have h3:(((2*X.toNat:Nat)):Int)=2*(X.toNat:Int):=by omega
    have H3:=Hd h3
    clear h3
    cases hbb:b.toBitVec.getLsbD k with
    | true=>
     rw[hbb] at hb HP
     clear hbb
     go_wp2
     go_round
     case rel=>exact⟨k+1,by omega,by go_num,by rw[HP.out];rfl,by rw[HX.out,if_neg hq,H3.out]⟩
     case measure=>simp[intOf];omega
    | false=>
     rw[hbb] at hb HP
     clear hbb
     go_wp2
     go_round
     case rel=>exact⟨k+1,by omega,by go_num,by rw[HP.out];simp,by rw[HX.out,if_neg hq,H3.out]⟩
     case measure=>simp[intOf];omega
  ·obtain rfl:k=8:=by omega
   have hm:=u8_le (mulU 8 a b)
   go_wp2
   go_ret
   exact⟨rfl,rfl⟩
theorem inv_one {a b:UInt8} (h:mul8 a b=1):b=pow254 a:=inv_unique (F:=E) h
set_option maxRecDepth 100000 in
theorem invR_any (a:UInt8) (ha:a≠0) (w:World):Calls Tryz.prog 103 #[.int .u8 (a.toNat:Int)] w fun e w'=>e = .returned (.int .u8 ((pow254 a).toNat:Int))/\w=w':=by
 have hp1:1<=(pow254 a).toNat:=by
  rcases Nat.eq_zero_or_pos (pow254 a).toNat with h | h
  ·exfalso
   have h0:pow254 a=0:=UInt8.toNat_inj.1 (by simpa using h)
   have h1:=m_inv a ha
   rw[h0] at h1
   exact absurd ((mul_zero (F:=E) a).symm.trans h1) (show ¬ ((0:UInt8)=1) by decide)
  ·exact h
 have hp2:=u8_le (pow254 a)
 have HI:=Hd (m_inv a ha)
 have HA:=Hd ha
 clear ha
 go_enter Tryz.func103,Tryz.ntmps103
 go_wp2
 go_loop [3] (fun i=>∃ k:Nat,1<=k/\k<=(pow254 a).toNat/\i = .int .i64 k) (fun i=>256 - (intOf i).toNat)
 case atStart=>exact⟨1,Nat.le_refl _,hp1,rfl⟩
 case round=>
  obtain⟨k,hk1,hk,rfl⟩:=hrel
  obtain⟨u,hu⟩:∃ u,UInt8.ofNat k=u:=⟨_,rfl⟩
  have huk:(u.toNat:Int)=(k:Int):=by rw[<-hu,UInt8.toNat_ofNat'];omega
  have hk2:(k:Int)<256:=by omega
  have HU:=Hd huk
  have hul:=u8_le u
  by_cases he:mul8 a u=1
  ·have hfin:k=(pow254 a).toNat:=by rw[<-inv_one he];omega
   have HF:=Hd hfin
   have hmod:(u.toNat:Int)=((pow254 a).toNat:Int):=by omega
   have HMOD:=Hd hmod
   clear hmod
   have hd:((((mul8 a u).toNat:Nat):Int)==1)=true:=by rw[he];rfl
   clear he hu huk hfin
   go_wp2_with (go_at_call 72;rw[<-HU.out];refine (mulR_any _ _ _).mono ?_;rintro e w1 ⟨rfl,rfl⟩)
   go_ret
   refine⟨?_,rfl⟩
   rw[<-HMOD.out];rfl
  ·have hd:((((mul8 a u).toNat:Nat):Int)==1)=false:=by
    rw[beq_eq_false_iff_ne]
    intro h
    exact he (UInt8.toNat_inj.1 (by show (mul8 a u).toNat=1;omega))
   have hlt:k<(pow254 a).toNat:=by
    rcases Nat.lt_or_ge k (pow254 a).toNat with h | h
    ·exact h
    ·exfalso
     apply he
     have:u=pow254 a:=UInt8.toNat_inj.1 (by omega)
     rw[this]
     exact HI.out
   clear he hu huk
   go_wp2_with (go_at_call 72;rw[<-HU.out];refine (mulR_any _ _ _).mono ?_;rintro e w1 ⟨rfl,rfl⟩)
   go_round
   case rel=>exact⟨k+1,by omega,by omega,by have:=HU.out;congr 1;omega⟩
   case measure=>have:=HU.out;simp[intOf];omega
end Go.Proofs.YtmgljaecmchgaaaGreat.Gf
