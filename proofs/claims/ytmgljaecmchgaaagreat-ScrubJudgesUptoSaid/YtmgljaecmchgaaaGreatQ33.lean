/- XSc6, XSc7: merged by tools/merge.py. -/
import Derived.Test.YtmgljaecmchgaaaGreatQ31
import Derived.Test.YtmgljaecmchgaaaGreatQ32
set_option linter.unusedVariables false
set_option linter.unusedSimpArgs false
set_option linter.unusedSectionVars false
namespace Go.Proofs.YtmgljaecmchgaaaGreat.Gf
open Go.RowKit Go.Proofs
def fitB (K M B:Int):Bool:=decide (1<=M/\M<=K/\K<=255/\K+M<=255/\1<=B/\B<=65536)
structure FitOk (w w':World) (K M B:Int) (x:Ending):Prop where
 out:x = .returned (.bool (fitB K M B))
 back:Below w.heap.size w w'
theorem wr64 (x:Int) (h1:-1000<=x) (h2:x<=1000):IntKind.i64.wrap x=x:=IntWalk.i64_in _ (by omega)
set_option maxRecDepth 100000 in
set_option maxHeartbeats 4000000 in
theorem fit_any {K M B:Int} (w:World):Calls Tryz.prog 33 #[.agg #[.int .i64 K,.int .i64 M,.int .i64 B]] w fun x w'=>FitOk w w' K M B x:=by
 by_cases h0:M<1
 ·have HF:=Hd (show fitB K M B=false by unfold fitB;simp only[decide_eq_false_iff_not];omega)
  go_enter Tryz.func33,Tryz.ntmps33
  go_wp2
  go_ret
  exact⟨by rw[HF.out];first | rfl | (simp;omega),(Below.refl _ _).alloc (Nat.le_refl _) _⟩
 by_cases h1:K<M
 ·have HF:=Hd (show fitB K M B=false by unfold fitB;simp only[decide_eq_false_iff_not];omega)
  go_enter Tryz.func33,Tryz.ntmps33
  go_wp2
  go_ret
  exact⟨by rw[HF.out];first | rfl | (simp;omega),(Below.refl _ _).alloc (Nat.le_refl _) _⟩
 by_cases h2:255<K
 ·have HF:=Hd (show fitB K M B=false by unfold fitB;simp only[decide_eq_false_iff_not];omega)
  go_enter Tryz.func33,Tryz.ntmps33
  go_wp2
  go_ret
  exact⟨by rw[HF.out];first | rfl | (simp;omega),(Below.refl _ _).alloc (Nat.le_refl _) _⟩
 by_cases h3:255<K+M
 ·have HF:=Hd (show fitB K M B=false by unfold fitB;simp only[decide_eq_false_iff_not];omega)
  have hw:=wr64 (K+M) (by omega) (by omega)
  go_enter Tryz.func33,Tryz.ntmps33
  go_wp2
  go_ret
  exact⟨by rw[HF.out];first | rfl | (simp;omega),(Below.refl _ _).alloc (Nat.le_refl _) _⟩
 by_cases h4:B<1
 ·have HF:=Hd (show fitB K M B=false by unfold fitB;simp only[decide_eq_false_iff_not];omega)
  have hw:=wr64 (K+M) (by omega) (by omega)
  go_enter Tryz.func33,Tryz.ntmps33
  go_wp2
  go_ret
  exact⟨by rw[HF.out];first | rfl | (simp;omega),(Below.refl _ _).alloc (Nat.le_refl _) _⟩
 by_cases h5:65536<B
 ·have HF:=Hd (show fitB K M B=false by unfold fitB;simp only[decide_eq_false_iff_not];omega)
  have hw:=wr64 (K+M) (by omega) (by omega)
  go_enter Tryz.func33,Tryz.ntmps33
  go_wp2
  go_ret
  exact⟨by rw[HF.out];first | rfl | (simp;omega),(Below.refl _ _).alloc (Nat.le_refl _) _⟩
 have hw:=wr64 (K+M) (by omega) (by omega)
 have HF:=Hd (show fitB K M B=true by unfold fitB;simp only[decide_eq_true_eq];omega)
 go_enter Tryz.func33,Tryz.ntmps33
 go_wp2
 go_ret
 exact⟨by rw[HF.out];first | rfl | (simp;omega),(Below.refl _ _).alloc (Nat.le_refl _) _⟩
set_option maxRecDepth 100000 in
set_option maxHeartbeats 4000000 in
theorem fitR_any {K M B:Int} (w:World):Calls Tryz.prog 29 #[.agg #[.int .i64 K,.int .i64 M,.int .i64 B]] w fun x w'=>FitOk w w' K M B x:=by
 by_cases h0:M<1
 ·have HF:=Hd (show fitB K M B=false by unfold fitB;simp only[decide_eq_false_iff_not];omega)
  go_enter Tryz.func29,Tryz.ntmps29
  go_wp2
  go_ret
  exact⟨by rw[HF.out];first | rfl | (simp;omega),(Below.refl _ _).alloc (Nat.le_refl _) _⟩
 by_cases h1:K<M
 ·have HF:=Hd (show fitB K M B=false by unfold fitB;simp only[decide_eq_false_iff_not];omega)
  go_enter Tryz.func29,Tryz.ntmps29
  go_wp2
  go_ret
  exact⟨by rw[HF.out];first | rfl | (simp;omega),(Below.refl _ _).alloc (Nat.le_refl _) _⟩
 by_cases h2:255<K
 ·have HF:=Hd (show fitB K M B=false by unfold fitB;simp only[decide_eq_false_iff_not];omega)
  go_enter Tryz.func29,Tryz.ntmps29
  go_wp2
  go_ret
  exact⟨by rw[HF.out];first | rfl | (simp;omega),(Below.refl _ _).alloc (Nat.le_refl _) _⟩
 by_cases h3:255<K+M
 ·have HF:=Hd (show fitB K M B=false by unfold fitB;simp only[decide_eq_false_iff_not];omega)
  have hw:=wr64 (K+M) (by omega) (by omega)
  go_enter Tryz.func29,Tryz.ntmps29
  go_wp2
  go_ret
  exact⟨by rw[HF.out];first | rfl | (simp;omega),(Below.refl _ _).alloc (Nat.le_refl _) _⟩
 by_cases h4:B<1
 ·have HF:=Hd (show fitB K M B=false by unfold fitB;simp only[decide_eq_false_iff_not];omega)
  have hw:=wr64 (K+M) (by omega) (by omega)
  go_enter Tryz.func29,Tryz.ntmps29
  go_wp2
  go_ret
  exact⟨by rw[HF.out];first | rfl | (simp;omega),(Below.refl _ _).alloc (Nat.le_refl _) _⟩
 by_cases h5:65536<B
 ·have HF:=Hd (show fitB K M B=false by unfold fitB;simp only[decide_eq_false_iff_not];omega)
  have hw:=wr64 (K+M) (by omega) (by omega)
  go_enter Tryz.func29,Tryz.ntmps29
  go_wp2
  go_ret
  exact⟨by rw[HF.out];first | rfl | (simp;omega),(Below.refl _ _).alloc (Nat.le_refl _) _⟩
 have hw:=wr64 (K+M) (by omega) (by omega)
 have HF:=Hd (show fitB K M B=true by unfold fitB;simp only[decide_eq_true_eq];omega)
 go_enter Tryz.func29,Tryz.ntmps29
 go_wp2
 go_ret
 exact⟨by rw[HF.out];first | rfl | (simp;omega),(Below.refl _ _).alloc (Nat.le_refl _) _⟩
theorem below_drewN {B:Nat} {a w:World} (h:Below B a w) (n:Nat):Below B a (w.drewN n):=⟨h.os,h.tape,h.output,h.size,h.block⟩
theorem bcell {W w1:World} (hb:Below W.heap.size W w1):(∀ b o,b<W.heap.size->w1.cell? ⟨b,o,none⟩=W.cell? ⟨b,o,none⟩)/\(∀ b o,b<W.heap.size->w1.frozen? ⟨b,o,none⟩=W.frozen? ⟨b,o,none⟩):=
 ⟨fun b o h=>hb.cell (p:=⟨b,o,none⟩) h,fun b o h=>hb.frozen (p:=⟨b,o,none⟩) h⟩
def rawB (K M B nd ep ct:Int):Bool:=fitB K M B&&decide (nd=K+M/\1<=ep/\ep<=4294967295/\0<=ct/\ct<=4294967295)
structure RawOk (w w':World) (K M B nd ep ct:Int) (x:Ending):Prop where
 out:x = .returned (.int .i64 (if rawB K M B nd ep ct then 0 else 2))
 back:Below w.heap.size w w'
theorem rawB_fit {K M B nd ep ct:Int} (h:fitB K M B=false):rawB K M B nd ep ct=false:=by unfold rawB;rw[h];rfl
theorem rawB_no {K M B nd ep ct:Int} (h:¬ (nd=K+M/\1<=ep/\ep<=4294967295/\0<=ct/\ct<=4294967295)):rawB K M B nd ep ct=false:=by unfold rawB;rw[decide_eq_false h,Bool.and_false]
theorem rawB_yes {K M B nd ep ct:Int} (h:fitB K M B=true) (h2:nd=K+M/\1<=ep/\ep<=4294967295/\0<=ct/\ct<=4294967295):rawB K M B nd ep ct=true:=by unfold rawB;rw[h,decide_eq_true h2];rfl
theorem fitB_bd {K M B:Int} (h:fitB K M B=true):1<=M/\M<=K/\K<=255/\K+M<=255/\1<=B/\B<=65536:=by unfold fitB at h;simpa using h
set_option maxHeartbeats 4000000 in
theorem raw_nil (w:World):Calls Tryz.prog 18 #[.pointer none] w fun x w'=>x = .returned (.int .i64 1)/\w=w':=by
 go_enter Tryz.func18,Tryz.ntmps18
 go_wp2
 go_ret
 exact⟨rfl,rfl⟩
set_option maxHeartbeats 4000000 in
theorem rawR_nil (w:World):Calls Tryz.prog 13 #[.pointer none] w fun x w'=>x = .returned (.int .i64 1)/\w=w':=by
 go_enter Tryz.func13,Tryz.ntmps13
 go_wp2
 go_ret
 exact⟨rfl,rfl⟩
set_option maxRecDepth 100000 in
set_option maxHeartbeats 8000000 in
theorem raw_any {w:World} {g nd c:Nat} {A:Option Addr} {K M B ep ct:Int} (hg:g<w.heap.size) (h0:w.cell? ⟨g,0,none⟩=some (.slice A nd c)) (h1:w.cell? ⟨g,1,none⟩=some (.int .i64 K)) (h2:w.cell? ⟨g,2,none⟩=some (.int .i64 M)) (h3:w.cell? ⟨g,3,none⟩=some (.int .i64 B))
  (h12:w.cell? ⟨g,12,none⟩=some (.int .i64 ep)) (h13:w.cell? ⟨g,13,none⟩=some (.int .i64 ct)) (hnd:nd<=1099511627776) :
  Calls Tryz.prog 18 #[.pointer (some ⟨g,0,none⟩)] w fun x w'=>RawOk w w' K M B nd ep ct x:=by
 cases hf:fitB K M B with
 | false=>
  have HR:=Hd (rawB_fit (nd:=(nd:Int)) (ep:=ep) (ct:=ct) hf)
  have HF:=Hd hf
  clear hf
  go_enter Tryz.func18,Tryz.ntmps18
  go_wp2_with (go_at_call 33;refine (fit_any (K:=K) (M:=M) (B:=B) w).mono ?_;rintro x w1 ⟨rfl,hb1⟩;rw[HF.out];obtain⟨hc1,_⟩:=bcell hb1;have HB1:=Hd hb1;clear hb1)
  go_ret
  exact⟨by rw[HR.out];rfl,HB1.out⟩
 | true=>
  obtain⟨b1,b2,b3,b4,b5,b6⟩:=fitB_bd hf
  have hw:=wr64 (K+M) (by omega) (by omega)
  by_cases n1:¬ (nd:Int)=K+M
  ·have HR:=Hd (rawB_no (K:=K) (M:=M) (B:=B) (nd:=(nd:Int)) (ep:=ep) (ct:=ct) (by omega))
   have n1b:((nd:Int) != K+M)=true:=by simpa using n1
   clear n1
   have HF:=Hd hf
   clear hf
   go_enter Tryz.func18,Tryz.ntmps18
   go_wp2_with (go_at_call 33;refine (fit_any (K:=K) (M:=M) (B:=B) w).mono ?_;rintro x w1 ⟨rfl,hb1⟩;rw[HF.out];obtain⟨hc1,_⟩:=bcell hb1;have HB1:=Hd hb1;clear hb1)
   go_quiet (fail)
   go_wp2
   go_ret
   exact⟨by rw[HR.out];rfl,below_drewN HB1.out _⟩
  have n1c:(nd:Int)=K+M:=Decidable.of_not_not n1
  have n1b:((nd:Int) != K+M)=false:=by simpa using n1c
  have N1:=Hd n1c
  clear n1 n1c
  by_cases n2:ep<1
  ·have HR:=Hd (rawB_no (K:=K) (M:=M) (B:=B) (nd:=(nd:Int)) (ep:=ep) (ct:=ct) (by have:=N1.out;omega))
   have HF:=Hd hf
   clear hf
   go_enter Tryz.func18,Tryz.ntmps18
   go_wp2_with (go_at_call 33;refine (fit_any (K:=K) (M:=M) (B:=B) w).mono ?_;rintro x w1 ⟨rfl,hb1⟩;rw[HF.out];obtain⟨hc1,_⟩:=bcell hb1;have HB1:=Hd hb1;clear hb1)
   go_quiet (fail)
   go_wp2
   go_ret
   exact⟨by rw[HR.out];rfl,below_drewN HB1.out _⟩
  by_cases n3:4294967295<ep
  ·have HR:=Hd (rawB_no (K:=K) (M:=M) (B:=B) (nd:=(nd:Int)) (ep:=ep) (ct:=ct) (by have:=N1.out;omega))
   have HF:=Hd hf
   clear hf
   go_enter Tryz.func18,Tryz.ntmps18
   go_wp2_with (go_at_call 33;refine (fit_any (K:=K) (M:=M) (B:=B) w).mono ?_;rintro x w1 ⟨rfl,hb1⟩;rw[HF.out];obtain⟨hc1,_⟩:=bcell hb1;have HB1:=Hd hb1;clear hb1)
   go_quiet (fail)
   go_wp2
   go_ret
   exact⟨by rw[HR.out];rfl,below_drewN HB1.out _⟩
  by_cases n4:ct<0
  ·have HR:=Hd (rawB_no (K:=K) (M:=M) (B:=B) (nd:=(nd:Int)) (ep:=ep) (ct:=ct) (by have:=N1.out;omega))
   have HF:=Hd hf
   clear hf
   go_enter Tryz.func18,Tryz.ntmps18
   go_wp2_with (go_at_call 33;refine (fit_any (K:=K) (M:=M) (B:=B) w).mono ?_;rintro x w1 ⟨rfl,hb1⟩;rw[HF.out];obtain⟨hc1,_⟩:=bcell hb1;have HB1:=Hd hb1;clear hb1)
   go_quiet (fail)
   go_wp2
   go_ret
   exact⟨by rw[HR.out];rfl,below_drewN HB1.out _⟩
  by_cases n5:4294967295<ct
  ·have HR:=Hd (rawB_no (K:=K) (M:=M) (B:=B) (nd:=(nd:Int)) (ep:=ep) (ct:=ct) (by have:=N1.out;omega))
   have HF:=Hd hf
   clear hf
   go_enter Tryz.func18,Tryz.ntmps18
   go_wp2_with (go_at_call 33;refine (fit_any (K:=K) (M:=M) (B:=B) w).mono ?_;rintro x w1 ⟨rfl,hb1⟩;rw[HF.out];obtain⟨hc1,_⟩:=bcell hb1;have HB1:=Hd hb1;clear hb1)
   go_quiet (fail)
   go_wp2
   go_ret
   exact⟨by rw[HR.out];rfl,below_drewN HB1.out _⟩
  have HR:=Hd (rawB_yes (K:=K) (M:=M) (B:=B) (nd:=(nd:Int)) (ep:=ep) (ct:=ct) hf (by have:=N1.out;omega))
  have HF:=Hd hf
  clear hf
  go_enter Tryz.func18,Tryz.ntmps18
  go_wp2_with (go_at_call 33;refine (fit_any (K:=K) (M:=M) (B:=B) w).mono ?_;rintro x w1 ⟨rfl,hb1⟩;rw[HF.out];obtain⟨hc1,_⟩:=bcell hb1;have HB1:=Hd hb1;clear hb1)
  go_quiet (fail)
  go_wp2
  go_ret
  exact⟨by rw[HR.out];rfl,below_drewN HB1.out _⟩
set_option maxRecDepth 100000 in
set_option maxHeartbeats 8000000 in
theorem rawR_any {w:World} {g nd c:Nat} {A:Option Addr} {K M B ep ct:Int} (hg:g<w.heap.size) (h0:w.cell? ⟨g,0,none⟩=some (.slice A nd c)) (h1:w.cell? ⟨g,1,none⟩=some (.int .i64 K)) (h2:w.cell? ⟨g,2,none⟩=some (.int .i64 M)) (h3:w.cell? ⟨g,3,none⟩=some (.int .i64 B))
  (h12:w.cell? ⟨g,12,none⟩=some (.int .i64 ep)) (h13:w.cell? ⟨g,13,none⟩=some (.int .i64 ct)) (hnd:nd<=1099511627776) :
  Calls Tryz.prog 13 #[.pointer (some ⟨g,0,none⟩)] w fun x w'=>RawOk w w' K M B nd ep ct x:=by
 cases hf:fitB K M B with
 | false=>
  have HR:=Hd (rawB_fit (nd:=(nd:Int)) (ep:=ep) (ct:=ct) hf)
  have HF:=Hd hf
  clear hf
  go_enter Tryz.func13,Tryz.ntmps13
  go_wp2_with (go_at_call 29;refine (fitR_any (K:=K) (M:=M) (B:=B) w).mono ?_;rintro x w1 ⟨rfl,hb1⟩;rw[HF.out];obtain⟨hc1,_⟩:=bcell hb1;have HB1:=Hd hb1;clear hb1)
  go_quiet (fail)
  go_wp2
  go_ret
  exact⟨by rw[HR.out];rfl,below_drewN HB1.out _⟩
 | true=>
  obtain⟨b1,b2,b3,b4,b5,b6⟩:=fitB_bd hf
  have hw:=wr64 (K+M) (by omega) (by omega)
  by_cases n1:¬ (nd:Int)=K+M
  ·have HR:=Hd (rawB_no (K:=K) (M:=M) (B:=B) (nd:=(nd:Int)) (ep:=ep) (ct:=ct) (by omega))
   have n1b:((nd:Int) != K+M)=true:=by simpa using n1
   clear n1
   have HF:=Hd hf
   clear hf
   go_enter Tryz.func13,Tryz.ntmps13
   go_wp2_with (go_at_call 29;refine (fitR_any (K:=K) (M:=M) (B:=B) w).mono ?_;rintro x w1 ⟨rfl,hb1⟩;rw[HF.out];obtain⟨hc1,_⟩:=bcell hb1;have HB1:=Hd hb1;clear hb1)
   go_quiet (fail)
   go_wp2
   go_ret
   exact⟨by rw[HR.out];rfl,below_drewN HB1.out _⟩
  have n1c:(nd:Int)=K+M:=Decidable.of_not_not n1
  have n1b:((nd:Int) != K+M)=false:=by simpa using n1c
  have N1:=Hd n1c
  clear n1 n1c
  by_cases n2:ep<1
  ·have HR:=Hd (rawB_no (K:=K) (M:=M) (B:=B) (nd:=(nd:Int)) (ep:=ep) (ct:=ct) (by have:=N1.out;omega))
   have HF:=Hd hf
   clear hf
   go_enter Tryz.func13,Tryz.ntmps13
   go_wp2_with (go_at_call 29;refine (fitR_any (K:=K) (M:=M) (B:=B) w).mono ?_;rintro x w1 ⟨rfl,hb1⟩;rw[HF.out];obtain⟨hc1,_⟩:=bcell hb1;have HB1:=Hd hb1;clear hb1)
   go_quiet (fail)
   go_wp2
   go_ret
   exact⟨by rw[HR.out];rfl,below_drewN HB1.out _⟩
  by_cases n3:4294967295<ep
  ·have HR:=Hd (rawB_no (K:=K) (M:=M) (B:=B) (nd:=(nd:Int)) (ep:=ep) (ct:=ct) (by have:=N1.out;omega))
   have HF:=Hd hf
   clear hf
   go_enter Tryz.func13,Tryz.ntmps13
   go_wp2_with (go_at_call 29;refine (fitR_any (K:=K) (M:=M) (B:=B) w).mono ?_;rintro x w1 ⟨rfl,hb1⟩;rw[HF.out];obtain⟨hc1,_⟩:=bcell hb1;have HB1:=Hd hb1;clear hb1)
   go_quiet (fail)
   go_wp2
   go_ret
   exact⟨by rw[HR.out];rfl,below_drewN HB1.out _⟩
  by_cases n4:ct<0
  ·have HR:=Hd (rawB_no (K:=K) (M:=M) (B:=B) (nd:=(nd:Int)) (ep:=ep) (ct:=ct) (by have:=N1.out;omega))
   have HF:=Hd hf
   clear hf
   go_enter Tryz.func13,Tryz.ntmps13
   go_wp2_with (go_at_call 29;refine (fitR_any (K:=K) (M:=M) (B:=B) w).mono ?_;rintro x w1 ⟨rfl,hb1⟩;rw[HF.out];obtain⟨hc1,_⟩:=bcell hb1;have HB1:=Hd hb1;clear hb1)
   go_quiet (fail)
   go_wp2
   go_ret
   exact⟨by rw[HR.out];rfl,below_drewN HB1.out _⟩
  by_cases n5:4294967295<ct
  ·have HR:=Hd (rawB_no (K:=K) (M:=M) (B:=B) (nd:=(nd:Int)) (ep:=ep) (ct:=ct) (by have:=N1.out;omega))
   have HF:=Hd hf
   clear hf
   go_enter Tryz.func13,Tryz.ntmps13
   go_wp2_with (go_at_call 29;refine (fitR_any (K:=K) (M:=M) (B:=B) w).mono ?_;rintro x w1 ⟨rfl,hb1⟩;rw[HF.out];obtain⟨hc1,_⟩:=bcell hb1;have HB1:=Hd hb1;clear hb1)
   go_quiet (fail)
   go_wp2
   go_ret
   exact⟨by rw[HR.out];rfl,below_drewN HB1.out _⟩
  have HR:=Hd (rawB_yes (K:=K) (M:=M) (B:=B) (nd:=(nd:Int)) (ep:=ep) (ct:=ct) hf (by have:=N1.out;omega))
  have HF:=Hd hf
  clear hf
  go_enter Tryz.func13,Tryz.ntmps13
  go_wp2_with (go_at_call 29;refine (fitR_any (K:=K) (M:=M) (B:=B) w).mono ?_;rintro x w1 ⟨rfl,hb1⟩;rw[HF.out];obtain⟨hc1,_⟩:=bcell hb1;have HB1:=Hd hb1;clear hb1)
  go_quiet (fail)
  go_wp2
  go_ret
  exact⟨by rw[HR.out];rfl,below_drewN HB1.out _⟩
end Go.Proofs.YtmgljaecmchgaaaGreat.Gf
namespace Go.Proofs.YtmgljaecmchgaaaGreat.Gf
open Go.RowKit Go.Proofs
structure SetAt (W:World) (g nd:Nat) (K M Bk ep ct:Int):Prop where
 lt:g<W.heap.size
 c0:∃ A c,W.cell? ⟨g,0,none⟩=some (.slice A nd c)
 c1:W.cell? ⟨g,1,none⟩=some (.int .i64 K)
 c2:W.cell? ⟨g,2,none⟩=some (.int .i64 M)
 c3:W.cell? ⟨g,3,none⟩=some (.int .i64 Bk)
 c12:W.cell? ⟨g,12,none⟩=some (.int .i64 ep)
 c13:W.cell? ⟨g,13,none⟩=some (.int .i64 ct)
theorem SetAt.below {W W':World} {g nd:Nat} {K M Bk ep ct:Int} (h:SetAt W g nd K M Bk ep ct) (hb:Below W.heap.size W W'):SetAt W' g nd K M Bk ep ct:=by
 have key:∀ o u,W.cell? ⟨g,o,none⟩=some u->W'.cell? ⟨g,o,none⟩=some u:=fun o u hu=>(hb.cell (p:=⟨g,o,none⟩) h.lt).trans hu
 obtain⟨A,c,h0⟩:=h.c0
 exact⟨Nat.lt_of_lt_of_le h.lt hb.size,⟨A,c,key _ _ h0⟩,key _ _ h.c1,key _ _ h.c2,key _ _ h.c3,key _ _ h.c12,key _ _ h.c13⟩
structure JudgeOk (w w':World) (key:List UInt8) (fs:List Fd) (x:Ending):Prop where
 out:∃ A c,x = .returned (.slice A fs.length c)/\Rd w' w'.heap.size 5 A fs.length (cFd key fs)
 back:Below w.heap.size w w'
def vdC (v:Vd) (pl:Value):List Value:=[.int .i64 v.kind,.int .i64 v.ep,.int .i64 v.ct,.int .i64 v.size,pl]
theorem wpList_eql_by {P:Program} {ops:Array Oper} {rest:List Oper} {op:Oper} {a:Act} {w:World} {Q:Exit->Act->World->Prop} (hgd:op.guard=none) (t t2:TypeId) (x y:Operand) (ho:op.op = .binOp .eql t x y t2) (hgt:P.eqGuardType P.depth t=false)
  (p q:Array Value) (r:Value) (hx:a.eval x = .agg p) (hy:a.eval y = .agg q) (hr:(binOp .eql t (.agg p) (.agg q)).run P w = .ok r w) (h:wpList P ops Q rest (a.put op.dst r) w):wpList P ops Q (op::rest) a w:=
 wpList_plain hgd fun K hK=>by
  have h2:=hK _ _ h
  have hg:(eqGuard .eql t x y (.agg p) (.agg q)).run P w = .ok () w:=by
   unfold eqGuard
   simp[hgt]
  unfold Oper.wp execOp
  simp only[ho,hx,hy,Sem.run_bind,hg,hr,Result.andThen_ok,Sem.run_pure]
  exact h2
theorem run_storeCells_row {P:Program} (w:World) (g:Nat) (t:TypeId) (old cells:Array Value) (hg:w.heap[g]?=some (.cells old t (0,0))) (hi:(P.info? t).map (·.size)=some cells.size) (ho:old.size=cells.size) (h1:cells.all (·.oneCell')=true) :
  (storeCells ⟨g,0,none⟩ cells.toList 0).run P w = .ok () (w.setRow g cells):=by
 have:=run_storeVar_row (P:=P) w g t t old cells hg hi ho h1
 cases hq:P.info? t with
 | none=>simp[hq] at hi
 | some i=>
  have hs:cells.size=i.size:=by simp[hq] at hi;omega
  simpa [storeVar,sizeOf,typeInfo,hq,Value.cells,hs] using this
theorem fl_storeCells {W:World} {G:Nat} {F:Nat->Bool} (h:FlM W G F) (F':Nat->Bool):(storeCells ⟨G,0,none⟩ (flC F') 0).run Tryz.prog W = .ok () (W.setRow G (flC F').toArray):=
 run_storeCells_row W G tFl _ (flC F').toArray h (by rw[fl_size];simp[flC_len]) (by simp[flC_len]) (flC_one F')
theorem headF_any {v:Vd} (h:v.kind≠1) {u:Bool}:headF v u=headF v false:=by unfold headF;rw[if_neg h,if_neg h]
theorem own_eq {v:Vd} {s:Sn}:own v s=true↔s.kind=2/\(s.ep=v.ep/\s.ct=v.ct)/\s.size=v.size:=by simp[own]
theorem genB_eq {a b c d:Int}:genB a b c d=true↔a=c/\b=d:=by simp[genB]
def JS (U:Nat) (b:Nat):Prop:=b=U\/U+3<=b
theorem js_cell {w w':World} {U:Nat} (h:Kept w w' (JS U)) {p:Addr} (h1:p.block<w.heap.size) (h2:p.block<U\/p.block=U+1\/p.block=U+2):w'.cell? p=w.cell? p:=
 World.cell?_of_block (h.block _ h1 (fun h=>by unfold JS at h;omega))
end Go.Proofs.YtmgljaecmchgaaaGreat.Gf
