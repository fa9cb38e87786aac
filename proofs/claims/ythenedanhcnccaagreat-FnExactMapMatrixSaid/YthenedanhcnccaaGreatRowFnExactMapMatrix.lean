/- The row: the law answers true whatever the input, and the input reads as it did. No condition. -/
import Derived.Test.YthenedanhcnccaaGreatRows
import Derived.Test.YthenedanhcnccaaGreatProg
import Derived.WalkKit
import Derived.KernelRfl
import Derived.JoinedOf
import Derived.Maps.AppendAt
import Derived.Still
import Derived.ProofKit
import Derived.OpenShut
import Derived.StillTail
import Derived.Deep.Upon
import Derived.WalkSpells
import Derived.Maps.Range
import Derived.DeepKeys4
import Derived.Maps.Keyed
import Derived.ChangeOld
import Derived.Below
import Derived.SizedLaws
import Derived.Test.YthenedanhcnccaaGreatPMmxh
set_option linter.unusedVariables false
set_option linter.unusedSimpArgs false
set_option maxRecDepth 10000
set_option maxHeartbeats 8000000
namespace Go.Proofs.YthenedanhcnccaaGreat.G
open Go Go.RowKit
theorem ag25:Agg Tryz.prog 25 2:=⟨_,u25,rfl,by kernel_rfl⟩
theorem fn14:Fn Tryz.prog 14:=⟨_,Tryz.func14,by kernel_rfl,rfl⟩
theorem fn17:Fn Tryz.prog 17:=⟨_,Tryz.func17,by kernel_rfl,rfl⟩
theorem fn20:Fn Tryz.prog 20:=⟨_,Tryz.func20,by kernel_rfl,rfl⟩
theorem fn25:Fn Tryz.prog 25:=⟨_,Tryz.func25,by kernel_rfl,rfl⟩
theorem fn39:Fn Tryz.prog 39:=⟨_,Tryz.func39,by kernel_rfl,rfl⟩
theorem fn40:Fn Tryz.prog 40:=⟨_,Tryz.func40,by kernel_rfl,rfl⟩
theorem fn41:Fn Tryz.prog 41:=⟨_,Tryz.func41,by kernel_rfl,rfl⟩
theorem fn49:Fn Tryz.prog 49:=⟨_,Tryz.func49,by kernel_rfl,rfl⟩
theorem totI_le {M:Nat} : ∀{rs:List (List Int)},(∀r∈rs,r.length≤M)→totI rs≤rs.length * M
 | [],_=>by simp [totI]
 | r::rs,h=>by
  have h1:=totI_le (rs:=rs) (M:=M) fun x hx=>h x (by simp [hx])
  have h2:=h r (by simp)
  simp only [totI,List.length_cons]
  rw [Nat.succ_mul]
  omega
theorem mmV_len {ad bd:List Int} {af bf ms:List (List Term)} {n:Int} (hwa:Wfss af) (hwb:Wfss bf):(mmV ad af bd bf ms n).length≤121∧totI (mmV ad af bd bf ms n)≤14641∧∀i,i<(mmV ad af bd bf ms n).length→(rw_ (mmV ad af bd bf ms n) i).length≤1048576:=by
 by_cases h:mmC ad af bd bf ms n=0
 ·have e:mmV ad af bd bf ms n=mmS ad af bd bf ms n:=if_pos h
  have h1 : ¬mm1 ad af bd bf ms n≠0:=fun h2=>by rw [mmC_n h2] at h;exact h2 h
  obtain ⟨hM,_⟩:=mm1_y h1;have hA:=isAlg_ok (isMp_1 hM) hwa;have hB:=isAlg_ok (isMp_2 hM) hwb;have l1:=csS_len (n:=n) hA hA.hn (alg_112 (isMp_1 hM));have l2:=csS_len (n:=n) hB hB.hn (alg_112 (isMp_2 hM))
  have hr : ∀r∈mmS ad af bd bf ms n,r.length≤121:=fun r hr=>by
   obtain ⟨s,_,rfl⟩:=List.mem_map.1 hr;rw [mmR_len]
   omega
  rw [e];have h2:=totI_le hr;rw [mmS_len] at h2 ⊢;have:(csS ad af n).length * 121≤121 * 121:=Nat.mul_le_mul_right _ l1;refine ⟨l1,by omega,fun i hi=>?_⟩;have:=hr _ (rw_mem (rs:=mmS ad af bd bf ms n) (by rw [mmS_len];exact hi))
  omega
 ·rw [show mmV ad af bd bf ms n=[] from if_neg h];exact ⟨by simp,by simp [totI],fun i hi=>by simp at hi⟩
theorem lawMapMatrix_c {B:World} {H0 H:HP} {L:List SA} {w:World} {qad qaf:Option Addr} {cad caf:Nat} {ad:List Int} {af:List (List Term)} {qbd qbf:Option Addr} {cbd cbf:Nat} {bd:List Int} {bf:List (List Term)} {qms:Option Addr} {cms:Nat} {ms:List (List Term)} {n:Int} (had:Ints H qad ad) (haf:Forms H qaf af) (hbd:Ints H qbd bd) (hbf:Forms H qbf bf) (hms:Forms H qms ms) (hn:ad.length≤9223372036854775807∧af.length≤9223372036854775807) (hl : ∀i,i<af.length→(fm af i).length≤9223372036854775807) (bn:bd.length≤9223372036854775807∧bf.length≤9223372036854775807) (bl : ∀i,i<bf.length→(fm bf i).length≤9223372036854775807) (mn:ms.length≤9223372036854775807) (ml : ∀i,i<ms.length→(fm ms i).length≤9223372036854775807) (hH:Hp B H0 H L w):Calls Tryz.prog 12 [.agg [.slice qad ad.length cad,.slice qaf af.length caf].toArray,.agg [.slice qbd bd.length cbd,.slice qbf bf.length cbf].toArray,.slice qms ms.length cms,.int .i64 n].toArray w fun e w'=>e = .returned (.bool true)∧Below B.heap.size B w':=by
 refine Jz Tryz.func12 rfl 147 rfl rfl [(0,.agg [.slice qad ad.length cad,.slice qaf af.length caf].toArray),(1,.agg [.slice qbd bd.length cbd,.slice qbf bf.length cbf].toArray),(2,.slice qms ms.length cms),(3,.int .i64 n)] rfl hH ?_;clear hH;obtain ⟨f1,f2,f3⟩:=mmV_len (n:=n) (ms:=ms) (ad:=ad) (bd:=bd) haf.wfss hbf.wfss;refine Je fun _ hK1 _=>(Jb (Ed rfl rfl rfl fun g4=>(Ed rfl rfl rfl fun g5=>(Jg (Jd rfl) rfl (Jf (Ja (hK1 (Je fun _ hK2 _=>(Jb (Jg (Jd rfl) rfl (Jf (Ja (hK2 (Je fun _ hK3 _=>(Jb (Jg (Jx rfl (.s .z) (by simpa [*] using ag25)) rfl ?_))))))))))))))));refine Jg (Jc rfl) rfl (Jw fn14 rfl rfl fun w hH=>(szAlgebra_c had haf (by omega) hl hH).mono ?_);rintro _ w ⟨rfl,hH⟩;refine ⟨_,rfl,fun a hF=>JK hF hH ?_⟩;refine Jg (Jd rfl) rfl (Jf (Ja (hK3 (Je fun _ hK4 _=>(Je fun _ hK5 _=>(Jb (Jg (Jc rfl) rfl (Jg (JM rfl rfl) rfl (Jf (Ja (hK5 (Jp rfl (fun h11=>?_) (fun h11=>?_)))))))))))))
 ·
  refine Je fun _ hK6 _=>(Jb (Jg (Jd rfl) rfl (Jf (Ja (hK6 (Js (Jk (Jq rfl (Res.tmp rfl) fun w hH=>?_))))))));replace hH:=hH.tail;replace hH:=hH.tail
  first | exact ⟨rfl,hH.below⟩ | exact absurd rfl h11p | exact absurd rfl h11 | (exfalso;omega) | (simp at h11;done)
 ·
  have hsz:ad.length+af.length+tot af≤1048576:=by unfold szv at h11;split at h11 <;> omega
  have hl6 : ∀i,i<af.length→(fm af i).length≤1048576:=fun i hi=>by have:=tot_fm hi;omega
  refine Jo (Ja (hK4 (Je fun _ hK7 _=>(Jb (Jg (Jx rfl At.z (by simpa [*] using ag25)) rfl (Jg (Jc rfl) rfl (Jw fn14 rfl rfl fun w hH=>(szAlgebra_c hbd hbf (by unfold szv at h11 ⊢;split at h11 <;> split <;> omega) bl hH).mono ?_)))))));rintro _ w ⟨rfl,hH⟩;refine ⟨_,rfl,fun a hF=>JK hF hH ?_⟩;refine Jg (Jd rfl) rfl (Jf (Ja (hK7 (Je fun _ hK8 _=>(Je fun _ hK9 _=>(Jb (Jg (Jc rfl) rfl (Jg (JM rfl rfl) rfl (Jf (Ja (hK9 (Jp rfl (fun h21=>?_) (fun h21=>?_)))))))))))))
  ·
   refine Je fun _ hK10 _=>(Jb (Jg (Jd rfl) rfl (Jf (Ja (hK10 (Js (Jk (Jq rfl (Res.tmp rfl) fun w hH=>?_))))))));replace hH:=hH.tail;replace hH:=hH.tail
   first | exact ⟨rfl,hH.below⟩ | exact absurd rfl h21p | exact absurd rfl h21 | (exfalso;omega) | (simp at h21;done)
  ·
   have hszb:bd.length+bf.length+tot bf≤1048576:=by unfold szv at h21;split at h21 <;> (try split at h21) <;> omega
   have bl6 : ∀i,i<bf.length→(fm bf i).length≤1048576:=fun i hi=>by have:=tot_fm hi;omega
   refine Jo (Ja (hK8 (Je fun _ hK11 _=>(Jb (Jg (Jc rfl) rfl (Jg (Jc rfl) rfl (Jw fn42 rfl rfl fun w hH=>(szFormS_c hms (by unfold szv at h21 h11 ⊢;split at h21 <;> split <;> (try split at h21) <;> (try split) <;> omega) ml hH).mono ?_)))))));rintro _ w ⟨rfl,hH⟩;refine ⟨_,rfl,fun a hF=>JK hF hH ?_⟩;refine Jg (Jd rfl) rfl (Jf (Ja (hK11 (Je fun _ hK12 _=>(Je fun _ hK13 _=>(Jb (Jg (Jc rfl) rfl (Jg (JM rfl rfl) rfl (Jf (Ja (hK13 (Jp rfl (fun h31=>?_) (fun h31=>?_)))))))))))))
   ·
    refine Je fun _ hK14 _=>(Jb (Jg (Jd rfl) rfl (Jf (Ja (hK14 (Js (Jk (Jq rfl (Res.tmp rfl) fun w hH=>?_))))))));replace hH:=hH.tail;replace hH:=hH.tail
    first | exact ⟨rfl,hH.below⟩ | exact absurd rfl h31p | exact absurd rfl h31 | (exfalso;omega) | (simp at h31;done)
   ·
    have hszm:ms.length+tot ms≤1048576:=by unfold szv at h31;split at h31 <;> (try split at h31) <;> (try split at h31) <;> omega
    have ml6 : ∀i,i<ms.length→(fm ms i).length≤1048576:=fun i hi=>by have:=tot_fm hi;omega
    refine Jo (Ja (hK12 (Je fun _ hK15 _=>(El (Rs:=[_,_]) 13 [[], [0], [], [0,1,2], [], [0,1,2,3,4], [], [0,1,2,3,4,5,6], [0,1,2,3,4,5,6,7], [0,1,2,3,4,5,6,7,8], [0,1,2,3,4,5,6,7,8], [0,1,2,3,4,5,6,7,8,9], [0,1,2,3,4,5,6,7,8,9,10,11]] [[14], [], [13], [], [], [], [], [1,3,5], [], [], [], [], []] [[], [], [], [], [], [], [], [], [], [], [], [], []] rfl rfl (by kernel_rfl) ?_))));apply Jl 1 rfl
    iterate 3 focus (intros;(conv=>lhs;simp only [Jh,Jt,JN,Ju,JI,eq_self,Nat.reduceEqDiff,reduceIte,Nat.reduceSub,Nat.reduceAdd,List.cons_append,List.nil_append]);all_goals rfl)
    ·
     intro gh X K zq zc zq2 zc2 zb zv hK;refine Jg (Jx rfl At.z (by simpa [*] using ag25)) rfl (Ji ?_);exact hK zq zc zq2 zc2 zb zv
    ·
     intro gh gh' h
     rfl
    apply GJ.st2 2 rfl
    iterate 3 focus (intros;(conv=>lhs;simp only [Jh,Jt,JN,Ju,JI,eq_self,Nat.reduceEqDiff,reduceIte,Nat.reduceSub,Nat.reduceAdd,List.cons_append,List.nil_append]);all_goals rfl)
    ·
     intro gh X K zq zc zq2 zc2 zb zv hK;refine Jw fn17 rfl rfl fun w hH=>(toAlgebra_c had haf (by omega) hl6 hH).mono ?_;rintro _ w ⟨qdo39,cdo39,qfo39,cfo39,vso39,rfl,hH⟩;refine ⟨_,rfl,fun a hF=>JK hF hH ?_⟩;refine Ji ?_;exact hK qdo39 cdo39 qfo39 cfo39 zb vso39
    ·
     intro gh gh' h;refine ⟨?_,?_,?_⟩ <;> rfl
    apply Jl 3 rfl
    iterate 3 focus (intros;(conv=>lhs;simp only [Jh,Jt,JN,Ju,JI,eq_self,Nat.reduceEqDiff,reduceIte,Nat.reduceSub,Nat.reduceAdd,List.cons_append,List.nil_append]);all_goals rfl)
    ·
     intro gh X K zq zc zq2 zc2 zb zv hK;refine Jg (Jx rfl At.z (by simpa [*] using ag25)) rfl (Ji ?_);exact hK zq zc zq2 zc2 zb zv
    ·
     intro gh gh' h
     rfl
    apply GJ.st2 4 rfl
    iterate 3 focus (intros;(conv=>lhs;simp only [Jh,Jt,JN,Ju,JI,eq_self,Nat.reduceEqDiff,reduceIte,Nat.reduceSub,Nat.reduceAdd,List.cons_append,List.nil_append]);all_goals rfl)
    ·
     intro gh X K zq zc zq2 zc2 zb zv hK;refine Jw fn17 rfl rfl fun w hH=>(toAlgebra_c hbd hbf (by omega) bl6 hH).mono ?_;rintro _ w ⟨qdo41,cdo41,qfo41,cfo41,vso41,rfl,hH⟩;refine ⟨_,rfl,fun a hF=>JK hF hH ?_⟩;refine Ji ?_;exact hK qdo41 cdo41 qfo41 cfo41 zb vso41
    ·
     intro gh gh' h;refine ⟨?_,?_,?_⟩ <;> (first | simp only [h 1 rfl] | rfl)
    apply Jl 5 rfl
    iterate 3 focus (intros;(conv=>lhs;simp only [Jh,Jt,JN,Ju,JI,eq_self,Nat.reduceEqDiff,reduceIte,Nat.reduceSub,Nat.reduceAdd,List.cons_append,List.nil_append]);all_goals rfl)
    ·
     intro gh X K zq zc zq2 zc2 zb zv hK;refine Jg (Jc rfl) rfl (Ji ?_);exact hK zq zc zq2 zc2 zb zv
    ·
     intro gh gh' h
     rfl
    apply Ea 6 rfl
    iterate 3 focus (intros;(conv=>lhs;simp only [Jh,Jt,JN,Ju,JI,eq_self,Nat.reduceEqDiff,reduceIte,Nat.reduceSub,Nat.reduceAdd,List.cons_append,List.nil_append]);all_goals rfl)
    ·
     intro gh X K zq zc zq2 zc2 zb zv hK;refine Jw fn44 rfl rfl fun w hH=>(toFormS_c hms (by omega) ml6 hH).mono ?_;rintro _ w ⟨qo43,co43,vso43,rfl,hH⟩;refine ⟨_,rfl,fun a hF=>JK hF hH ?_⟩;refine Ji ?_;exact hK qo43 co43 zq2 zc2 zb vso43
    ·
     intro gh gh' h;refine ⟨?_,?_⟩ <;> (first | simp only [h 1 rfl,h 3 rfl] | rfl)
    apply Jl 7 rfl
    iterate 3 focus (intros;(conv=>lhs;simp only [Jh,Jt,JN,Ju,JI,eq_self,Nat.reduceEqDiff,reduceIte,Nat.reduceSub,Nat.reduceAdd,List.cons_append,List.nil_append]);all_goals rfl)
    ·
     intro gh X K zq zc zq2 zc2 zb zv hK;refine Jg (Jc rfl) rfl (Ji ?_);exact hK zq zc zq2 zc2 zb zv
    ·
     intro gh gh' h
     rfl
    apply Ea 8 rfl
    iterate 3 focus (intros;(conv=>lhs;simp only [Jh,Jt,JN,Ju,JI,eq_self,Nat.reduceEqDiff,reduceIte,Nat.reduceSub,Nat.reduceAdd,List.cons_append,List.nil_append]);all_goals rfl)
    ·
     intro gh X K zq zc zq2 zc2 zb zv hK;refine Jw fn49 rfl rfl fun w hH=>hH.lend .z fun Hl1 hle1 hA1 hB1 hH=>hH.lend .z fun Hl2 hle2 hA2 hB2 hH=>hH.lend .z fun Hl3 hle3 hA3 hB3 hH=>hH.lend .z fun Hl4 hle4 hA4 hB4 hH=>hH.lend .z fun Hl5 hle5 hA5 hB5 hH=>(sMapMatrix_c (((((own_ints hA1).le hle2).le hle3).le hle4).le hle5) ((((own_forms haf.wfss hA2).le hle3).le hle4).le hle5) (((own_ints hA3).le hle4).le hle5) ((own_forms hbf.wfss hA4).le hle5) (own_forms hms.wfss hA5) (by omega) (by omega) hl6 (by omega) (by omega) bl6 (by omega) ml6 hH).mono ?_;rintro _ w ⟨qo45,co45,vso45,rfl,hH⟩;replace hH:=hB5 _ _ hH;replace hH:=hB4 _ _ hH;replace hH:=hB3 _ _ hH;replace hH:=hB2 _ _ hH;replace hH:=hB1 _ _ hH;refine ⟨_,rfl,fun a hF=>JK hF hH ?_⟩;refine Jr (.s (.s (.s (.s .z)))) (Jr (.s (.s (.s (.s .z)))) (Jr (.s (.s (.s (.s .z)))) (Jr (.s (.s (.s (.s .z)))) (Jr (.s (.s (.s (.s .z)))) (Jr (.s (.s (.s (.s (.s .z))))) (Ji ?_))))));exact hK qo45 co45 zq2 zc2 zb vso45
    ·
     intro gh gh' h;refine ⟨?_,?_⟩ <;> (first | simp only [h 1 rfl,h 3 rfl,h 5 rfl] | rfl)
    apply Jl 9 rfl
    iterate 3 focus (intros;(conv=>lhs;simp only [Jh,Jt,JN,Ju,JI,eq_self,Nat.reduceEqDiff,reduceIte,Nat.reduceSub,Nat.reduceAdd,List.cons_append,List.nil_append]);all_goals rfl)
    ·
     intro gh X K zq zc zq2 zc2 zb zv hK;refine Jg (Jc rfl) rfl (Ji ?_);exact hK zq zc zq2 zc2 zb zv
    ·
     intro gh gh' h
     first | simp only [h 1 rfl,h 3 rfl,h 5 rfl,h 7 rfl] | rfl
    apply Jl 10 rfl
    iterate 3 focus (intros;(conv=>lhs;simp only [Jh,Jt,JN,Ju,JI,eq_self,Nat.reduceEqDiff,reduceIte,Nat.reduceSub,Nat.reduceAdd,List.cons_append,List.nil_append]);all_goals rfl)
    ·
     intro gh X K zq zc zq2 zc2 zb zv hK;refine Jg (JQ rfl rfl) rfl (Ji ?_);exact hK zq zc zq2 zc2 zb zv
    ·
     intro gh gh' h
     first | simp only [h 1 rfl,h 3 rfl,h 5 rfl,h 7 rfl] | rfl
    apply Jl 11 rfl
    iterate 3 focus (intros;(conv=>lhs;simp only [Jh,Jt,JN,Ju,JI,eq_self,Nat.reduceEqDiff,reduceIte,Nat.reduceSub,Nat.reduceAdd,List.cons_append,List.nil_append]);all_goals rfl)
    ·
     intro gh X K zq zc zq2 zc2 zb zv hK;refine Jg (JQ rfl rfl) rfl (Ji ?_);exact hK zq zc zq2 zc2 zb zv
    ·
     intro gh gh' h
     first | simp only [h 1 rfl,h 3 rfl,h 5 rfl,h 7 rfl] | rfl
    apply Jl 12 rfl
    iterate 3 focus (intros;(conv=>lhs;simp only [Jh,Jt,JN,Ju,JI,eq_self,Nat.reduceEqDiff,reduceIte,Nat.reduceSub,Nat.reduceAdd,List.cons_append,List.nil_append]);all_goals rfl)
    ·
     intro gh X K zq zc zq2 zc2 zb zv hK;refine Jg (Jd rfl) rfl (Ji ?_);exact hK zq zc zq2 zc2 zb zv
    ·
     intro gh gh' h
     first | simp only [h 1 rfl,h 3 rfl,h 5 rfl,h 7 rfl] | rfl
    apply Jl 13 rfl
    iterate 3 focus (intros;(conv=>lhs;simp only [Jh,Jt,JN,Ju,JI,eq_self,Nat.reduceEqDiff,reduceIte,Nat.reduceSub,Nat.reduceAdd,List.cons_append,List.nil_append]);all_goals rfl)
    ·
     intro gh X K zq zc zq2 zc2 zb zv hK;refine Jg (Jd rfl) rfl (Ji ?_);exact hK zq zc zq2 zc2 zb zv
    ·
     intro gh gh' h
     first | simp only [h 1 rfl,h 3 rfl,h 5 rfl,h 7 rfl] | rfl
    apply Ej [0,1,2,3,4,5,6,7,8,9,10,11,12] [0,1,2,3,4,5,6,7,8,9,10,11,12,13,14] foll0 rfl rfl rfl (by rfl)
    iterate 2 focus (intros;(conv=>lhs;simp only [Jh,Jt,JN,Ju,JI,eq_self,Nat.reduceEqDiff,reduceIte,Nat.reduceSub,Nat.reduceAdd,List.cons_append,List.nil_append]);all_goals rfl)
    intro gh;generalize (gh 1).c=cdo39;generalize (gh 1).c2=cfo39;generalize (gh 1).q=qdo39;generalize (gh 1).q2=qfo39;generalize (gh 1).vs=vso39;generalize (gh 3).c=cdo41;generalize (gh 3).c2=cfo41;generalize (gh 3).q=qdo41;generalize (gh 3).q2=qfo41;generalize (gh 3).vs=vso41;generalize (gh 5).c=co43;generalize (gh 5).q=qo43;generalize (gh 5).vs=vso43;generalize (gh 7).c=co45;generalize (gh 7).q=qo45;generalize (gh 7).vs=vso45;clear gh;refine Ja (hK15 (Je fun _ hK16 _=>(Jb (Jg (Jx rfl (.s (.s (.s (.s (.s (.s (.s .z))))))) (by simpa [*] using ag25)) rfl (Jw fn17 rfl rfl fun w hH=>(toAlgebra_c had haf (by omega) hl6 hH).mono ?_)))));rintro _ w ⟨qdo49,cdo49,qfo49,cfo49,vso49,rfl,hH⟩;refine ⟨_,rfl,fun a hF=>JK hF hH ?_⟩;refine JV ze35 rfl fun g12=>(JJ rfl rfl (by first | exact bytesC_one _ | exact intsC_one _ | exact Term.c_one _ | simp [Value.oneCell']) (by simpa [*] using sz35) (by simp [*]) At.z (Jf (Ja (hK16 (Je fun _ hK17 _=>(Jb (Jg (Jx rfl (.s (.s (.s (.s (.s (.s (.s (.s (.s .z))))))))) (by simpa [*] using ag25)) rfl (Jw fn17 rfl rfl fun w hH=>(toAlgebra_c hbd hbf (by omega) bl6 hH).mono ?_))))))));rintro _ w ⟨qdo51,cdo51,qfo51,cfo51,vso51,rfl,hH⟩;refine ⟨_,rfl,fun a hF=>JK hF hH ?_⟩;refine JV ze35 rfl fun g13=>(JJ rfl rfl (by first | exact bytesC_one _ | exact intsC_one _ | exact Term.c_one _ | simp [Value.oneCell']) (by simpa [*] using sz35) (by simp [*]) At.z (Jf (Ja (hK17 (Je fun _ hK18 _=>(Jb (Jg (Jc rfl) rfl (Jw fn44 rfl rfl fun w hH=>(toFormS_c hms (by omega) ml6 hH).mono ?_))))))));rintro _ w ⟨qo53,co53,vso53,rfl,hH⟩;refine ⟨_,rfl,fun a hF=>JK hF hH ?_⟩;refine Jg (Jd rfl) rfl (Jf (Ja (hK18 (Je fun _ hK19 _=>(Jb (Jg (Jx rfl (.s (.s (.s (.s .z)))) (by simpa [*] using ag35)) rfl (Jg (Jx rfl (.s .z) (by simpa [*] using ag35)) rfl (Jg (Jc rfl) rfl (Jg (Jc rfl) rfl (Jw fn50 rfl rfl fun w hH=>hH.lend (.s (.s (.s (.s (.s .z))))) fun Hl1 hle1 hA1 hB1 hH=>hH.lend (.s (.s (.s (.s (.s .z))))) fun Hl2 hle2 hA2 hB2 hH=>hH.lend (.s (.s .z)) fun Hl3 hle3 hA3 hB3 hH=>hH.lend (.s (.s .z)) fun Hl4 hle4 hA4 hB4 hH=>hH.lend .z fun Hl5 hle5 hA5 hB5 hH=>(MapMatrix_c (((((own_ints hA1).le hle2).le hle3).le hle4).le hle5) ((((own_forms haf.wfss hA2).le hle3).le hle4).le hle5) (((own_ints hA3).le hle4).le hle5) ((own_forms hbf.wfss hA4).le hle5) (own_forms hms.wfss hA5) (by omega) (by omega) hl6 (by omega) (by omega) bl6 (by omega) ml6 hH).mono ?_))))))))));rintro _ w ⟨qo59,co59,vso59,rfl,hH⟩;replace hH:=hB5 _ _ hH;replace hH:=hB4 _ _ hH;replace hH:=hB3 _ _ hH;replace hH:=hB2 _ _ hH;replace hH:=hB1 _ _ hH;refine ⟨_,rfl,fun a hF=>JK hF hH ?_⟩;refine Jg (Jc rfl) rfl (Jg (JQ rfl rfl) rfl (Jg (JQ rfl rfl) rfl (Jg (Jd rfl) rfl (Jg (Jd rfl) rfl (Jf (Ja (hK19 (Je fun _ hK20 _=>(Je fun _ hK21 _=>(Jb (Jg (Jc rfl) rfl (Jg (Jc rfl) rfl (Jw fn39 rfl rfl fun w hH=>hH.lend (.s (.s (.s (.s (.s .z))))) fun Hl1 hle1 hA1 hB1 hH=>hH.lend (.s (.s (.s (.s (.s (.s (.s (.s (.s (.s (.s (.s .z)))))))))))) fun Hl2 hle2 hA2 hB2 hH=>(eqInt64SS_c ((own_rows hA1).le hle2) (own_rows hA2) (by omega) f3 hH).mono ?_)))))))))))));rintro _ w ⟨rfl,hH⟩;replace hH:=hB2 _ _ hH;replace hH:=hB1 _ _ hH;refine ⟨_,rfl,fun a hF=>JK hF hH ?_⟩;refine Jg (Ek rfl) rfl (Jg (Jc rfl) rfl (Ei (jd:=66) rfl (fun hg66=>?_) (fun hg66=>?_)))
    ·
     try have hg66p:=of_decide_eq_true hg66
     refine JU rfl rfl rfl hg66 (JU rfl rfl rfl hg66 (JU rfl rfl rfl hg66 (Jg (JY rfl hg66 rfl) rfl (Jf (Ja (hK21 (Er rfl (Je fun _ hK22 _=>(Jb (Jg (Jd rfl) rfl (Jf (Ja (hK22 (Js (Jk (Jq rfl (Res.tmp rfl) fun w hH=>?_))))))))))))))));replace hH:=hH.tail;replace hH:=hH.tail;replace hH:=hH.tail;replace hH:=hH.tail;replace hH:=hH.tail;replace hH:=hH.tail;replace hH:=hH.tail;replace hH:=hH.tail;replace hH:=hH.tail;replace hH:=hH.tail;replace hH:=hH.tail;replace hH:=hH.tail;replace hH:=hH.tail;replace hH:=hH.tail;replace hH:=hH.tail;replace hH:=hH.tail
     first | exact ⟨rfl,hH.below⟩ | exact absurd rfl hg66p | exact absurd rfl hg66 | (exfalso;omega) | (simp at hg66;done)
    ·
     try have hg66p:=of_decide_eq_false hg66
     refine JW (Jc rfl) rfl rfl rfl hg66 (JW (Jc rfl) rfl rfl rfl hg66 (JW (Em rfl rfl) rfl rfl rfl hg66 (Jg (JX rfl hg66 rfl) rfl (Jf (Ja (hK21 (Jp rfl (fun hc70=>?_) (fun hc70=>?_))))))))
     ·
      refine Je fun _ hK23 _=>(Jb (Jg (Jd rfl) rfl (Jf (Ja (hK23 (Js (Jk (Jq rfl (Res.tmp rfl) fun w hH=>?_))))))));replace hH:=hH.tail;replace hH:=hH.tail;replace hH:=hH.tail;replace hH:=hH.tail;replace hH:=hH.tail;replace hH:=hH.tail;replace hH:=hH.tail;replace hH:=hH.tail;replace hH:=hH.tail;replace hH:=hH.tail;replace hH:=hH.tail;replace hH:=hH.tail;replace hH:=hH.tail;replace hH:=hH.tail;replace hH:=hH.tail;replace hH:=hH.tail
      first | exact ⟨rfl,hH.below⟩ | exact absurd rfl hc70p | exact absurd rfl hc70 | (exfalso;omega) | (simp at hc70;done)
     ·
      refine Jo (Ja (hK20 (Je fun _ hK24 _=>(Je fun _ hK25 _=>(El (Rs:=[_,_,_,_,_,_,_,_,_,_,_,_,_,_,_,_]) 5 [[], [], [1], [0,1,2], [0,1,2,3]] [[13], [20], [], [2,7,8], []] [[], [], [], [], []] rfl rfl (by kernel_rfl) ?_)))));apply Jl 1 rfl
      iterate 3 focus (intros;(conv=>lhs;simp only [Jh,Jt,JN,Ju,JI,eq_self,Nat.reduceEqDiff,reduceIte,Nat.reduceSub,Nat.reduceAdd,List.cons_append,List.nil_append]);all_goals rfl)
      ·
       intro gh X K zq zc zq2 zc2 zb zv hK;refine Jg (Jx rfl At.z (by simpa [*] using ag35)) rfl (Ji ?_);exact hK zq zc zq2 zc2 zb zv
      ·
       intro gh gh' h
       rfl
      apply Jl 2 rfl
      iterate 3 focus (intros;(conv=>lhs;simp only [Jh,Jt,JN,Ju,JI,eq_self,Nat.reduceEqDiff,reduceIte,Nat.reduceSub,Nat.reduceAdd,List.cons_append,List.nil_append]);all_goals rfl)
      ·
       intro gh X K zq zc zq2 zc2 zb zv hK;refine Jg (Jx rfl At.z (by simpa [*] using ag25)) rfl (Ji ?_);exact hK zq zc zq2 zc2 zb zv
      ·
       intro gh gh' h
       rfl
      apply GJ.st2 3 rfl
      iterate 3 focus (intros;(conv=>lhs;simp only [Jh,Jt,JN,Ju,JI,eq_self,Nat.reduceEqDiff,reduceIte,Nat.reduceSub,Nat.reduceAdd,List.cons_append,List.nil_append]);all_goals rfl)
      ·
       intro gh X K zq zc zq2 zc2 zb zv hK;refine Jw fn17 rfl rfl fun w hH=>(toAlgebra_c had haf (by omega) hl6 hH).mono ?_;rintro _ w ⟨qdo73,cdo73,qfo73,cfo73,vso73,rfl,hH⟩;refine ⟨_,rfl,fun a hF=>JK hF hH ?_⟩;refine Ji ?_;exact hK qdo73 cdo73 qfo73 cfo73 zb vso73
      ·
       intro gh gh' h;refine ⟨?_,?_,?_⟩ <;> rfl
      apply Jl 4 rfl
      iterate 3 focus (intros;(conv=>lhs;simp only [Jh,Jt,JN,Ju,JI,eq_self,Nat.reduceEqDiff,reduceIte,Nat.reduceSub,Nat.reduceAdd,List.cons_append,List.nil_append]);all_goals rfl)
      ·
       intro gh X K zq zc zq2 zc2 zb zv hK;refine Jw fn20 rfl rfl fun w hH=>hH.lend (.s (.s .z)) fun Hl1 hle1 hA1 hB1 hH=>hH.lend (.s (.s .z)) fun Hl2 hle2 hA2 hB2 hH=>hH.lend .z fun Hl3 hle3 hA3 hB3 hH=>hH.lend .z fun Hl4 hle4 hA4 hB4 hH=>(eqAlgebra_c ((((own_ints hA1).le hle2).le hle3).le hle4) (((own_forms haf.wfss hA2).le hle3).le hle4) ((own_ints hA3).le hle4) (own_forms haf.wfss hA4) (by omega) (by omega) hl hH).mono ?_;rintro _ w ⟨rfl,hH⟩;replace hH:=hB4 _ _ hH;replace hH:=hB3 _ _ hH;replace hH:=hB2 _ _ hH;replace hH:=hB1 _ _ hH;refine ⟨_,rfl,fun a hF=>JK hF hH ?_⟩;refine Jr (.s .z) (Jr (.s .z) (Jr (.s (.s (.s .z))) (Jr (.s (.s (.s .z))) (Ji ?_))));exact hK zq zc zq2 zc2 zb zv
      ·
       intro gh gh' h
       first | simp only [h 2 rfl] | rfl
      apply Jl 5 rfl
      iterate 3 focus (intros;(conv=>lhs;simp only [Jh,Jt,JN,Ju,JI,eq_self,Nat.reduceEqDiff,reduceIte,Nat.reduceSub,Nat.reduceAdd,List.cons_append,List.nil_append]);all_goals rfl)
      ·
       intro gh X K zq zc zq2 zc2 zb zv hK;refine Jg (Ek rfl) rfl (Ji ?_);exact hK zq zc zq2 zc2 zb zv
      ·
       intro gh gh' h
       first | simp only [h 2 rfl] | rfl
      apply Ej [0,1,2,3,4] [0,1,2,3,4,5,6,7,8,9,10,11,12,13,14,15,16,17,18,19,20] foll0 rfl rfl rfl (by rfl)
      iterate 2 focus (intros;(conv=>lhs;simp only [Jh,Jt,JN,Ju,JI,eq_self,Nat.reduceEqDiff,reduceIte,Nat.reduceSub,Nat.reduceAdd,List.cons_append,List.nil_append]);all_goals rfl)
      intro gh;generalize (gh 2).c=cdo73;generalize (gh 2).c2=cfo73;generalize (gh 2).q=qdo73;generalize (gh 2).q2=qfo73;generalize (gh 2).vs=vso73;clear gh;refine Ja (hK25 (Eg rfl (fun hc75=>?_) (fun hc75=>?_)))
      ·
       refine Je fun _ hK26 _=>(Jb (Jg (Jd rfl) rfl (Jf (Ja (hK26 (Js (Jk (Jq rfl (Res.tmp rfl) fun w hH=>?_))))))));replace hH:=hH.tail;replace hH:=hH.tail;replace hH:=hH.tail;replace hH:=hH.tail;replace hH:=hH.tail;replace hH:=hH.tail;replace hH:=hH.tail;replace hH:=hH.tail;replace hH:=hH.tail;replace hH:=hH.tail;replace hH:=hH.tail;replace hH:=hH.tail;replace hH:=hH.tail;replace hH:=hH.tail;replace hH:=hH.tail;replace hH:=hH.tail;replace hH:=hH.tail;replace hH:=hH.tail
       first | exact ⟨rfl,hH.below⟩ | exact absurd rfl hc75p | exact absurd rfl hc75 | (exfalso;omega) | (simp at hc75;done)
      ·
       refine Jo (Ja (hK24 (Je fun _ hK27 _=>(Je fun _ hK28 _=>(El (Rs:=[_,_,_,_,_,_,_,_,_,_,_,_,_,_,_,_,_,_]) 5 [[], [], [1], [0,1,2], [0,1,2,3]] [[14], [21], [], [2,11,12], []] [[], [], [], [], []] rfl rfl (by kernel_rfl) ?_)))));apply Jl 1 rfl
       iterate 3 focus (intros;(conv=>lhs;simp only [Jh,Jt,JN,Ju,JI,eq_self,Nat.reduceEqDiff,reduceIte,Nat.reduceSub,Nat.reduceAdd,List.cons_append,List.nil_append]);all_goals rfl)
       ·
        intro gh X K zq zc zq2 zc2 zb zv hK;refine Jg (Jx rfl At.z (by simpa [*] using ag35)) rfl (Ji ?_);exact hK zq zc zq2 zc2 zb zv
       ·
        intro gh gh' h
        rfl
       apply Jl 2 rfl
       iterate 3 focus (intros;(conv=>lhs;simp only [Jh,Jt,JN,Ju,JI,eq_self,Nat.reduceEqDiff,reduceIte,Nat.reduceSub,Nat.reduceAdd,List.cons_append,List.nil_append]);all_goals rfl)
       ·
        intro gh X K zq zc zq2 zc2 zb zv hK;refine Jg (Jx rfl At.z (by simpa [*] using ag25)) rfl (Ji ?_);exact hK zq zc zq2 zc2 zb zv
       ·
        intro gh gh' h
        rfl
       apply GJ.st2 3 rfl
       iterate 3 focus (intros;(conv=>lhs;simp only [Jh,Jt,JN,Ju,JI,eq_self,Nat.reduceEqDiff,reduceIte,Nat.reduceSub,Nat.reduceAdd,List.cons_append,List.nil_append]);all_goals rfl)
       ·
        intro gh X K zq zc zq2 zc2 zb zv hK;refine Jw fn17 rfl rfl fun w hH=>(toAlgebra_c hbd hbf (by omega) bl6 hH).mono ?_;rintro _ w ⟨qdo78,cdo78,qfo78,cfo78,vso78,rfl,hH⟩;refine ⟨_,rfl,fun a hF=>JK hF hH ?_⟩;refine Ji ?_;exact hK qdo78 cdo78 qfo78 cfo78 zb vso78
       ·
        intro gh gh' h;refine ⟨?_,?_,?_⟩ <;> rfl
       apply Jl 4 rfl
       iterate 3 focus (intros;(conv=>lhs;simp only [Jh,Jt,JN,Ju,JI,eq_self,Nat.reduceEqDiff,reduceIte,Nat.reduceSub,Nat.reduceAdd,List.cons_append,List.nil_append]);all_goals rfl)
       ·
        intro gh X K zq zc zq2 zc2 zb zv hK;refine Jw fn20 rfl rfl fun w hH=>hH.lend (.s (.s .z)) fun Hl1 hle1 hA1 hB1 hH=>hH.lend (.s (.s .z)) fun Hl2 hle2 hA2 hB2 hH=>hH.lend .z fun Hl3 hle3 hA3 hB3 hH=>hH.lend .z fun Hl4 hle4 hA4 hB4 hH=>(eqAlgebra_c ((((own_ints hA1).le hle2).le hle3).le hle4) (((own_forms hbf.wfss hA2).le hle3).le hle4) ((own_ints hA3).le hle4) (own_forms hbf.wfss hA4) (by omega) (by omega) bl hH).mono ?_;rintro _ w ⟨rfl,hH⟩;replace hH:=hB4 _ _ hH;replace hH:=hB3 _ _ hH;replace hH:=hB2 _ _ hH;replace hH:=hB1 _ _ hH;refine ⟨_,rfl,fun a hF=>JK hF hH ?_⟩;refine Jr (.s .z) (Jr (.s .z) (Jr (.s (.s (.s .z))) (Jr (.s (.s (.s .z))) (Ji ?_))));exact hK zq zc zq2 zc2 zb zv
       ·
        intro gh gh' h
        first | simp only [h 2 rfl] | rfl
       apply Jl 5 rfl
       iterate 3 focus (intros;(conv=>lhs;simp only [Jh,Jt,JN,Ju,JI,eq_self,Nat.reduceEqDiff,reduceIte,Nat.reduceSub,Nat.reduceAdd,List.cons_append,List.nil_append]);all_goals rfl)
       ·
        intro gh X K zq zc zq2 zc2 zb zv hK;refine Jg (Ek rfl) rfl (Ji ?_);exact hK zq zc zq2 zc2 zb zv
       ·
        intro gh gh' h
        first | simp only [h 2 rfl] | rfl
       apply Ej [0,1,2,3,4] [0,1,2,3,4,5,6,7,8,9,10,11,12,13,14,15,16,17,18,19,20,21,22] foll0 rfl rfl rfl (by rfl)
       iterate 2 focus (intros;(conv=>lhs;simp only [Jh,Jt,JN,Ju,JI,eq_self,Nat.reduceEqDiff,reduceIte,Nat.reduceSub,Nat.reduceAdd,List.cons_append,List.nil_append]);all_goals rfl)
       intro gh;generalize (gh 2).c=cdo78;generalize (gh 2).c2=cfo78;generalize (gh 2).q=qdo78;generalize (gh 2).q2=qfo78;generalize (gh 2).vs=vso78;clear gh;refine Ja (hK28 (Eg rfl (fun hc80=>?_) (fun hc80=>?_)))
       ·
        refine Je fun _ hK29 _=>(Jb (Jg (Jd rfl) rfl (Jf (Ja (hK29 (Js (Jk (Jq rfl (Res.tmp rfl) fun w hH=>?_))))))));replace hH:=hH.tail;replace hH:=hH.tail;replace hH:=hH.tail;replace hH:=hH.tail;replace hH:=hH.tail;replace hH:=hH.tail;replace hH:=hH.tail;replace hH:=hH.tail;replace hH:=hH.tail;replace hH:=hH.tail;replace hH:=hH.tail;replace hH:=hH.tail;replace hH:=hH.tail;replace hH:=hH.tail;replace hH:=hH.tail;replace hH:=hH.tail;replace hH:=hH.tail;replace hH:=hH.tail;replace hH:=hH.tail;replace hH:=hH.tail
        first | exact ⟨rfl,hH.below⟩ | exact absurd rfl hc80p | exact absurd rfl hc80 | (exfalso;omega) | (simp at hc80;done)
       ·
        refine Jo (Ja (hK27 (Je fun _ hK30 _=>(Je fun _ hK31 _=>(Jb (Jg (Jc rfl) rfl (Jg (Jc rfl) rfl (Jw fn44 rfl rfl fun w hH=>(toFormS_c hms (by omega) ml6 hH).mono ?_))))))));rintro _ w ⟨qo83,co83,vso83,rfl,hH⟩;refine ⟨_,rfl,fun a hF=>JK hF hH ?_⟩;refine Jw fn46 rfl rfl fun w hH=>hH.lend (.s (.s (.s (.s (.s (.s (.s (.s (.s (.s (.s .z))))))))))) fun Hl1 hle1 hA1 hB1 hH=>hH.lend .z fun Hl2 hle2 hA2 hB2 hH=>(eqFormS_c ((own_forms hms.wfss hA1).le hle2) (own_forms hms.wfss hA2) (by omega) ml hH).mono ?_;rintro _ w ⟨rfl,hH⟩;replace hH:=hB2 _ _ hH;replace hH:=hB1 _ _ hH;refine ⟨_,rfl,fun a hF=>JK hF hH ?_⟩;refine Jg (Ek rfl) rfl (Jf (Ja (hK31 (Eg rfl (fun hc85=>?_) (fun hc85=>?_)))))
        ·
         refine Je fun _ hK32 _=>(Jb (Jg (Jd rfl) rfl (Jf (Ja (hK32 (Js (Jk (Jq rfl (Res.tmp rfl) fun w hH=>?_))))))));replace hH:=hH.tail;replace hH:=hH.tail;replace hH:=hH.tail;replace hH:=hH.tail;replace hH:=hH.tail;replace hH:=hH.tail;replace hH:=hH.tail;replace hH:=hH.tail;replace hH:=hH.tail;replace hH:=hH.tail;replace hH:=hH.tail;replace hH:=hH.tail;replace hH:=hH.tail;replace hH:=hH.tail;replace hH:=hH.tail;replace hH:=hH.tail;replace hH:=hH.tail;replace hH:=hH.tail;replace hH:=hH.tail;replace hH:=hH.tail;replace hH:=hH.tail
         first | exact ⟨rfl,hH.below⟩ | exact absurd rfl hc85p | exact absurd rfl hc85 | (exfalso;omega) | (simp at hc85;done)
        ·
         refine Jo (Ja (hK30 (Je fun _ hK33 _=>(Jb (Jg (Jd rfl) rfl (Jf (Ja (hK33 (Je fun _ hK34 _=>(Jb (Jg (Jx rfl (.s (.s (.s (.s (.s (.s (.s (.s (.s (.s (.s (.s (.s .z))))))))))))) (by simpa [*] using ag35)) rfl (Jg (Jc rfl) rfl (Jw fn25 rfl rfl fun w hH=>(markAlgebra_c (by omega) (by omega) ((hH.front (.s (.s (.s (.s (.s (.s (.s (.s (.s .z)))))))))).front (.s (.s (.s (.s (.s (.s (.s (.s (.s .z))))))))))).mono ?_)))))))))))));rintro _ w ⟨rfl,hH⟩;refine ⟨_,rfl,fun a hF=>JK hF hH ?_⟩;refine Jg (Jd rfl) rfl (Jf (Ja (hK34 (Je fun _ hK35 _=>(Jb (Jg (Jx rfl (.s (.s (.s (.s (.s (.s (.s (.s (.s (.s (.s (.s .z)))))))))))) (by simpa [*] using ag35)) rfl (Jg (Jc rfl) rfl (Jw fn25 rfl rfl fun w hH=>(markAlgebra_c (by omega) (by omega) ((hH.front (.s (.s (.s (.s (.s (.s (.s (.s (.s (.s (.s .z)))))))))))).front (.s (.s (.s (.s (.s (.s (.s (.s (.s (.s (.s .z))))))))))))).mono ?_))))))));rintro _ w ⟨rfl,hH⟩;refine ⟨_,rfl,fun a hF=>JK hF hH ?_⟩;refine Jg (Jd rfl) rfl (Jf (Ja (hK35 (Je fun _ hK36 _=>(Jb (Jg (Jc rfl) rfl (Jg (Jc rfl) rfl (Jw fn51 rfl rfl fun w hH=>(markFormS_c (by omega) (by omega) (hH.front (.s (.s (.s (.s .z)))))).mono ?_))))))));rintro _ w ⟨rfl,hH⟩;refine ⟨_,rfl,fun a hF=>JK hF hH ?_⟩;refine Jg (Jd rfl) rfl (Jf (Ja (hK36 (Je fun _ hK37 _=>(Je fun _ hK38 _=>(Jb (Jg (Jc rfl) rfl (Jg (JM rfl rfl) rfl (Jg (Jc rfl) rfl (Ei (jd:=97) rfl (fun hg97=>?_) (fun hg97=>?_)))))))))))
         ·
          try have hg97p:=of_decide_eq_true hg97
          refine JU rfl rfl rfl hg97 (JU rfl rfl rfl hg97 (JU rfl rfl rfl hg97 (JU rfl rfl rfl hg97 (Jg (JY rfl hg97 rfl) rfl (Jg (Jc rfl) rfl (JU rfl rfl rfl rfl (JU rfl rfl rfl rfl (JU rfl rfl rfl rfl (Jg (JY rfl rfl rfl) rfl (Jf (Ja (hK38 (Er rfl (Je fun _ hK39 _=>(Jb ?_)))))))))))))));refine Jg (Jd rfl) rfl (Jf (Ja (hK39 (Js (Jk (Jq rfl (Res.tmp rfl) fun w hH=>?_))))));replace hH:=hH.tail;replace hH:=hH.tail;replace hH:=hH.tail;replace hH:=hH.tail;replace hH:=hH.tail;replace hH:=hH.tail;replace hH:=hH.tail;replace hH:=hH.tail;replace hH:=hH.tail;replace hH:=hH.tail;replace hH:=hH.tail;replace hH:=hH.tail;replace hH:=hH.tail;replace hH:=hH.tail;replace hH:=hH.tail;replace hH:=hH.tail;replace hH:=hH.tail;replace hH:=hH.tail;replace hH:=hH.tail;replace hH:=hH.tail;replace hH:=hH.tail
          first | exact ⟨rfl,hH.below⟩ | exact absurd rfl hg97p | exact absurd rfl hg97 | (exfalso;omega) | (simp at hg97;done)
         ·
          try have hg97p:=of_decide_eq_false hg97
          refine JW (Jc rfl) rfl rfl rfl hg97 (JW (Jc rfl) rfl rfl rfl hg97 (EO fn39 rfl rfl hg97 rfl rfl fun w hH=>hH.lend (.s (.s (.s (.s (.s (.s (.s (.s (.s (.s .z)))))))))) fun Hl1 hle1 hA1 hB1 hH=>hH.lend (.s (.s (.s (.s (.s (.s (.s (.s (.s (.s .z)))))))))) fun Hl2 hle2 hA2 hB2 hH=>(eqInt64SS_c ((own_rows hA1).le hle2) (own_rows hA2) (by omega) f3 hH).mono ?_));rintro _ w ⟨rfl,hH⟩;replace hH:=hB2 _ _ hH;replace hH:=hB1 _ _ hH;refine ⟨_,rfl,fun a hF=>JK hF hH ?_⟩;refine JW (Ek rfl) rfl rfl rfl hg97 (Jg (JX rfl hg97 rfl) rfl (Jg (Jc rfl) rfl (Ei (jd:=103) rfl (fun hg103=>?_) (fun hg103=>?_))))
          ·
           try have hg103p:=of_decide_eq_true hg103
           refine JU rfl rfl rfl hg103 (JU rfl rfl rfl hg103 (JU rfl rfl rfl hg103 (Jg (JY rfl hg103 rfl) rfl (Jf (Ja (hK38 (Er rfl (Je fun _ hK40 _=>(Jb (Jg (Jd rfl) rfl (Jf (Ja (hK40 (Js (Jk (Jq rfl (Res.tmp rfl) fun w hH=>?_))))))))))))))));replace hH:=hH.tail;replace hH:=hH.tail;replace hH:=hH.tail;replace hH:=hH.tail;replace hH:=hH.tail;replace hH:=hH.tail;replace hH:=hH.tail;replace hH:=hH.tail;replace hH:=hH.tail;replace hH:=hH.tail;replace hH:=hH.tail;replace hH:=hH.tail;replace hH:=hH.tail;replace hH:=hH.tail;replace hH:=hH.tail;replace hH:=hH.tail;replace hH:=hH.tail;replace hH:=hH.tail;replace hH:=hH.tail;replace hH:=hH.tail;replace hH:=hH.tail
           first | exact ⟨rfl,hH.below⟩ | exact absurd rfl hg103p | exact absurd rfl hg103 | (exfalso;omega) | (simp at hg103;done)
          ·
           try have hg103p:=of_decide_eq_false hg103
           refine JW (Jc rfl) rfl rfl rfl hg103 (JW (Jc rfl) rfl rfl rfl hg103 (JW (Em rfl rfl) rfl rfl rfl hg103 (Jg (JX rfl hg103 rfl) rfl (Jf (Ja (hK38 (Jp rfl (fun hc107=>?_) (fun hc107=>?_))))))))
           ·
            refine Je fun _ hK41 _=>(Jb (Jg (Jd rfl) rfl (Jf (Ja (hK41 (Js (Jk (Jq rfl (Res.tmp rfl) fun w hH=>?_))))))));replace hH:=hH.tail;replace hH:=hH.tail;replace hH:=hH.tail;replace hH:=hH.tail;replace hH:=hH.tail;replace hH:=hH.tail;replace hH:=hH.tail;replace hH:=hH.tail;replace hH:=hH.tail;replace hH:=hH.tail;replace hH:=hH.tail;replace hH:=hH.tail;replace hH:=hH.tail;replace hH:=hH.tail;replace hH:=hH.tail;replace hH:=hH.tail;replace hH:=hH.tail;replace hH:=hH.tail;replace hH:=hH.tail;replace hH:=hH.tail;replace hH:=hH.tail
            first | exact ⟨rfl,hH.below⟩ | exact absurd rfl hc107p | exact absurd rfl hc107 | (exfalso;omega) | (simp at hc107;done)
           ·
            refine Jo (Ja (hK37 (Je fun _ hK42 _=>(Jb (Jg (Jd rfl) rfl (Jf (Ja (hK42 (Je fun _ hK43 _=>(Jb (Jg (Jc rfl) rfl (Jg (Jc rfl) rfl (Jw fn40 rfl rfl fun w hH=>(markInt64SS_c (by omega) (by omega) (hH.front .z)).mono ?_)))))))))))));rintro _ w ⟨rfl,hH⟩;refine ⟨_,rfl,fun a hF=>JK hF hH ?_⟩;refine Jg (Jd rfl) rfl (Jf (Ja (hK43 (Je fun _ hK44 _=>(Jb (Jg (Jd rfl) rfl (Jf (Ja (hK44 (Je fun _ hK45 _=>(Jb (Jg (Jc rfl) rfl (Jg (Jc rfl) rfl (Jw fn41 rfl rfl fun w hH=>hH.lend .z fun Hl1 hle1 hA1 hB1 hH=>(heldInt64SS_c (own_mrows (by omega) hA1) (by omega) (by omega) hH).mono ?_))))))))))))));rintro _ w ⟨rfl,hH⟩;replace hH:=hB1 _ _ hH;refine ⟨_,rfl,fun a hF=>JK hF hH ?_⟩;refine Jg (Jd rfl) rfl (Jf (Ja (hK45 (Je fun _ hK46 _=>(Je fun _ hK47 _=>(Jb (Jg (Jc rfl) rfl (Jg (JM rfl rfl) rfl (Jf (Ja (hK47 (Jp rfl (fun hc115=>?_) (fun hc115=>?_)))))))))))))
            ·
             refine Je fun _ hK48 _=>(Jb (Jg (Jd rfl) rfl (Jf (Ja (hK48 (Js (Jk (Jq rfl (Res.tmp rfl) fun w hH=>?_))))))));replace hH:=hH.tail;replace hH:=hH.tail;replace hH:=hH.tail;replace hH:=hH.tail;replace hH:=hH.tail;replace hH:=hH.tail;replace hH:=hH.tail;replace hH:=hH.tail;replace hH:=hH.tail;replace hH:=hH.tail;replace hH:=hH.tail;replace hH:=hH.tail;replace hH:=hH.tail;replace hH:=hH.tail;replace hH:=hH.tail;replace hH:=hH.tail;replace hH:=hH.tail;replace hH:=hH.tail;replace hH:=hH.tail;replace hH:=hH.tail;replace hH:=hH.tail
             first | exact ⟨rfl,hH.below⟩ | exact absurd rfl hc115p | exact absurd rfl hc115 | (exfalso;omega) | (simp at hc115;done)
            ·
             refine Jo (Ja (hK46 (Je fun _ hK49 _=>(Je fun _ hK50 _=>(Jb (Jg (Jc rfl) rfl (Jg (Jc rfl) rfl (Jg (Em rfl rfl) rfl (Jf (Ja (hK50 (Jp rfl (fun hc118=>?_) (fun hc118=>?_)))))))))))))
             ·
              refine Je fun _ hK51 _=>(Jb (Jg (Jd rfl) rfl (Jf (Ja (hK51 (Js (Jk (Jq rfl (Res.tmp rfl) fun w hH=>?_))))))));replace hH:=hH.tail;replace hH:=hH.tail;replace hH:=hH.tail;replace hH:=hH.tail;replace hH:=hH.tail;replace hH:=hH.tail;replace hH:=hH.tail;replace hH:=hH.tail;replace hH:=hH.tail;replace hH:=hH.tail;replace hH:=hH.tail;replace hH:=hH.tail;replace hH:=hH.tail;replace hH:=hH.tail;replace hH:=hH.tail;replace hH:=hH.tail;replace hH:=hH.tail;replace hH:=hH.tail;replace hH:=hH.tail;replace hH:=hH.tail;replace hH:=hH.tail
              first | exact ⟨rfl,hH.below⟩ | exact absurd rfl hc118p | exact absurd rfl hc118 | (exfalso;omega) | (simp at hc118;done)
             ·
              refine Jo (Ja (hK49 (Je fun _ hK52 _=>(El (Rs:=[_,_,_,_,_,_,_,_,_,_,_,_,_,_,_,_,_,_,_,_,_]) 13 [[], [0], [], [0,1,2], [], [0,1,2,3,4], [], [0,1,2,3,4,5,6], [0,1,2,3,4,5,6,7], [0,1,2,3,4,5,6,7,8], [0,1,2,3,4,5,6,7,8], [0,1,2,3,4,5,6,7,8,9], [0,1,2,3,4,5,6,7,8,9,10,11]] [[33], [], [32], [], [], [], [], [1,3,5], [], [], [], [], []] [[], [], [], [], [], [], [], [], [], [], [], [], []] rfl rfl (by kernel_rfl) ?_))));apply Jl 1 rfl
              iterate 3 focus (intros;(conv=>lhs;simp only [Jh,Jt,JN,Ju,JI,eq_self,Nat.reduceEqDiff,reduceIte,Nat.reduceSub,Nat.reduceAdd,List.cons_append,List.nil_append]);all_goals rfl)
              ·
               intro gh X K zq zc zq2 zc2 zb zv hK;refine Jg (Jx rfl At.z (by simpa [*] using ag25)) rfl (Ji ?_);exact hK zq zc zq2 zc2 zb zv
              ·
               intro gh gh' h
               rfl
              apply GJ.st2 2 rfl
              iterate 3 focus (intros;(conv=>lhs;simp only [Jh,Jt,JN,Ju,JI,eq_self,Nat.reduceEqDiff,reduceIte,Nat.reduceSub,Nat.reduceAdd,List.cons_append,List.nil_append]);all_goals rfl)
              ·
               intro gh X K zq zc zq2 zc2 zb zv hK;refine Jw fn17 rfl rfl fun w hH=>(toAlgebra_c had haf (by omega) hl6 hH).mono ?_;rintro _ w ⟨qdo121,cdo121,qfo121,cfo121,vso121,rfl,hH⟩;refine ⟨_,rfl,fun a hF=>JK hF hH ?_⟩;refine Ji ?_;exact hK qdo121 cdo121 qfo121 cfo121 zb vso121
              ·
               intro gh gh' h;refine ⟨?_,?_,?_⟩ <;> rfl
              apply Jl 3 rfl
              iterate 3 focus (intros;(conv=>lhs;simp only [Jh,Jt,JN,Ju,JI,eq_self,Nat.reduceEqDiff,reduceIte,Nat.reduceSub,Nat.reduceAdd,List.cons_append,List.nil_append]);all_goals rfl)
              ·
               intro gh X K zq zc zq2 zc2 zb zv hK;refine Jg (Jx rfl At.z (by simpa [*] using ag25)) rfl (Ji ?_);exact hK zq zc zq2 zc2 zb zv
              ·
               intro gh gh' h
               rfl
              apply GJ.st2 4 rfl
              iterate 3 focus (intros;(conv=>lhs;simp only [Jh,Jt,JN,Ju,JI,eq_self,Nat.reduceEqDiff,reduceIte,Nat.reduceSub,Nat.reduceAdd,List.cons_append,List.nil_append]);all_goals rfl)
              ·
               intro gh X K zq zc zq2 zc2 zb zv hK;refine Jw fn17 rfl rfl fun w hH=>(toAlgebra_c hbd hbf (by omega) bl6 hH).mono ?_;rintro _ w ⟨qdo123,cdo123,qfo123,cfo123,vso123,rfl,hH⟩;refine ⟨_,rfl,fun a hF=>JK hF hH ?_⟩;refine Ji ?_;exact hK qdo123 cdo123 qfo123 cfo123 zb vso123
              ·
               intro gh gh' h;refine ⟨?_,?_,?_⟩ <;> (first | simp only [h 1 rfl] | rfl)
              apply Jl 5 rfl
              iterate 3 focus (intros;(conv=>lhs;simp only [Jh,Jt,JN,Ju,JI,eq_self,Nat.reduceEqDiff,reduceIte,Nat.reduceSub,Nat.reduceAdd,List.cons_append,List.nil_append]);all_goals rfl)
              ·
               intro gh X K zq zc zq2 zc2 zb zv hK;refine Jg (Jc rfl) rfl (Ji ?_);exact hK zq zc zq2 zc2 zb zv
              ·
               intro gh gh' h
               rfl
              apply Ea 6 rfl
              iterate 3 focus (intros;(conv=>lhs;simp only [Jh,Jt,JN,Ju,JI,eq_self,Nat.reduceEqDiff,reduceIte,Nat.reduceSub,Nat.reduceAdd,List.cons_append,List.nil_append]);all_goals rfl)
              ·
               intro gh X K zq zc zq2 zc2 zb zv hK;refine Jw fn44 rfl rfl fun w hH=>(toFormS_c hms (by omega) ml6 hH).mono ?_;rintro _ w ⟨qo125,co125,vso125,rfl,hH⟩;refine ⟨_,rfl,fun a hF=>JK hF hH ?_⟩;refine Ji ?_;exact hK qo125 co125 zq2 zc2 zb vso125
              ·
               intro gh gh' h;refine ⟨?_,?_⟩ <;> (first | simp only [h 1 rfl,h 3 rfl] | rfl)
              apply Jl 7 rfl
              iterate 3 focus (intros;(conv=>lhs;simp only [Jh,Jt,JN,Ju,JI,eq_self,Nat.reduceEqDiff,reduceIte,Nat.reduceSub,Nat.reduceAdd,List.cons_append,List.nil_append]);all_goals rfl)
              ·
               intro gh X K zq zc zq2 zc2 zb zv hK;refine Jg (Jc rfl) rfl (Ji ?_);exact hK zq zc zq2 zc2 zb zv
              ·
               intro gh gh' h
               rfl
              apply Ea 8 rfl
              iterate 3 focus (intros;(conv=>lhs;simp only [Jh,Jt,JN,Ju,JI,eq_self,Nat.reduceEqDiff,reduceIte,Nat.reduceSub,Nat.reduceAdd,List.cons_append,List.nil_append]);all_goals rfl)
              ·
               intro gh X K zq zc zq2 zc2 zb zv hK;refine Jw fn50 rfl rfl fun w hH=>hH.lend .z fun Hl1 hle1 hA1 hB1 hH=>hH.lend .z fun Hl2 hle2 hA2 hB2 hH=>hH.lend .z fun Hl3 hle3 hA3 hB3 hH=>hH.lend .z fun Hl4 hle4 hA4 hB4 hH=>hH.lend .z fun Hl5 hle5 hA5 hB5 hH=>(MapMatrix_c (((((own_ints hA1).le hle2).le hle3).le hle4).le hle5) ((((own_forms haf.wfss hA2).le hle3).le hle4).le hle5) (((own_ints hA3).le hle4).le hle5) ((own_forms hbf.wfss hA4).le hle5) (own_forms hms.wfss hA5) (by omega) (by omega) hl6 (by omega) (by omega) bl6 (by omega) ml6 hH).mono ?_;rintro _ w ⟨qo127,co127,vso127,rfl,hH⟩;replace hH:=hB5 _ _ hH;replace hH:=hB4 _ _ hH;replace hH:=hB3 _ _ hH;replace hH:=hB2 _ _ hH;replace hH:=hB1 _ _ hH;refine ⟨_,rfl,fun a hF=>JK hF hH ?_⟩;refine Jr (.s (.s (.s (.s .z)))) (Jr (.s (.s (.s (.s .z)))) (Jr (.s (.s (.s (.s .z)))) (Jr (.s (.s (.s (.s .z)))) (Jr (.s (.s (.s (.s .z)))) (Jr (.s (.s (.s (.s (.s .z))))) (Ji ?_))))));exact hK qo127 co127 zq2 zc2 zb vso127
              ·
               intro gh gh' h;refine ⟨?_,?_⟩ <;> (first | simp only [h 1 rfl,h 3 rfl,h 5 rfl] | rfl)
              apply Jl 9 rfl
              iterate 3 focus (intros;(conv=>lhs;simp only [Jh,Jt,JN,Ju,JI,eq_self,Nat.reduceEqDiff,reduceIte,Nat.reduceSub,Nat.reduceAdd,List.cons_append,List.nil_append]);all_goals rfl)
              ·
               intro gh X K zq zc zq2 zc2 zb zv hK;refine Jg (Jc rfl) rfl (Ji ?_);exact hK zq zc zq2 zc2 zb zv
              ·
               intro gh gh' h
               first | simp only [h 1 rfl,h 3 rfl,h 5 rfl,h 7 rfl] | rfl
              apply Jl 10 rfl
              iterate 3 focus (intros;(conv=>lhs;simp only [Jh,Jt,JN,Ju,JI,eq_self,Nat.reduceEqDiff,reduceIte,Nat.reduceSub,Nat.reduceAdd,List.cons_append,List.nil_append]);all_goals rfl)
              ·
               intro gh X K zq zc zq2 zc2 zb zv hK;refine Jg (JQ rfl rfl) rfl (Ji ?_);exact hK zq zc zq2 zc2 zb zv
              ·
               intro gh gh' h
               first | simp only [h 1 rfl,h 3 rfl,h 5 rfl,h 7 rfl] | rfl
              apply Jl 11 rfl
              iterate 3 focus (intros;(conv=>lhs;simp only [Jh,Jt,JN,Ju,JI,eq_self,Nat.reduceEqDiff,reduceIte,Nat.reduceSub,Nat.reduceAdd,List.cons_append,List.nil_append]);all_goals rfl)
              ·
               intro gh X K zq zc zq2 zc2 zb zv hK;refine Jg (JQ rfl rfl) rfl (Ji ?_);exact hK zq zc zq2 zc2 zb zv
              ·
               intro gh gh' h
               first | simp only [h 1 rfl,h 3 rfl,h 5 rfl,h 7 rfl] | rfl
              apply Jl 12 rfl
              iterate 3 focus (intros;(conv=>lhs;simp only [Jh,Jt,JN,Ju,JI,eq_self,Nat.reduceEqDiff,reduceIte,Nat.reduceSub,Nat.reduceAdd,List.cons_append,List.nil_append]);all_goals rfl)
              ·
               intro gh X K zq zc zq2 zc2 zb zv hK;refine Jg (Jd rfl) rfl (Ji ?_);exact hK zq zc zq2 zc2 zb zv
              ·
               intro gh gh' h
               first | simp only [h 1 rfl,h 3 rfl,h 5 rfl,h 7 rfl] | rfl
              apply Jl 13 rfl
              iterate 3 focus (intros;(conv=>lhs;simp only [Jh,Jt,JN,Ju,JI,eq_self,Nat.reduceEqDiff,reduceIte,Nat.reduceSub,Nat.reduceAdd,List.cons_append,List.nil_append]);all_goals rfl)
              ·
               intro gh X K zq zc zq2 zc2 zb zv hK;refine Jg (Jd rfl) rfl (Ji ?_);exact hK zq zc zq2 zc2 zb zv
              ·
               intro gh gh' h
               first | simp only [h 1 rfl,h 3 rfl,h 5 rfl,h 7 rfl] | rfl
              apply Ej [0,1,2,3,4,5,6,7,8,9,10,11,12] [0,1,2,3,4,5,6,7,8,9,10,11,12,13,14,15,16,17,18,19,20,21,22,23,24,25,26,27,28,29,30,31,32,33] foll0 rfl rfl rfl (by rfl)
              iterate 2 focus (intros;(conv=>lhs;simp only [Jh,Jt,JN,Ju,JI,eq_self,Nat.reduceEqDiff,reduceIte,Nat.reduceSub,Nat.reduceAdd,List.cons_append,List.nil_append]);all_goals rfl)
              intro gh;generalize (gh 1).c=cdo121;generalize (gh 1).c2=cfo121;generalize (gh 1).q=qdo121;generalize (gh 1).q2=qfo121;generalize (gh 1).vs=vso121;generalize (gh 3).c=cdo123;generalize (gh 3).c2=cfo123;generalize (gh 3).q=qdo123;generalize (gh 3).q2=qfo123;generalize (gh 3).vs=vso123;generalize (gh 5).c=co125;generalize (gh 5).q=qo125;generalize (gh 5).vs=vso125;generalize (gh 7).c=co127;generalize (gh 7).q=qo127;generalize (gh 7).vs=vso127;clear gh;refine Ja (hK52 (Je fun _ hK53 _=>(Je fun _ hK54 _=>(Jb (Jg (Jc rfl) rfl (Jg (Jc rfl) rfl (Jw fn39 rfl rfl fun w hH=>hH.lend (.s (.s (.s (.s (.s .z))))) fun Hl1 hle1 hA1 hB1 hH=>hH.lend (.s (.s (.s (.s (.s (.s .z)))))) fun Hl2 hle2 hA2 hB2 hH=>(eqInt64SS_c ((own_rows hA1).le hle2) (own_rows hA2) (by omega) f3 hH).mono ?_)))))));rintro _ w ⟨rfl,hH⟩;replace hH:=hB2 _ _ hH;replace hH:=hB1 _ _ hH;refine ⟨_,rfl,fun a hF=>JK hF hH ?_⟩;refine Jg (Ek rfl) rfl (Jg (Jc rfl) rfl (Ei (jd:=134) rfl (fun hg134=>?_) (fun hg134=>?_)))
              ·
               try have hg134p:=of_decide_eq_true hg134
               refine JU rfl rfl rfl hg134 (JU rfl rfl rfl hg134 (JU rfl rfl rfl hg134 (Jg (JY rfl hg134 rfl) rfl (Jf (Ja (hK54 (Er rfl (Je fun _ hK55 _=>(Jb (Jg (Jd rfl) rfl (Jf (Ja (hK55 (Js (Jk (Jq rfl (Res.tmp rfl) fun w hH=>?_))))))))))))))));replace hH:=hH.tail;replace hH:=hH.tail;replace hH:=hH.tail;replace hH:=hH.tail;replace hH:=hH.tail;replace hH:=hH.tail;replace hH:=hH.tail;replace hH:=hH.tail;replace hH:=hH.tail;replace hH:=hH.tail;replace hH:=hH.tail;replace hH:=hH.tail;replace hH:=hH.tail;replace hH:=hH.tail;replace hH:=hH.tail;replace hH:=hH.tail;replace hH:=hH.tail;replace hH:=hH.tail;replace hH:=hH.tail;replace hH:=hH.tail;replace hH:=hH.tail;replace hH:=hH.tail;replace hH:=hH.tail;replace hH:=hH.tail;replace hH:=hH.tail;replace hH:=hH.tail;replace hH:=hH.tail
               first | exact ⟨rfl,hH.below⟩ | exact absurd rfl hg134p | exact absurd rfl hg134 | (exfalso;omega) | (simp at hg134;done)
              ·
               try have hg134p:=of_decide_eq_false hg134
               refine JW (Jc rfl) rfl rfl rfl hg134 (JW (Jc rfl) rfl rfl rfl hg134 (JW (Em rfl rfl) rfl rfl rfl hg134 (Jg (JX rfl hg134 rfl) rfl (Jf (Ja (hK54 (Jp rfl (fun hc138=>?_) (fun hc138=>?_))))))))
               ·
                refine Je fun _ hK56 _=>(Jb (Jg (Jd rfl) rfl (Jf (Ja (hK56 (Js (Jk (Jq rfl (Res.tmp rfl) fun w hH=>?_))))))));replace hH:=hH.tail;replace hH:=hH.tail;replace hH:=hH.tail;replace hH:=hH.tail;replace hH:=hH.tail;replace hH:=hH.tail;replace hH:=hH.tail;replace hH:=hH.tail;replace hH:=hH.tail;replace hH:=hH.tail;replace hH:=hH.tail;replace hH:=hH.tail;replace hH:=hH.tail;replace hH:=hH.tail;replace hH:=hH.tail;replace hH:=hH.tail;replace hH:=hH.tail;replace hH:=hH.tail;replace hH:=hH.tail;replace hH:=hH.tail;replace hH:=hH.tail;replace hH:=hH.tail;replace hH:=hH.tail;replace hH:=hH.tail;replace hH:=hH.tail;replace hH:=hH.tail;replace hH:=hH.tail
                first | exact ⟨rfl,hH.below⟩ | exact absurd rfl hc138p | exact absurd rfl hc138 | (exfalso;omega) | (simp at hc138;done)
               ·
                refine Jo (Ja (hK53 (Je fun _ hK57 _=>(Jb (Jg (Jd rfl) rfl (Jf (Ja (hK57 (Je fun _ hK58 _=>(Jb (Jg (Jc rfl) rfl (Jg (Jc rfl) rfl (Jw fn41 rfl rfl fun w hH=>hH.lend (.s (.s (.s (.s (.s (.s (.s .z))))))) fun Hl1 hle1 hA1 hB1 hH=>(heldInt64SS_c (own_mrows (by omega) hA1) (by omega) (by omega) hH).mono ?_)))))))))))));rintro _ w ⟨rfl,hH⟩;replace hH:=hB1 _ _ hH;refine ⟨_,rfl,fun a hF=>JK hF hH ?_⟩;refine Jg (Jd rfl) rfl (Jf (Ja (hK58 (Je fun _ hK59 _=>(Je fun _ hK60 _=>(Jb (Jg (Jc rfl) rfl (Jg (JM rfl rfl) rfl (Jf (Ja (hK60 (Jp rfl (fun hc143=>?_) (fun hc143=>?_)))))))))))))
                ·
                 refine Je fun _ hK61 _=>(Jb (Jg (Jd rfl) rfl (Jf (Ja (hK61 (Js (Jk (Jq rfl (Res.tmp rfl) fun w hH=>?_))))))));replace hH:=hH.tail;replace hH:=hH.tail;replace hH:=hH.tail;replace hH:=hH.tail;replace hH:=hH.tail;replace hH:=hH.tail;replace hH:=hH.tail;replace hH:=hH.tail;replace hH:=hH.tail;replace hH:=hH.tail;replace hH:=hH.tail;replace hH:=hH.tail;replace hH:=hH.tail;replace hH:=hH.tail;replace hH:=hH.tail;replace hH:=hH.tail;replace hH:=hH.tail;replace hH:=hH.tail;replace hH:=hH.tail;replace hH:=hH.tail;replace hH:=hH.tail;replace hH:=hH.tail;replace hH:=hH.tail;replace hH:=hH.tail;replace hH:=hH.tail;replace hH:=hH.tail;replace hH:=hH.tail
                 first | exact ⟨rfl,hH.below⟩ | exact absurd rfl hc143p | exact absurd rfl hc143 | (exfalso;omega) | (simp at hc143;done)
                ·
                 refine Jo (Ja (hK59 (Je fun _ hK62 _=>(Je fun _ hK63 _=>(Jb (Jg (Jc rfl) rfl (Jg (Jc rfl) rfl (Jg (Em rfl rfl) rfl (Jf (Ja (hK63 (Jp rfl (fun hc146=>?_) (fun hc146=>?_)))))))))))))
                 ·
                  refine Je fun _ hK64 _=>(Jb (Jg (Jd rfl) rfl (Jf (Ja (hK64 (Js (Jk (Jq rfl (Res.tmp rfl) fun w hH=>?_))))))));replace hH:=hH.tail;replace hH:=hH.tail;replace hH:=hH.tail;replace hH:=hH.tail;replace hH:=hH.tail;replace hH:=hH.tail;replace hH:=hH.tail;replace hH:=hH.tail;replace hH:=hH.tail;replace hH:=hH.tail;replace hH:=hH.tail;replace hH:=hH.tail;replace hH:=hH.tail;replace hH:=hH.tail;replace hH:=hH.tail;replace hH:=hH.tail;replace hH:=hH.tail;replace hH:=hH.tail;replace hH:=hH.tail;replace hH:=hH.tail;replace hH:=hH.tail;replace hH:=hH.tail;replace hH:=hH.tail;replace hH:=hH.tail;replace hH:=hH.tail;replace hH:=hH.tail;replace hH:=hH.tail
                  first | exact ⟨rfl,hH.below⟩ | exact absurd rfl hc146p | exact absurd rfl hc146 | (exfalso;omega) | (simp at hc146;done)
                 ·
                  refine Jo (Ja (hK62 (Je fun _ hK65 _=>(Jb (Jg (Jd rfl) rfl (Jf (Ja (hK65 (Js (Jq rfl (Res.tmp rfl) fun w hH=>?_))))))))));replace hH:=hH.tail;replace hH:=hH.tail;replace hH:=hH.tail;replace hH:=hH.tail;replace hH:=hH.tail;replace hH:=hH.tail;replace hH:=hH.tail;replace hH:=hH.tail;replace hH:=hH.tail;replace hH:=hH.tail;replace hH:=hH.tail;replace hH:=hH.tail;replace hH:=hH.tail;replace hH:=hH.tail;replace hH:=hH.tail;replace hH:=hH.tail;replace hH:=hH.tail;replace hH:=hH.tail;replace hH:=hH.tail;replace hH:=hH.tail;replace hH:=hH.tail;replace hH:=hH.tail;replace hH:=hH.tail;replace hH:=hH.tail;replace hH:=hH.tail;replace hH:=hH.tail;replace hH:=hH.tail
                  first | exact ⟨rfl,hH.below⟩ | exact absurd rfl hc146p | exact absurd rfl hc146 | (exfalso;omega) | (simp at hc146;done)
end Go.Proofs.YthenedanhcnccaaGreat.G
namespace Go.Proofs.YthenedanhcnccaaGreat.fnExactMapMatrix
open Go.ChangeShapes Go.WideShapes Go.ChangeAt Go.RowKit
open Go.Proofs.YthenedanhcnccaaGreat.G
theorem u25:Tryz.prog.underlying 25=some (TypeDesc.struct #[{name:="Degrees",type:=22,offset:=0,embedded:=false,tag:="",pkgPath:="",byteOffset:=0},{name:="Images",type:=23,offset:=1,embedded:=false,tag:="",pkgPath:="",byteOffset:=24}]):=by kernel_rfl
theorem u22:Tryz.prog.underlying 22=some (TypeDesc.slice 2):=by kernel_rfl
theorem u2:Tryz.prog.underlying 2=some (TypeDesc.int .i64):=by kernel_rfl
theorem u23:Tryz.prog.underlying 23=some (TypeDesc.slice 28):=by kernel_rfl
theorem u28:Tryz.prog.underlying 28=some (TypeDesc.struct #[{name:="Terms",type:=26,offset:=0,embedded:=false,tag:="",pkgPath:="",byteOffset:=0}]):=by kernel_rfl
theorem u26:Tryz.prog.underlying 26=some (TypeDesc.slice 155):=by kernel_rfl
theorem u155:Tryz.prog.underlying 155=some (TypeDesc.struct #[{name:="Monomial",type:=149,offset:=0,embedded:=false,tag:="",pkgPath:="",byteOffset:=0},{name:="Factor",type:=2,offset:=8,embedded:=false,tag:="",pkgPath:="",byteOffset:=8}]):=by kernel_rfl
theorem u149:Tryz.prog.underlying 149=some (TypeDesc.array 8 5):=by kernel_rfl
theorem u5:Tryz.prog.underlying 5=some (TypeDesc.int .u8):=by kernel_rfl
theorem u4:Tryz.prog.underlying 4=some (TypeDesc.bool):=by kernel_rfl
theorem own:ownKnob Tryz.prog.godebug=none:=by kernel_rfl
theorem lifted (os:Os) (started:os.Started) (H:Type) (enc:TypeId × Value→H):ReturnsInHanded {} Tryz.checked os 12 .any (Rows.fnExactMapMatrixSpec.pre6 enc Tryz.prog Tryz.f12 Rows.fnExactMapMatrixRow.domain false) (Rows.fnExactMapMatrixSpec.post enc Tryz.prog Tryz.f12 false true false false):=by
 refine returnsInHanded_of_change_sized (C:=Tryz.checked) own started (by kernel_rfl) Tryz.func12
  (ChangeSpec.witness6 (enc:=enc) (C:=Tryz.checked) false ⟨#[],#[.agg #[.slice none 0 0,.slice none 0 0],.agg #[.slice none 0 0,.slice none 0 0],.slice none 0 0,.int .i64 0], []⟩ 12 (by kernel_rfl) (by kernel_rfl) (by kernel_rfl) (by kernel_rfl)) ?_
 intro W base args ds gs before hval0 hW hcnd hsz0 _;have hval : ∀(j:Nat) t v,Tryz.f12.params[j]? = some t→args[j]? = some v→Value.okWide Tryz.prog W .any base t v:=hval0;have hW':=hW;obtain ⟨p,q,hA0,hV,rfl,hfz,hnd⟩:=hW;have hA:DataW.TrodAll enc Tryz.prog W 0 (fun _=>true) true Tryz.f12.params.toList args.toList ds p:=hA0;rw [Tryz.params12] at hA hval;obtain ⟨v0,JN,d0,ds0,p0,q0,hargs,rfl,rfl,h0,r0⟩:=trodAll_cons hA;obtain ⟨v1,vs1,d1,ds1,p1,q1,rfl,rfl,rfl,h1,r1⟩:=trodAll_cons r0;obtain ⟨v2,vs2,d2,ds2,p2,q2,rfl,rfl,rfl,h2,r2⟩:=trodAll_cons r1;obtain ⟨v3,vs3,d3,ds3,p3,q3,rfl,rfl,rfl,h3,r3⟩:=trodAll_cons r2;obtain ⟨rfl,rfl,rfl⟩:=trodAll_nil r3
 obtain rfl:args = #[v0,v1,v2,v3]:=by cases args;simp_all
 obtain ⟨rfl,rfl⟩:=trodVars_none hV;obtain ⟨q0d,c0d,ds0,q0f,c0f,fs0,rfl,X0,F0,le0,fl0⟩:=openV_alg u25 rfl rfl rfl rfl (by kernel_rfl) (by kernel_rfl) (by kernel_rfl) u22 u2 (by kernel_rfl) u23 (by kernel_rfl) (fun n l y hy=>tr_form u28 rfl rfl (by kernel_rfl) (by kernel_rfl) u26 (by kernel_rfl) u155 rfl rfl rfl rfl u149 u5 (by kernel_rfl) (by kernel_rfl) u2 (by kernel_rfl) hy) (hval 0 25 v0 rfl rfl) h0;obtain ⟨q1d,c1d,ds1,q1f,c1f,fs1,rfl,X1,F1,le1,fl1⟩:=openV_alg u25 rfl rfl rfl rfl (by kernel_rfl) (by kernel_rfl) (by kernel_rfl) u22 u2 (by kernel_rfl) u23 (by kernel_rfl) (fun n l y hy=>tr_form u28 rfl rfl (by kernel_rfl) (by kernel_rfl) u26 (by kernel_rfl) u155 rfl rfl rfl rfl u149 u5 (by kernel_rfl) (by kernel_rfl) u2 (by kernel_rfl) hy) (hval 1 25 v1 rfl rfl) h1;obtain ⟨q2,c2,fs2,rfl,X2,le2,fl2⟩:=openV_forms u23 (by kernel_rfl) (fun n l y hy=>tr_form u28 rfl rfl (by kernel_rfl) (by kernel_rfl) u26 (by kernel_rfl) u155 rfl rfl rfl rfl u149 u5 (by kernel_rfl) (by kernel_rfl) u2 (by kernel_rfl) hy) (hval 2 23 v2 rfl rfl) h2;obtain ⟨a3,rfl,lo3,hi3⟩:=openV_int u2 (hval 3 2 v3 rfl rfl) h3;clear hA0 hval0 hsz0;refine ((lawMapMatrix_c X0 F0 X1 F1 X2 le0 fl0 le1 fl1 le2 fl2 (Hp.start (H:=hp W) fun _ _ h=>h)).mono fun e W' ⟨he,bel⟩=>?_);subst he;exact ⟨_,rfl,law_post (f:=Tryz.f12) (by kernel_rfl) (by kernel_rfl) rfl rfl u4 rfl hW' bel⟩
theorem joined:joinedFacts Tryz.prog 12 Tryz.f12 Rows.fnExactMapMatrixSpec Rows.fnExactMapMatrixRow=true:=by
 unfold joinedFacts;simp only [Bool.and_eq_true]
 repeat' apply And.intro
 all_goals first
  | with_reducible exact Facts.fEnter
  | with_reducible exact Facts.fLaid
  | with_reducible exact Facts.fMaps
  | with_reducible exact Facts.fHeard
  | (rw [Facts.fMake];rfl)
  | (rw [Facts.fLift];rfl)
  | (rw [Facts.fKeys];rfl)
  | (rw [Facts.fStops];rfl)
  | (rw [Facts.fStopK];rfl)
  | as_aux_lemma=>kernel_rfl
theorem over:Rows.fnExactMapMatrixRow.holds Tryz.pinned (OpenSpec.ofChange Rows.fnExactMapMatrixSpec):=
 OpenClaim.holds_of_wide 12 Tryz.f12 rfl rfl rfl rfl rfl rfl rfl ⟨rfl,rfl,rfl,rfl,rfl⟩ rfl rfl rfl rfl rfl (by as_aux_lemma=>kernel_rfl) Tryz.func12 joined
  (of_decide_eq_true (by as_aux_lemma=>kernel_rfl)) (by unfold Func.isWrapper;first | (rw [if_pos (by decide +kernel)];kernel_rfl) | (rw [if_neg (by decide +kernel)];exact ⟨rfl,rfl⟩))
  (fun os started H enc _=>lifted os started H enc)
theorem proved:Rows.FnExactMapMatrixSaid:=over
#print axioms proved
end Go.Proofs.YthenedanhcnccaaGreat.fnExactMapMatrix
namespace Go.Proofs.YthenedanhcnccaaGreat
theorem fnExactMapMatrix_holds:Rows.FnExactMapMatrixSaid:=fnExactMapMatrix.proved
end Go.Proofs.YthenedanhcnccaaGreat
