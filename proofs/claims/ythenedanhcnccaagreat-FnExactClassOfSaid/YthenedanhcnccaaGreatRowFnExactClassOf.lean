/- The row: the law answers true whatever the input, and the input reads as it did. No condition. -/
import Derived.Test.YthenedanhcnccaaGreatRows
import Derived.Test.YthenedanhcnccaaGreatProg
import Derived.WalkKit
import Derived.KernelRfl
import Derived.JoinedOf
import Derived.Maps.AppendAt
import Derived.Still
import Derived.ProofKit
import Derived.OpenShut
import Derived.StillTail
import Derived.Deep.Upon
import Derived.WalkSpells
import Derived.Maps.Range
import Derived.DeepKeys4
import Derived.Maps.Keyed
import Derived.ChangeOld
import Derived.Below
import Derived.SizedLaws
import Derived.Test.YthenedanhcnccaaGreatPClog
set_option linter.unusedVariables false
set_option linter.unusedSimpArgs false
set_option maxRecDepth 10000
set_option maxHeartbeats 8000000
namespace Go.Proofs.YthenedanhcnccaaGreat.G
open Go Go.RowKit
theorem ag25:Agg Tryz.prog 25 2:=⟨_,u25,rfl,by kernel_rfl⟩
theorem fn14:Fn Tryz.prog 14:=⟨_,Tryz.func14,by kernel_rfl,rfl⟩
theorem fn17:Fn Tryz.prog 17:=⟨_,Tryz.func17,by kernel_rfl,rfl⟩
theorem fn20:Fn Tryz.prog 20:=⟨_,Tryz.func20,by kernel_rfl,rfl⟩
theorem fn25:Fn Tryz.prog 25:=⟨_,Tryz.func25,by kernel_rfl,rfl⟩
theorem fn28:Fn Tryz.prog 28:=⟨_,Tryz.func28,by kernel_rfl,rfl⟩
theorem fn29:Fn Tryz.prog 29:=⟨_,Tryz.func29,by kernel_rfl,rfl⟩
theorem fn30:Fn Tryz.prog 30:=⟨_,Tryz.func30,by kernel_rfl,rfl⟩
theorem lawClassOf_c {B:World} {H0 H:HP} {L:List SA} {w:World} {qad qaf:Option Addr} {cad caf:Nat} {ad:List Int} {af:List (List Term)} {qts:Option Addr} {cts:Nat} {ts:List Term} (had:Ints H qad ad) (haf:Forms H qaf af) (hts:Terms H qts ts) (hn:ad.length≤9223372036854775807∧af.length≤9223372036854775807) (hl : ∀i,i<af.length→(fm af i).length≤9223372036854775807) (hlt:ts.length≤9223372036854775807) (hH:Hp B H0 H L w):Calls Tryz.prog 5 [.agg [.slice qad ad.length cad,.slice qaf af.length caf].toArray,.agg [.slice qts ts.length cts].toArray].toArray w fun e w'=>e = .returned (.bool true)∧Below B.heap.size B w':=by
 refine Jx Tryz.func5 rfl 119 rfl rfl [(0,.agg [.slice qad ad.length cad,.slice qaf af.length caf].toArray),(1,.agg [.slice qts ts.length cts].toArray)] rfl hH ?_;clear hH;have f1:=csV_len haf.wfss (ts:=ts) (ds:=ad);refine Je fun _ hK1 _=>(Jb (Ea rfl rfl rfl fun g2=>(Ea rfl rfl rfl fun g3=>(Jg (Jd rfl) rfl (Jf (Ja (hK1 (Je fun _ hK2 _=>(Jb (Jg (Jd rfl) rfl (Jf (Ja (hK2 (Je fun _ hK3 _=>(Jb (Jg (Jv rfl (.s .z) (by simpa [*] using ag25)) rfl ?_))))))))))))))));refine Jg (Jc rfl) rfl (Jy fn14 rfl rfl fun w hH=>(szAlgebra_c had haf (by omega) hl hH).mono ?_);rintro _ w ⟨rfl,hH⟩;refine ⟨_,rfl,fun a hF=>JM hF hH ?_⟩;refine Jg (Jd rfl) rfl (Jf (Ja (hK3 (Je fun _ hK4 _=>(Je fun _ hK5 _=>(Jb (Jg (Jc rfl) rfl (Jg (JJ rfl rfl) rfl (Jf (Ja (hK5 (Jm rfl (fun h11=>?_) (fun h11=>?_)))))))))))))
 ·
  refine Je fun _ hK6 _=>(Jb (Jg (Jd rfl) rfl (Jf (Ja (hK6 (Jr (Jj (Jq rfl (Res.tmp rfl) fun w hH=>?_))))))));replace hH:=hH.tail;replace hH:=hH.tail
  first | exact ⟨rfl,hH.below⟩ | exact absurd rfl h11p | exact absurd rfl h11 | (exfalso;omega) | (simp at h11;done)
 ·
  have hsz:ad.length+af.length+tot af≤1048576:=by unfold szv at h11;split at h11 <;> omega
  have hl6 : ∀i,i<af.length→(fm af i).length≤1048576:=fun i hi=>by have:=tot_fm hi;omega
  refine Jl (Ja (hK4 (Je fun _ hK7 _=>(Jb (Jg (Jv rfl At.z (by simpa [*] using ag28)) rfl (Jg (Jc rfl) rfl (Jy fn15 rfl rfl fun w hH=>(szForm_c hts (by unfold szv at h11 ⊢;split at h11 <;> split <;> omega) hH).mono ?_)))))));rintro _ w ⟨rfl,hH⟩;refine ⟨_,rfl,fun a hF=>JM hF hH ?_⟩;refine Jg (Jd rfl) rfl (Jf (Ja (hK7 (Je fun _ hK8 _=>(Je fun _ hK9 _=>(Jb (Jg (Jc rfl) rfl (Jg (JJ rfl rfl) rfl (Jf (Ja (hK9 (Jm rfl (fun h21=>?_) (fun h21=>?_)))))))))))))
  ·
   refine Je fun _ hK10 _=>(Jb (Jg (Jd rfl) rfl (Jf (Ja (hK10 (Jr (Jj (Jq rfl (Res.tmp rfl) fun w hH=>?_))))))));replace hH:=hH.tail;replace hH:=hH.tail
   first | exact ⟨rfl,hH.below⟩ | exact absurd rfl h21p | exact absurd rfl h21 | (exfalso;omega) | (simp at h21;done)
  ·
   have hts6:ts.length≤1048576:=by unfold szv at h21;split at h21 <;> (try split at h21) <;> omega
   refine Jl (Ja (hK8 (Je fun _ hK11 _=>(El (Rs:=[_,_]) 10 [[], [0], [], [0,1,2], [0,1,2,3], [0,1,2,3,4], [0,1,2,3,4,5], [0,1,2,3,4,5], [0,1,2,3,4,5,6], [0,1,2,3,4,5,6,7,8]] [[11], [], [10], [], [1,3], [], [], [], [], []] [[], [], [], [], [], [], [], [], [], []] rfl rfl (by kernel_rfl) ?_))));apply Jp 1 rfl
   iterate 3 focus (intros;(conv=>lhs;simp only [Jh,Jt,JP,Jw,JH,eq_self,Nat.reduceEqDiff,reduceIte,Nat.reduceSub,Nat.reduceAdd,List.cons_append,List.nil_append]);all_goals rfl)
   ·
    intro gh X K zq zc zq2 zc2 zb zv hK;refine Jg (Jv rfl At.z (by simpa [*] using ag25)) rfl (Ji ?_);exact hK zq zc zq2 zc2 zb zv
   ·
    intro gh gh' h
    rfl
   apply GJ.st2 2 rfl
   iterate 3 focus (intros;(conv=>lhs;simp only [Jh,Jt,JP,Jw,JH,eq_self,Nat.reduceEqDiff,reduceIte,Nat.reduceSub,Nat.reduceAdd,List.cons_append,List.nil_append]);all_goals rfl)
   ·
    intro gh X K zq zc zq2 zc2 zb zv hK;refine Jy fn17 rfl rfl fun w hH=>(toAlgebra_c had haf (by omega) hl6 hH).mono ?_;rintro _ w ⟨qdo29,cdo29,qfo29,cfo29,vso29,rfl,hH⟩;refine ⟨_,rfl,fun a hF=>JM hF hH ?_⟩;refine Ji ?_;exact hK qdo29 cdo29 qfo29 cfo29 zb vso29
   ·
    intro gh gh' h;refine ⟨?_,?_,?_⟩ <;> rfl
   apply Jp 3 rfl
   iterate 3 focus (intros;(conv=>lhs;simp only [Jh,Jt,JP,Jw,JH,eq_self,Nat.reduceEqDiff,reduceIte,Nat.reduceSub,Nat.reduceAdd,List.cons_append,List.nil_append]);all_goals rfl)
   ·
    intro gh X K zq zc zq2 zc2 zb zv hK;refine Jg (Jv rfl At.z (by simpa [*] using ag28)) rfl (Ji ?_);exact hK zq zc zq2 zc2 zb zv
   ·
    intro gh gh' h
    rfl
   apply Ec 4 rfl
   iterate 3 focus (intros;(conv=>lhs;simp only [Jh,Jt,JP,Jw,JH,eq_self,Nat.reduceEqDiff,reduceIte,Nat.reduceSub,Nat.reduceAdd,List.cons_append,List.nil_append]);all_goals rfl)
   ·
    intro gh X K zq zc zq2 zc2 zb zv hK;refine Jy fn18 rfl rfl fun w hH=>(toForm_c hts (by omega) hH).mono ?_;rintro _ w ⟨qo31,co31,rfl,hH⟩;refine ⟨_,rfl,fun a hF=>JM hF hH ?_⟩;refine Ji ?_;exact hK qo31 co31 zq2 zc2 zb zv
   ·
    intro gh gh' h;refine ⟨?_,?_⟩ <;> (first | simp only [h 1 rfl] | rfl)
   apply Ec 5 rfl
   iterate 3 focus (intros;(conv=>lhs;simp only [Jh,Jt,JP,Jw,JH,eq_self,Nat.reduceEqDiff,reduceIte,Nat.reduceSub,Nat.reduceAdd,List.cons_append,List.nil_append]);all_goals rfl)
   ·
    intro gh X K zq zc zq2 zc2 zb zv hK;refine Jy fn28 rfl rfl fun w hH=>hH.lend .z fun Hl1 hle1 hA1 hB1 hH=>hH.lend .z fun Hl2 hle2 hA2 hB2 hH=>hH.lend .z fun Hl3 hle3 hA3 hB3 hH=>(sClassOf_c (((own_ints hA1).le hle2).le hle3) ((own_forms haf.wfss hA2).le hle3) (own_terms hts.wfs hA3) (by omega) (by omega) hl6 (by omega) (own_le hA3) hH).mono ?_;rintro _ w ⟨qo32,co32,rfl,hH⟩;replace hH:=hB3 _ _ hH;replace hH:=hB2 _ _ hH;replace hH:=hB1 _ _ hH;refine ⟨_,rfl,fun a hF=>JM hF hH ?_⟩;refine Jz (.s (.s .z)) (Jz (.s (.s .z)) (Jz (.s (.s .z)) (Jz (.s (.s (.s .z))) (Ji ?_))));exact hK qo32 co32 zq2 zc2 zb zv
   ·
    intro gh gh' h;refine ⟨?_,?_⟩ <;> (first | simp only [h 1 rfl,h 3 rfl] | rfl)
   apply Jp 6 rfl
   iterate 3 focus (intros;(conv=>lhs;simp only [Jh,Jt,JP,Jw,JH,eq_self,Nat.reduceEqDiff,reduceIte,Nat.reduceSub,Nat.reduceAdd,List.cons_append,List.nil_append]);all_goals rfl)
   ·
    intro gh X K zq zc zq2 zc2 zb zv hK;refine Jg (Jc rfl) rfl (Ji ?_);exact hK zq zc zq2 zc2 zb zv
   ·
    intro gh gh' h
    first | simp only [h 1 rfl,h 3 rfl,h 4 rfl] | rfl
   apply Jp 7 rfl
   iterate 3 focus (intros;(conv=>lhs;simp only [Jh,Jt,JP,Jw,JH,eq_self,Nat.reduceEqDiff,reduceIte,Nat.reduceSub,Nat.reduceAdd,List.cons_append,List.nil_append]);all_goals rfl)
   ·
    intro gh X K zq zc zq2 zc2 zb zv hK;refine Jg (JK rfl rfl) rfl (Ji ?_);exact hK zq zc zq2 zc2 zb zv
   ·
    intro gh gh' h
    first | simp only [h 1 rfl,h 3 rfl,h 4 rfl] | rfl
   apply Jp 8 rfl
   iterate 3 focus (intros;(conv=>lhs;simp only [Jh,Jt,JP,Jw,JH,eq_self,Nat.reduceEqDiff,reduceIte,Nat.reduceSub,Nat.reduceAdd,List.cons_append,List.nil_append]);all_goals rfl)
   ·
    intro gh X K zq zc zq2 zc2 zb zv hK;refine Jg (JK rfl rfl) rfl (Ji ?_);exact hK zq zc zq2 zc2 zb zv
   ·
    intro gh gh' h
    first | simp only [h 1 rfl,h 3 rfl,h 4 rfl] | rfl
   apply Jp 9 rfl
   iterate 3 focus (intros;(conv=>lhs;simp only [Jh,Jt,JP,Jw,JH,eq_self,Nat.reduceEqDiff,reduceIte,Nat.reduceSub,Nat.reduceAdd,List.cons_append,List.nil_append]);all_goals rfl)
   ·
    intro gh X K zq zc zq2 zc2 zb zv hK;refine Jg (Jd rfl) rfl (Ji ?_);exact hK zq zc zq2 zc2 zb zv
   ·
    intro gh gh' h
    first | simp only [h 1 rfl,h 3 rfl,h 4 rfl] | rfl
   apply Jp 10 rfl
   iterate 3 focus (intros;(conv=>lhs;simp only [Jh,Jt,JP,Jw,JH,eq_self,Nat.reduceEqDiff,reduceIte,Nat.reduceSub,Nat.reduceAdd,List.cons_append,List.nil_append]);all_goals rfl)
   ·
    intro gh X K zq zc zq2 zc2 zb zv hK;refine Jg (Jd rfl) rfl (Ji ?_);exact hK zq zc zq2 zc2 zb zv
   ·
    intro gh gh' h
    first | simp only [h 1 rfl,h 3 rfl,h 4 rfl] | rfl
   apply Em [0,1,2,3,4,5,6,7,8,9] [0,1,2,3,4,5,6,7,8,9,10,11] foll0 rfl rfl rfl (by rfl)
   iterate 2 focus (intros;(conv=>lhs;simp only [Jh,Jt,JP,Jw,JH,eq_self,Nat.reduceEqDiff,reduceIte,Nat.reduceSub,Nat.reduceAdd,List.cons_append,List.nil_append]);all_goals rfl)
   intro gh;generalize (gh 1).c=cdo29;generalize (gh 1).c2=cfo29;generalize (gh 1).q=qdo29;generalize (gh 1).q2=qfo29;generalize (gh 1).vs=vso29;generalize (gh 3).c=co31;generalize (gh 3).q=qo31;generalize (gh 4).c=co32;generalize (gh 4).q=qo32;clear gh;refine Ja (hK11 (Je fun _ hK12 _=>(Jb (Jg (Jv rfl (.s (.s (.s (.s (.s .z))))) (by simpa [*] using ag25)) rfl (Jy fn17 rfl rfl fun w hH=>(toAlgebra_c had haf (by omega) hl6 hH).mono ?_)))));rintro _ w ⟨qdo36,cdo36,qfo36,cfo36,vso36,rfl,hH⟩;refine ⟨_,rfl,fun a hF=>JM hF hH ?_⟩;refine JZ ze35 rfl fun g8=>(JL rfl rfl (by first | exact bytesC_one _ | exact intsC_one _ | exact Term.c_one _ | simp [Value.oneCell']) (by simpa [*] using sz35) (by simp [*]) At.z (Jf (Ja (hK12 (Je fun _ hK13 _=>(Jb (Jg (Jv rfl (.s (.s (.s (.s (.s (.s (.s .z))))))) (by simpa [*] using ag28)) rfl (Jy fn18 rfl rfl fun w hH=>(toForm_c hts (by omega) hH).mono ?_))))))));rintro _ w ⟨qo38,co38,rfl,hH⟩;refine ⟨_,rfl,fun a hF=>JM hF hH ?_⟩;refine JZ ze39 rfl fun g9=>(JL rfl rfl (by first | exact bytesC_one _ | exact intsC_one _ | exact Term.c_one _ | simp [Value.oneCell']) (by simpa [*] using sz39) (by simp [*]) At.z (Jf (Ja (hK13 (Je fun _ hK14 _=>(Jb (Jg (Jv rfl (.s (.s .z)) (by simpa [*] using ag35)) rfl (Jg (Jv rfl At.z (by simpa [*] using ag39)) rfl (Jy fn29 rfl rfl fun w hH=>hH.lend (.s (.s (.s .z))) fun Hl1 hle1 hA1 hB1 hH=>hH.lend (.s (.s (.s .z))) fun Hl2 hle2 hA2 hB2 hH=>hH.lend (.s .z) fun Hl3 hle3 hA3 hB3 hH=>(ClassOf_c (((own_ints hA1).le hle2).le hle3) ((own_forms haf.wfss hA2).le hle3) (own_terms hts.wfs hA3) (by omega) (by omega) hl6 (by omega) (own_le hA3) hH).mono ?_)))))))));rintro _ w ⟨qo42,co42,rfl,hH⟩;replace hH:=hB3 _ _ hH;replace hH:=hB2 _ _ hH;replace hH:=hB1 _ _ hH;refine ⟨_,rfl,fun a hF=>JM hF hH ?_⟩;refine Jg (Jc rfl) rfl (Jg (JK rfl rfl) rfl (Jg (JK rfl rfl) rfl (Jg (Jd rfl) rfl (Jg (Jd rfl) rfl (Jf (Ja (hK14 (Je fun _ hK15 _=>(Je fun _ hK16 _=>(Jb (Jg (Jc rfl) rfl (Jg (Jc rfl) rfl (Jy fn24 rfl rfl fun w hH=>hH.lend (.s (.s (.s .z))) fun Hl1 hle1 hA1 hB1 hH=>hH.lend (.s (.s (.s (.s (.s (.s (.s (.s .z)))))))) fun Hl2 hle2 hA2 hB2 hH=>(eqInt64S_c ((own_ints hA1).le hle2) (own_ints hA2) (by omega) hH).mono ?_)))))))))))));rintro _ w ⟨rfl,hH⟩;replace hH:=hB2 _ _ hH;replace hH:=hB1 _ _ hH;refine ⟨_,rfl,fun a hF=>JM hF hH ?_⟩;refine Jg (Ej rfl) rfl (Jg (Jc rfl) rfl (Eb (jd:=49) rfl (fun hg49=>?_) (fun hg49=>?_)))
   ·
    try have hg49p:=of_decide_eq_true hg49
    refine JO rfl rfl rfl hg49 (JO rfl rfl rfl hg49 (JO rfl rfl rfl hg49 (Jg (JX rfl hg49 rfl) rfl (Jf (Ja (hK16 (En rfl (Je fun _ hK17 _=>(Jb (Jg (Jd rfl) rfl (Jf (Ja (hK17 (Jr (Jj (Jq rfl (Res.tmp rfl) fun w hH=>?_))))))))))))))));replace hH:=hH.tail;replace hH:=hH.tail;replace hH:=hH.tail;replace hH:=hH.tail;replace hH:=hH.tail;replace hH:=hH.tail;replace hH:=hH.tail;replace hH:=hH.tail;replace hH:=hH.tail;replace hH:=hH.tail;replace hH:=hH.tail;replace hH:=hH.tail
    first | exact ⟨rfl,hH.below⟩ | exact absurd rfl hg49p | exact absurd rfl hg49 | (exfalso;omega) | (simp at hg49;done)
   ·
    try have hg49p:=of_decide_eq_false hg49
    refine JV (Jc rfl) rfl rfl rfl hg49 (JV (Jc rfl) rfl rfl rfl hg49 (JV (Ek rfl rfl) rfl rfl rfl hg49 (Jg (JW rfl hg49 rfl) rfl (Jf (Ja (hK16 (Jm rfl (fun hc53=>?_) (fun hc53=>?_))))))))
    ·
     refine Je fun _ hK18 _=>(Jb (Jg (Jd rfl) rfl (Jf (Ja (hK18 (Jr (Jj (Jq rfl (Res.tmp rfl) fun w hH=>?_))))))));replace hH:=hH.tail;replace hH:=hH.tail;replace hH:=hH.tail;replace hH:=hH.tail;replace hH:=hH.tail;replace hH:=hH.tail;replace hH:=hH.tail;replace hH:=hH.tail;replace hH:=hH.tail;replace hH:=hH.tail;replace hH:=hH.tail;replace hH:=hH.tail
     first | exact ⟨rfl,hH.below⟩ | exact absurd rfl hc53p | exact absurd rfl hc53 | (exfalso;omega) | (simp at hc53;done)
    ·
     refine Jl (Ja (hK15 (Je fun _ hK19 _=>(Je fun _ hK20 _=>(El (Rs:=[_,_,_,_,_,_,_,_,_,_,_,_]) 5 [[], [], [1], [0,1,2], [0,1,2,3]] [[11], [16], [], [2,7,8], []] [[], [], [], [], []] rfl rfl (by kernel_rfl) ?_)))));apply Jp 1 rfl
     iterate 3 focus (intros;(conv=>lhs;simp only [Jh,Jt,JP,Jw,JH,eq_self,Nat.reduceEqDiff,reduceIte,Nat.reduceSub,Nat.reduceAdd,List.cons_append,List.nil_append]);all_goals rfl)
     ·
      intro gh X K zq zc zq2 zc2 zb zv hK;refine Jg (Jv rfl At.z (by simpa [*] using ag35)) rfl (Ji ?_);exact hK zq zc zq2 zc2 zb zv
     ·
      intro gh gh' h
      rfl
     apply Jp 2 rfl
     iterate 3 focus (intros;(conv=>lhs;simp only [Jh,Jt,JP,Jw,JH,eq_self,Nat.reduceEqDiff,reduceIte,Nat.reduceSub,Nat.reduceAdd,List.cons_append,List.nil_append]);all_goals rfl)
     ·
      intro gh X K zq zc zq2 zc2 zb zv hK;refine Jg (Jv rfl At.z (by simpa [*] using ag25)) rfl (Ji ?_);exact hK zq zc zq2 zc2 zb zv
     ·
      intro gh gh' h
      rfl
     apply GJ.st2 3 rfl
     iterate 3 focus (intros;(conv=>lhs;simp only [Jh,Jt,JP,Jw,JH,eq_self,Nat.reduceEqDiff,reduceIte,Nat.reduceSub,Nat.reduceAdd,List.cons_append,List.nil_append]);all_goals rfl)
     ·
      intro gh X K zq zc zq2 zc2 zb zv hK;refine Jy fn17 rfl rfl fun w hH=>(toAlgebra_c had haf (by omega) hl6 hH).mono ?_;rintro _ w ⟨qdo56,cdo56,qfo56,cfo56,vso56,rfl,hH⟩;refine ⟨_,rfl,fun a hF=>JM hF hH ?_⟩;refine Ji ?_;exact hK qdo56 cdo56 qfo56 cfo56 zb vso56
     ·
      intro gh gh' h;refine ⟨?_,?_,?_⟩ <;> rfl
     apply Jp 4 rfl
     iterate 3 focus (intros;(conv=>lhs;simp only [Jh,Jt,JP,Jw,JH,eq_self,Nat.reduceEqDiff,reduceIte,Nat.reduceSub,Nat.reduceAdd,List.cons_append,List.nil_append]);all_goals rfl)
     ·
      intro gh X K zq zc zq2 zc2 zb zv hK;refine Jy fn20 rfl rfl fun w hH=>hH.lend (.s (.s .z)) fun Hl1 hle1 hA1 hB1 hH=>hH.lend (.s (.s .z)) fun Hl2 hle2 hA2 hB2 hH=>hH.lend .z fun Hl3 hle3 hA3 hB3 hH=>hH.lend .z fun Hl4 hle4 hA4 hB4 hH=>(eqAlgebra_c ((((own_ints hA1).le hle2).le hle3).le hle4) (((own_forms haf.wfss hA2).le hle3).le hle4) ((own_ints hA3).le hle4) (own_forms haf.wfss hA4) (by omega) (by omega) hl hH).mono ?_;rintro _ w ⟨rfl,hH⟩;replace hH:=hB4 _ _ hH;replace hH:=hB3 _ _ hH;replace hH:=hB2 _ _ hH;replace hH:=hB1 _ _ hH;refine ⟨_,rfl,fun a hF=>JM hF hH ?_⟩;refine Jz (.s .z) (Jz (.s .z) (Jz (.s (.s (.s .z))) (Jz (.s (.s (.s .z))) (Ji ?_))));exact hK zq zc zq2 zc2 zb zv
     ·
      intro gh gh' h
      first | simp only [h 2 rfl] | rfl
     apply Jp 5 rfl
     iterate 3 focus (intros;(conv=>lhs;simp only [Jh,Jt,JP,Jw,JH,eq_self,Nat.reduceEqDiff,reduceIte,Nat.reduceSub,Nat.reduceAdd,List.cons_append,List.nil_append]);all_goals rfl)
     ·
      intro gh X K zq zc zq2 zc2 zb zv hK;refine Jg (Ej rfl) rfl (Ji ?_);exact hK zq zc zq2 zc2 zb zv
     ·
      intro gh gh' h
      first | simp only [h 2 rfl] | rfl
     apply Em [0,1,2,3,4] [0,1,2,3,4,5,6,7,8,9,10,11,12,13,14,15,16] foll0 rfl rfl rfl (by rfl)
     iterate 2 focus (intros;(conv=>lhs;simp only [Jh,Jt,JP,Jw,JH,eq_self,Nat.reduceEqDiff,reduceIte,Nat.reduceSub,Nat.reduceAdd,List.cons_append,List.nil_append]);all_goals rfl)
     intro gh;generalize (gh 2).c=cdo56;generalize (gh 2).c2=cfo56;generalize (gh 2).q=qdo56;generalize (gh 2).q2=qfo56;generalize (gh 2).vs=vso56;clear gh;refine Ja (hK20 (Ei rfl (fun hc58=>?_) (fun hc58=>?_)))
     ·
      refine Je fun _ hK21 _=>(Jb (Jg (Jd rfl) rfl (Jf (Ja (hK21 (Jr (Jj (Jq rfl (Res.tmp rfl) fun w hH=>?_))))))));replace hH:=hH.tail;replace hH:=hH.tail;replace hH:=hH.tail;replace hH:=hH.tail;replace hH:=hH.tail;replace hH:=hH.tail;replace hH:=hH.tail;replace hH:=hH.tail;replace hH:=hH.tail;replace hH:=hH.tail;replace hH:=hH.tail;replace hH:=hH.tail;replace hH:=hH.tail;replace hH:=hH.tail
      first | exact ⟨rfl,hH.below⟩ | exact absurd rfl hc58p | exact absurd rfl hc58 | (exfalso;omega) | (simp at hc58;done)
     ·
      refine Jl (Ja (hK19 (Je fun _ hK22 _=>(Je fun _ hK23 _=>(Et [[], [], [1]] (by kernel_rfl) (JB (fun gh=>Jv rfl (.s (.s (.s (.s (.s (.s (.s .z))))))) (by simpa [*] using ag39)) (JB (fun gh=>Jv rfl (.s (.s (.s (.s (.s (.s (.s (.s (.s (.s (.s (.s .z)))))))))))) (by simpa [*] using ag28)) (HJ.callN fn18 (fun gh=>rfl) (fun w X hH=>toForm_c hts (by omega) hH) (Ed 3 1 foll0 (by kernel_rfl) rfl rfl fun gh=>(Ep (us':=(59,_)::(60,_)::(61,_)::_) (L':=_::_) rfl rfl (Jy fn21 rfl rfl fun w hH=>hH.lend (.s (.s (.s (.s (.s (.s (.s .z))))))) fun Hl1 hle1 hA1 hB1 hH=>hH.lend .z fun Hl2 hle2 hA2 hB2 hH=>(eqForm_c ((own_terms hts.wfs hA1).le hle2) (own_terms hts.wfs hA2) (by omega) hH).mono ?_)))))))))));rintro _ w ⟨rfl,hH⟩;replace hH:=hB2 _ _ hH;replace hH:=hB1 _ _ hH;refine ⟨_,rfl,fun a hF=>JM hF hH ?_⟩;refine Jf (Ee (JC (Ej rfl) rfl (Eg (Ja (hK23 (Ei rfl (fun hc63=>?_) (fun hc63=>?_)))))))
      ·
       refine Je fun _ hK24 _=>(Jb (Jg (Jd rfl) rfl (Jf (Ja (hK24 (Jr (Jj (Jq rfl (Res.tmp rfl) fun w hH=>?_))))))));replace hH:=hH.tail;replace hH:=hH.tail;replace hH:=hH.tail;replace hH:=hH.tail;replace hH:=hH.tail;replace hH:=hH.tail;replace hH:=hH.tail;replace hH:=hH.tail;replace hH:=hH.tail;replace hH:=hH.tail;replace hH:=hH.tail;replace hH:=hH.tail;replace hH:=hH.tail;replace hH:=hH.tail;replace hH:=hH.tail
       first | exact ⟨rfl,hH.below⟩ | exact absurd rfl hc63p | exact absurd rfl hc63 | (exfalso;omega) | (simp at hc63;done)
      ·
       refine Jl (Ja (hK22 (Je fun _ hK25 _=>(Jb (Jg (Jd rfl) rfl (Jf (Ja (hK25 (Je fun _ hK26 _=>(Jb (Jg (Jv rfl (.s (.s (.s (.s (.s (.s (.s (.s (.s .z))))))))) (by simpa [*] using ag35)) rfl (Jg (Jc rfl) rfl (Jy fn25 rfl rfl fun w hH=>(markAlgebra_c (by omega) (by omega) ((hH.front (.s (.s (.s (.s (.s (.s (.s .z)))))))).front (.s (.s (.s (.s (.s (.s (.s .z))))))))).mono ?_)))))))))))));rintro _ w ⟨rfl,hH⟩;refine ⟨_,rfl,fun a hF=>JM hF hH ?_⟩;refine Jg (Jd rfl) rfl (Jf (Ja (hK26 (Je fun _ hK27 _=>(Jb (Jg (Jv rfl (.s (.s (.s (.s (.s (.s (.s (.s .z)))))))) (by simpa [*] using ag39)) rfl (Jg (Jc rfl) rfl (Jy fn30 rfl rfl fun w hH=>(markForm_c (by omega) (hH.front (.s (.s .z)))).mono ?_))))))));rintro _ w ⟨rfl,hH⟩;refine ⟨_,rfl,fun a hF=>JM hF hH ?_⟩;refine Jg (Jd rfl) rfl (Jf (Ja (hK27 (Je fun _ hK28 _=>(Je fun _ hK29 _=>(Jb (Jg (Jc rfl) rfl (Jg (JJ rfl rfl) rfl (Jg (Jc rfl) rfl (Eb (jd:=72) rfl (fun hg72=>?_) (fun hg72=>?_)))))))))))
       ·
        try have hg72p:=of_decide_eq_true hg72
        refine JO rfl rfl rfl hg72 (JO rfl rfl rfl hg72 (JO rfl rfl rfl hg72 (JO rfl rfl rfl hg72 (Jg (JX rfl hg72 rfl) rfl (Jg (Jc rfl) rfl (JO rfl rfl rfl rfl (JO rfl rfl rfl rfl (JO rfl rfl rfl rfl (Jg (JX rfl rfl rfl) rfl (Jf (Ja (hK29 (En rfl (Je fun _ hK30 _=>(Jb ?_)))))))))))))));refine Jg (Jd rfl) rfl (Jf (Ja (hK30 (Jr (Jj (Jq rfl (Res.tmp rfl) fun w hH=>?_))))));replace hH:=hH.tail;replace hH:=hH.tail;replace hH:=hH.tail;replace hH:=hH.tail;replace hH:=hH.tail;replace hH:=hH.tail;replace hH:=hH.tail;replace hH:=hH.tail;replace hH:=hH.tail;replace hH:=hH.tail;replace hH:=hH.tail;replace hH:=hH.tail;replace hH:=hH.tail;replace hH:=hH.tail;replace hH:=hH.tail
        first | exact ⟨rfl,hH.below⟩ | exact absurd rfl hg72p | exact absurd rfl hg72 | (exfalso;omega) | (simp at hg72;done)
       ·
        try have hg72p:=of_decide_eq_false hg72
        refine JV (Jc rfl) rfl rfl rfl hg72 (JV (Jc rfl) rfl rfl rfl hg72 (EK fn24 rfl rfl hg72 rfl rfl fun w hH=>hH.lend (.s (.s (.s (.s (.s (.s .z)))))) fun Hl1 hle1 hA1 hB1 hH=>hH.lend (.s (.s (.s (.s (.s (.s .z)))))) fun Hl2 hle2 hA2 hB2 hH=>(eqInt64S_c ((own_ints hA1).le hle2) (own_ints hA2) (by omega) hH).mono ?_));rintro _ w ⟨rfl,hH⟩;replace hH:=hB2 _ _ hH;replace hH:=hB1 _ _ hH;refine ⟨_,rfl,fun a hF=>JM hF hH ?_⟩;refine JV (Ej rfl) rfl rfl rfl hg72 (Jg (JW rfl hg72 rfl) rfl (Jg (Jc rfl) rfl (Eb (jd:=78) rfl (fun hg78=>?_) (fun hg78=>?_))))
        ·
         try have hg78p:=of_decide_eq_true hg78
         refine JO rfl rfl rfl hg78 (JO rfl rfl rfl hg78 (JO rfl rfl rfl hg78 (Jg (JX rfl hg78 rfl) rfl (Jf (Ja (hK29 (En rfl (Je fun _ hK31 _=>(Jb (Jg (Jd rfl) rfl (Jf (Ja (hK31 (Jr (Jj (Jq rfl (Res.tmp rfl) fun w hH=>?_))))))))))))))));replace hH:=hH.tail;replace hH:=hH.tail;replace hH:=hH.tail;replace hH:=hH.tail;replace hH:=hH.tail;replace hH:=hH.tail;replace hH:=hH.tail;replace hH:=hH.tail;replace hH:=hH.tail;replace hH:=hH.tail;replace hH:=hH.tail;replace hH:=hH.tail;replace hH:=hH.tail;replace hH:=hH.tail;replace hH:=hH.tail
         first | exact ⟨rfl,hH.below⟩ | exact absurd rfl hg78p | exact absurd rfl hg78 | (exfalso;omega) | (simp at hg78;done)
        ·
         try have hg78p:=of_decide_eq_false hg78
         refine JV (Jc rfl) rfl rfl rfl hg78 (JV (Jc rfl) rfl rfl rfl hg78 (JV (Ek rfl rfl) rfl rfl rfl hg78 (Jg (JW rfl hg78 rfl) rfl (Jf (Ja (hK29 (Jm rfl (fun hc82=>?_) (fun hc82=>?_))))))))
         ·
          refine Je fun _ hK32 _=>(Jb (Jg (Jd rfl) rfl (Jf (Ja (hK32 (Jr (Jj (Jq rfl (Res.tmp rfl) fun w hH=>?_))))))));replace hH:=hH.tail;replace hH:=hH.tail;replace hH:=hH.tail;replace hH:=hH.tail;replace hH:=hH.tail;replace hH:=hH.tail;replace hH:=hH.tail;replace hH:=hH.tail;replace hH:=hH.tail;replace hH:=hH.tail;replace hH:=hH.tail;replace hH:=hH.tail;replace hH:=hH.tail;replace hH:=hH.tail;replace hH:=hH.tail
          first | exact ⟨rfl,hH.below⟩ | exact absurd rfl hc82p | exact absurd rfl hc82 | (exfalso;omega) | (simp at hc82;done)
         ·
          refine Jl (Ja (hK28 (Je fun _ hK33 _=>(Jb (Jg (Jd rfl) rfl (Jf (Ja (hK33 (Je fun _ hK34 _=>(Jb (Jg (Jc rfl) rfl (Jg (Jc rfl) rfl (Jy fn26 rfl rfl fun w hH=>(markInt64S_c (by omega) (hH.front .z)).mono ?_)))))))))))));rintro _ w ⟨rfl,hH⟩;refine ⟨_,rfl,fun a hF=>JM hF hH ?_⟩;refine Jg (Jd rfl) rfl (Jf (Ja (hK34 (Je fun _ hK35 _=>(Jb (Jg (Jd rfl) rfl (Jf (Ja (hK35 (Je fun _ hK36 _=>(Jb (Jg (Jc rfl) rfl (Jg (Jc rfl) rfl (Jy fn27 rfl rfl fun w hH=>hH.lend .z fun Hl1 hle1 hA1 hB1 hH=>(heldInt64S_c (own_mints hA1) (by omega) hH).mono ?_))))))))))))));rintro _ w ⟨rfl,hH⟩;replace hH:=hB1 _ _ hH;refine ⟨_,rfl,fun a hF=>JM hF hH ?_⟩;refine Jg (Jd rfl) rfl (Jf (Ja (hK36 (Je fun _ hK37 _=>(Je fun _ hK38 _=>(Jb (Jg (Jc rfl) rfl (Jg (JJ rfl rfl) rfl (Jf (Ja (hK38 (Jm rfl (fun hc90=>?_) (fun hc90=>?_)))))))))))))
          ·
           refine Je fun _ hK39 _=>(Jb (Jg (Jd rfl) rfl (Jf (Ja (hK39 (Jr (Jj (Jq rfl (Res.tmp rfl) fun w hH=>?_))))))));replace hH:=hH.tail;replace hH:=hH.tail;replace hH:=hH.tail;replace hH:=hH.tail;replace hH:=hH.tail;replace hH:=hH.tail;replace hH:=hH.tail;replace hH:=hH.tail;replace hH:=hH.tail;replace hH:=hH.tail;replace hH:=hH.tail;replace hH:=hH.tail;replace hH:=hH.tail;replace hH:=hH.tail;replace hH:=hH.tail
           first | exact ⟨rfl,hH.below⟩ | exact absurd rfl hc90p | exact absurd rfl hc90 | (exfalso;omega) | (simp at hc90;done)
          ·
           refine Jl (Ja (hK37 (Je fun _ hK40 _=>(Je fun _ hK41 _=>(Jb (Jg (Jc rfl) rfl (Jg (Jc rfl) rfl (Jg (Ek rfl rfl) rfl (Jf (Ja (hK41 (Jm rfl (fun hc93=>?_) (fun hc93=>?_)))))))))))))
           ·
            refine Je fun _ hK42 _=>(Jb (Jg (Jd rfl) rfl (Jf (Ja (hK42 (Jr (Jj (Jq rfl (Res.tmp rfl) fun w hH=>?_))))))));replace hH:=hH.tail;replace hH:=hH.tail;replace hH:=hH.tail;replace hH:=hH.tail;replace hH:=hH.tail;replace hH:=hH.tail;replace hH:=hH.tail;replace hH:=hH.tail;replace hH:=hH.tail;replace hH:=hH.tail;replace hH:=hH.tail;replace hH:=hH.tail;replace hH:=hH.tail;replace hH:=hH.tail;replace hH:=hH.tail
            first | exact ⟨rfl,hH.below⟩ | exact absurd rfl hc93p | exact absurd rfl hc93 | (exfalso;omega) | (simp at hc93;done)
           ·
            refine Jl (Ja (hK40 (Je fun _ hK43 _=>(El (Rs:=[_,_,_,_,_,_,_,_,_,_,_,_,_,_,_]) 10 [[], [0], [], [0,1,2], [0,1,2,3], [0,1,2,3,4], [0,1,2,3,4,5], [0,1,2,3,4,5], [0,1,2,3,4,5,6], [0,1,2,3,4,5,6,7,8]] [[24], [], [23], [], [1,3], [], [], [], [], []] [[], [], [], [], [], [], [], [], [], []] rfl rfl (by kernel_rfl) ?_))));apply Jp 1 rfl
            iterate 3 focus (intros;(conv=>lhs;simp only [Jh,Jt,JP,Jw,JH,eq_self,Nat.reduceEqDiff,reduceIte,Nat.reduceSub,Nat.reduceAdd,List.cons_append,List.nil_append]);all_goals rfl)
            ·
             intro gh X K zq zc zq2 zc2 zb zv hK;refine Jg (Jv rfl At.z (by simpa [*] using ag25)) rfl (Ji ?_);exact hK zq zc zq2 zc2 zb zv
            ·
             intro gh gh' h
             rfl
            apply GJ.st2 2 rfl
            iterate 3 focus (intros;(conv=>lhs;simp only [Jh,Jt,JP,Jw,JH,eq_self,Nat.reduceEqDiff,reduceIte,Nat.reduceSub,Nat.reduceAdd,List.cons_append,List.nil_append]);all_goals rfl)
            ·
             intro gh X K zq zc zq2 zc2 zb zv hK;refine Jy fn17 rfl rfl fun w hH=>(toAlgebra_c had haf (by omega) hl6 hH).mono ?_;rintro _ w ⟨qdo96,cdo96,qfo96,cfo96,vso96,rfl,hH⟩;refine ⟨_,rfl,fun a hF=>JM hF hH ?_⟩;refine Ji ?_;exact hK qdo96 cdo96 qfo96 cfo96 zb vso96
            ·
             intro gh gh' h;refine ⟨?_,?_,?_⟩ <;> rfl
            apply Jp 3 rfl
            iterate 3 focus (intros;(conv=>lhs;simp only [Jh,Jt,JP,Jw,JH,eq_self,Nat.reduceEqDiff,reduceIte,Nat.reduceSub,Nat.reduceAdd,List.cons_append,List.nil_append]);all_goals rfl)
            ·
             intro gh X K zq zc zq2 zc2 zb zv hK;refine Jg (Jv rfl At.z (by simpa [*] using ag28)) rfl (Ji ?_);exact hK zq zc zq2 zc2 zb zv
            ·
             intro gh gh' h
             rfl
            apply Ec 4 rfl
            iterate 3 focus (intros;(conv=>lhs;simp only [Jh,Jt,JP,Jw,JH,eq_self,Nat.reduceEqDiff,reduceIte,Nat.reduceSub,Nat.reduceAdd,List.cons_append,List.nil_append]);all_goals rfl)
            ·
             intro gh X K zq zc zq2 zc2 zb zv hK;refine Jy fn18 rfl rfl fun w hH=>(toForm_c hts (by omega) hH).mono ?_;rintro _ w ⟨qo98,co98,rfl,hH⟩;refine ⟨_,rfl,fun a hF=>JM hF hH ?_⟩;refine Ji ?_;exact hK qo98 co98 zq2 zc2 zb zv
            ·
             intro gh gh' h;refine ⟨?_,?_⟩ <;> (first | simp only [h 1 rfl] | rfl)
            apply Ec 5 rfl
            iterate 3 focus (intros;(conv=>lhs;simp only [Jh,Jt,JP,Jw,JH,eq_self,Nat.reduceEqDiff,reduceIte,Nat.reduceSub,Nat.reduceAdd,List.cons_append,List.nil_append]);all_goals rfl)
            ·
             intro gh X K zq zc zq2 zc2 zb zv hK;refine Jy fn29 rfl rfl fun w hH=>hH.lend .z fun Hl1 hle1 hA1 hB1 hH=>hH.lend .z fun Hl2 hle2 hA2 hB2 hH=>hH.lend .z fun Hl3 hle3 hA3 hB3 hH=>(ClassOf_c (((own_ints hA1).le hle2).le hle3) ((own_forms haf.wfss hA2).le hle3) (own_terms hts.wfs hA3) (by omega) (by omega) hl6 (by omega) (own_le hA3) hH).mono ?_;rintro _ w ⟨qo99,co99,rfl,hH⟩;replace hH:=hB3 _ _ hH;replace hH:=hB2 _ _ hH;replace hH:=hB1 _ _ hH;refine ⟨_,rfl,fun a hF=>JM hF hH ?_⟩;refine Jz (.s (.s .z)) (Jz (.s (.s .z)) (Jz (.s (.s .z)) (Jz (.s (.s (.s .z))) (Ji ?_))));exact hK qo99 co99 zq2 zc2 zb zv
            ·
             intro gh gh' h;refine ⟨?_,?_⟩ <;> (first | simp only [h 1 rfl,h 3 rfl] | rfl)
            apply Jp 6 rfl
            iterate 3 focus (intros;(conv=>lhs;simp only [Jh,Jt,JP,Jw,JH,eq_self,Nat.reduceEqDiff,reduceIte,Nat.reduceSub,Nat.reduceAdd,List.cons_append,List.nil_append]);all_goals rfl)
            ·
             intro gh X K zq zc zq2 zc2 zb zv hK;refine Jg (Jc rfl) rfl (Ji ?_);exact hK zq zc zq2 zc2 zb zv
            ·
             intro gh gh' h
             first | simp only [h 1 rfl,h 3 rfl,h 4 rfl] | rfl
            apply Jp 7 rfl
            iterate 3 focus (intros;(conv=>lhs;simp only [Jh,Jt,JP,Jw,JH,eq_self,Nat.reduceEqDiff,reduceIte,Nat.reduceSub,Nat.reduceAdd,List.cons_append,List.nil_append]);all_goals rfl)
            ·
             intro gh X K zq zc zq2 zc2 zb zv hK;refine Jg (JK rfl rfl) rfl (Ji ?_);exact hK zq zc zq2 zc2 zb zv
            ·
             intro gh gh' h
             first | simp only [h 1 rfl,h 3 rfl,h 4 rfl] | rfl
            apply Jp 8 rfl
            iterate 3 focus (intros;(conv=>lhs;simp only [Jh,Jt,JP,Jw,JH,eq_self,Nat.reduceEqDiff,reduceIte,Nat.reduceSub,Nat.reduceAdd,List.cons_append,List.nil_append]);all_goals rfl)
            ·
             intro gh X K zq zc zq2 zc2 zb zv hK;refine Jg (JK rfl rfl) rfl (Ji ?_);exact hK zq zc zq2 zc2 zb zv
            ·
             intro gh gh' h
             first | simp only [h 1 rfl,h 3 rfl,h 4 rfl] | rfl
            apply Jp 9 rfl
            iterate 3 focus (intros;(conv=>lhs;simp only [Jh,Jt,JP,Jw,JH,eq_self,Nat.reduceEqDiff,reduceIte,Nat.reduceSub,Nat.reduceAdd,List.cons_append,List.nil_append]);all_goals rfl)
            ·
             intro gh X K zq zc zq2 zc2 zb zv hK;refine Jg (Jd rfl) rfl (Ji ?_);exact hK zq zc zq2 zc2 zb zv
            ·
             intro gh gh' h
             first | simp only [h 1 rfl,h 3 rfl,h 4 rfl] | rfl
            apply Jp 10 rfl
            iterate 3 focus (intros;(conv=>lhs;simp only [Jh,Jt,JP,Jw,JH,eq_self,Nat.reduceEqDiff,reduceIte,Nat.reduceSub,Nat.reduceAdd,List.cons_append,List.nil_append]);all_goals rfl)
            ·
             intro gh X K zq zc zq2 zc2 zb zv hK;refine Jg (Jd rfl) rfl (Ji ?_);exact hK zq zc zq2 zc2 zb zv
            ·
             intro gh gh' h
             first | simp only [h 1 rfl,h 3 rfl,h 4 rfl] | rfl
            apply Em [0,1,2,3,4,5,6,7,8,9] [0,1,2,3,4,5,6,7,8,9,10,11,12,13,14,15,16,17,18,19,20,21,22,23,24] foll0 rfl rfl rfl (by rfl)
            iterate 2 focus (intros;(conv=>lhs;simp only [Jh,Jt,JP,Jw,JH,eq_self,Nat.reduceEqDiff,reduceIte,Nat.reduceSub,Nat.reduceAdd,List.cons_append,List.nil_append]);all_goals rfl)
            intro gh;generalize (gh 1).c=cdo96;generalize (gh 1).c2=cfo96;generalize (gh 1).q=qdo96;generalize (gh 1).q2=qfo96;generalize (gh 1).vs=vso96;generalize (gh 3).c=co98;generalize (gh 3).q=qo98;generalize (gh 4).c=co99;generalize (gh 4).q=qo99;clear gh;refine Ja (hK43 (Je fun _ hK44 _=>(Je fun _ hK45 _=>(Jb (Jg (Jc rfl) rfl (Jg (Jc rfl) rfl (Jy fn24 rfl rfl fun w hH=>hH.lend (.s (.s (.s .z))) fun Hl1 hle1 hA1 hB1 hH=>hH.lend (.s (.s (.s (.s .z)))) fun Hl2 hle2 hA2 hB2 hH=>(eqInt64S_c ((own_ints hA1).le hle2) (own_ints hA2) (by omega) hH).mono ?_)))))));rintro _ w ⟨rfl,hH⟩;replace hH:=hB2 _ _ hH;replace hH:=hB1 _ _ hH;refine ⟨_,rfl,fun a hF=>JM hF hH ?_⟩;refine Jg (Ej rfl) rfl (Jg (Jc rfl) rfl (Eb (jd:=106) rfl (fun hg106=>?_) (fun hg106=>?_)))
            ·
             try have hg106p:=of_decide_eq_true hg106
             refine JO rfl rfl rfl hg106 (JO rfl rfl rfl hg106 (JO rfl rfl rfl hg106 (Jg (JX rfl hg106 rfl) rfl (Jf (Ja (hK45 (En rfl (Je fun _ hK46 _=>(Jb (Jg (Jd rfl) rfl (Jf (Ja (hK46 (Jr (Jj (Jq rfl (Res.tmp rfl) fun w hH=>?_))))))))))))))));replace hH:=hH.tail;replace hH:=hH.tail;replace hH:=hH.tail;replace hH:=hH.tail;replace hH:=hH.tail;replace hH:=hH.tail;replace hH:=hH.tail;replace hH:=hH.tail;replace hH:=hH.tail;replace hH:=hH.tail;replace hH:=hH.tail;replace hH:=hH.tail;replace hH:=hH.tail;replace hH:=hH.tail;replace hH:=hH.tail;replace hH:=hH.tail;replace hH:=hH.tail;replace hH:=hH.tail;replace hH:=hH.tail
             first | exact ⟨rfl,hH.below⟩ | exact absurd rfl hg106p | exact absurd rfl hg106 | (exfalso;omega) | (simp at hg106;done)
            ·
             try have hg106p:=of_decide_eq_false hg106
             refine JV (Jc rfl) rfl rfl rfl hg106 (JV (Jc rfl) rfl rfl rfl hg106 (JV (Ek rfl rfl) rfl rfl rfl hg106 (Jg (JW rfl hg106 rfl) rfl (Jf (Ja (hK45 (Jm rfl (fun hc110=>?_) (fun hc110=>?_))))))))
             ·
              refine Je fun _ hK47 _=>(Jb (Jg (Jd rfl) rfl (Jf (Ja (hK47 (Jr (Jj (Jq rfl (Res.tmp rfl) fun w hH=>?_))))))));replace hH:=hH.tail;replace hH:=hH.tail;replace hH:=hH.tail;replace hH:=hH.tail;replace hH:=hH.tail;replace hH:=hH.tail;replace hH:=hH.tail;replace hH:=hH.tail;replace hH:=hH.tail;replace hH:=hH.tail;replace hH:=hH.tail;replace hH:=hH.tail;replace hH:=hH.tail;replace hH:=hH.tail;replace hH:=hH.tail;replace hH:=hH.tail;replace hH:=hH.tail;replace hH:=hH.tail;replace hH:=hH.tail
              first | exact ⟨rfl,hH.below⟩ | exact absurd rfl hc110p | exact absurd rfl hc110 | (exfalso;omega) | (simp at hc110;done)
             ·
              refine Jl (Ja (hK44 (Je fun _ hK48 _=>(Jb (Jg (Jd rfl) rfl (Jf (Ja (hK48 (Je fun _ hK49 _=>(Jb (Jg (Jc rfl) rfl (Jg (Jc rfl) rfl (Jy fn27 rfl rfl fun w hH=>hH.lend (.s (.s (.s (.s (.s .z))))) fun Hl1 hle1 hA1 hB1 hH=>(heldInt64S_c (own_mints hA1) (by omega) hH).mono ?_)))))))))))));rintro _ w ⟨rfl,hH⟩;replace hH:=hB1 _ _ hH;refine ⟨_,rfl,fun a hF=>JM hF hH ?_⟩;refine Jg (Jd rfl) rfl (Jf (Ja (hK49 (Je fun _ hK50 _=>(Je fun _ hK51 _=>(Jb (Jg (Jc rfl) rfl (Jg (JJ rfl rfl) rfl (Jf (Ja (hK51 (Jm rfl (fun hc115=>?_) (fun hc115=>?_)))))))))))))
              ·
               refine Je fun _ hK52 _=>(Jb (Jg (Jd rfl) rfl (Jf (Ja (hK52 (Jr (Jj (Jq rfl (Res.tmp rfl) fun w hH=>?_))))))));replace hH:=hH.tail;replace hH:=hH.tail;replace hH:=hH.tail;replace hH:=hH.tail;replace hH:=hH.tail;replace hH:=hH.tail;replace hH:=hH.tail;replace hH:=hH.tail;replace hH:=hH.tail;replace hH:=hH.tail;replace hH:=hH.tail;replace hH:=hH.tail;replace hH:=hH.tail;replace hH:=hH.tail;replace hH:=hH.tail;replace hH:=hH.tail;replace hH:=hH.tail;replace hH:=hH.tail;replace hH:=hH.tail
               first | exact ⟨rfl,hH.below⟩ | exact absurd rfl hc115p | exact absurd rfl hc115 | (exfalso;omega) | (simp at hc115;done)
              ·
               refine Jl (Ja (hK50 (Je fun _ hK53 _=>(Je fun _ hK54 _=>(Jb (Jg (Jc rfl) rfl (Jg (Jc rfl) rfl (Jg (Ek rfl rfl) rfl (Jf (Ja (hK54 (Jm rfl (fun hc118=>?_) (fun hc118=>?_)))))))))))))
               ·
                refine Je fun _ hK55 _=>(Jb (Jg (Jd rfl) rfl (Jf (Ja (hK55 (Jr (Jj (Jq rfl (Res.tmp rfl) fun w hH=>?_))))))));replace hH:=hH.tail;replace hH:=hH.tail;replace hH:=hH.tail;replace hH:=hH.tail;replace hH:=hH.tail;replace hH:=hH.tail;replace hH:=hH.tail;replace hH:=hH.tail;replace hH:=hH.tail;replace hH:=hH.tail;replace hH:=hH.tail;replace hH:=hH.tail;replace hH:=hH.tail;replace hH:=hH.tail;replace hH:=hH.tail;replace hH:=hH.tail;replace hH:=hH.tail;replace hH:=hH.tail;replace hH:=hH.tail
                first | exact ⟨rfl,hH.below⟩ | exact absurd rfl hc118p | exact absurd rfl hc118 | (exfalso;omega) | (simp at hc118;done)
               ·
                refine Jl (Ja (hK53 (Je fun _ hK56 _=>(Jb (Jg (Jd rfl) rfl (Jf (Ja (hK56 (Jr (Jq rfl (Res.tmp rfl) fun w hH=>?_))))))))));replace hH:=hH.tail;replace hH:=hH.tail;replace hH:=hH.tail;replace hH:=hH.tail;replace hH:=hH.tail;replace hH:=hH.tail;replace hH:=hH.tail;replace hH:=hH.tail;replace hH:=hH.tail;replace hH:=hH.tail;replace hH:=hH.tail;replace hH:=hH.tail;replace hH:=hH.tail;replace hH:=hH.tail;replace hH:=hH.tail;replace hH:=hH.tail;replace hH:=hH.tail;replace hH:=hH.tail;replace hH:=hH.tail
                first | exact ⟨rfl,hH.below⟩ | exact absurd rfl hc118p | exact absurd rfl hc118 | (exfalso;omega) | (simp at hc118;done)
end Go.Proofs.YthenedanhcnccaaGreat.G
namespace Go.Proofs.YthenedanhcnccaaGreat.fnExactClassOf
open Go.ChangeShapes Go.WideShapes Go.ChangeAt Go.RowKit
open Go.Proofs.YthenedanhcnccaaGreat.G
theorem u25:Tryz.prog.underlying 25=some (TypeDesc.struct #[{name:="Degrees",type:=22,offset:=0,embedded:=false,tag:="",pkgPath:="",byteOffset:=0},{name:="Images",type:=23,offset:=1,embedded:=false,tag:="",pkgPath:="",byteOffset:=24}]):=by kernel_rfl
theorem u22:Tryz.prog.underlying 22=some (TypeDesc.slice 2):=by kernel_rfl
theorem u2:Tryz.prog.underlying 2=some (TypeDesc.int .i64):=by kernel_rfl
theorem u23:Tryz.prog.underlying 23=some (TypeDesc.slice 28):=by kernel_rfl
theorem u28:Tryz.prog.underlying 28=some (TypeDesc.struct #[{name:="Terms",type:=26,offset:=0,embedded:=false,tag:="",pkgPath:="",byteOffset:=0}]):=by kernel_rfl
theorem u26:Tryz.prog.underlying 26=some (TypeDesc.slice 155):=by kernel_rfl
theorem u155:Tryz.prog.underlying 155=some (TypeDesc.struct #[{name:="Monomial",type:=149,offset:=0,embedded:=false,tag:="",pkgPath:="",byteOffset:=0},{name:="Factor",type:=2,offset:=8,embedded:=false,tag:="",pkgPath:="",byteOffset:=8}]):=by kernel_rfl
theorem u149:Tryz.prog.underlying 149=some (TypeDesc.array 8 5):=by kernel_rfl
theorem u5:Tryz.prog.underlying 5=some (TypeDesc.int .u8):=by kernel_rfl
theorem u4:Tryz.prog.underlying 4=some (TypeDesc.bool):=by kernel_rfl
theorem own:ownKnob Tryz.prog.godebug=none:=by kernel_rfl
theorem lifted (os:Os) (started:os.Started) (H:Type) (enc:TypeId × Value→H):ReturnsInHanded {} Tryz.checked os 5 .any (Rows.fnExactClassOfSpec.pre6 enc Tryz.prog Tryz.f5 Rows.fnExactClassOfRow.domain false) (Rows.fnExactClassOfSpec.post enc Tryz.prog Tryz.f5 false true false false):=by
 refine returnsInHanded_of_change_sized (C:=Tryz.checked) own started (by kernel_rfl) Tryz.func5
  (ChangeSpec.witness6 (enc:=enc) (C:=Tryz.checked) false ⟨#[],#[.agg #[.slice none 0 0,.slice none 0 0],.agg #[.slice none 0 0]], []⟩ 12 (by kernel_rfl) (by kernel_rfl) (by kernel_rfl) (by kernel_rfl)) ?_
 intro W base args ds gs before hval0 hW hcnd hsz0 _;have hval : ∀(j:Nat) t v,Tryz.f5.params[j]? = some t→args[j]? = some v→Value.okWide Tryz.prog W .any base t v:=hval0;have hW':=hW;obtain ⟨p,q,hA0,hV,rfl,hfz,hnd⟩:=hW;have hA:DataW.TrodAll enc Tryz.prog W 0 (fun _=>true) true Tryz.f5.params.toList args.toList ds p:=hA0;rw [Tryz.params5] at hA hval;obtain ⟨v0,JP,d0,ds0,p0,q0,hargs,rfl,rfl,h0,r0⟩:=trodAll_cons hA;obtain ⟨v1,vs1,d1,ds1,p1,q1,rfl,rfl,rfl,h1,r1⟩:=trodAll_cons r0;obtain ⟨rfl,rfl,rfl⟩:=trodAll_nil r1
 obtain rfl:args = #[v0,v1]:=by cases args;simp_all
 obtain ⟨rfl,rfl⟩:=trodVars_none hV;obtain ⟨q0d,c0d,ds0,q0f,c0f,fs0,rfl,X0,F0,le0,fl0⟩:=openV_alg u25 rfl rfl rfl rfl (by kernel_rfl) (by kernel_rfl) (by kernel_rfl) u22 u2 (by kernel_rfl) u23 (by kernel_rfl) (fun n l y hy=>tr_form u28 rfl rfl (by kernel_rfl) (by kernel_rfl) u26 (by kernel_rfl) u155 rfl rfl rfl rfl u149 u5 (by kernel_rfl) (by kernel_rfl) u2 (by kernel_rfl) hy) (hval 0 25 v0 rfl rfl) h0;obtain ⟨q1,c1,ts1,rfl,X1,le1⟩:=openV_form u28 rfl rfl (by kernel_rfl) (by kernel_rfl) u26 (by kernel_rfl) u155 rfl rfl rfl rfl u149 u5 (by kernel_rfl) (by kernel_rfl) u2 (by kernel_rfl) (hval 1 28 v1 rfl rfl) h1;clear hA0 hval0 hsz0;refine ((lawClassOf_c X0 F0 X1 le0 fl0 le1 (Hp.start (H:=hp W) fun _ _ h=>h)).mono fun e W' ⟨he,bel⟩=>?_);subst he;exact ⟨_,rfl,law_post (f:=Tryz.f5) (by kernel_rfl) (by kernel_rfl) rfl rfl u4 rfl hW' bel⟩
theorem joined:joinedFacts Tryz.prog 5 Tryz.f5 Rows.fnExactClassOfSpec Rows.fnExactClassOfRow=true:=by
 unfold joinedFacts;simp only [Bool.and_eq_true]
 repeat' apply And.intro
 all_goals first
  | with_reducible exact Facts.fEnter
  | with_reducible exact Facts.fLaid
  | with_reducible exact Facts.fMaps
  | with_reducible exact Facts.fHeard
  | (rw [Facts.fMake];rfl)
  | (rw [Facts.fLift];rfl)
  | (rw [Facts.fKeys];rfl)
  | (rw [Facts.fStops];rfl)
  | (rw [Facts.fStopK];rfl)
  | as_aux_lemma=>kernel_rfl
theorem over:Rows.fnExactClassOfRow.holds Tryz.pinned (OpenSpec.ofChange Rows.fnExactClassOfSpec):=
 OpenClaim.holds_of_wide 5 Tryz.f5 rfl rfl rfl rfl rfl rfl rfl ⟨rfl,rfl,rfl,rfl,rfl⟩ rfl rfl rfl rfl rfl (by as_aux_lemma=>kernel_rfl) Tryz.func5 joined
  (of_decide_eq_true (by as_aux_lemma=>kernel_rfl)) (by unfold Func.isWrapper;first | (rw [if_pos (by decide +kernel)];kernel_rfl) | (rw [if_neg (by decide +kernel)];exact ⟨rfl,rfl⟩))
  (fun os started H enc _=>lifted os started H enc)
theorem proved:Rows.FnExactClassOfSaid:=over
#print axioms proved
end Go.Proofs.YthenedanhcnccaaGreat.fnExactClassOf
namespace Go.Proofs.YthenedanhcnccaaGreat
theorem fnExactClassOf_holds:Rows.FnExactClassOfSaid:=fnExactClassOf.proved
end Go.Proofs.YthenedanhcnccaaGreat
