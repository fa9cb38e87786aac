/- The row: the law answers true whatever the input, and the input reads as it did. No condition. -/
import Derived.Test.YthenedanhcnccaaRows
import Derived.Test.YthenedanhcnccaaProg
import Derived.WalkKit
import Derived.KernelRfl
import Derived.JoinedOf
import Derived.Maps.AppendAt
import Derived.Still
import Derived.ProofKit
import Derived.OpenShut
import Derived.StillTail
import Derived.Deep.Upon
import Derived.WalkSpells
import Derived.Maps.Range
import Derived.DeepKeys4
import Derived.Maps.Keyed
import Derived.ChangeOld
import Derived.Below
import Derived.SizedLaws
import Derived.Test.YthenedanhcnccaaPMdoe
set_option linter.unusedVariables false
set_option linter.unusedSimpArgs false
set_option maxRecDepth 10000
set_option maxHeartbeats 8000000
namespace Go.Proofs.Ythenedanhcnccaa.G
open Go Go.RowKit
theorem ag25:Agg Try.prog 25 2:=⟨_,u25,rfl,by kernel_rfl⟩
theorem fn10:Fn Try.prog 10:=⟨_,Try.func10,by kernel_rfl,rfl⟩
theorem fn11:Fn Try.prog 11:=⟨_,Try.func11,by kernel_rfl,rfl⟩
theorem fn12:Fn Try.prog 12:=⟨_,Try.func12,by kernel_rfl,rfl⟩
theorem fn13:Fn Try.prog 13:=⟨_,Try.func13,by kernel_rfl,rfl⟩
theorem fn5:Fn Try.prog 5:=⟨_,Try.func5,by kernel_rfl,rfl⟩
theorem fn6:Fn Try.prog 6:=⟨_,Try.func6,by kernel_rfl,rfl⟩
theorem fn7:Fn Try.prog 7:=⟨_,Try.func7,by kernel_rfl,rfl⟩
theorem fn8:Fn Try.prog 8:=⟨_,Try.func8,by kernel_rfl,rfl⟩
theorem fn9:Fn Try.prog 9:=⟨_,Try.func9,by kernel_rfl,rfl⟩
theorem totI_le {M:Nat} : ∀{rs:List (List Int)},(∀r∈rs,r.length≤M)→totI rs≤rs.length * M
 | [],_=>by simp [totI]
 | r::rs,h=>by
  have h1:=totI_le (rs:=rs) (M:=M) fun x hx=>h x (by simp [hx])
  have h2:=h r (by simp)
  simp only [totI,List.length_cons]
  rw [Nat.succ_mul]
  omega
theorem mdV_len {ds:List Int} {fs:List (List Term)} {n:Int} (hw:Wfss fs):(mdV ds fs n).length≤121∧totI (mdV ds fs n)≤14641∧∀i,i<(mdV ds fs n).length→(rw_ (mdV ds fs n) i).length≤1048576:=by
 by_cases h:cdC ds fs n=0
 ·rw [mdV_y h];obtain ⟨hG,_,_⟩:=cd_y h;have hA:=isAlg_ok hG hw;have h1:=monL_len ds n;have h2:=monL_len ds (n+1)
  have hr : ∀r∈matS ds fs n,r.length≤121:=fun r hr=>by
   rw [(matS_ok hA hA.hn (alg_112 hG) r hr).len];exact h2
  have h3:=totI_le hr;have hl:=matS_len ds fs n;have:(matS ds fs n).length * 121≤121 * 121:=Nat.mul_le_mul_right _ (by omega);refine ⟨by omega,by omega,fun i hi=>?_⟩;have:=hr _ (rw_mem hi)
  omega
 ·rw [mdV_n h];exact ⟨by simp,by simp [totI],fun i hi=>by simp at hi⟩
theorem lawMatrixOfD_c {B:World} {H0 H:HP} {L:List SA} {w:World} {qad qaf:Option Addr} {cad caf:Nat} {ad:List Int} {af:List (List Term)} {n:Int} (had:Ints H qad ad) (haf:Forms H qaf af) (hn:ad.length≤9223372036854775807∧af.length≤9223372036854775807) (hl : ∀i,i<af.length→(fm af i).length≤9223372036854775807) (hH:Hp B H0 H L w):Calls Try.prog 3 [.agg [.slice qad ad.length cad,.slice qaf af.length caf].toArray,.int .i64 n].toArray w fun e w'=>e = .returned (.bool true)∧Below B.heap.size B w':=by
 refine Jt Try.func3 rfl 101 rfl rfl [(0,.agg [.slice qad ad.length cad,.slice qaf af.length caf].toArray),(1,.int .i64 n)] rfl hH ?_;clear hH;obtain ⟨f1,f2,f3⟩:=mdV_len (n:=n) haf.wfss (ds:=ad);refine Je fun _ hK1 _=>(Jb (Eb rfl rfl rfl fun g2=>(Jg (Jd rfl) rfl (Jf (Ja (hK1 (Je fun _ hK2 _=>(Jb (Jg (Jd rfl) rfl (Jf (Ja (hK2 (Je fun _ hK3 _=>(Jb (Jg (Ju rfl At.z (by simpa [*] using ag25)) rfl (Jg (Jc rfl) rfl ?_))))))))))))))));refine Jz fn5 rfl rfl fun w hH=>(szAlgebra_c had haf (by omega) hl hH).mono ?_;rintro _ w ⟨rfl,hH⟩;refine ⟨_,rfl,fun a hF=>JT hF hH ?_⟩;refine Jg (Jd rfl) rfl (Jf (Ja (hK3 (Je fun _ hK4 _=>(Je fun _ hK5 _=>(Jb (Jg (Jc rfl) rfl (Jg (JM rfl rfl) rfl (Jf (Ja (hK5 (Jl rfl (fun h11=>?_) (fun h11=>?_)))))))))))))
 ·
  refine Je fun _ hK6 _=>(Jb (Jg (Jd rfl) rfl (Jf (Ja (hK6 (Jp (Jh (Jk rfl (Res.tmp rfl) fun w hH=>?_))))))));replace hH:=hH.tail
  first | exact ⟨rfl,hH.below⟩ | exact absurd rfl h11p | exact absurd rfl h11 | (exfalso;omega) | (simp at h11;done)
 ·
  have hsz:ad.length+af.length+tot af≤1048576:=by unfold szv at h11;split at h11 <;> omega
  have hl6 : ∀i,i<af.length→(fm af i).length≤1048576:=fun i hi=>by have:=tot_fm hi;omega
  refine Jj (Ja (hK4 (Je fun _ hK7 _=>(Jb (Jg (Ju rfl At.z (by simpa [*] using ag25)) rfl (Jz fn7 rfl rfl fun w hH=>(toAlgebra_c had haf (by omega) hl6 hH).mono ?_))))));rintro _ w ⟨qdo23,cdo23,qfo23,cfo23,vso23,rfl,hH⟩;refine ⟨_,rfl,fun a hF=>JT hF hH ?_⟩;refine Jg (Jc rfl) rfl (J.fixA .z fun Ho23d hleo23d hAo23d=>?_);replace had:=had.le hleo23d;replace haf:=haf.le hleo23d;have hxo23d:=own_ints hAo23d;have hco23d:=own_le hAo23d;refine J.fixA .z fun Ho23f hleo23f hAo23f=>?_;replace had:=had.le hleo23f;replace haf:=haf.le hleo23f;replace hxo23d:=hxo23d.le hleo23f;have hxo23f:=(own_forms haf.wfss hAo23f);have hco23f:=own_le hAo23f.1;refine Jz fn6 rfl rfl fun w hH=>(sMatrixOfD_c hxo23d hxo23f (by omega) (by omega) hl6 hH).mono ?_;rintro _ w ⟨Hf25,qf25,cf25,hlf25,hI25,hcc25,rfl,hH⟩;refine ⟨_,rfl,fun a hF=>JT hF hH ?_⟩;replace had:=had.le hlf25;replace haf:=haf.le hlf25;replace hxo23d:=hxo23d.le hlf25;replace hxo23f:=hxo23f.le hlf25;refine Jg (Jc rfl) rfl (Jg (JI rfl rfl) rfl (Jg (JI rfl rfl) rfl (Jg (Jd rfl) rfl (Jg (Jd rfl) rfl (Jf (Ja (hK7 (Je fun _ hK8 _=>(Jb (Jg (Ju rfl At.z (by simpa [*] using ag25)) rfl (Jz fn7 rfl rfl fun w hH=>(toAlgebra_c had haf (by omega) hl6 hH).mono ?_)))))))))));rintro _ w ⟨qdo29,cdo29,qfo29,cfo29,vso29,rfl,hH⟩;refine ⟨_,rfl,fun a hF=>JT hF hH ?_⟩;refine JW ze32 rfl fun g8=>(JF rfl rfl (by first | exact bytesC_one _ | exact intsC_one _ | exact Term.c_one _ | simp [Value.oneCell']) (by simpa [*] using sz32) (by simp [*]) At.z (Jf (Ja (hK8 (Je fun _ hK9 _=>(Jb (Jg (Ju rfl At.z (by simpa [*] using ag32)) rfl (Jg (Jc rfl) rfl (Jz fn8 rfl rfl fun w hH=>hH.lend (.s .z) fun Hl1 hle1 hA1 hB1 hH=>hH.lend (.s .z) fun Hl2 hle2 hA2 hB2 hH=>(MatrixOfD_c ((own_ints hA1).le hle2) (own_forms haf.wfss hA2) (by omega) (by omega) hl6 hH).mono ?_)))))))));rintro _ w ⟨qo33,co33,vso33,rfl,hH⟩;replace hH:=hB2 _ _ hH;replace hH:=hB1 _ _ hH;refine ⟨_,rfl,fun a hF=>JT hF hH ?_⟩;refine Jg (Jc rfl) rfl (Jg (JI rfl rfl) rfl (Jg (JI rfl rfl) rfl (Jg (Jd rfl) rfl (Jg (Jd rfl) rfl (Jf (Ja (hK9 (Je fun _ hK10 _=>(Je fun _ hK11 _=>(Jb (Jg (Jc rfl) rfl (Jg (Jc rfl) rfl (Jz fn9 rfl rfl fun w hH=>hH.lend (.s (.s .z)) fun Hl1 hle1 hA1 hB1 hH=>(eqInt64SS_c (own_rows hA1) (hI25.le hle1) (by omega) f3 hH).mono ?_)))))))))))));rintro _ w ⟨rfl,hH⟩;replace hH:=hB1 _ _ hH;refine ⟨_,rfl,fun a hF=>JT hF hH ?_⟩;refine Jg (Ei rfl) rfl (Jg (Jc rfl) rfl (Eg (jd:=40) rfl (fun hg40=>?_) (fun hg40=>?_)))
  ·
   try have hg40p:=of_decide_eq_true hg40
   refine JO rfl rfl rfl hg40 (JO rfl rfl rfl hg40 (JO rfl rfl rfl hg40 (Jg (JX rfl hg40 rfl) rfl (Jf (Ja (hK11 (El rfl (Je fun _ hK12 _=>(Jb (Jg (Jd rfl) rfl (Jf (Ja (hK12 (Jp (Jh (Jk rfl (Res.tmp rfl) fun w hH=>?_))))))))))))))));replace hH:=hH.tail;replace hH:=hH.tail;replace hH:=hH.tail;replace hH:=hH.tail;replace hH:=hH.tail
   first | exact ⟨rfl,hH.below⟩ | exact absurd rfl hg40p | exact absurd rfl hg40 | (exfalso;omega) | (simp at hg40;done)
  ·
   try have hg40p:=of_decide_eq_false hg40
   refine JU (Jc rfl) rfl rfl rfl hg40 (JU (Jc rfl) rfl rfl rfl hg40 (JU (Ek rfl rfl) rfl rfl rfl hg40 (Jg (JV rfl hg40 rfl) rfl (Jf (Ja (hK11 (Jl rfl (fun hc44=>?_) (fun hc44=>?_))))))))
   ·
    refine Je fun _ hK13 _=>(Jb (Jg (Jd rfl) rfl (Jf (Ja (hK13 (Jp (Jh (Jk rfl (Res.tmp rfl) fun w hH=>?_))))))));replace hH:=hH.tail;replace hH:=hH.tail;replace hH:=hH.tail;replace hH:=hH.tail;replace hH:=hH.tail
    first | exact ⟨rfl,hH.below⟩ | exact absurd rfl hc44p | exact absurd rfl hc44 | (exfalso;omega) | (simp at hc44;done)
   ·
    refine Jj (Ja (hK10 (Je fun _ hK14 _=>(Je fun _ hK15 _=>(Ey (Rs:=[_,_,_,_,_]) 5 [[], [], [1], [0,1,2], [0,1,2,3]] [[8], [9], [], [2,6,7], []] [[], [], [], [], []] rfl rfl (by kernel_rfl) ?_)))));apply Jy 1 rfl
    iterate 3 focus (intros;(conv=>lhs;simp only [Jo,JB,Ee,JD,JR,eq_self,Nat.reduceEqDiff,reduceIte,Nat.reduceSub,Nat.reduceAdd,List.cons_append,List.nil_append]);all_goals rfl)
    ·
     intro gh X K zq zc zq2 zc2 zb zv hK;refine Jg (Ju rfl At.z (by simpa [*] using ag32)) rfl (Js ?_);exact hK zq zc zq2 zc2 zb zv
    ·
     intro gh gh' h
     rfl
    apply Jy 2 rfl
    iterate 3 focus (intros;(conv=>lhs;simp only [Jo,JB,Ee,JD,JR,eq_self,Nat.reduceEqDiff,reduceIte,Nat.reduceSub,Nat.reduceAdd,List.cons_append,List.nil_append]);all_goals rfl)
    ·
     intro gh X K zq zc zq2 zc2 zb zv hK;refine Jg (Ju rfl At.z (by simpa [*] using ag25)) rfl (Js ?_);exact hK zq zc zq2 zc2 zb zv
    ·
     intro gh gh' h
     rfl
    apply GJ.st2 3 rfl
    iterate 3 focus (intros;(conv=>lhs;simp only [Jo,JB,Ee,JD,JR,eq_self,Nat.reduceEqDiff,reduceIte,Nat.reduceSub,Nat.reduceAdd,List.cons_append,List.nil_append]);all_goals rfl)
    ·
     intro gh X K zq zc zq2 zc2 zb zv hK;refine Jz fn7 rfl rfl fun w hH=>(toAlgebra_c had haf (by omega) hl6 hH).mono ?_;rintro _ w ⟨qdo47,cdo47,qfo47,cfo47,vso47,rfl,hH⟩;refine ⟨_,rfl,fun a hF=>JT hF hH ?_⟩;refine Js ?_;exact hK qdo47 cdo47 qfo47 cfo47 zb vso47
    ·
     intro gh gh' h;refine ⟨?_,?_,?_⟩ <;> rfl
    apply Jy 4 rfl
    iterate 3 focus (intros;(conv=>lhs;simp only [Jo,JB,Ee,JD,JR,eq_self,Nat.reduceEqDiff,reduceIte,Nat.reduceSub,Nat.reduceAdd,List.cons_append,List.nil_append]);all_goals rfl)
    ·
     intro gh X K zq zc zq2 zc2 zb zv hK;refine Jz fn10 rfl rfl fun w hH=>hH.lend (.s (.s .z)) fun Hl1 hle1 hA1 hB1 hH=>hH.lend (.s (.s .z)) fun Hl2 hle2 hA2 hB2 hH=>hH.lend .z fun Hl3 hle3 hA3 hB3 hH=>hH.lend .z fun Hl4 hle4 hA4 hB4 hH=>(eqAlgebra_c ((((own_ints hA1).le hle2).le hle3).le hle4) (((own_forms haf.wfss hA2).le hle3).le hle4) ((own_ints hA3).le hle4) (own_forms haf.wfss hA4) (by omega) (by omega) hl hH).mono ?_;rintro _ w ⟨rfl,hH⟩;replace hH:=hB4 _ _ hH;replace hH:=hB3 _ _ hH;replace hH:=hB2 _ _ hH;replace hH:=hB1 _ _ hH;refine ⟨_,rfl,fun a hF=>JT hF hH ?_⟩;refine Jw (.s .z) (Jw (.s .z) (Jw (.s (.s (.s .z))) (Jw (.s (.s (.s .z))) (Js ?_))));exact hK zq zc zq2 zc2 zb zv
    ·
     intro gh gh' h
     first | simp only [h 2 rfl] | rfl
    apply Jy 5 rfl
    iterate 3 focus (intros;(conv=>lhs;simp only [Jo,JB,Ee,JD,JR,eq_self,Nat.reduceEqDiff,reduceIte,Nat.reduceSub,Nat.reduceAdd,List.cons_append,List.nil_append]);all_goals rfl)
    ·
     intro gh X K zq zc zq2 zc2 zb zv hK;refine Jg (Ei rfl) rfl (Js ?_);exact hK zq zc zq2 zc2 zb zv
    ·
     intro gh gh' h
     first | simp only [h 2 rfl] | rfl
    apply Ez [0,1,2,3,4] [0,1,2,3,4,5,6,7,8,9] foll0 rfl rfl rfl (by rfl)
    iterate 2 focus (intros;(conv=>lhs;simp only [Jo,JB,Ee,JD,JR,eq_self,Nat.reduceEqDiff,reduceIte,Nat.reduceSub,Nat.reduceAdd,List.cons_append,List.nil_append]);all_goals rfl)
    intro gh;generalize (gh 2).c=cdo47;generalize (gh 2).c2=cfo47;generalize (gh 2).q=qdo47;generalize (gh 2).q2=qfo47;generalize (gh 2).vs=vso47;clear gh;refine Ja (hK15 (Eh rfl (fun hc49=>?_) (fun hc49=>?_)))
    ·
     refine Je fun _ hK16 _=>(Jb (Jg (Jd rfl) rfl (Jf (Ja (hK16 (Jp (Jh (Jk rfl (Res.tmp rfl) fun w hH=>?_))))))));replace hH:=hH.tail;replace hH:=hH.tail;replace hH:=hH.tail;replace hH:=hH.tail;replace hH:=hH.tail;replace hH:=hH.tail;replace hH:=hH.tail
     first | exact ⟨rfl,hH.below⟩ | exact absurd rfl hc49p | exact absurd rfl hc49 | (exfalso;omega) | (simp at hc49;done)
    ·
     refine Jj (Ja (hK14 (Je fun _ hK17 _=>(Jb (Jg (Jd rfl) rfl (Jf (Ja (hK17 (Je fun _ hK18 _=>(Jb (Jg (Ju rfl (.s (.s (.s (.s (.s .z))))) (by simpa [*] using ag32)) rfl (Jg (Jc rfl) rfl (Jz fn11 rfl rfl fun w hH=>(markAlgebra_c (by omega) (by omega) ((hH.front (.s (.s (.s (.s .z))))).front (.s (.s (.s (.s .z)))))).mono ?_)))))))))))));rintro _ w ⟨rfl,hH⟩;refine ⟨_,rfl,fun a hF=>JT hF hH ?_⟩;refine Jg (Jd rfl) rfl (Jf (Ja (hK18 (Je fun _ hK19 _=>(Je fun _ hK20 _=>(Jb (Jg (Jc rfl) rfl (Jg (JM rfl rfl) rfl (Jg (Jc rfl) rfl (Eg (jd:=55) rfl (fun hg55=>?_) (fun hg55=>?_)))))))))))
     ·
      try have hg55p:=of_decide_eq_true hg55
      refine JO rfl rfl rfl hg55 (JO rfl rfl rfl hg55 (JO rfl rfl rfl hg55 (JO rfl rfl rfl hg55 (Jg (JX rfl hg55 rfl) rfl (Jg (Jc rfl) rfl (JO rfl rfl rfl rfl (JO rfl rfl rfl rfl (JO rfl rfl rfl rfl (Jg (JX rfl rfl rfl) rfl (Jf (Ja (hK20 (El rfl (Je fun _ hK21 _=>(Jb ?_)))))))))))))));refine Jg (Jd rfl) rfl (Jf (Ja (hK21 (Jp (Jh (Jk rfl (Res.tmp rfl) fun w hH=>?_))))));replace hH:=hH.tail;replace hH:=hH.tail;replace hH:=hH.tail;replace hH:=hH.tail;replace hH:=hH.tail;replace hH:=hH.tail;replace hH:=hH.tail
      first | exact ⟨rfl,hH.below⟩ | exact absurd rfl hg55p | exact absurd rfl hg55 | (exfalso;omega) | (simp at hg55;done)
     ·
      try have hg55p:=of_decide_eq_false hg55
      refine JU (Jc rfl) rfl rfl rfl hg55 (JU (Jc rfl) rfl rfl rfl hg55 (EE fn9 rfl rfl hg55 rfl rfl fun w hH=>hH.lend (.s (.s (.s (.s .z)))) fun Hl1 hle1 hA1 hB1 hH=>(eqInt64SS_c (own_rows hA1) (hI25.le hle1) (by omega) f3 hH).mono ?_));rintro _ w ⟨rfl,hH⟩;replace hH:=hB1 _ _ hH;refine ⟨_,rfl,fun a hF=>JT hF hH ?_⟩;refine JU (Ei rfl) rfl rfl rfl hg55 (Jg (JV rfl hg55 rfl) rfl (Jg (Jc rfl) rfl (Eg (jd:=61) rfl (fun hg61=>?_) (fun hg61=>?_))))
      ·
       try have hg61p:=of_decide_eq_true hg61
       refine JO rfl rfl rfl hg61 (JO rfl rfl rfl hg61 (JO rfl rfl rfl hg61 (Jg (JX rfl hg61 rfl) rfl (Jf (Ja (hK20 (El rfl (Je fun _ hK22 _=>(Jb (Jg (Jd rfl) rfl (Jf (Ja (hK22 (Jp (Jh (Jk rfl (Res.tmp rfl) fun w hH=>?_))))))))))))))));replace hH:=hH.tail;replace hH:=hH.tail;replace hH:=hH.tail;replace hH:=hH.tail;replace hH:=hH.tail;replace hH:=hH.tail;replace hH:=hH.tail
       first | exact ⟨rfl,hH.below⟩ | exact absurd rfl hg61p | exact absurd rfl hg61 | (exfalso;omega) | (simp at hg61;done)
      ·
       try have hg61p:=of_decide_eq_false hg61
       refine JU (Jc rfl) rfl rfl rfl hg61 (JU (Jc rfl) rfl rfl rfl hg61 (JU (Ek rfl rfl) rfl rfl rfl hg61 (Jg (JV rfl hg61 rfl) rfl (Jf (Ja (hK20 (Jl rfl (fun hc65=>?_) (fun hc65=>?_))))))))
       ·
        refine Je fun _ hK23 _=>(Jb (Jg (Jd rfl) rfl (Jf (Ja (hK23 (Jp (Jh (Jk rfl (Res.tmp rfl) fun w hH=>?_))))))));replace hH:=hH.tail;replace hH:=hH.tail;replace hH:=hH.tail;replace hH:=hH.tail;replace hH:=hH.tail;replace hH:=hH.tail;replace hH:=hH.tail
        first | exact ⟨rfl,hH.below⟩ | exact absurd rfl hc65p | exact absurd rfl hc65 | (exfalso;omega) | (simp at hc65;done)
       ·
        refine Jj (Ja (hK19 (Je fun _ hK24 _=>(Jb (Jg (Jd rfl) rfl (Jf (Ja (hK24 (Je fun _ hK25 _=>(Jb (Jg (Jc rfl) rfl (Jg (Jc rfl) rfl (Jz fn12 rfl rfl fun w hH=>(markInt64SS_c (by omega) (by omega) (hH.front .z)).mono ?_)))))))))))));rintro _ w ⟨rfl,hH⟩;refine ⟨_,rfl,fun a hF=>JT hF hH ?_⟩;refine Jg (Jd rfl) rfl (Jf (Ja (hK25 (Je fun _ hK26 _=>(Jb (Jg (Jd rfl) rfl (Jf (Ja (hK26 (Je fun _ hK27 _=>(Jb (Jg (Jc rfl) rfl (Jg (Jc rfl) rfl (Jz fn13 rfl rfl fun w hH=>hH.lend .z fun Hl1 hle1 hA1 hB1 hH=>(heldInt64SS_c (own_mrows (by omega) hA1) (by omega) (by omega) hH).mono ?_))))))))))))));rintro _ w ⟨rfl,hH⟩;replace hH:=hB1 _ _ hH;refine ⟨_,rfl,fun a hF=>JT hF hH ?_⟩;refine Jg (Jd rfl) rfl (Jf (Ja (hK27 (Je fun _ hK28 _=>(Je fun _ hK29 _=>(Jb (Jg (Jc rfl) rfl (Jg (JM rfl rfl) rfl (Jf (Ja (hK29 (Jl rfl (fun hc73=>?_) (fun hc73=>?_)))))))))))))
        ·
         refine Je fun _ hK30 _=>(Jb (Jg (Jd rfl) rfl (Jf (Ja (hK30 (Jp (Jh (Jk rfl (Res.tmp rfl) fun w hH=>?_))))))));replace hH:=hH.tail;replace hH:=hH.tail;replace hH:=hH.tail;replace hH:=hH.tail;replace hH:=hH.tail;replace hH:=hH.tail;replace hH:=hH.tail
         first | exact ⟨rfl,hH.below⟩ | exact absurd rfl hc73p | exact absurd rfl hc73 | (exfalso;omega) | (simp at hc73;done)
        ·
         refine Jj (Ja (hK28 (Je fun _ hK31 _=>(Je fun _ hK32 _=>(Jb (Jg (Jc rfl) rfl (Jg (Jc rfl) rfl (Jg (Ek rfl rfl) rfl (Jf (Ja (hK32 (Jl rfl (fun hc76=>?_) (fun hc76=>?_)))))))))))))
         ·
          refine Je fun _ hK33 _=>(Jb (Jg (Jd rfl) rfl (Jf (Ja (hK33 (Jp (Jh (Jk rfl (Res.tmp rfl) fun w hH=>?_))))))));replace hH:=hH.tail;replace hH:=hH.tail;replace hH:=hH.tail;replace hH:=hH.tail;replace hH:=hH.tail;replace hH:=hH.tail;replace hH:=hH.tail
          first | exact ⟨rfl,hH.below⟩ | exact absurd rfl hc76p | exact absurd rfl hc76 | (exfalso;omega) | (simp at hc76;done)
         ·
          refine Jj (Ja (hK31 (Je fun _ hK34 _=>(Jb (Jg (Ju rfl (.s (.s (.s (.s (.s (.s .z)))))) (by simpa [*] using ag25)) rfl (Jz fn7 rfl rfl fun w hH=>(toAlgebra_c had haf (by omega) hl6 hH).mono ?_))))));rintro _ w ⟨qdo79,cdo79,qfo79,cfo79,vso79,rfl,hH⟩;refine ⟨_,rfl,fun a hF=>JT hF hH ?_⟩;refine Jg (Jc rfl) rfl (Jz fn8 rfl rfl fun w hH=>hH.lend .z fun Hl1 hle1 hA1 hB1 hH=>hH.lend .z fun Hl2 hle2 hA2 hB2 hH=>(MatrixOfD_c ((own_ints hA1).le hle2) (own_forms haf.wfss hA2) (by omega) (by omega) hl6 hH).mono ?_);rintro _ w ⟨qo81,co81,vso81,rfl,hH⟩;replace hH:=hB2 _ _ hH;replace hH:=hB1 _ _ hH;refine ⟨_,rfl,fun a hF=>JT hF hH ?_⟩;refine Jg (Jc rfl) rfl (Jg (JI rfl rfl) rfl (Jg (JI rfl rfl) rfl (Jg (Jd rfl) rfl (Jg (Jd rfl) rfl (Jf (Ja (hK34 (Je fun _ hK35 _=>(Je fun _ hK36 _=>(Jb (Jg (Jc rfl) rfl (Jg (Jc rfl) rfl (Jz fn9 rfl rfl fun w hH=>hH.lend (.s (.s .z)) fun Hl1 hle1 hA1 hB1 hH=>(eqInt64SS_c (own_rows hA1) (hI25.le hle1) (by omega) f3 hH).mono ?_)))))))))))));rintro _ w ⟨rfl,hH⟩;replace hH:=hB1 _ _ hH;refine ⟨_,rfl,fun a hF=>JT hF hH ?_⟩;refine Jg (Ei rfl) rfl (Jg (Jc rfl) rfl (Eg (jd:=88) rfl (fun hg88=>?_) (fun hg88=>?_)))
          ·
           try have hg88p:=of_decide_eq_true hg88
           refine JO rfl rfl rfl hg88 (JO rfl rfl rfl hg88 (JO rfl rfl rfl hg88 (Jg (JX rfl hg88 rfl) rfl (Jf (Ja (hK36 (El rfl (Je fun _ hK37 _=>(Jb (Jg (Jd rfl) rfl (Jf (Ja (hK37 (Jp (Jh (Jk rfl (Res.tmp rfl) fun w hH=>?_))))))))))))))));replace hH:=hH.tail;replace hH:=hH.tail;replace hH:=hH.tail;replace hH:=hH.tail;replace hH:=hH.tail;replace hH:=hH.tail;replace hH:=hH.tail;replace hH:=hH.tail;replace hH:=hH.tail;replace hH:=hH.tail
           first | exact ⟨rfl,hH.below⟩ | exact absurd rfl hg88p | exact absurd rfl hg88 | (exfalso;omega) | (simp at hg88;done)
          ·
           try have hg88p:=of_decide_eq_false hg88
           refine JU (Jc rfl) rfl rfl rfl hg88 (JU (Jc rfl) rfl rfl rfl hg88 (JU (Ek rfl rfl) rfl rfl rfl hg88 (Jg (JV rfl hg88 rfl) rfl (Jf (Ja (hK36 (Jl rfl (fun hc92=>?_) (fun hc92=>?_))))))))
           ·
            refine Je fun _ hK38 _=>(Jb (Jg (Jd rfl) rfl (Jf (Ja (hK38 (Jp (Jh (Jk rfl (Res.tmp rfl) fun w hH=>?_))))))));replace hH:=hH.tail;replace hH:=hH.tail;replace hH:=hH.tail;replace hH:=hH.tail;replace hH:=hH.tail;replace hH:=hH.tail;replace hH:=hH.tail;replace hH:=hH.tail;replace hH:=hH.tail;replace hH:=hH.tail
            first | exact ⟨rfl,hH.below⟩ | exact absurd rfl hc92p | exact absurd rfl hc92 | (exfalso;omega) | (simp at hc92;done)
           ·
            refine Jj (Ja (hK35 (Je fun _ hK39 _=>(Jb (Jg (Jd rfl) rfl (Jf (Ja (hK39 (Je fun _ hK40 _=>(Jb (Jg (Jc rfl) rfl (Jg (Jc rfl) rfl (Jz fn13 rfl rfl fun w hH=>hH.lend (.s (.s (.s .z))) fun Hl1 hle1 hA1 hB1 hH=>(heldInt64SS_c (own_mrows (by omega) hA1) (by omega) (by omega) hH).mono ?_)))))))))))));rintro _ w ⟨rfl,hH⟩;replace hH:=hB1 _ _ hH;refine ⟨_,rfl,fun a hF=>JT hF hH ?_⟩;refine Jg (Jd rfl) rfl (Jf (Ja (hK40 (Je fun _ hK41 _=>(Je fun _ hK42 _=>(Jb (Jg (Jc rfl) rfl (Jg (JM rfl rfl) rfl (Jf (Ja (hK42 (Jl rfl (fun hc97=>?_) (fun hc97=>?_)))))))))))))
            ·
             refine Je fun _ hK43 _=>(Jb (Jg (Jd rfl) rfl (Jf (Ja (hK43 (Jp (Jh (Jk rfl (Res.tmp rfl) fun w hH=>?_))))))));replace hH:=hH.tail;replace hH:=hH.tail;replace hH:=hH.tail;replace hH:=hH.tail;replace hH:=hH.tail;replace hH:=hH.tail;replace hH:=hH.tail;replace hH:=hH.tail;replace hH:=hH.tail;replace hH:=hH.tail
             first | exact ⟨rfl,hH.below⟩ | exact absurd rfl hc97p | exact absurd rfl hc97 | (exfalso;omega) | (simp at hc97;done)
            ·
             refine Jj (Ja (hK41 (Je fun _ hK44 _=>(Je fun _ hK45 _=>(Jb (Jg (Jc rfl) rfl (Jg (Jc rfl) rfl (Jg (Ek rfl rfl) rfl (Jf (Ja (hK45 (Jl rfl (fun hc100=>?_) (fun hc100=>?_)))))))))))))
             ·
              refine Je fun _ hK46 _=>(Jb (Jg (Jd rfl) rfl (Jf (Ja (hK46 (Jp (Jh (Jk rfl (Res.tmp rfl) fun w hH=>?_))))))));replace hH:=hH.tail;replace hH:=hH.tail;replace hH:=hH.tail;replace hH:=hH.tail;replace hH:=hH.tail;replace hH:=hH.tail;replace hH:=hH.tail;replace hH:=hH.tail;replace hH:=hH.tail;replace hH:=hH.tail
              first | exact ⟨rfl,hH.below⟩ | exact absurd rfl hc100p | exact absurd rfl hc100 | (exfalso;omega) | (simp at hc100;done)
             ·
              refine Jj (Ja (hK44 (Je fun _ hK47 _=>(Jb (Jg (Jd rfl) rfl (Jf (Ja (hK47 (Jp (Jk rfl (Res.tmp rfl) fun w hH=>?_))))))))));replace hH:=hH.tail;replace hH:=hH.tail;replace hH:=hH.tail;replace hH:=hH.tail;replace hH:=hH.tail;replace hH:=hH.tail;replace hH:=hH.tail;replace hH:=hH.tail;replace hH:=hH.tail;replace hH:=hH.tail
              first | exact ⟨rfl,hH.below⟩ | exact absurd rfl hc100p | exact absurd rfl hc100 | (exfalso;omega) | (simp at hc100;done)
end Go.Proofs.Ythenedanhcnccaa.G
namespace Go.Proofs.Ythenedanhcnccaa.fnExactMatrixOfD
open Go.ChangeShapes Go.WideShapes Go.ChangeAt Go.RowKit
open Go.Proofs.Ythenedanhcnccaa.G
theorem u25:Try.prog.underlying 25=some (TypeDesc.struct #[{name:="Degrees",type:=22,offset:=0,embedded:=false,tag:="",pkgPath:="",byteOffset:=0},{name:="Images",type:=23,offset:=1,embedded:=false,tag:="",pkgPath:="",byteOffset:=24}]):=by kernel_rfl
theorem u22:Try.prog.underlying 22=some (TypeDesc.slice 2):=by kernel_rfl
theorem u2:Try.prog.underlying 2=some (TypeDesc.int .i64):=by kernel_rfl
theorem u23:Try.prog.underlying 23=some (TypeDesc.slice 65):=by kernel_rfl
theorem u65:Try.prog.underlying 65=some (TypeDesc.struct #[{name:="Terms",type:=63,offset:=0,embedded:=false,tag:="",pkgPath:="",byteOffset:=0}]):=by kernel_rfl
theorem u63:Try.prog.underlying 63=some (TypeDesc.slice 129):=by kernel_rfl
theorem u129:Try.prog.underlying 129=some (TypeDesc.struct #[{name:="Monomial",type:=77,offset:=0,embedded:=false,tag:="",pkgPath:="",byteOffset:=0},{name:="Factor",type:=2,offset:=8,embedded:=false,tag:="",pkgPath:="",byteOffset:=8}]):=by kernel_rfl
theorem u77:Try.prog.underlying 77=some (TypeDesc.array 8 5):=by kernel_rfl
theorem u5:Try.prog.underlying 5=some (TypeDesc.int .u8):=by kernel_rfl
theorem u4:Try.prog.underlying 4=some (TypeDesc.bool):=by kernel_rfl
theorem own:ownKnob Try.prog.godebug=none:=by kernel_rfl
theorem lifted (os:Os) (started:os.Started) (H:Type) (enc:TypeId × Value→H):ReturnsInHanded {} Try.checked os 3 .any (Rows.fnExactMatrixOfDSpec.pre6 enc Try.prog Try.f3 Rows.fnExactMatrixOfDRow.domain false) (Rows.fnExactMatrixOfDSpec.post enc Try.prog Try.f3 false true false false):=by
 refine returnsInHanded_of_change_sized (C:=Try.checked) own started (by kernel_rfl) Try.func3
  (ChangeSpec.witness6 (enc:=enc) (C:=Try.checked) false ⟨#[],#[.agg #[.slice none 0 0,.slice none 0 0],.int .i64 0], []⟩ 12 (by kernel_rfl) (by kernel_rfl) (by kernel_rfl) (by kernel_rfl)) ?_
 intro W base args ds gs before hval0 hW hcnd hsz0 _;have hval : ∀(j:Nat) t v,Try.f3.params[j]? = some t→args[j]? = some v→Value.okWide Try.prog W .any base t v:=hval0;have hW':=hW;obtain ⟨p,q,hA0,hV,rfl,hfz,hnd⟩:=hW;have hA:DataW.TrodAll enc Try.prog W 0 (fun _=>true) true Try.f3.params.toList args.toList ds p:=hA0;rw [Try.params3] at hA hval;obtain ⟨v0,Ee,d0,ds0,p0,q0,hargs,rfl,rfl,h0,r0⟩:=trodAll_cons hA;obtain ⟨v1,vs1,d1,ds1,p1,q1,rfl,rfl,rfl,h1,r1⟩:=trodAll_cons r0;obtain ⟨rfl,rfl,rfl⟩:=trodAll_nil r1
 obtain rfl:args = #[v0,v1]:=by cases args;simp_all
 obtain ⟨rfl,rfl⟩:=trodVars_none hV;obtain ⟨q0d,c0d,ds0,q0f,c0f,fs0,rfl,X0,F0,le0,fl0⟩:=openV_alg u25 rfl rfl rfl rfl (by kernel_rfl) (by kernel_rfl) (by kernel_rfl) u22 u2 (by kernel_rfl) u23 (by kernel_rfl) (fun n l y hy=>tr_form u65 rfl rfl (by kernel_rfl) (by kernel_rfl) u63 (by kernel_rfl) u129 rfl rfl rfl rfl u77 u5 (by kernel_rfl) (by kernel_rfl) u2 (by kernel_rfl) hy) (hval 0 25 v0 rfl rfl) h0;obtain ⟨a1,rfl,lo1,hi1⟩:=openV_int u2 (hval 1 2 v1 rfl rfl) h1;clear hA0 hval0 hsz0;refine ((lawMatrixOfD_c X0 F0 le0 fl0 (Hp.start (H:=hp W) fun _ _ h=>h)).mono fun e W' ⟨he,bel⟩=>?_);subst he;exact ⟨_,rfl,law_post (f:=Try.f3) (by kernel_rfl) (by kernel_rfl) rfl rfl u4 rfl hW' bel⟩
theorem joined:joinedFacts Try.prog 3 Try.f3 Rows.fnExactMatrixOfDSpec Rows.fnExactMatrixOfDRow=true:=by
 unfold joinedFacts;simp only [Bool.and_eq_true]
 repeat' apply And.intro
 all_goals first
  | with_reducible exact Facts.fEnter
  | with_reducible exact Facts.fLaid
  | with_reducible exact Facts.fMaps
  | with_reducible exact Facts.fHeard
  | (rw [Facts.fMake];rfl)
  | (rw [Facts.fLift];rfl)
  | (rw [Facts.fKeys];rfl)
  | (rw [Facts.fStops];rfl)
  | (rw [Facts.fStopK];rfl)
  | as_aux_lemma=>kernel_rfl
theorem over:Rows.fnExactMatrixOfDRow.holds Try.pinned (OpenSpec.ofChange Rows.fnExactMatrixOfDSpec):=
 OpenClaim.holds_of_wide 3 Try.f3 rfl rfl rfl rfl rfl rfl rfl ⟨rfl,rfl,rfl,rfl,rfl⟩ rfl rfl rfl rfl rfl (by as_aux_lemma=>kernel_rfl) Try.func3 joined
  (of_decide_eq_true (by as_aux_lemma=>kernel_rfl)) (by unfold Func.isWrapper;first | (rw [if_pos (by decide +kernel)];kernel_rfl) | (rw [if_neg (by decide +kernel)];exact ⟨rfl,rfl⟩))
  (fun os started H enc _=>lifted os started H enc)
theorem proved:Rows.FnExactMatrixOfDSaid:=over
#print axioms proved
end Go.Proofs.Ythenedanhcnccaa.fnExactMatrixOfD
namespace Go.Proofs.Ythenedanhcnccaa
theorem fnExactMatrixOfD_holds:Rows.FnExactMatrixOfDSaid:=fnExactMatrixOfD.proved
end Go.Proofs.Ythenedanhcnccaa
