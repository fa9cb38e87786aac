/- The row: the law answers true whatever the input, and the input reads as it did. No condition. -/
import Derived.Test.YthenedanhcnccaaGreatRows
import Derived.Test.YthenedanhcnccaaGreatProg
import Derived.WalkKit
import Derived.KernelRfl
import Derived.JoinedOf
import Derived.Maps.AppendAt
import Derived.Still
import Derived.ProofKit
import Derived.OpenShut
import Derived.StillTail
import Derived.Deep.Upon
import Derived.WalkSpells
import Derived.Maps.Range
import Derived.DeepKeys4
import Derived.Maps.Keyed
import Derived.ChangeOld
import Derived.Below
import Derived.SizedLaws
import Derived.Test.YthenedanhcnccaaGreatPPtbg
set_option linter.unusedVariables false
set_option linter.unusedSimpArgs false
set_option maxRecDepth 10000
set_option maxHeartbeats 8000000
namespace Go.Proofs.YthenedanhcnccaaGreat.G
open Go Go.RowKit
theorem fn84:Fn Tryz.prog 84:=⟨_,Tryz.func84,by kernel_rfl,rfl⟩
theorem fn85:Fn Tryz.prog 85:=⟨_,Tryz.func85,by kernel_rfl,rfl⟩
def ptA (n m:Int):Bool:=(decide (0≤n) && decide (n≤14)) && (decide (0≤m) && decide (m≤14 - n))
def ptC (ds:List Int) (fs:List (List Term)) (n m:Int):Int:=if isAlg ds fs then if ptA n m then if wiB ds 0 (n+m+1) then 0 else 3 else 2 else 1
def ptV (ds:List Int) (fs:List (List Term)) (n m:Int):List (List Int):=if ptC ds fs n m=0 then ptS ds fs n m else []
section
variable {ds : List Int} {fs : List (List Term)} {n m : Int}
theorem ptA_y (h:ptA n m=true):0≤n∧n≤14∧0≤m∧m≤14 - n:=by
 unfold ptA at h;simp only [Bool.and_eq_true,decide_eq_true_eq] at h
 omega
theorem up_wi (ds:List Int) (n:Int):upB ds n=wiB ds 0 (n+1):=by
 unfold upB wiB;rw [show (n+1+1 - max (0:Int) 0).toNat=(n+2).toNat by omega]
 congr 1
 funext k
 rw [show max (0:Int) 0+(k:Int)=(k:Int) by omega]
theorem ptV_n (h:ptC ds fs n m≠0):ptV ds fs n m=[]:=if_neg h
theorem ptV_y (h:ptC ds fs n m=0):ptV ds fs n m=ptS ds fs n m:=if_pos h
theorem ptC_1 (h:isAlg ds fs=false):ptC ds fs n m=1:=by unfold ptC;rw [h];rfl
theorem ptC_2 (h:isAlg ds fs=true) (h2:ptA n m=false):ptC ds fs n m=2:=by unfold ptC;rw [h,h2];rfl
theorem ptC_3 (h:isAlg ds fs=true) (h2:ptA n m=true) (h3:wiB ds 0 (n+m+1)=false):ptC ds fs n m=3:=by unfold ptC;rw [h,h2,h3];rfl
theorem ptC_0 (h:isAlg ds fs=true) (h2:ptA n m=true) (h3:wiB ds 0 (n+m+1)=true):ptC ds fs n m=0:=by unfold ptC;rw [h,h2,h3];rfl
theorem wi_f3 {k t:Int} (h:wiB ds 0 t=true) (h0:0≤k) (hk:k+1≤t):fit3 ds k:=⟨⟨wi_fit h (by omega) (by omega),wi_fit h (by omega) (by omega)⟩,fun h1=>wi_fit h (by omega) (by omega)⟩
theorem ptA_s1 (h:(!(decide (0≤n) && decide (n≤14)))=true):true = !ptA n m:=by unfold ptA;rw [not_f h];rfl
theorem ptA_s2 (h:(!(decide (0≤n) && decide (n≤14)))=false):(!(decide (0≤m) && decide (m≤14 - n))) = !ptA n m:=by unfold ptA;rw [not_t h];rfl
theorem ptA_i2 (h:(!(decide (0≤m) && decide (m≤14)))=true):true = !ptA n m:=by
 unfold ptA
 cases h1:(decide (0≤n) && decide (n≤14)) with
 | false=>rfl
 | true=>
  have h2:=not_f h;simp only [Bool.and_eq_true,decide_eq_true_eq] at h1;simp only [Bool.and_eq_false_iff,decide_eq_false_iff_not] at h2;rw [show (decide (0≤m) && decide (m≤14 - n))=false from by rw [Bool.and_eq_false_iff];simp only [decide_eq_false_iff_not];omega]
  rfl
theorem ptA_i3 (h1:(!(decide (0≤n) && decide (n≤14)))=false) (h2:(!(decide (0≤m) && decide (m≤14)))=false):decide (n+m>14) = !ptA n m:=by
 have h1:=not_t h1;have h2:=not_t h2;unfold ptA;rw [h1];simp only [Bool.and_eq_true,decide_eq_true_eq] at h1 h2
 by_cases h:n+m>14
 ·rw [decide_eq_true h,decide_eq_false (show ¬m≤14 - n by omega)]
  simp
 ·rw [decide_eq_false h,decide_eq_true (show m≤14 - n by omega),decide_eq_true h2.1]
  rfl
end
theorem sProductTable_c {B:World} {H0 H:HP} {L:List SA} {w:World} {qad qaf:Option Addr} {cad caf:Nat} {ad:List Int} {af:List (List Term)} {n:Int} {m:Int} (had:Ints H qad ad) (haf:Forms H qaf af) (hn8:ad.length≤1048576) (hn9:af.length≤1048576) (hl9 : ∀i,i<af.length→(fm af i).length≤1048576) (hH:Hp B H0 H L w):Calls Tryz.prog 37 [.agg [.slice qad ad.length cad,.slice qaf af.length caf].toArray,.int .i64 n,.int .i64 m].toArray w fun e w'=>∃q c vs,e = .returned (.tuple #[.slice q (ptV ad af n m).length c,.int .i64 (ptC ad af n m)])∧Hp B H0 H (ownRs 22 2 q c vs (ptV ad af n m)::L) w':=by
 refine Jy Tryz.func37 rfl 75 rfl rfl [(0,.agg [.slice qad ad.length cad,.slice qaf af.length caf].toArray),(1,.int .i64 n),(2,.int .i64 m)] rfl hH ?_;have hw0:=hH.old;have hw1:=hH.le;clear hH;refine Je fun _ hK1 _=>(Jb (Ef rfl rfl rfl fun g3=>(Jg (Jd rfl) rfl (Jg (Jd rfl) rfl (Jf (Ja (hK1 (Je fun _ hK2 _=>(Jk (Je fun _ hK3 _=>(Jb (Jg (JA rfl At.z (by simpa [*] using ag35)) rfl (Jx fn72 rfl rfl fun w hH=>(l02Is_c had haf (by omega) (by omega) hl9 hH).mono ?_)))))))))))));rintro _ w ⟨rfl,hH⟩;refine ⟨_,rfl,fun a hF=>JL hF hH ?_⟩;refine Jg (Em rfl) rfl (Jg (Jd rfl) rfl (Jf (Ja (hK3 (Ei rfl (fun h13=>?_) (fun h13=>?_))))))
 ·
  refine Je fun _ hK4 _=>(Jb (Jg (Jd rfl) rfl (Jg (Jd rfl) rfl (Jf (Ja (hK4 (Jr (JT (Jp (ED rfl (Res.tmp rfl) (Res.tmp rfl) fun w hH=>?_))))))))));replace hH:=hH.sublist (.cons _ (List.Sublist.refl _));rw [ptV_n (by rw [ptC_1 (not_f h13)];decide),ptC_1 (not_f h13)];exact ⟨none,0,nilVs,rfl,(Hp.rsNil 22 2 (hH.own0 22 1)).weaken (Le.refl _) hw0 hw1⟩
 ·
  have hG:isAlg ad af=true:=not_t h13;have hwf:=haf.wfss;have hA:=isAlg_ok hG hwf;have h8:=hA.hn;have hd:=alg_112 hG;refine ET (σ:=Bool) (fun (b:Bool)=>[(17,.bool b)]) (fun (b:Bool)=>H) (fun (b:Bool)=>obj g3 (.cells [.slice qad ad.length cad,.slice qaf af.length caf].toArray 35 (0,0))::L) (fun (b:Bool)=>b = !ptA n m) ?_ ?_
  ·
   intro _ hMt1;refine Jb (Jg (Jc rfl) rfl (Jx fn73 rfl rfl fun w hH=>(l01In_c hH).mono ?_));rintro _ w ⟨rfl,hH⟩;refine ⟨_,rfl,fun a hF=>JL hF hH ?_⟩;refine Jg (Em rfl) rfl (Jg (Jc rfl) rfl (Eg (jd:=21) rfl (fun h21=>?_) (fun h21=>?_)))
   ·
    try have h21p:=of_decide_eq_true h21
    refine JU rfl rfl rfl h21 (JU rfl rfl rfl h21 (JU rfl rfl rfl h21 (JU rfl rfl rfl h21 (JU rfl rfl rfl h21 (Jg (JZ rfl h21 rfl) rfl (Jg (Jd rfl) rfl (Jf (Ja ?_))))))));exact hMt1 true (ptA_s1 h21) 11 rfl rfl ⟨rfl,trivial⟩ rfl rfl
   ·
    try have h21p:=of_decide_eq_false h21
    refine JW (Jc rfl) rfl rfl rfl h21 (JW (Jc rfl) rfl rfl rfl h21 (JW (EO rfl rfl (nw _ (by have:=not_t h21;simp only [Bool.and_eq_true,decide_eq_true_eq] at this;omega))) rfl rfl rfl h21 (EQ fn73 rfl rfl h21 rfl rfl fun w hH=>(l01In_c hH).mono ?_)));rintro _ w ⟨rfl,hH⟩;refine ⟨_,rfl,fun a hF=>JL hF hH ?_⟩;refine JW (Em rfl) rfl rfl rfl h21 (Jg (JX rfl h21 rfl) rfl (Jg (Jd rfl) rfl (Jf (Ja ?_))));exact hMt1 (!(decide (0≤m) && decide (m≤14 - n))) (ptA_s2 h21) 11 rfl rfl ⟨rfl,trivial⟩ rfl rfl
  ·
   rintro b hb;refine Ei rfl (fun h17=>?_) (fun h17=>?_)
   ·
    have hpA:ptA n m=false:=by rw [h17] at hb;exact not_f hb.symm
    refine Je fun _ hK5 _=>(Jb (Jg (Jd rfl) rfl (Jg (Jd rfl) rfl (Jf (Ja (hK5 (Jr (JT (Jp (ED rfl (Res.tmp rfl) (Res.tmp rfl) fun w hH=>?_))))))))));replace hH:=hH.sublist (.cons _ (List.Sublist.refl _));rw [ptV_n (by rw [ptC_2 hG hpA];decide),ptC_2 hG hpA];exact ⟨none,0,nilVs,rfl,(Hp.rsNil 22 2 (hH.own0 22 1)).weaken (Le.refl _) hw0 hw1⟩
   ·
    have hpA:ptA n m=true:=by rw [h17] at hb;exact not_t hb.symm
    have hpq:=ptA_y hpA;refine Je fun _ hK6 _=>(Jb (Jg (JA rfl At.z (by simpa [*] using ag35)) rfl (Jg (Jc rfl) rfl (Jg (Jc rfl) rfl (Jg (Jz rfl rfl (nw _ (by omega))) rfl (Jg (Jz rfl rfl (nw _ (by omega))) rfl (Jx fn74 rfl rfl fun w hH=>(l03Within_c had haf hd h8 (by omega) (by omega) hH).mono ?_)))))));rintro _ w ⟨rfl,hH⟩;refine ⟨_,rfl,fun a hF=>JL hF hH ?_⟩;refine Jg (Em rfl) rfl (Jg (Jd rfl) rfl (Jf (Ja (hK6 (Ei rfl (fun h28=>?_) (fun h28=>?_))))))
    ·
     refine Je fun _ hK7 _=>(Jb (Jg (Jd rfl) rfl (Jg (Jd rfl) rfl (Jf (Ja (hK7 (Jr (JT (Jp (ED rfl (Res.tmp rfl) (Res.tmp rfl) fun w hH=>?_))))))))));replace hH:=hH.sublist (.cons _ (List.Sublist.refl _));rw [ptV_n (by rw [ptC_3 hG hpA (not_f h28)];decide),ptC_3 hG hpA (not_f h28)];exact ⟨none,0,nilVs,rfl,(Hp.rsNil 22 2 (hH.own0 22 1)).weaken (Le.refl _) hw0 hw1⟩
    ·
     have hwi:wiB ad 0 (n+m+1)=true:=not_t h28;have hfn:fit3 ad n:=wi_f3 hwi (by omega) (by omega);have hfm:fit3 ad m:=wi_f3 hwi (by omega) (by omega);have hft:fit3 ad (n+m):=wi_f3 hwi (by omega) (by omega);have hcn:=csS_red (n:=n) hA h8 hd;have hcm:=csS_red (n:=m) hA h8 hd;have hcnl:=csS_len (n:=n) hA h8 hd;have hcml:=csS_len (n:=m) hA h8 hd;have hfrl:=fmR_len (monL ad n) (csS ad af n);have hfrl2:=fmR_len (monL ad m) (csS ad af m);refine Jn (JE (Ja (hK2 (Je fun _ hK8 _=>(Ej (Rs:=[_]) 10 [[], [], [], [1,2], [], [], [1,2,3,4,5], [0,1,2,3,4,5,6], [0,1,2,3,4,5,6,7], [0,1,2,3,4,5,6,7,8]] [[], [10], [], [], [10], [], [], [], [], []] [[], [], [], [], [], [], [], [], [], []] rfl rfl (by kernel_rfl) ?_)))));apply Ea 1 rfl
     iterate 3 focus (intros;(conv=>lhs;simp only [Jh,Js,JN,Ju,JI,eq_self,Nat.reduceEqDiff,reduceIte,Nat.reduceSub,Nat.reduceAdd,List.cons_append,List.nil_append]);all_goals rfl)
     ·
      intro gh X K zq zc zq2 zc2 zb zv hK;refine EL (EM u57 sz22) rfl fun qo36 co36=>(Ji ?_);exact hK qo36 co36 zq2 zc2 zb zv
     ·
      intro gh gh' h;refine ⟨?_,?_⟩ <;> rfl
     apply Jm 2 rfl
     iterate 3 focus (intros;(conv=>lhs;simp only [Jh,Js,JN,Ju,JI,eq_self,Nat.reduceEqDiff,reduceIte,Nat.reduceSub,Nat.reduceAdd,List.cons_append,List.nil_append]);all_goals rfl)
     ·
      intro gh X K zq zc zq2 zc2 zb zv hK;refine Jg (JA rfl At.z (by simpa [*] using ag35)) rfl (Ji ?_);exact hK zq zc zq2 zc2 zb zv
     ·
      intro gh gh' h
      rfl
     apply Jm 3 rfl
     iterate 3 focus (intros;(conv=>lhs;simp only [Jh,Js,JN,Ju,JI,eq_self,Nat.reduceEqDiff,reduceIte,Nat.reduceSub,Nat.reduceAdd,List.cons_append,List.nil_append]);all_goals rfl)
     ·
      intro gh X K zq zc zq2 zc2 zb zv hK;refine Jg (Jc rfl) rfl (Ji ?_);exact hK zq zc zq2 zc2 zb zv
     ·
      intro gh gh' h
      rfl
     apply Ea 4 rfl
     iterate 3 focus (intros;(conv=>lhs;simp only [Jh,Js,JN,Ju,JI,eq_self,Nat.reduceEqDiff,reduceIte,Nat.reduceSub,Nat.reduceAdd,List.cons_append,List.nil_append]);all_goals rfl)
     ·
      intro gh X K zq zc zq2 zc2 zb zv hK;refine Jx fn76 rfl rfl fun w hH=>(l03ClassForms_c had haf hG (by omega) hfn hH).mono ?_;rintro _ w ⟨qo39,co39,vso39,rfl,hH⟩;refine ⟨_,rfl,fun a hF=>JL hF hH ?_⟩;refine Ji ?_;exact hK qo39 co39 zq2 zc2 zb vso39
     ·
      intro gh gh' h;refine ⟨?_,?_⟩ <;> rfl
     apply Jm 5 rfl
     iterate 3 focus (intros;(conv=>lhs;simp only [Jh,Js,JN,Ju,JI,eq_self,Nat.reduceEqDiff,reduceIte,Nat.reduceSub,Nat.reduceAdd,List.cons_append,List.nil_append]);all_goals rfl)
     ·
      intro gh X K zq zc zq2 zc2 zb zv hK;refine Jg (JA rfl At.z (by simpa [*] using ag35)) rfl (Ji ?_);exact hK zq zc zq2 zc2 zb zv
     ·
      intro gh gh' h
      rfl
     apply Jm 6 rfl
     iterate 3 focus (intros;(conv=>lhs;simp only [Jh,Js,JN,Ju,JI,eq_self,Nat.reduceEqDiff,reduceIte,Nat.reduceSub,Nat.reduceAdd,List.cons_append,List.nil_append]);all_goals rfl)
     ·
      intro gh X K zq zc zq2 zc2 zb zv hK;refine Jg (Jc rfl) rfl (Ji ?_);exact hK zq zc zq2 zc2 zb zv
     ·
      intro gh gh' h
      rfl
     apply Ea 7 rfl
     iterate 3 focus (intros;(conv=>lhs;simp only [Jh,Js,JN,Ju,JI,eq_self,Nat.reduceEqDiff,reduceIte,Nat.reduceSub,Nat.reduceAdd,List.cons_append,List.nil_append]);all_goals rfl)
     ·
      intro gh X K zq zc zq2 zc2 zb zv hK;refine Jx fn76 rfl rfl fun w hH=>(l03ClassForms_c had haf hG (by omega) hfm hH).mono ?_;rintro _ w ⟨qo42,co42,vso42,rfl,hH⟩;refine ⟨_,rfl,fun a hF=>JL hF hH ?_⟩;refine Ji ?_;exact hK qo42 co42 zq2 zc2 zb vso42
     ·
      intro gh gh' h;refine ⟨?_,?_⟩ <;> (first | simp only [h 3 rfl] | rfl)
     apply Jm 8 rfl
     iterate 3 focus (intros;(conv=>lhs;simp only [Jh,Js,JN,Ju,JI,eq_self,Nat.reduceEqDiff,reduceIte,Nat.reduceSub,Nat.reduceAdd,List.cons_append,List.nil_append]);all_goals rfl)
     ·
      intro gh X K zq zc zq2 zc2 zb zv hK;refine Jg (Jd rfl) rfl (Ji ?_);exact hK zq zc zq2 zc2 zb zv
     ·
      intro gh gh' h
      first | simp only [h 0 rfl,h 3 rfl,h 6 rfl] | rfl
     apply Jm 9 rfl
     iterate 3 focus (intros;(conv=>lhs;simp only [Jh,Js,JN,Ju,JI,eq_self,Nat.reduceEqDiff,reduceIte,Nat.reduceSub,Nat.reduceAdd,List.cons_append,List.nil_append]);all_goals rfl)
     ·
      intro gh X K zq zc zq2 zc2 zb zv hK;refine Jg (Jd rfl) rfl (Ji ?_);exact hK zq zc zq2 zc2 zb zv
     ·
      intro gh gh' h
      first | simp only [h 0 rfl,h 3 rfl,h 6 rfl] | rfl
     apply Jm 10 rfl
     iterate 3 focus (intros;(conv=>lhs;simp only [Jh,Js,JN,Ju,JI,eq_self,Nat.reduceEqDiff,reduceIte,Nat.reduceSub,Nat.reduceAdd,List.cons_append,List.nil_append]);all_goals rfl)
     ·
      intro gh X K zq zc zq2 zc2 zb zv hK;refine Jg (Jd rfl) rfl (Ji ?_);exact hK zq zc zq2 zc2 zb zv
     ·
      intro gh gh' h
      first | simp only [h 0 rfl,h 3 rfl,h 6 rfl] | rfl
     apply Ek [0,1,2,3,4,5,6,7,8,9] [0,1,2,3,4,5,6,7,8,9,10] foll0 rfl rfl rfl (by rfl)
     iterate 2 focus (intros;(conv=>lhs;simp only [Jh,Js,JN,Ju,JI,eq_self,Nat.reduceEqDiff,reduceIte,Nat.reduceSub,Nat.reduceAdd,List.cons_append,List.nil_append]);all_goals rfl)
     intro gh;generalize (gh 0).c=co36;generalize (gh 0).q=qo36;generalize (gh 3).c=co39;generalize (gh 3).q=qo39;generalize (gh 3).vs=vso39;generalize (gh 6).c=co42;generalize (gh 6).q=qo42;generalize (gh 6).vs=vso42;clear gh;refine EN (.s .z) fun Ho39 hleo39 hAo39=>?_;replace had:=had.le hleo39;replace haf:=haf.le hleo39;have hxo39:=(own_forms (fmR_wf (monL_mn h8) hcn.row) hAo39);have hco39:=own_le hAo39.1;refine EN (.s .z) fun Ho42 hleo42 hAo42=>?_;replace had:=had.le hleo42;replace haf:=haf.le hleo42;replace hxo39:=hxo39.le hleo42;have hxo42:=(own_forms (fmR_wf (monL_mn h8) hcm.row) hAo42);have hco42:=own_le hAo42.1;refine EJ.is0 2 (Ja (hK8 (Je fun _ hK9 _=>(Je fun _ hK10 _=>(Jb (Jg (Jd rfl) rfl (Jf (Ja (hK10 (Jk (JC (σ:=Option Addr × Nat × Vs × Nat) (fun ⟨q,c,vs,k⟩=>[(11,.int .i64 (k:Int)),(8,.slice q (ptK ad af n m k 0).length c)]) (fun ⟨q,c,vs,k⟩=>Ho42) (fun ⟨q,c,vs,k⟩=>ownIs 2 vs (ptK ad af n m k 0)::own 22 1 q (ptK ad af n m k 0).length c (slicesI vs (ptK ad af n m k 0))::obj g3 (.cells [.slice qad ad.length cad,.slice qaf af.length caf].toArray 35 (0,0))::L) (fun ⟨q,c,vs,k⟩=>k≤(csS ad af n).length) (fun ⟨q,c,vs,k⟩=>(csS ad af n).length - k) (qo36,co36,nilVs,0) (by show 0≤_;omega) ⟨rfl,⟨(by rw [ptK_zero];rfl),trivial⟩⟩ rfl (by dsimp only;rw [ptK_zero];rfl) ?_)))))))))));rintro ⟨q,c,vs,k⟩ hk _ hAg0;refine Je fun _ hK11 _=>(Je fun _ hK12 _=>(Jb (Jg (Jc rfl) rfl (Jg (Jc rfl) rfl (Jg (Jl u33 rfl rfl) rfl (Jg (JJ rfl rfl) rfl (Jf (Ja (hK12 (Jo rfl (fun h46=>?_) (fun h46=>?_)))))))))))
     ·
      have hk1:k<(csS ad af n).length:=by omega
      have hi2:k<(fmR (monL ad n) (csS ad af n)).length:=by omega
      refine Jn (Ja (hK11 (Je fun _ hK13 _=>(Jk (Je fun _ hK14 _=>(Jb (Jg (Jd rfl) rfl (Jf (Ja (hK14 (Jk (JC (σ:=Option Addr × Nat × Vs × Nat) (fun ⟨q1,c1,vs1,j⟩=>[(12,.int .i64 (j:Int)),(8,.slice q1 (ptK ad af n m k j).length c1)]) (fun ⟨q1,c1,vs1,j⟩=>Ho42) (fun ⟨q1,c1,vs1,j⟩=>ownIs 2 vs1 (ptK ad af n m k j)::own 22 1 q1 (ptK ad af n m k j).length c1 (slicesI vs1 (ptK ad af n m k j))::obj g3 (.cells [.slice qad ad.length cad,.slice qaf af.length caf].toArray 35 (0,0))::L) (fun ⟨q1,c1,vs1,j⟩=>j≤(csS ad af m).length) (fun ⟨q1,c1,vs1,j⟩=>(csS ad af m).length - j) (q,c,vs,0) (by show 0≤_;omega) ⟨rfl,⟨rfl,trivial⟩⟩ rfl rfl ?_))))))))))));rintro ⟨q1,c1,vs1,j⟩ hj _ hAg1;refine Je fun _ hK15 _=>(Je fun _ hK16 _=>(Jb (Jg (Jc rfl) rfl (Jg (Jc rfl) rfl (Jg (Jl u33 rfl rfl) rfl (Jg (JJ rfl rfl) rfl (Jf (Ja (hK16 (Jo rfl (fun h52=>?_) (fun h52=>?_)))))))))))
      ·
       have hj1:j<(csS ad af m).length:=by omega
       have hj2:j<(fmR (monL ad m) (csS ad af m)).length:=by omega
       have hfa:=cf_fm (n:=n) (i:=(k:Int)) hA h8 hd (by omega);have hfb:=cf_fm (n:=m) (i:=(j:Int)) hA h8 hd (by omega);have hla:=cf_len (ds:=ad) (fs:=af) (n:=n) (i:=(k:Int)) (by omega);have hlb:=cf_len (ds:=ad) (fs:=af) (n:=m) (i:=(j:Int)) (by omega);obtain ⟨hs1,hk1m⟩:=cfM_ok (n:=n) (i:=(k:Int)) hA h8 hd (by omega);obtain ⟨hs2,hk2m⟩:=cfM_ok (n:=m) (i:=(j:Int)) hA h8 hd (by omega);unfold cfM at hs1 hs2 hk1m hk2m hfa hfb;simp only [Int.toNat_natCast] at hfa hfb hla hlb hs1 hs2 hk1m hk2m;have hmul:(fm (fmR (monL ad n) (csS ad af n)) k).length * (fm (fmR (monL ad m) (csS ad af m)) j).length≤121 * 121:=Nat.mul_le_mul hla hlb;have htl:=times_len ad (toS (fm (fmR (monL ad n) (csS ad af n)) k)) (toS (fm (fmR (monL ad m) (csS ad af m)) j));rw [toS_len,toS_len] at htl;have hpb:=ptK_bd (p:=n) (q:=m) (k:=k) (j:=j) hA h8 hd (by omega) (by omega);have hu9:=0;refine Jn (Ja (hK15 (Je fun _ hK17 _=>(Jk (Ej (Rs:=[_,_,_]) 20 [[], [], [], [], [2,3], [], [5], [], [], [7,8], [7,8,9], [], [], [11,12], [11,12,13], [5,6,7,8,9,10,11,12,13,14], [1,2,3,4,5,6,7,8,9,10,11,12,13,14,15], [1,2,3,4,5,6,7,8,9,10,11,12,13,14,15,16], [0,1,2,3,4,5,6,7,8,9,10,11,12,13,14,15,16,17], [0,1,2,3,4,5,6,7,8,9,10,11,12,13,14,15,16,17,18]] [[], [22], [], [], [], [], [22], [], [], [], [], [], [], [], [], [], [15], [], [17], []] [[], [], [], [], [], [], [], [], [], [], [], [], [], [], [], [], [], [], [21], []] rfl rfl (by kernel_rfl) ?_)))));apply Jm 1 rfl
       iterate 3 focus (intros;(conv=>lhs;simp only [Jh,Js,JN,Ju,JI,eq_self,Nat.reduceEqDiff,reduceIte,Nat.reduceSub,Nat.reduceAdd,List.cons_append,List.nil_append]);all_goals rfl)
       ·
        intro gh X K zq zc zq2 zc2 zb zv hK;refine Jg (Jc rfl) rfl (Ji ?_);exact hK zq zc zq2 zc2 zb zv
       ·
        intro gh gh' h
        rfl
       apply Jm 2 rfl
       iterate 3 focus (intros;(conv=>lhs;simp only [Jh,Js,JN,Ju,JI,eq_self,Nat.reduceEqDiff,reduceIte,Nat.reduceSub,Nat.reduceAdd,List.cons_append,List.nil_append]);all_goals rfl)
       ·
        intro gh X K zq zc zq2 zc2 zb zv hK;refine Jg (JA rfl At.z (by simpa [*] using ag35)) rfl (Ji ?_);exact hK zq zc zq2 zc2 zb zv
       ·
        intro gh gh' h
        rfl
       apply Jm 3 rfl
       iterate 3 focus (intros;(conv=>lhs;simp only [Jh,Js,JN,Ju,JI,eq_self,Nat.reduceEqDiff,reduceIte,Nat.reduceSub,Nat.reduceAdd,List.cons_append,List.nil_append]);all_goals rfl)
       ·
        intro gh X K zq zc zq2 zc2 zb zv hK;refine Jg (Jc rfl) rfl (Ji ?_);exact hK zq zc zq2 zc2 zb zv
       ·
        intro gh gh' h
        rfl
       apply Jm 4 rfl
       iterate 3 focus (intros;(conv=>lhs;simp only [Jh,Js,JN,Ju,JI,eq_self,Nat.reduceEqDiff,reduceIte,Nat.reduceSub,Nat.reduceAdd,List.cons_append,List.nil_append]);all_goals rfl)
       ·
        intro gh X K zq zc zq2 zc2 zb zv hK;refine Jg (Jc rfl) rfl (Ji ?_);exact hK zq zc zq2 zc2 zb zv
       ·
        intro gh gh' h
        rfl
       apply Jm 5 rfl
       iterate 3 focus (intros;(conv=>lhs;simp only [Jh,Js,JN,Ju,JI,eq_self,Nat.reduceEqDiff,reduceIte,Nat.reduceSub,Nat.reduceAdd,List.cons_append,List.nil_append]);all_goals rfl)
       ·
        intro gh X K zq zc zq2 zc2 zb zv hK;refine Jg (Jz rfl rfl (nw _ (by omega))) rfl (Ji ?_);exact hK zq zc zq2 zc2 zb zv
       ·
        intro gh gh' h
        rfl
       apply Jm 6 rfl
       iterate 3 focus (intros;(conv=>lhs;simp only [Jh,Js,JN,Ju,JI,eq_self,Nat.reduceEqDiff,reduceIte,Nat.reduceSub,Nat.reduceAdd,List.cons_append,List.nil_append]);all_goals rfl)
       ·
        intro gh X K zq zc zq2 zc2 zb zv hK;refine Jg (Jt u35 rfl sz22 rfl) rfl (Ji ?_);exact hK zq zc zq2 zc2 zb zv
       ·
        intro gh gh' h
        rfl
       apply Jm 7 rfl
       iterate 3 focus (intros;(conv=>lhs;simp only [Jh,Js,JN,Ju,JI,eq_self,Nat.reduceEqDiff,reduceIte,Nat.reduceSub,Nat.reduceAdd,List.cons_append,List.nil_append]);all_goals rfl)
       ·
        intro gh X K zq zc zq2 zc2 zb zv hK;refine Jg (Jw rfl At.z rfl pl22) rfl (Ji ?_);exact hK zq zc zq2 zc2 zb zv
       ·
        intro gh gh' h
        rfl
       apply Jm 8 rfl
       iterate 3 focus (intros;(conv=>lhs;simp only [Jh,Js,JN,Ju,JI,eq_self,Nat.reduceEqDiff,reduceIte,Nat.reduceSub,Nat.reduceAdd,List.cons_append,List.nil_append]);all_goals rfl)
       ·
        intro gh X K zq zc zq2 zc2 zb zv hK;refine Jg (Jc rfl) rfl (Ji ?_);exact hK zq zc zq2 zc2 zb zv
       ·
        intro gh gh' h
        rfl
       apply Jm 9 rfl
       iterate 3 focus (intros;(conv=>lhs;simp only [Jh,Js,JN,Ju,JI,eq_self,Nat.reduceEqDiff,reduceIte,Nat.reduceSub,Nat.reduceAdd,List.cons_append,List.nil_append]);all_goals rfl)
       ·
        intro gh X K zq zc zq2 zc2 zb zv hK;refine Jg (Jc rfl) rfl (Ji ?_);exact hK zq zc zq2 zc2 zb zv
       ·
        intro gh gh' h
        rfl
       apply Jm 10 rfl
       iterate 3 focus (intros;(conv=>lhs;simp only [Jh,Js,JN,Ju,JI,eq_self,Nat.reduceEqDiff,reduceIte,Nat.reduceSub,Nat.reduceAdd,List.cons_append,List.nil_append]);all_goals rfl)
       ·
        intro gh X K zq zc zq2 zc2 zb zv hK;refine Jg (JM u33 sz39 rfl rfl rfl hi2 hxo39.sm) rfl (Ji ?_);exact hK zq zc zq2 zc2 zb zv
       ·
        intro gh gh' h
        rfl
       obtain ⟨qe65,ce65,he65,le65,Fe65⟩:=hxo39 k hi2;apply Jm 11 rfl
       iterate 3 focus (intros;(conv=>lhs;simp only [Jh,Js,JN,Ju,JI,eq_self,Nat.reduceEqDiff,reduceIte,Nat.reduceSub,Nat.reduceAdd,List.cons_append,List.nil_append]);all_goals rfl)
       ·
        intro gh X K zq zc zq2 zc2 zb zv hK;refine Jg (JP (cs:=[_]) rfl (one_cell he65) (hxo39.sm (i:=k) hi2) ag39) rfl (Ji ?_);exact hK zq zc zq2 zc2 zb zv
       ·
        intro gh gh' h
        rfl
       apply Jm 12 rfl
       iterate 3 focus (intros;(conv=>lhs;simp only [Jh,Js,JN,Ju,JI,eq_self,Nat.reduceEqDiff,reduceIte,Nat.reduceSub,Nat.reduceAdd,List.cons_append,List.nil_append]);all_goals rfl)
       ·
        intro gh X K zq zc zq2 zc2 zb zv hK;refine Jg (Jc rfl) rfl (Ji ?_);exact hK zq zc zq2 zc2 zb zv
       ·
        intro gh gh' h
        rfl
       apply Jm 13 rfl
       iterate 3 focus (intros;(conv=>lhs;simp only [Jh,Js,JN,Ju,JI,eq_self,Nat.reduceEqDiff,reduceIte,Nat.reduceSub,Nat.reduceAdd,List.cons_append,List.nil_append]);all_goals rfl)
       ·
        intro gh X K zq zc zq2 zc2 zb zv hK;refine Jg (Jc rfl) rfl (Ji ?_);exact hK zq zc zq2 zc2 zb zv
       ·
        intro gh gh' h
        rfl
       apply Jm 14 rfl
       iterate 3 focus (intros;(conv=>lhs;simp only [Jh,Js,JN,Ju,JI,eq_self,Nat.reduceEqDiff,reduceIte,Nat.reduceSub,Nat.reduceAdd,List.cons_append,List.nil_append]);all_goals rfl)
       ·
        intro gh X K zq zc zq2 zc2 zb zv hK;refine Jg (JM u33 sz39 rfl rfl rfl hj2 hxo42.sm) rfl (Ji ?_);exact hK zq zc zq2 zc2 zb zv
       ·
        intro gh gh' h
        rfl
       obtain ⟨qe69,ce69,he69,le69,Fe69⟩:=hxo42 j hj2;apply Jm 15 rfl
       iterate 3 focus (intros;(conv=>lhs;simp only [Jh,Js,JN,Ju,JI,eq_self,Nat.reduceEqDiff,reduceIte,Nat.reduceSub,Nat.reduceAdd,List.cons_append,List.nil_append]);all_goals rfl)
       ·
        intro gh X K zq zc zq2 zc2 zb zv hK;refine Jg (JP (cs:=[_]) rfl (one_cell he69) (hxo42.sm (i:=j) hj2) ag39) rfl (Ji ?_);exact hK zq zc zq2 zc2 zb zv
       ·
        intro gh gh' h
        rfl
       apply Ea 16 rfl
       iterate 3 focus (intros;(conv=>lhs;simp only [Jh,Js,JN,Ju,JI,eq_self,Nat.reduceEqDiff,reduceIte,Nat.reduceSub,Nat.reduceAdd,List.cons_append,List.nil_append]);all_goals rfl)
       ·
        intro gh X K zq zc zq2 zc2 zb zv hK;refine Jx fn77 rfl rfl fun w hH=>(l01Times_c (M:=20) (N:=20) had Fe65 Fe69 hA.hn hA.hd (by rw [hfa];exact sumR_kex h8 hd (Nat.le_of_eq (hcn.row _ (rw_mem hk1)).len)) (by rw [hfb];exact sumR_kex h8 hd (Nat.le_of_eq (hcm.row _ (rw_mem hj1)).len)) (by rw [hfa];exact hs1.g) (by rw [hfb];exact hs2.g) (by omega) (by omega) (by omega) hH).mono ?_;rintro _ w ⟨qo70,co70,rfl,hH⟩;refine ⟨_,rfl,fun a hF=>JL hF hH ?_⟩;refine Ji ?_;exact hK qo70 co70 zq2 zc2 zb zv
       ·
        intro gh gh' h;refine ⟨?_,?_⟩ <;> rfl
       apply Ea 17 rfl
       iterate 3 focus (intros;(conv=>lhs;simp only [Jh,Js,JN,Ju,JI,eq_self,Nat.reduceEqDiff,reduceIte,Nat.reduceSub,Nat.reduceAdd,List.cons_append,List.nil_append]);all_goals rfl)
       ·
        intro gh X K zq zc zq2 zc2 zb zv hK;refine Jx fn69 rfl rfl fun w hH=>hH.lend .z fun Hl1 hle1 hA1 hB1 hH=>(l03Class_c (M:=40) (had.le hle1) (haf.le hle1) (own_terms (by rw [hfa,hfb];exact (hs1.times hs2).wf (by omega)) hA1) hG (by omega) hft (by rw [ofS_len];omega) (by rw [toS_ofS,hfa,hfb];exact hs1.times hs2) (by rw [toS_ofS,hfa,hfb];exact times_mon h8 hd hs1 hs2 hk1m hk2m hft.1.1 (by omega)) hH).mono ?_;rintro _ w ⟨qo71,co71,rfl,hH⟩;replace hH:=hB1 _ _ hH;refine ⟨_,rfl,fun a hF=>JL hF hH ?_⟩;refine Jv .z (Jv (.s .z) (Ji ?_));exact hK qo71 co71 zq2 zc2 zb zv
       ·
        intro gh gh' h;refine ⟨?_,?_⟩ <;> (first | simp only [h 15 rfl] | rfl)
       apply Ea 18 rfl
       iterate 3 focus (intros;(conv=>lhs;simp only [Jh,Js,JN,Ju,JI,eq_self,Nat.reduceEqDiff,reduceIte,Nat.reduceSub,Nat.reduceAdd,List.cons_append,List.nil_append]);all_goals rfl)
       ·
        intro gh X K zq zc zq2 zc2 zb zv hK;refine EL (EK u57 ze22 sz22 rfl rfl) rfl fun qo72 co72=>(Ji ?_);exact hK qo72 co72 zq2 zc2 zb zv
       ·
        intro gh gh' h;refine ⟨?_,?_⟩ <;> (first | simp only [h 15 rfl,h 16 rfl] | rfl)
       apply Ea 19 rfl
       iterate 3 focus (intros;(conv=>lhs;simp only [Jh,Js,JN,Ju,JI,eq_self,Nat.reduceEqDiff,reduceIte,Nat.reduceSub,Nat.reduceAdd,List.cons_append,List.nil_append]);all_goals rfl)
       ·
        intro gh X K zq zc zq2 zc2 zb zv hK;refine EB u57 ze22 sz22 by22 rfl rfl rfl rfl (by omega) (.s .z) At.z (fun _ _=>At.z) rfl fun qo73 co73=>(Jv .z (Jv (.s .z) (Ji ?_)));exact hK qo73 co73 zq2 zc2 zb zv
       ·
        intro gh gh' h;refine ⟨?_,?_⟩ <;> (first | simp only [h 15 rfl,h 16 rfl,h 17 rfl] | rfl)
       apply Jm 20 rfl
       iterate 3 focus (intros;(conv=>lhs;simp only [Jh,Js,JN,Ju,JI,eq_self,Nat.reduceEqDiff,reduceIte,Nat.reduceSub,Nat.reduceAdd,List.cons_append,List.nil_append]);all_goals rfl)
       ·
        intro gh X K zq zc zq2 zc2 zb zv hK;refine Jg (Jd rfl) rfl (Ji ?_);exact hK zq zc zq2 zc2 zb zv
       ·
        intro gh gh' h
        first | simp only [h 15 rfl,h 16 rfl,h 17 rfl,h 18 rfl] | rfl
       apply Ek [0,1,2,3,4,5,6,7,8,9,10,11,12,13,14,15,16,17,18,19] [0,1,2,3,4,5,6,7,8,9,10,11,12,13,14,15,16,17,18,19,20,22] foll0 rfl rfl rfl (by rfl)
       iterate 2 focus (intros;(conv=>lhs;simp only [Jh,Js,JN,Ju,JI,eq_self,Nat.reduceEqDiff,reduceIte,Nat.reduceSub,Nat.reduceAdd,List.cons_append,List.nil_append]);all_goals rfl)
       intro gh;generalize (gh 15).c=co70;generalize (gh 15).q=qo70;generalize (gh 16).c=co71;generalize (gh 16).q=qo71;generalize (gh 17).c=co72;generalize (gh 17).q=qo72;generalize (gh 18).c=co73;generalize (gh 18).q=qo73;clear gh;refine JE (Ja (hK17 (Jb (Jg (Jc rfl) rfl (Jg (Jz rfl rfl (by first | exact nw _ (by omega) | rfl)) rfl (Jg (Jd rfl) rfl (Jf (Ja (Jv (.s (.s (.s (.s (.s .z))))) (Jv (.s (.s (.s (.s .z)))) (Jv (.s (.s (.s (.s .z)))) (Jv (.s (.s (.s .z))) (Jv (.s (.s (.s (.s (.s .z))))) (Jv (.s (.s (.s (.s (.s .z))))) (EJ.isSnoc (rs:=(ptK ad af n m k j)) rfl rfl ?_)))))))))))))));refine JQ (.s .z) (JQ (.s .z) ?_);exact hAg1 (qo73,co73,setV vs1 (ptK ad af n m k j).length (qo71,co71),j+1) (by show j+1≤_;omega) (by show (csS ad af m).length - (j+1)<(csS ad af m).length - j;omega) 29 rfl rfl ⟨rfl,⟨(by rw [ptK_succ hj1,List.length_append];rfl),trivial⟩⟩ rfl (by dsimp only;rw [ptK_succ hj1,slicesI_set rfl,List.length_append];simp only [toS_ofS,hfa,hfb];rfl)
      ·
       refine JG (Jj (Jj (JK (JE (Ja (hK13 (Jb (Jg (Jc rfl) rfl (Jg (Jz rfl rfl (by first | exact nw _ (by omega) | rfl)) rfl (Jg (Jd rfl) rfl (Jf (Ja ?_))))))))))));exact hAg0 (q1,c1,vs1,k+1) (by show k+1≤_;omega) (by show (csS ad af n).length - (k+1)<(csS ad af n).length - k;omega) 16 rfl rfl ⟨rfl,⟨(by rw [← ptK_next (q:=m) (j:=j) hk1 (by omega)];rfl),trivial⟩⟩ rfl (by dsimp only;rw [ptK_next (q:=m) (j:=j) hk1 (by omega)])
     ·
      refine JG (Jj (Jj (JK (Ja (hK9 (Je fun _ hK18 _=>(Jb (Jg (Jc rfl) rfl (Jg (Jd rfl) rfl (Jg (Jd rfl) rfl (Jf (Ja (hK18 (Jr (ED rfl (Res.tmp rfl) (Res.tmp rfl) fun w hH=>?_)))))))))))))));replace hH:=hH.sublist (.cons_cons _ (.cons_cons _ (.cons _ (List.Sublist.refl _))))
      have hke:k=(csS ad af n).length:=by omega
      rw [ptK_end hke] at hH;have h0:=ptC_0 (fs:=af) hG hpA hwi;rw [ptV_y h0,h0];exact ⟨q,c,vs,by rw [← ptK_end hke],by unfold ownRs;rw [← ptK_end hke];rw [ptK_end hke];exact ((hH.front (.s .z)).star).weaken (hleo39.trans hleo42) hw0 hw1⟩
def pt1 (ds:List Int) (fs:List (List Term)) (n m:Int):Int:=if isAlg ds fs then if ptA n m then 0 else 2 else 1
section
variable {ds : List Int} {fs : List (List Term)} {n m : Int}
theorem pt_eq {b:Bool} (h:b = !ptA n m):firstOf [codeA ds fs [],if b then 2 else 0]=pt1 ds fs n m:=by
 rw [pc_f,h];unfold pt1
 cases ptA n m <;> rfl
theorem pt1_y (h : ¬pt1 ds fs n m≠0):isAlg ds fs=true∧ptA n m=true:=by
 unfold pt1 at h
 cases h1:isAlg ds fs with
 | false=>rw [h1] at h;simp at h
 | true=>
  rw [h1] at h
  cases h2:ptA n m with
  | true=>exact ⟨rfl,rfl⟩
  | false=>rw [h2] at h;simp at h
theorem ptC_p (h:pt1 ds fs n m≠0):ptC ds fs n m=pt1 ds fs n m:=by
 unfold pt1 at h ⊢;unfold ptC
 cases h1:isAlg ds fs with
 | false=>rfl
 | true=>
  cases h2:ptA n m with
  | false=>rfl
  | true=>rw [h1,h2] at h;exact absurd rfl h
theorem upC_n (h:upC ds n≠0):upC ds n=3∧wiB ds 0 (n+1)=false:=by
 unfold upC at h ⊢;rw [up_wi] at h ⊢
 cases hh:wiB ds 0 (n+1) with
 | true=>rw [hh] at h;exact absurd rfl h
 | false=>exact ⟨rfl,rfl⟩
theorem upC_z (h : ¬upC ds n≠0):wiB ds 0 (n+1)=true:=by
 unfold upC at h;rw [up_wi] at h
 cases hh:wiB ds 0 (n+1) with
 | true=>rfl
 | false=>rw [hh] at h;simp at h
end
theorem ProductTable_c {B:World} {H0 H:HP} {L:List SA} {w:World} {qad qaf:Option Addr} {cad caf:Nat} {ad:List Int} {af:List (List Term)} {n:Int} {m:Int} (had:Ints H qad ad) (haf:Forms H qaf af) (hn8:ad.length≤1048576) (hn9:af.length≤1048576) (hl9 : ∀i,i<af.length→(fm af i).length≤1048576) (hH:Hp B H0 H L w):Calls Tryz.prog 38 [.agg [.slice qad ad.length cad,.slice qaf af.length caf].toArray,.int .i64 n,.int .i64 m].toArray w fun e w'=>∃q c vs,e = .returned (.tuple #[.slice q (ptV ad af n m).length c,.int .i64 (ptC ad af n m)])∧Hp B H0 H (ownRs 22 2 q c vs (ptV ad af n m)::L) w':=by
 refine Jy Tryz.func38 rfl 45 rfl rfl [(0,.agg [.slice qad ad.length cad,.slice qaf af.length caf].toArray),(1,.int .i64 n),(2,.int .i64 m)] rfl hH ?_;have hw0:=hH.old;have hw1:=hH.le;clear hH;refine Je fun _ hK1 _=>(Jb (Ef rfl rfl rfl fun g3=>(J.freezeRow .z fun Hz3 hlez3 hcz3=>?_)));replace had:=had.le hlez3;replace haf:=haf.le hlez3;have pad:CellAt Hz3 g3 0 (.slice qad ad.length cad):=hcz3 0 _ rfl;have paf:CellAt Hz3 g3 1 (.slice qaf af.length caf):=hcz3 1 _ rfl;refine Jg (Jd rfl) rfl (Jg (Jd rfl) rfl (Jf (Ja (hK1 (ET (σ:=Unit) (fun (_:Unit)=>[(8,.int .i64 (pt1 ad af n m))]) (fun (_:Unit)=>Hz3) (fun (_:Unit)=>L) (fun (_:Unit)=>True) ?_ ?_)))))
 ·
  intro _ hMt1;refine Jb (Jx fn80 rfl rfl fun w hH=>(algebraCode_c pad paf had haf (forms_nil Hz3) hn8 hn9 hl9 (by simp) (fun i hi=>by simp at hi) hH).mono ?_);rintro _ w ⟨rfl,hH⟩;refine ⟨_,rfl,fun a hF=>JL hF hH ?_⟩;refine Jg (Jc rfl) rfl (Jx fn82 rfl rfl fun w hH=>(within_c hH).mono ?_);rintro _ w ⟨rfl,hH⟩;refine ⟨_,rfl,fun a hF=>JL hF hH ?_⟩;refine Jg (Em rfl) rfl (Jg (Jc rfl) rfl (Eg (jd:=15) rfl (fun h15=>?_) (fun h15=>?_)))
  ·
   try have h15p:=of_decide_eq_true h15
   refine JU rfl rfl rfl h15 (JU rfl rfl rfl h15 (JU rfl rfl rfl h15 (Jg (JZ rfl h15 rfl) rfl (Jg (Jc rfl) rfl (JU rfl rfl rfl rfl (JU rfl rfl rfl rfl (JU rfl rfl rfl rfl (JU rfl rfl rfl rfl (Jg (JZ rfl rfl rfl) rfl (Jx fn81 rfl rfl fun w hH=>(when_c hH).mono ?_))))))))));rintro _ w ⟨rfl,hH⟩;refine ⟨_,rfl,fun a hF=>JL hF hH ?_⟩;refine J.litI2 u22 ze2 sz2 rfl rfl rfl fun g27=>(Jx fn79 rfl rfl fun w hH=>hH.lend .z fun Hl1 hle1 hA1 hB1 hH=>(first_c (own_ints hA1) (by simp) hH).mono ?_);rintro _ w ⟨rfl,hH⟩;replace hH:=hB1 _ _ hH;refine ⟨_,rfl,fun a hF=>JL hF hH ?_⟩;refine Jg (Jd rfl) rfl (Jf (Ja (JQ .z ?_)));exact hMt1 () trivial 19 rfl rfl ⟨(vi (pt_eq (ptA_s1 h15))),trivial⟩ rfl rfl
  ·
   try have h15p:=of_decide_eq_false h15
   refine JW (Jc rfl) rfl rfl rfl h15 (EQ fn82 rfl rfl h15 rfl rfl fun w hH=>(within_c hH).mono ?_);rintro _ w ⟨rfl,hH⟩;refine ⟨_,rfl,fun a hF=>JL hF hH ?_⟩;refine JW (Em rfl) rfl rfl rfl h15 (Jg (JX rfl h15 rfl) rfl (Jg (Jc rfl) rfl (Eg (jd:=20) rfl (fun h20=>?_) (fun h20=>?_))))
   ·
    try have h20p:=of_decide_eq_true h20
    refine JU rfl rfl rfl h20 (JU rfl rfl rfl h20 (JU rfl rfl rfl h20 (JU rfl rfl rfl h20 (Jg (JZ rfl h20 rfl) rfl (Jx fn81 rfl rfl fun w hH=>(when_c hH).mono ?_)))));rintro _ w ⟨rfl,hH⟩;refine ⟨_,rfl,fun a hF=>JL hF hH ?_⟩;refine J.litI2 u22 ze2 sz2 rfl rfl rfl fun g27=>(Jx fn79 rfl rfl fun w hH=>hH.lend .z fun Hl1 hle1 hA1 hB1 hH=>(first_c (own_ints hA1) (by simp) hH).mono ?_);rintro _ w ⟨rfl,hH⟩;replace hH:=hB1 _ _ hH;refine ⟨_,rfl,fun a hF=>JL hF hH ?_⟩;refine Jg (Jd rfl) rfl (Jf (Ja (JQ .z ?_)));exact hMt1 () trivial 19 rfl rfl ⟨(vi (pt_eq (ptA_i2 h20))),trivial⟩ rfl rfl
   ·
    try have h20p:=of_decide_eq_false h20
    refine JW (Jc rfl) rfl rfl rfl h20 (JW (Jc rfl) rfl rfl rfl h20 (JW (Jz rfl rfl (nw _ (by have a1:=not_t h15;have a2:=not_t h20;simp only [Bool.and_eq_true,decide_eq_true_eq] at a1 a2;omega))) rfl rfl rfl h20 (JW (EE rfl rfl) rfl rfl rfl h20 (Jg (JX rfl h20 rfl) rfl (Jx fn81 rfl rfl fun w hH=>(when_c hH).mono ?_)))));rintro _ w ⟨rfl,hH⟩;refine ⟨_,rfl,fun a hF=>JL hF hH ?_⟩;refine J.litI2 u22 ze2 sz2 rfl rfl rfl fun g27=>(Jx fn79 rfl rfl fun w hH=>hH.lend .z fun Hl1 hle1 hA1 hB1 hH=>(first_c (own_ints hA1) (by simp) hH).mono ?_);rintro _ w ⟨rfl,hH⟩;replace hH:=hB1 _ _ hH;refine ⟨_,rfl,fun a hF=>JL hF hH ?_⟩;refine Jg (Jd rfl) rfl (Jf (Ja (JQ .z ?_)));exact hMt1 () trivial 19 rfl rfl ⟨(vi (pt_eq (ptA_i3 h15 h20))),trivial⟩ rfl rfl
 ·
  rintro _ _;refine Je fun _ hK2 _=>(Je fun _ hK3 _=>(Jb (Jg (Jc rfl) rfl (Jg (El rfl rfl) rfl (Jf (Ja (hK3 (Jo rfl (fun h30=>?_) (fun h30=>?_)))))))))
  ·
   refine Je fun _ hK4 _=>(Jb (Jg (Jc rfl) rfl (Jg (Jd rfl) rfl (Jg (Jd rfl) rfl (Jf (Ja (hK4 (Jr (Jp (ED rfl (Res.tmp rfl) (Res.tmp rfl) fun w hH=>?_))))))))));replace hH:=hH.sublist (List.Sublist.refl _);rw [ptV_n (by rw [ptC_p h30];exact h30),ptC_p h30];exact ⟨none,0,nilVs,rfl,(Hp.rsNil 22 2 (hH.own0 22 1)).weaken hlez3 hw0 hw1⟩
  ·
   obtain ⟨hG,hpA⟩:=pt1_y h30;have hpq:=ptA_y hpA;have hw:=haf.wfss;have hA:=isAlg_ok hG hw;have h8:=hA.hn;have hd:=alg_112 hG;refine Jn (Ja (hK2 (Je fun _ hK5 _=>(Jb (Jx fn83 rfl rfl fun w hH=>(newComplex_c pad paf had haf hH).mono ?_)))));rintro _ w ⟨Hf32,bn32,ln32,hlf32,pn320,pn321,rfl,hH⟩;refine ⟨_,rfl,fun a hF=>JL hF hH ?_⟩;replace had:=had.le hlf32;replace haf:=haf.le hlf32;replace pad:=pad.le hlf32;replace paf:=paf.le hlf32;refine Jg (Jd rfl) rfl (Jf (Ja (hK5 (Je fun _ hK6 _=>(Je fun _ hK7 _=>(Jb (Jg (Jc rfl) rfl (Jg (Jc rfl) rfl (Jg (Jc rfl) rfl (Jg (Jz rfl rfl (nw _ (by omega))) rfl (Jx fn84 rfl rfl fun w hH=>(upTo_c pn320 pn321 pad paf had haf hd h8 (by omega) hH).mono ?_)))))))))));rintro _ w ⟨rfl,hH⟩;refine ⟨_,rfl,fun a hF=>JL hF hH ?_⟩;refine Jg (Jd rfl) rfl (Jf (Ja (hK7 (Je fun _ hK8 _=>(Jb (Jg (Jc rfl) rfl (Jg (El rfl rfl) rfl (Jf (Ja (hK8 (Jo rfl (fun h39=>?_) (fun h39=>?_))))))))))))
   ·
    obtain ⟨e3,hwn⟩:=upC_n h39;refine Je fun _ hK9 _=>(Jb (Jg (Jc rfl) rfl (Jg (Jd rfl) rfl (Jg (Jd rfl) rfl (Jf (Ja (hK9 (Jr (Jp (ED rfl (Res.tmp rfl) (Res.tmp rfl) fun w hH=>?_))))))))));replace hH:=hH.sublist (.cons _ (List.Sublist.refl _));have hc:=ptC_3 (fs:=af) hG hpA hwn;rw [ptV_n (by rw [hc];decide),hc,e3];exact ⟨none,0,nilVs,rfl,(Hp.rsNil 22 2 (hH.own0 22 1)).weaken (hlez3.trans hlf32) hw0 hw1⟩
   ·
    have hwi:wiB ad 0 (n+m+1)=true:=upC_z h39;have hfn:fit3 ad n:=wi_f3 hwi (by omega) (by omega);have hfm:fit3 ad m:=wi_f3 hwi (by omega) (by omega);have hft:fit3 ad (n+m):=wi_f3 hwi (by omega) (by omega);refine Jn (Ja (hK6 (Je fun _ hK10 _=>(Jb (Jg (Jc rfl) rfl (Jg (Jc rfl) rfl (Jg (Jc rfl) rfl (Jx fn85 rfl rfl fun w hH=>(table_c pn320 pn321 pad paf had haf hG (by omega) (by omega) (by omega) hfn hfm hft CpxOk.nil (Nxt.nil _) (hH.front .z)).mono ?_))))))));rintro _ w ⟨Hf44,ls44,qo44,co44,vso44,hlf44,hC44,hN44,rfl,hH⟩;refine ⟨_,rfl,fun a hF=>JL hF hH ?_⟩;replace had:=had.le hlf44;replace haf:=haf.le hlf44;replace pad:=pad.le hlf44;replace paf:=paf.le hlf44;replace pn320:=pn320.le hlf44;replace pn321:=pn321.le hlf44;refine Jg (Jd rfl) rfl (Jg (Jd rfl) rfl (Jf (Ja (hK10 (Jr (ED rfl (Res.tmp rfl) (Res.tmp rfl) fun w hH=>?_))))));replace hH:=hH.sublist (.cons_cons _ (.cons _ (List.Sublist.refl _)));have h0:=ptC_0 (fs:=af) hG hpA hwi;rw [ptV_y h0,h0];exact ⟨_,_,_,rfl,hH.weaken ((hlez3.trans hlf32).trans hlf44) hw0 hw1⟩
theorem ag25:Agg Tryz.prog 25 2:=⟨_,u25,rfl,by kernel_rfl⟩
theorem fn14:Fn Tryz.prog 14:=⟨_,Tryz.func14,by kernel_rfl,rfl⟩
theorem fn17:Fn Tryz.prog 17:=⟨_,Tryz.func17,by kernel_rfl,rfl⟩
theorem fn20:Fn Tryz.prog 20:=⟨_,Tryz.func20,by kernel_rfl,rfl⟩
theorem fn25:Fn Tryz.prog 25:=⟨_,Tryz.func25,by kernel_rfl,rfl⟩
theorem fn37:Fn Tryz.prog 37:=⟨_,Tryz.func37,by kernel_rfl,rfl⟩
theorem fn38:Fn Tryz.prog 38:=⟨_,Tryz.func38,by kernel_rfl,rfl⟩
theorem fn39:Fn Tryz.prog 39:=⟨_,Tryz.func39,by kernel_rfl,rfl⟩
theorem fn40:Fn Tryz.prog 40:=⟨_,Tryz.func40,by kernel_rfl,rfl⟩
theorem fn41:Fn Tryz.prog 41:=⟨_,Tryz.func41,by kernel_rfl,rfl⟩
theorem totI_le {M:Nat} : ∀{rs:List (List Int)},(∀r∈rs,r.length≤M)→totI rs≤rs.length * M
 | [],_=>by simp [totI]
 | r::rs,h=>by
  have h1:=totI_le (rs:=rs) (M:=M) fun x hx=>h x (by simp [hx])
  have h2:=h r (by simp)
  simp only [totI,List.length_cons]
  rw [Nat.succ_mul]
  omega
theorem ptV_len {ds:List Int} {fs:List (List Term)} {n m:Int} (hw:Wfss fs):(ptV ds fs n m).length≤14641∧totI (ptV ds fs n m)≤1771561∧∀i,i<(ptV ds fs n m).length→(rw_ (ptV ds fs n m) i).length≤1048576:=by
 by_cases h:ptC ds fs n m=0
 ·rw [ptV_y h]
  have hG:isAlg ds fs=true:=by
   cases hh:isAlg ds fs with
   | true=>rfl
   | false=>rw [ptC_1 hh] at h;cases h
  have hA:=isAlg_ok hG hw;have h1:=csS_len (n:=n) hA hA.hn (alg_112 hG);have h2:=csS_len (n:=m) hA hA.hn (alg_112 hG);have h4:=csS_len (n:=n+m) hA hA.hn (alg_112 hG)
  have hr : ∀r∈ptS ds fs n m,r.length≤121:=fun r hr=>by
   obtain ⟨s,_,hs⟩:=List.mem_flatMap.1 hr;obtain ⟨t,_,rfl⟩:=List.mem_map.1 hs;unfold ptR;rw [clV_len];exact h4
  have h3:=totI_le hr
  have hl:(ptS ds fs n m).length≤121 * 121:=by rw [ptS_len];exact Nat.mul_le_mul h1 h2
  have:(ptS ds fs n m).length * 121≤121 * 121 * 121:=Nat.mul_le_mul_right _ hl;refine ⟨by omega,by omega,fun i hi=>?_⟩;have:=hr _ (rw_mem hi)
  omega
 ·rw [ptV_n h];exact ⟨by simp,by simp [totI],fun i hi=>by simp at hi⟩
theorem lawProductTable_c {B:World} {H0 H:HP} {L:List SA} {w:World} {qad qaf:Option Addr} {cad caf:Nat} {ad:List Int} {af:List (List Term)} {n:Int} {m:Int} (had:Ints H qad ad) (haf:Forms H qaf af) (hn:ad.length≤9223372036854775807∧af.length≤9223372036854775807) (hl : ∀i,i<af.length→(fm af i).length≤9223372036854775807) (hH:Hp B H0 H L w):Calls Tryz.prog 9 [.agg [.slice qad ad.length cad,.slice qaf af.length caf].toArray,.int .i64 n,.int .i64 m].toArray w fun e w'=>e = .returned (.bool true)∧Below B.heap.size B w':=by
 refine Jy Tryz.func9 rfl 106 rfl rfl [(0,.agg [.slice qad ad.length cad,.slice qaf af.length caf].toArray),(1,.int .i64 n),(2,.int .i64 m)] rfl hH ?_;clear hH;obtain ⟨f1,f2,f3⟩:=ptV_len (n:=n) (m:=m) haf.wfss (ds:=ad);refine Je fun _ hK1 _=>(Jb (Ef rfl rfl rfl fun g3=>(Jg (Jd rfl) rfl (Jf (Ja (hK1 (Je fun _ hK2 _=>(Jb (Jg (Jd rfl) rfl (Jf (Ja (hK2 (Je fun _ hK3 _=>(Jb (Jg (JA rfl At.z (by simpa [*] using ag25)) rfl (Jg (Jc rfl) rfl ?_))))))))))))))));refine Jx fn14 rfl rfl fun w hH=>(szAlgebra_c had haf (by omega) hl hH).mono ?_;rintro _ w ⟨rfl,hH⟩;refine ⟨_,rfl,fun a hF=>JL hF hH ?_⟩;refine Jg (Jd rfl) rfl (Jf (Ja (hK3 (Je fun _ hK4 _=>(Je fun _ hK5 _=>(Jb (Jg (Jc rfl) rfl (Jg (JJ rfl rfl) rfl (Jf (Ja (hK5 (Jo rfl (fun h11=>?_) (fun h11=>?_)))))))))))))
 ·
  refine Je fun _ hK6 _=>(Jb (Jg (Jd rfl) rfl (Jf (Ja (hK6 (Jr (Jp (Jq rfl (Res.tmp rfl) fun w hH=>?_))))))));replace hH:=hH.tail
  first | exact ⟨rfl,hH.below⟩ | exact absurd rfl h11p | exact absurd rfl h11 | (exfalso;omega) | (simp at h11;done)
 ·
  have hsz:ad.length+af.length+tot af≤1048576:=by unfold szv at h11;split at h11 <;> omega
  have hl6 : ∀i,i<af.length→(fm af i).length≤1048576:=fun i hi=>by have:=tot_fm hi;omega
  refine Jn (Ja (hK4 (Je fun _ hK7 _=>(Jb (Jg (JA rfl At.z (by simpa [*] using ag25)) rfl (Jx fn17 rfl rfl fun w hH=>(toAlgebra_c had haf (by omega) hl6 hH).mono ?_))))));rintro _ w ⟨qdo25,cdo25,qfo25,cfo25,vso25,rfl,hH⟩;refine ⟨_,rfl,fun a hF=>JL hF hH ?_⟩;refine Jg (Jc rfl) rfl (Jg (Jc rfl) rfl (Jx fn37 rfl rfl fun w hH=>hH.lend .z fun Hl1 hle1 hA1 hB1 hH=>hH.lend .z fun Hl2 hle2 hA2 hB2 hH=>(sProductTable_c ((own_ints hA1).le hle2) (own_forms haf.wfss hA2) (by omega) (by omega) hl6 hH).mono ?_));rintro _ w ⟨qo28,co28,vso28,rfl,hH⟩;replace hH:=hB2 _ _ hH;replace hH:=hB1 _ _ hH;refine ⟨_,rfl,fun a hF=>JL hF hH ?_⟩;refine Jg (Jc rfl) rfl (Jg (JR rfl rfl) rfl (Jg (JR rfl rfl) rfl (Jg (Jd rfl) rfl (Jg (Jd rfl) rfl (Jf (Ja (hK7 (Je fun _ hK8 _=>(Jb (Jg (JA rfl (.s (.s (.s .z))) (by simpa [*] using ag25)) rfl (Jx fn17 rfl rfl fun w hH=>(toAlgebra_c had haf (by omega) hl6 hH).mono ?_)))))))))));rintro _ w ⟨qdo32,cdo32,qfo32,cfo32,vso32,rfl,hH⟩;refine ⟨_,rfl,fun a hF=>JL hF hH ?_⟩;refine JY ze35 rfl fun g10=>(JO rfl rfl (by first | exact bytesC_one _ | exact intsC_one _ | exact Term.c_one _ | simp [Value.oneCell']) (by simpa [*] using sz35) (by simp [*]) At.z (Jf (Ja (hK8 (Je fun _ hK9 _=>(Jb (Jg (JA rfl At.z (by simpa [*] using ag35)) rfl (Jg (Jc rfl) rfl (Jg (Jc rfl) rfl (Jx fn38 rfl rfl fun w hH=>hH.lend (.s .z) fun Hl1 hle1 hA1 hB1 hH=>hH.lend (.s .z) fun Hl2 hle2 hA2 hB2 hH=>(ProductTable_c ((own_ints hA1).le hle2) (own_forms haf.wfss hA2) (by omega) (by omega) hl6 hH).mono ?_))))))))));rintro _ w ⟨qo37,co37,vso37,rfl,hH⟩;replace hH:=hB2 _ _ hH;replace hH:=hB1 _ _ hH;refine ⟨_,rfl,fun a hF=>JL hF hH ?_⟩;refine Jg (Jc rfl) rfl (Jg (JR rfl rfl) rfl (Jg (JR rfl rfl) rfl (Jg (Jd rfl) rfl (Jg (Jd rfl) rfl (Jf (Ja (hK9 (Je fun _ hK10 _=>(Je fun _ hK11 _=>(Jb (Jg (Jc rfl) rfl (Jg (Jc rfl) rfl (Jx fn39 rfl rfl fun w hH=>hH.lend (.s (.s .z)) fun Hl1 hle1 hA1 hB1 hH=>hH.lend (.s (.s (.s (.s (.s .z))))) fun Hl2 hle2 hA2 hB2 hH=>(eqInt64SS_c ((own_rows hA1).le hle2) (own_rows hA2) (by omega) f3 hH).mono ?_)))))))))))));rintro _ w ⟨rfl,hH⟩;replace hH:=hB2 _ _ hH;replace hH:=hB1 _ _ hH;refine ⟨_,rfl,fun a hF=>JL hF hH ?_⟩;refine Jg (Em rfl) rfl (Jg (Jc rfl) rfl (Eg (jd:=44) rfl (fun hg44=>?_) (fun hg44=>?_)))
  ·
   try have hg44p:=of_decide_eq_true hg44
   refine JU rfl rfl rfl hg44 (JU rfl rfl rfl hg44 (JU rfl rfl rfl hg44 (Jg (JZ rfl hg44 rfl) rfl (Jf (Ja (hK11 (Ew rfl (Je fun _ hK12 _=>(Jb (Jg (Jd rfl) rfl (Jf (Ja (hK12 (Jr (Jp (Jq rfl (Res.tmp rfl) fun w hH=>?_))))))))))))))));replace hH:=hH.tail;replace hH:=hH.tail;replace hH:=hH.tail;replace hH:=hH.tail;replace hH:=hH.tail;replace hH:=hH.tail;replace hH:=hH.tail;replace hH:=hH.tail
   first | exact ⟨rfl,hH.below⟩ | exact absurd rfl hg44p | exact absurd rfl hg44 | (exfalso;omega) | (simp at hg44;done)
  ·
   try have hg44p:=of_decide_eq_false hg44
   refine JW (Jc rfl) rfl rfl rfl hg44 (JW (Jc rfl) rfl rfl rfl hg44 (JW (El rfl rfl) rfl rfl rfl hg44 (Jg (JX rfl hg44 rfl) rfl (Jf (Ja (hK11 (Jo rfl (fun hc48=>?_) (fun hc48=>?_))))))))
   ·
    refine Je fun _ hK13 _=>(Jb (Jg (Jd rfl) rfl (Jf (Ja (hK13 (Jr (Jp (Jq rfl (Res.tmp rfl) fun w hH=>?_))))))));replace hH:=hH.tail;replace hH:=hH.tail;replace hH:=hH.tail;replace hH:=hH.tail;replace hH:=hH.tail;replace hH:=hH.tail;replace hH:=hH.tail;replace hH:=hH.tail
    first | exact ⟨rfl,hH.below⟩ | exact absurd rfl hc48p | exact absurd rfl hc48 | (exfalso;omega) | (simp at hc48;done)
   ·
    refine Jn (Ja (hK10 (Je fun _ hK14 _=>(Je fun _ hK15 _=>(Ej (Rs:=[_,_,_,_,_,_,_,_]) 5 [[], [], [1], [0,1,2], [0,1,2,3]] [[9], [12], [], [2,7,8], []] [[], [], [], [], []] rfl rfl (by kernel_rfl) ?_)))));apply Jm 1 rfl
    iterate 3 focus (intros;(conv=>lhs;simp only [Jh,Js,JN,Ju,JI,eq_self,Nat.reduceEqDiff,reduceIte,Nat.reduceSub,Nat.reduceAdd,List.cons_append,List.nil_append]);all_goals rfl)
    ·
     intro gh X K zq zc zq2 zc2 zb zv hK;refine Jg (JA rfl At.z (by simpa [*] using ag35)) rfl (Ji ?_);exact hK zq zc zq2 zc2 zb zv
    ·
     intro gh gh' h
     rfl
    apply Jm 2 rfl
    iterate 3 focus (intros;(conv=>lhs;simp only [Jh,Js,JN,Ju,JI,eq_self,Nat.reduceEqDiff,reduceIte,Nat.reduceSub,Nat.reduceAdd,List.cons_append,List.nil_append]);all_goals rfl)
    ·
     intro gh X K zq zc zq2 zc2 zb zv hK;refine Jg (JA rfl At.z (by simpa [*] using ag25)) rfl (Ji ?_);exact hK zq zc zq2 zc2 zb zv
    ·
     intro gh gh' h
     rfl
    apply GJ.st2 3 rfl
    iterate 3 focus (intros;(conv=>lhs;simp only [Jh,Js,JN,Ju,JI,eq_self,Nat.reduceEqDiff,reduceIte,Nat.reduceSub,Nat.reduceAdd,List.cons_append,List.nil_append]);all_goals rfl)
    ·
     intro gh X K zq zc zq2 zc2 zb zv hK;refine Jx fn17 rfl rfl fun w hH=>(toAlgebra_c had haf (by omega) hl6 hH).mono ?_;rintro _ w ⟨qdo51,cdo51,qfo51,cfo51,vso51,rfl,hH⟩;refine ⟨_,rfl,fun a hF=>JL hF hH ?_⟩;refine Ji ?_;exact hK qdo51 cdo51 qfo51 cfo51 zb vso51
    ·
     intro gh gh' h;refine ⟨?_,?_,?_⟩ <;> rfl
    apply Jm 4 rfl
    iterate 3 focus (intros;(conv=>lhs;simp only [Jh,Js,JN,Ju,JI,eq_self,Nat.reduceEqDiff,reduceIte,Nat.reduceSub,Nat.reduceAdd,List.cons_append,List.nil_append]);all_goals rfl)
    ·
     intro gh X K zq zc zq2 zc2 zb zv hK;refine Jx fn20 rfl rfl fun w hH=>hH.lend (.s (.s .z)) fun Hl1 hle1 hA1 hB1 hH=>hH.lend (.s (.s .z)) fun Hl2 hle2 hA2 hB2 hH=>hH.lend .z fun Hl3 hle3 hA3 hB3 hH=>hH.lend .z fun Hl4 hle4 hA4 hB4 hH=>(eqAlgebra_c ((((own_ints hA1).le hle2).le hle3).le hle4) (((own_forms haf.wfss hA2).le hle3).le hle4) ((own_ints hA3).le hle4) (own_forms haf.wfss hA4) (by omega) (by omega) hl hH).mono ?_;rintro _ w ⟨rfl,hH⟩;replace hH:=hB4 _ _ hH;replace hH:=hB3 _ _ hH;replace hH:=hB2 _ _ hH;replace hH:=hB1 _ _ hH;refine ⟨_,rfl,fun a hF=>JL hF hH ?_⟩;refine Jv (.s .z) (Jv (.s .z) (Jv (.s (.s (.s .z))) (Jv (.s (.s (.s .z))) (Ji ?_))));exact hK zq zc zq2 zc2 zb zv
    ·
     intro gh gh' h
     first | simp only [h 2 rfl] | rfl
    apply Jm 5 rfl
    iterate 3 focus (intros;(conv=>lhs;simp only [Jh,Js,JN,Ju,JI,eq_self,Nat.reduceEqDiff,reduceIte,Nat.reduceSub,Nat.reduceAdd,List.cons_append,List.nil_append]);all_goals rfl)
    ·
     intro gh X K zq zc zq2 zc2 zb zv hK;refine Jg (Em rfl) rfl (Ji ?_);exact hK zq zc zq2 zc2 zb zv
    ·
     intro gh gh' h
     first | simp only [h 2 rfl] | rfl
    apply Ek [0,1,2,3,4] [0,1,2,3,4,5,6,7,8,9,10,11,12] foll0 rfl rfl rfl (by rfl)
    iterate 2 focus (intros;(conv=>lhs;simp only [Jh,Js,JN,Ju,JI,eq_self,Nat.reduceEqDiff,reduceIte,Nat.reduceSub,Nat.reduceAdd,List.cons_append,List.nil_append]);all_goals rfl)
    intro gh;generalize (gh 2).c=cdo51;generalize (gh 2).c2=cfo51;generalize (gh 2).q=qdo51;generalize (gh 2).q2=qfo51;generalize (gh 2).vs=vso51;clear gh;refine Ja (hK15 (Ei rfl (fun hc53=>?_) (fun hc53=>?_)))
    ·
     refine Je fun _ hK16 _=>(Jb (Jg (Jd rfl) rfl (Jf (Ja (hK16 (Jr (Jp (Jq rfl (Res.tmp rfl) fun w hH=>?_))))))));replace hH:=hH.tail;replace hH:=hH.tail;replace hH:=hH.tail;replace hH:=hH.tail;replace hH:=hH.tail;replace hH:=hH.tail;replace hH:=hH.tail;replace hH:=hH.tail;replace hH:=hH.tail;replace hH:=hH.tail
     first | exact ⟨rfl,hH.below⟩ | exact absurd rfl hc53p | exact absurd rfl hc53 | (exfalso;omega) | (simp at hc53;done)
    ·
     refine Jn (Ja (hK14 (Je fun _ hK17 _=>(Jb (Jg (Jd rfl) rfl (Jf (Ja (hK17 (Je fun _ hK18 _=>(Jb (Jg (JA rfl (.s (.s (.s (.s (.s (.s .z)))))) (by simpa [*] using ag35)) rfl (Jg (Jc rfl) rfl (Jx fn25 rfl rfl fun w hH=>(markAlgebra_c (by omega) (by omega) ((hH.front (.s (.s (.s (.s (.s .z)))))).front (.s (.s (.s (.s (.s .z))))))).mono ?_)))))))))))));rintro _ w ⟨rfl,hH⟩;refine ⟨_,rfl,fun a hF=>JL hF hH ?_⟩;refine Jg (Jd rfl) rfl (Jf (Ja (hK18 (Je fun _ hK19 _=>(Je fun _ hK20 _=>(Jb (Jg (Jc rfl) rfl (Jg (JJ rfl rfl) rfl (Jg (Jc rfl) rfl (Eg (jd:=59) rfl (fun hg59=>?_) (fun hg59=>?_)))))))))))
     ·
      try have hg59p:=of_decide_eq_true hg59
      refine JU rfl rfl rfl hg59 (JU rfl rfl rfl hg59 (JU rfl rfl rfl hg59 (JU rfl rfl rfl hg59 (Jg (JZ rfl hg59 rfl) rfl (Jg (Jc rfl) rfl (JU rfl rfl rfl rfl (JU rfl rfl rfl rfl (JU rfl rfl rfl rfl (Jg (JZ rfl rfl rfl) rfl (Jf (Ja (hK20 (Ew rfl (Je fun _ hK21 _=>(Jb ?_)))))))))))))));refine Jg (Jd rfl) rfl (Jf (Ja (hK21 (Jr (Jp (Jq rfl (Res.tmp rfl) fun w hH=>?_))))));replace hH:=hH.tail;replace hH:=hH.tail;replace hH:=hH.tail;replace hH:=hH.tail;replace hH:=hH.tail;replace hH:=hH.tail;replace hH:=hH.tail;replace hH:=hH.tail;replace hH:=hH.tail;replace hH:=hH.tail
      first | exact ⟨rfl,hH.below⟩ | exact absurd rfl hg59p | exact absurd rfl hg59 | (exfalso;omega) | (simp at hg59;done)
     ·
      try have hg59p:=of_decide_eq_false hg59
      refine JW (Jc rfl) rfl rfl rfl hg59 (JW (Jc rfl) rfl rfl rfl hg59 (EQ fn39 rfl rfl hg59 rfl rfl fun w hH=>hH.lend (.s (.s (.s (.s .z)))) fun Hl1 hle1 hA1 hB1 hH=>hH.lend (.s (.s (.s (.s .z)))) fun Hl2 hle2 hA2 hB2 hH=>(eqInt64SS_c ((own_rows hA1).le hle2) (own_rows hA2) (by omega) f3 hH).mono ?_));rintro _ w ⟨rfl,hH⟩;replace hH:=hB2 _ _ hH;replace hH:=hB1 _ _ hH;refine ⟨_,rfl,fun a hF=>JL hF hH ?_⟩;refine JW (Em rfl) rfl rfl rfl hg59 (Jg (JX rfl hg59 rfl) rfl (Jg (Jc rfl) rfl (Eg (jd:=65) rfl (fun hg65=>?_) (fun hg65=>?_))))
      ·
       try have hg65p:=of_decide_eq_true hg65
       refine JU rfl rfl rfl hg65 (JU rfl rfl rfl hg65 (JU rfl rfl rfl hg65 (Jg (JZ rfl hg65 rfl) rfl (Jf (Ja (hK20 (Ew rfl (Je fun _ hK22 _=>(Jb (Jg (Jd rfl) rfl (Jf (Ja (hK22 (Jr (Jp (Jq rfl (Res.tmp rfl) fun w hH=>?_))))))))))))))));replace hH:=hH.tail;replace hH:=hH.tail;replace hH:=hH.tail;replace hH:=hH.tail;replace hH:=hH.tail;replace hH:=hH.tail;replace hH:=hH.tail;replace hH:=hH.tail;replace hH:=hH.tail;replace hH:=hH.tail
       first | exact ⟨rfl,hH.below⟩ | exact absurd rfl hg65p | exact absurd rfl hg65 | (exfalso;omega) | (simp at hg65;done)
      ·
       try have hg65p:=of_decide_eq_false hg65
       refine JW (Jc rfl) rfl rfl rfl hg65 (JW (Jc rfl) rfl rfl rfl hg65 (JW (El rfl rfl) rfl rfl rfl hg65 (Jg (JX rfl hg65 rfl) rfl (Jf (Ja (hK20 (Jo rfl (fun hc69=>?_) (fun hc69=>?_))))))))
       ·
        refine Je fun _ hK23 _=>(Jb (Jg (Jd rfl) rfl (Jf (Ja (hK23 (Jr (Jp (Jq rfl (Res.tmp rfl) fun w hH=>?_))))))));replace hH:=hH.tail;replace hH:=hH.tail;replace hH:=hH.tail;replace hH:=hH.tail;replace hH:=hH.tail;replace hH:=hH.tail;replace hH:=hH.tail;replace hH:=hH.tail;replace hH:=hH.tail;replace hH:=hH.tail
        first | exact ⟨rfl,hH.below⟩ | exact absurd rfl hc69p | exact absurd rfl hc69 | (exfalso;omega) | (simp at hc69;done)
       ·
        refine Jn (Ja (hK19 (Je fun _ hK24 _=>(Jb (Jg (Jd rfl) rfl (Jf (Ja (hK24 (Je fun _ hK25 _=>(Jb (Jg (Jc rfl) rfl (Jg (Jc rfl) rfl (Jx fn40 rfl rfl fun w hH=>(markInt64SS_c (by omega) (by omega) (hH.front .z)).mono ?_)))))))))))));rintro _ w ⟨rfl,hH⟩;refine ⟨_,rfl,fun a hF=>JL hF hH ?_⟩;refine Jg (Jd rfl) rfl (Jf (Ja (hK25 (Je fun _ hK26 _=>(Jb (Jg (Jd rfl) rfl (Jf (Ja (hK26 (Je fun _ hK27 _=>(Jb (Jg (Jc rfl) rfl (Jg (Jc rfl) rfl (Jx fn41 rfl rfl fun w hH=>hH.lend .z fun Hl1 hle1 hA1 hB1 hH=>(heldInt64SS_c (own_mrows (by omega) hA1) (by omega) (by omega) hH).mono ?_))))))))))))));rintro _ w ⟨rfl,hH⟩;replace hH:=hB1 _ _ hH;refine ⟨_,rfl,fun a hF=>JL hF hH ?_⟩;refine Jg (Jd rfl) rfl (Jf (Ja (hK27 (Je fun _ hK28 _=>(Je fun _ hK29 _=>(Jb (Jg (Jc rfl) rfl (Jg (JJ rfl rfl) rfl (Jf (Ja (hK29 (Jo rfl (fun hc77=>?_) (fun hc77=>?_)))))))))))))
        ·
         refine Je fun _ hK30 _=>(Jb (Jg (Jd rfl) rfl (Jf (Ja (hK30 (Jr (Jp (Jq rfl (Res.tmp rfl) fun w hH=>?_))))))));replace hH:=hH.tail;replace hH:=hH.tail;replace hH:=hH.tail;replace hH:=hH.tail;replace hH:=hH.tail;replace hH:=hH.tail;replace hH:=hH.tail;replace hH:=hH.tail;replace hH:=hH.tail;replace hH:=hH.tail
         first | exact ⟨rfl,hH.below⟩ | exact absurd rfl hc77p | exact absurd rfl hc77 | (exfalso;omega) | (simp at hc77;done)
        ·
         refine Jn (Ja (hK28 (Je fun _ hK31 _=>(Je fun _ hK32 _=>(Jb (Jg (Jc rfl) rfl (Jg (Jc rfl) rfl (Jg (El rfl rfl) rfl (Jf (Ja (hK32 (Jo rfl (fun hc80=>?_) (fun hc80=>?_)))))))))))))
         ·
          refine Je fun _ hK33 _=>(Jb (Jg (Jd rfl) rfl (Jf (Ja (hK33 (Jr (Jp (Jq rfl (Res.tmp rfl) fun w hH=>?_))))))));replace hH:=hH.tail;replace hH:=hH.tail;replace hH:=hH.tail;replace hH:=hH.tail;replace hH:=hH.tail;replace hH:=hH.tail;replace hH:=hH.tail;replace hH:=hH.tail;replace hH:=hH.tail;replace hH:=hH.tail
          first | exact ⟨rfl,hH.below⟩ | exact absurd rfl hc80p | exact absurd rfl hc80 | (exfalso;omega) | (simp at hc80;done)
         ·
          refine Jn (Ja (hK31 (Je fun _ hK34 _=>(Jb (Jg (JA rfl (.s (.s (.s (.s (.s (.s (.s (.s (.s .z))))))))) (by simpa [*] using ag25)) rfl (Jx fn17 rfl rfl fun w hH=>(toAlgebra_c had haf (by omega) hl6 hH).mono ?_))))));rintro _ w ⟨qdo83,cdo83,qfo83,cfo83,vso83,rfl,hH⟩;refine ⟨_,rfl,fun a hF=>JL hF hH ?_⟩;refine Jg (Jc rfl) rfl (Jg (Jc rfl) rfl (Jx fn38 rfl rfl fun w hH=>hH.lend .z fun Hl1 hle1 hA1 hB1 hH=>hH.lend .z fun Hl2 hle2 hA2 hB2 hH=>(ProductTable_c ((own_ints hA1).le hle2) (own_forms haf.wfss hA2) (by omega) (by omega) hl6 hH).mono ?_));rintro _ w ⟨qo86,co86,vso86,rfl,hH⟩;replace hH:=hB2 _ _ hH;replace hH:=hB1 _ _ hH;refine ⟨_,rfl,fun a hF=>JL hF hH ?_⟩;refine Jg (Jc rfl) rfl (Jg (JR rfl rfl) rfl (Jg (JR rfl rfl) rfl (Jg (Jd rfl) rfl (Jg (Jd rfl) rfl (Jf (Ja (hK34 (Je fun _ hK35 _=>(Je fun _ hK36 _=>(Jb (Jg (Jc rfl) rfl (Jg (Jc rfl) rfl (Jx fn39 rfl rfl fun w hH=>hH.lend (.s (.s .z)) fun Hl1 hle1 hA1 hB1 hH=>hH.lend (.s (.s (.s .z))) fun Hl2 hle2 hA2 hB2 hH=>(eqInt64SS_c ((own_rows hA1).le hle2) (own_rows hA2) (by omega) f3 hH).mono ?_)))))))))))));rintro _ w ⟨rfl,hH⟩;replace hH:=hB2 _ _ hH;replace hH:=hB1 _ _ hH;refine ⟨_,rfl,fun a hF=>JL hF hH ?_⟩;refine Jg (Em rfl) rfl (Jg (Jc rfl) rfl (Eg (jd:=93) rfl (fun hg93=>?_) (fun hg93=>?_)))
          ·
           try have hg93p:=of_decide_eq_true hg93
           refine JU rfl rfl rfl hg93 (JU rfl rfl rfl hg93 (JU rfl rfl rfl hg93 (Jg (JZ rfl hg93 rfl) rfl (Jf (Ja (hK36 (Ew rfl (Je fun _ hK37 _=>(Jb (Jg (Jd rfl) rfl (Jf (Ja (hK37 (Jr (Jp (Jq rfl (Res.tmp rfl) fun w hH=>?_))))))))))))))));replace hH:=hH.tail;replace hH:=hH.tail;replace hH:=hH.tail;replace hH:=hH.tail;replace hH:=hH.tail;replace hH:=hH.tail;replace hH:=hH.tail;replace hH:=hH.tail;replace hH:=hH.tail;replace hH:=hH.tail;replace hH:=hH.tail;replace hH:=hH.tail;replace hH:=hH.tail
           first | exact ⟨rfl,hH.below⟩ | exact absurd rfl hg93p | exact absurd rfl hg93 | (exfalso;omega) | (simp at hg93;done)
          ·
           try have hg93p:=of_decide_eq_false hg93
           refine JW (Jc rfl) rfl rfl rfl hg93 (JW (Jc rfl) rfl rfl rfl hg93 (JW (El rfl rfl) rfl rfl rfl hg93 (Jg (JX rfl hg93 rfl) rfl (Jf (Ja (hK36 (Jo rfl (fun hc97=>?_) (fun hc97=>?_))))))))
           ·
            refine Je fun _ hK38 _=>(Jb (Jg (Jd rfl) rfl (Jf (Ja (hK38 (Jr (Jp (Jq rfl (Res.tmp rfl) fun w hH=>?_))))))));replace hH:=hH.tail;replace hH:=hH.tail;replace hH:=hH.tail;replace hH:=hH.tail;replace hH:=hH.tail;replace hH:=hH.tail;replace hH:=hH.tail;replace hH:=hH.tail;replace hH:=hH.tail;replace hH:=hH.tail;replace hH:=hH.tail;replace hH:=hH.tail;replace hH:=hH.tail
            first | exact ⟨rfl,hH.below⟩ | exact absurd rfl hc97p | exact absurd rfl hc97 | (exfalso;omega) | (simp at hc97;done)
           ·
            refine Jn (Ja (hK35 (Je fun _ hK39 _=>(Jb (Jg (Jd rfl) rfl (Jf (Ja (hK39 (Je fun _ hK40 _=>(Jb (Jg (Jc rfl) rfl (Jg (Jc rfl) rfl (Jx fn41 rfl rfl fun w hH=>hH.lend (.s (.s (.s (.s .z)))) fun Hl1 hle1 hA1 hB1 hH=>(heldInt64SS_c (own_mrows (by omega) hA1) (by omega) (by omega) hH).mono ?_)))))))))))));rintro _ w ⟨rfl,hH⟩;replace hH:=hB1 _ _ hH;refine ⟨_,rfl,fun a hF=>JL hF hH ?_⟩;refine Jg (Jd rfl) rfl (Jf (Ja (hK40 (Je fun _ hK41 _=>(Je fun _ hK42 _=>(Jb (Jg (Jc rfl) rfl (Jg (JJ rfl rfl) rfl (Jf (Ja (hK42 (Jo rfl (fun hc102=>?_) (fun hc102=>?_)))))))))))))
            ·
             refine Je fun _ hK43 _=>(Jb (Jg (Jd rfl) rfl (Jf (Ja (hK43 (Jr (Jp (Jq rfl (Res.tmp rfl) fun w hH=>?_))))))));replace hH:=hH.tail;replace hH:=hH.tail;replace hH:=hH.tail;replace hH:=hH.tail;replace hH:=hH.tail;replace hH:=hH.tail;replace hH:=hH.tail;replace hH:=hH.tail;replace hH:=hH.tail;replace hH:=hH.tail;replace hH:=hH.tail;replace hH:=hH.tail;replace hH:=hH.tail
             first | exact ⟨rfl,hH.below⟩ | exact absurd rfl hc102p | exact absurd rfl hc102 | (exfalso;omega) | (simp at hc102;done)
            ·
             refine Jn (Ja (hK41 (Je fun _ hK44 _=>(Je fun _ hK45 _=>(Jb (Jg (Jc rfl) rfl (Jg (Jc rfl) rfl (Jg (El rfl rfl) rfl (Jf (Ja (hK45 (Jo rfl (fun hc105=>?_) (fun hc105=>?_)))))))))))))
             ·
              refine Je fun _ hK46 _=>(Jb (Jg (Jd rfl) rfl (Jf (Ja (hK46 (Jr (Jp (Jq rfl (Res.tmp rfl) fun w hH=>?_))))))));replace hH:=hH.tail;replace hH:=hH.tail;replace hH:=hH.tail;replace hH:=hH.tail;replace hH:=hH.tail;replace hH:=hH.tail;replace hH:=hH.tail;replace hH:=hH.tail;replace hH:=hH.tail;replace hH:=hH.tail;replace hH:=hH.tail;replace hH:=hH.tail;replace hH:=hH.tail
              first | exact ⟨rfl,hH.below⟩ | exact absurd rfl hc105p | exact absurd rfl hc105 | (exfalso;omega) | (simp at hc105;done)
             ·
              refine Jn (Ja (hK44 (Je fun _ hK47 _=>(Jb (Jg (Jd rfl) rfl (Jf (Ja (hK47 (Jr (Jq rfl (Res.tmp rfl) fun w hH=>?_))))))))));replace hH:=hH.tail;replace hH:=hH.tail;replace hH:=hH.tail;replace hH:=hH.tail;replace hH:=hH.tail;replace hH:=hH.tail;replace hH:=hH.tail;replace hH:=hH.tail;replace hH:=hH.tail;replace hH:=hH.tail;replace hH:=hH.tail;replace hH:=hH.tail;replace hH:=hH.tail
              first | exact ⟨rfl,hH.below⟩ | exact absurd rfl hc105p | exact absurd rfl hc105 | (exfalso;omega) | (simp at hc105;done)
end Go.Proofs.YthenedanhcnccaaGreat.G
namespace Go.Proofs.YthenedanhcnccaaGreat.fnExactProductTable
open Go.ChangeShapes Go.WideShapes Go.ChangeAt Go.RowKit
open Go.Proofs.YthenedanhcnccaaGreat.G
theorem u25:Tryz.prog.underlying 25=some (TypeDesc.struct #[{name:="Degrees",type:=22,offset:=0,embedded:=false,tag:="",pkgPath:="",byteOffset:=0},{name:="Images",type:=23,offset:=1,embedded:=false,tag:="",pkgPath:="",byteOffset:=24}]):=by kernel_rfl
theorem u22:Tryz.prog.underlying 22=some (TypeDesc.slice 2):=by kernel_rfl
theorem u2:Tryz.prog.underlying 2=some (TypeDesc.int .i64):=by kernel_rfl
theorem u23:Tryz.prog.underlying 23=some (TypeDesc.slice 28):=by kernel_rfl
theorem u28:Tryz.prog.underlying 28=some (TypeDesc.struct #[{name:="Terms",type:=26,offset:=0,embedded:=false,tag:="",pkgPath:="",byteOffset:=0}]):=by kernel_rfl
theorem u26:Tryz.prog.underlying 26=some (TypeDesc.slice 155):=by kernel_rfl
theorem u155:Tryz.prog.underlying 155=some (TypeDesc.struct #[{name:="Monomial",type:=149,offset:=0,embedded:=false,tag:="",pkgPath:="",byteOffset:=0},{name:="Factor",type:=2,offset:=8,embedded:=false,tag:="",pkgPath:="",byteOffset:=8}]):=by kernel_rfl
theorem u149:Tryz.prog.underlying 149=some (TypeDesc.array 8 5):=by kernel_rfl
theorem u5:Tryz.prog.underlying 5=some (TypeDesc.int .u8):=by kernel_rfl
theorem u4:Tryz.prog.underlying 4=some (TypeDesc.bool):=by kernel_rfl
theorem own:ownKnob Tryz.prog.godebug=none:=by kernel_rfl
theorem lifted (os:Os) (started:os.Started) (H:Type) (enc:TypeId × Value→H):ReturnsInHanded {} Tryz.checked os 9 .any (Rows.fnExactProductTableSpec.pre6 enc Tryz.prog Tryz.f9 Rows.fnExactProductTableRow.domain false) (Rows.fnExactProductTableSpec.post enc Tryz.prog Tryz.f9 false true false false):=by
 refine returnsInHanded_of_change_sized (C:=Tryz.checked) own started (by kernel_rfl) Tryz.func9
  (ChangeSpec.witness6 (enc:=enc) (C:=Tryz.checked) false ⟨#[],#[.agg #[.slice none 0 0,.slice none 0 0],.int .i64 0,.int .i64 0], []⟩ 12 (by kernel_rfl) (by kernel_rfl) (by kernel_rfl) (by kernel_rfl)) ?_
 intro W base args ds gs before hval0 hW hcnd hsz0 _;have hval : ∀(j:Nat) t v,Tryz.f9.params[j]? = some t→args[j]? = some v→Value.okWide Tryz.prog W .any base t v:=hval0;have hW':=hW;obtain ⟨p,q,hA0,hV,rfl,hfz,hnd⟩:=hW;have hA:DataW.TrodAll enc Tryz.prog W 0 (fun _=>true) true Tryz.f9.params.toList args.toList ds p:=hA0;rw [Tryz.params9] at hA hval;obtain ⟨v0,JN,d0,ds0,p0,q0,hargs,rfl,rfl,h0,r0⟩:=trodAll_cons hA;obtain ⟨v1,vs1,d1,ds1,p1,q1,rfl,rfl,rfl,h1,r1⟩:=trodAll_cons r0;obtain ⟨v2,vs2,d2,ds2,p2,q2,rfl,rfl,rfl,h2,r2⟩:=trodAll_cons r1;obtain ⟨rfl,rfl,rfl⟩:=trodAll_nil r2
 obtain rfl:args = #[v0,v1,v2]:=by cases args;simp_all
 obtain ⟨rfl,rfl⟩:=trodVars_none hV;obtain ⟨q0d,c0d,ds0,q0f,c0f,fs0,rfl,X0,F0,le0,fl0⟩:=openV_alg u25 rfl rfl rfl rfl (by kernel_rfl) (by kernel_rfl) (by kernel_rfl) u22 u2 (by kernel_rfl) u23 (by kernel_rfl) (fun n l y hy=>tr_form u28 rfl rfl (by kernel_rfl) (by kernel_rfl) u26 (by kernel_rfl) u155 rfl rfl rfl rfl u149 u5 (by kernel_rfl) (by kernel_rfl) u2 (by kernel_rfl) hy) (hval 0 25 v0 rfl rfl) h0;obtain ⟨a1,rfl,lo1,hi1⟩:=openV_int u2 (hval 1 2 v1 rfl rfl) h1;obtain ⟨a2,rfl,lo2,hi2⟩:=openV_int u2 (hval 2 2 v2 rfl rfl) h2;clear hA0 hval0 hsz0;refine ((lawProductTable_c X0 F0 le0 fl0 (Hp.start (H:=hp W) fun _ _ h=>h)).mono fun e W' ⟨he,bel⟩=>?_);subst he;exact ⟨_,rfl,law_post (f:=Tryz.f9) (by kernel_rfl) (by kernel_rfl) rfl rfl u4 rfl hW' bel⟩
theorem joined:joinedFacts Tryz.prog 9 Tryz.f9 Rows.fnExactProductTableSpec Rows.fnExactProductTableRow=true:=by
 unfold joinedFacts;simp only [Bool.and_eq_true]
 repeat' apply And.intro
 all_goals first
  | with_reducible exact Facts.fEnter
  | with_reducible exact Facts.fLaid
  | with_reducible exact Facts.fMaps
  | with_reducible exact Facts.fHeard
  | (rw [Facts.fMake];rfl)
  | (rw [Facts.fLift];rfl)
  | (rw [Facts.fKeys];rfl)
  | (rw [Facts.fStops];rfl)
  | (rw [Facts.fStopK];rfl)
  | as_aux_lemma=>kernel_rfl
theorem over:Rows.fnExactProductTableRow.holds Tryz.pinned (OpenSpec.ofChange Rows.fnExactProductTableSpec):=
 OpenClaim.holds_of_wide 9 Tryz.f9 rfl rfl rfl rfl rfl rfl rfl ⟨rfl,rfl,rfl,rfl,rfl⟩ rfl rfl rfl rfl rfl (by as_aux_lemma=>kernel_rfl) Tryz.func9 joined
  (of_decide_eq_true (by as_aux_lemma=>kernel_rfl)) (by unfold Func.isWrapper;first | (rw [if_pos (by decide +kernel)];kernel_rfl) | (rw [if_neg (by decide +kernel)];exact ⟨rfl,rfl⟩))
  (fun os started H enc _=>lifted os started H enc)
theorem proved:Rows.FnExactProductTableSaid:=over
#print axioms proved
end Go.Proofs.YthenedanhcnccaaGreat.fnExactProductTable
namespace Go.Proofs.YthenedanhcnccaaGreat
theorem fnExactProductTable_holds:Rows.FnExactProductTableSaid:=fnExactProductTable.proved
end Go.Proofs.YthenedanhcnccaaGreat
