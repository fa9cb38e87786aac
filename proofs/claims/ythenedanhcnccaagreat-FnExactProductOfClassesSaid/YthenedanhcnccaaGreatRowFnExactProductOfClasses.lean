/- The row: the law answers true whatever the input, and the input reads as it did. No condition. -/
import Derived.Test.YthenedanhcnccaaGreatRows
import Derived.Test.YthenedanhcnccaaGreatProg
import Derived.WalkKit
import Derived.KernelRfl
import Derived.JoinedOf
import Derived.Maps.AppendAt
import Derived.Still
import Derived.ProofKit
import Derived.OpenShut
import Derived.StillTail
import Derived.Deep.Upon
import Derived.WalkSpells
import Derived.Maps.Range
import Derived.DeepKeys4
import Derived.Maps.Keyed
import Derived.ChangeOld
import Derived.Below
import Derived.SizedLaws
import Derived.Test.YthenedanhcnccaaGreatPPclg
set_option linter.unusedVariables false
set_option linter.unusedSimpArgs false
set_option maxRecDepth 10000
set_option maxHeartbeats 8000000
namespace Go.Proofs.YthenedanhcnccaaGreat.G
open Go Go.RowKit
theorem fn76:Fn Tryz.prog 76:=⟨_,Tryz.func76,by kernel_rfl,rfl⟩
def dropK (i j:Nat):List (Nat × Value)→List (Nat × Value)
 | []=>[]
 | (d,v)::us=>bif d == i || d == j then dropK i j us else (d,v)::dropK i j us
theorem dropK_lk {i j x:Nat} {v:Value} : ∀{us:List (Nat × Value)},lk (dropK i j us) x=some v→(x≠i∧x≠j)∧lk us x=some v
 | [],h=>by simp [dropK,lk] at h
 | (d,u)::us,h=>by
  unfold dropK at h
  by_cases hd:(d == i || d == j)=true
  ·rw [hd] at h
   obtain ⟨h1,h2⟩:=dropK_lk (us:=us) h
   refine ⟨h1,?_⟩
   simp only [lk]
   have:Nat.beq d x=false:=by
    cases hb:Nat.beq d x
    ·rfl
    ·have e:=Nat.eq_of_beq_eq_true hb
     subst e
     simp only [Bool.or_eq_true,beq_iff_eq] at hd
     omega
   rw [this]
   exact h2
  ·have hd':(d == i || d == j)=false:=Bool.eq_false_iff.mpr hd
   rw [hd'] at h
   simp only [cond_false,lk] at h ⊢
   cases hb:Nat.beq d x
   ·rw [hb] at h
    obtain ⟨h1,h2⟩:=dropK_lk (us:=us) h
    exact ⟨h1,h2⟩
   ·rw [hb] at h
    have e:=Nat.eq_of_beq_eq_true hb
    subst e
    simp only [Bool.or_eq_true,beq_iff_eq] at hd
    exact ⟨⟨fun c=>hd (Or.inl c),fun c=>hd (Or.inr c)⟩,h⟩
theorem CJ.mask (i j:Nat) {P:Program} {c:Code} {Q:Exit→Act→World→Prop} {n:Nat} {B:World} {H0 H:HP} {us:List (Nat × Value)} {L:List SA} (h:CJ P c Q n B H0 (dropK i j us) H L):CJ P c Q n B H0 us H L:=
 fun a w hF hH=>h a w ⟨hF.size,hF.defers,fun x v hx=>hF.get x v (dropK_lk hx).2⟩ hH
section
variable {ds : List Int} {fs : List (List Term)} {n i m j : Int}
theorem qA_1 (h:(!askB n)=true):pcA n i m j=false:=by unfold pcA;rw [not_f h];simp
theorem qA_2 (h:(!askB m)=true):pcA n i m j=false:=by unfold pcA;rw [not_f h];simp
theorem qA_3 (h:n+m>20):pcA n i m j=false:=by
 unfold pcA;rw [show askB (n+m)=false from by unfold askB;rw [decide_eq_false (show ¬n+m≤20 by omega)];simp]
 simp
theorem qA_4 (h:i<0):pcA n i m j=false:=by unfold pcA;rw [decide_eq_true h];rfl
theorem qA_5 (h:j<0):pcA n i m j=false:=by unfold pcA;rw [decide_eq_true h];simp
theorem qA_6 (h1:(!askB n)=false) (h2:(!askB m)=false) (h3 : ¬n+m>20) (h4 : ¬i<0) (h5 : ¬j<0):pcA n i m j=true:=by
 have a1:=askB_y (not_t h1);have a2:=askB_y (not_t h2);unfold pcA;rw [not_t h1,not_t h2,decide_eq_false h4,decide_eq_false h5,show askB (n+m)=true from by unfold askB;rw [decide_eq_true (show 0≤n+m by omega),decide_eq_true (show n+m≤20 by omega)];rfl]
 rfl
theorem qA_7 (h1:(!askB n)=false) (h2:(!askB m)=false) (h3 : ¬n+m>20) (h4 : ¬i<0):decide (j<0) = !pcA n i m j:=by
 by_cases h5:j<0
 ·rw [qA_5 h5,decide_eq_true h5];rfl
 ·rw [qA_6 h1 h2 h3 h4 h5,decide_eq_false h5];rfl
theorem qR_1 (hG:isAlg ds fs=true) (h:(!wiB ds (n - 1) (n+1))=true):true = !pcR ds n m:=by unfold pcR;rw [ar_wi ds fs hG n,not_f h];rfl
theorem qR_2 (hG:isAlg ds fs=true) (h:(!wiB ds (m - 1) (m+1))=true):true = !pcR ds n m:=by unfold pcR;rw [ar_wi ds fs hG m,not_f h];simp
theorem qR_3 (hG:isAlg ds fs=true) (h1:(!wiB ds (n - 1) (n+1))=false) (h2:(!wiB ds (m - 1) (m+1))=false):(!wiB ds (n+m - 1) (n+m+1)) = !pcR ds n m:=by
 unfold pcR;rw [ar_wi ds fs hG n,ar_wi ds fs hG m,ar_wi ds fs hG (n+m),not_t h1,not_t h2]
 rfl
theorem cfM_kex (h8:ds.length≤8) (hd : ∀j,j<ds.length→1≤ds.getD j 0∧ds.getD j 0≤12) (hk : ∀x∈cfM ds fs n i,x.1∈monL ds n):KEx ds (cfM ds fs n i):=fun x hx=>monL_ex h8 hd _ (hk x hx)
theorem cf_fm (hA:AlgOk ds fs) (h8:ds.length≤8) (hd : ∀j,j<ds.length→1≤ds.getD j 0∧ds.getD j 0≤12) (hi:i.toNat<(csS ds fs n).length):toS (fm (fmR (monL ds n) (csS ds fs n)) i.toNat)=cfM ds fs n i:=by
 rw [fmR_at hi,fmS_mon h8 ((csS_red (n:=n) hA h8 hd).row _ (rw_mem hi))]
 rfl
theorem cf_len (hi:i.toNat<(csS ds fs n).length):(fm (fmR (monL ds n) (csS ds fs n)) i.toNat).length≤121:=by
 rw [fmR_at hi];exact Nat.le_trans (fmS_len _ _) (monL_len ds n)
theorem qc_1 (h:isAlg ds fs=false):pcC ds fs n i m j=1:=by unfold pcC;rw [h];rfl
theorem qc_2 (h:isAlg ds fs=true) (h2:pcA n i m j=false):pcC ds fs n i m j=2:=by unfold pcC;rw [h,h2];rfl
theorem qc_3 (h:isAlg ds fs=true) (h2:pcA n i m j=true) (h3:pcR ds n m=false):pcC ds fs n i m j=3:=by unfold pcC;rw [h,h2,h3];rfl
theorem qc_4 (h:isAlg ds fs=true) (h2:pcA n i m j=true) (h3:pcR ds n m=true):pcC ds fs n i m j=if ciB ds fs n i && ciB ds fs m j then 0 else 2:=by unfold pcC;rw [h,h2,h3];rfl
theorem ci_no {i:Int} (h0:0≤i) (h:i≥((csS ds fs n).length:Int)):ciB ds fs n i=false:=decide_eq_false (by omega)
theorem ci_yes {i:Int} (h0:0≤i) (h : ¬i≥((csS ds fs n).length:Int)):ciB ds fs n i=true:=decide_eq_true (by omega)
end
theorem sProductOfClasses_c {B:World} {H0 H:HP} {L:List SA} {w:World} {qad qaf:Option Addr} {cad caf:Nat} {ad:List Int} {af:List (List Term)} {n:Int} {i:Int} {m:Int} {j:Int} (had:Ints H qad ad) (haf:Forms H qaf af) (hn8:ad.length≤1048576) (hn9:af.length≤1048576) (hl9 : ∀i,i<af.length→(fm af i).length≤1048576) (hi64 : -9223372036854775808≤i∧i≤9223372036854775807∧ -9223372036854775808≤j∧j≤9223372036854775807) (hH:Hp B H0 H L w):Calls Tryz.prog 33 [.agg [.slice qad ad.length cad,.slice qaf af.length caf].toArray,.int .i64 n,.int .i64 i,.int .i64 m,.int .i64 j].toArray w fun e w'=>∃q c,e = .returned (.tuple #[.slice q (pcV ad af n i m j).length c,.int .i64 (pcC ad af n i m j)])∧Hp B H0 H (own 2 1 q (pcV ad af n i m j).length c (intsC (pcV ad af n i m j))::L) w':=by
 refine Jx Tryz.func33 rfl 103 rfl rfl [(0,.agg [.slice qad ad.length cad,.slice qaf af.length caf].toArray),(1,.int .i64 n),(2,.int .i64 i),(3,.int .i64 m),(4,.int .i64 j)] rfl hH ?_;have hw0:=hH.old;have hw1:=hH.le;clear hH;refine Je fun _ hK1 _=>(Jb (Ef rfl rfl rfl fun g5=>(Jg (Jd rfl) rfl (Jg (Jd rfl) rfl (Jf (Ja (hK1 (Je fun _ hK2 _=>(Jk (Je fun _ hK3 _=>(Jb (Jg (JA rfl At.z (by simpa [*] using ag35)) rfl (Jw fn72 rfl rfl fun w hH=>(l02Is_c had haf (by omega) (by omega) hl9 hH).mono ?_)))))))))))));rintro _ w ⟨rfl,hH⟩;refine ⟨_,rfl,fun a hF=>JM hF hH ?_⟩;refine Jg (Ej rfl) rfl (Jg (Jd rfl) rfl (Jf (Ja (hK3 (Ei rfl (fun h14=>?_) (fun h14=>?_))))))
 ·
  refine Je fun _ hK4 _=>(Jb (Jg (Jd rfl) rfl (Jg (Jd rfl) rfl (Jf (Ja (hK4 (Jr (JX (Jm (Et rfl (Res.tmp rfl) (Res.tmp rfl) fun w hH=>?_))))))))));replace hH:=hH.sublist (.cons _ (List.Sublist.refl _));have hc:pcC ad af n i m j=1:=qc_1 (not_f h14);rw [show pcV ad af n i m j=[] from if_neg (by rw [hc];decide),hc];exact ⟨none,0,rfl,hH.own0 2 1⟩
 ·
  have hG:isAlg ad af=true:=not_t h14;have hw:=haf.wfss;have hA:=isAlg_ok hG hw;have h8:=hA.hn;have hd:=alg_112 hG;refine ER (σ:=Bool) (fun (b:Bool)=>[(18,.bool b)]) (fun (b:Bool)=>H) (fun (b:Bool)=>obj g5 (.cells [.slice qad ad.length cad,.slice qaf af.length caf].toArray 35 (0,0))::L) (fun (b:Bool)=>b = !pcA n i m j) ?_ ?_
  ·
   intro _ hMt1;refine Jb (Jg (Jc rfl) rfl (Jw fn73 rfl rfl fun w hH=>(l01In_c hH).mono ?_));rintro _ w ⟨rfl,hH⟩;refine ⟨_,rfl,fun a hF=>JM hF hH ?_⟩;refine Jg (Ej rfl) rfl (Jg (Jc rfl) rfl (Ea (jd:=22) rfl (fun h22=>?_) (fun h22=>?_)))
   ·
    try have h22p:=of_decide_eq_true h22
    refine JG rfl rfl rfl h22 (JG rfl rfl rfl h22 (JG rfl rfl rfl h22 (Jg (JL rfl h22 rfl) rfl (Jg (Jc rfl) rfl (JG rfl rfl rfl rfl (JG rfl rfl rfl rfl (JG rfl rfl rfl rfl (JG rfl rfl rfl rfl (Jg (JL rfl rfl rfl) rfl (Jg (Jc rfl) rfl (JG rfl rfl rfl rfl (JG rfl rfl rfl rfl (Jg (JL rfl rfl rfl) rfl (Jg (Jc rfl) rfl ?_))))))))))))));refine JG rfl rfl rfl rfl (JG rfl rfl rfl rfl (Jg (JL rfl rfl rfl) rfl (Jg (Jd rfl) rfl (Jf (Ja ?_)))));exact hMt1 true (by rw [qA_1 h22];rfl) 23 rfl rfl ⟨rfl,trivial⟩ rfl rfl
   ·
    try have h22p:=of_decide_eq_false h22
    refine JV (Jc rfl) rfl rfl rfl h22 (ED fn73 rfl rfl h22 rfl rfl fun w hH=>(l01In_c hH).mono ?_);rintro _ w ⟨rfl,hH⟩;refine ⟨_,rfl,fun a hF=>JM hF hH ?_⟩;refine JV (Ej rfl) rfl rfl rfl h22 (Jg (JW rfl h22 rfl) rfl (Jg (Jc rfl) rfl (Ea (jd:=27) rfl (fun h27=>?_) (fun h27=>?_))))
    ·
     try have h27p:=of_decide_eq_true h27
     refine JG rfl rfl rfl h27 (JG rfl rfl rfl h27 (JG rfl rfl rfl h27 (JG rfl rfl rfl h27 (Jg (JL rfl h27 rfl) rfl (Jg (Jc rfl) rfl (JG rfl rfl rfl rfl (JG rfl rfl rfl rfl (Jg (JL rfl rfl rfl) rfl (Jg (Jc rfl) rfl (JG rfl rfl rfl rfl (JG rfl rfl rfl rfl (Jg (JL rfl rfl rfl) rfl (Jg (Jd rfl) rfl (Jf ?_))))))))))))));refine Ja ?_;exact hMt1 true (by rw [qA_2 h27];rfl) 23 rfl rfl ⟨rfl,trivial⟩ rfl rfl
    ·
     try have h27p:=of_decide_eq_false h27
     refine JV (Jc rfl) rfl rfl rfl h27 (JV (Jc rfl) rfl rfl rfl h27 (JV (Jz rfl rfl (nw _ (by have a1:=askB_y (not_t h22);have a2:=askB_y (not_t h27);omega))) rfl rfl rfl h27 (JV (EF rfl rfl) rfl rfl rfl h27 (Jg (JW rfl h27 rfl) rfl (Jg (Jc rfl) rfl (Ea (jd:=33) rfl (fun h33=>?_) (fun h33=>?_)))))))
     ·
      try have h33p:=of_decide_eq_true h33
      refine JG rfl rfl rfl h33 (JG rfl rfl rfl h33 (Jg (JL rfl h33 rfl) rfl (Jg (Jc rfl) rfl (JG rfl rfl rfl rfl (JG rfl rfl rfl rfl (Jg (JL rfl rfl rfl) rfl (Jg (Jd rfl) rfl (Jf (Ja ?_)))))))));exact hMt1 true (by rw [qA_3 h33p];rfl) 23 rfl rfl ⟨rfl,trivial⟩ rfl rfl
     ·
      try have h33p:=of_decide_eq_false h33
      refine JV (Jc rfl) rfl rfl rfl h33 (JV (JK rfl rfl) rfl rfl rfl h33 (Jg (JW rfl h33 rfl) rfl (Jg (Jc rfl) rfl (Ea (jd:=37) rfl (fun h37=>?_) (fun h37=>?_)))))
      ·
       try have h37p:=of_decide_eq_true h37
       refine JG rfl rfl rfl h37 (JG rfl rfl rfl h37 (Jg (JL rfl h37 rfl) rfl (Jg (Jd rfl) rfl (Jf (Ja ?_)))));exact hMt1 true (by rw [qA_4 h37p];rfl) 23 rfl rfl ⟨rfl,trivial⟩ rfl rfl
      ·
       try have h37p:=of_decide_eq_false h37
       refine JV (Jc rfl) rfl rfl rfl h37 (JV (JK rfl rfl) rfl rfl rfl h37 (Jg (JW rfl h37 rfl) rfl (Jg (Jd rfl) rfl (Jf (Ja ?_)))));exact hMt1 (decide (j<0)) (qA_7 h22 h27 h33p h37p) 23 rfl rfl ⟨rfl,trivial⟩ rfl rfl
  ·
   rintro b hb;refine Ei rfl (fun h18=>?_) (fun h18=>?_)
   ·
    have hpA:pcA n i m j=false:=by rw [h18] at hb;exact not_f hb.symm
    refine Je fun _ hK5 _=>(Jb (Jg (Jd rfl) rfl (Jg (Jd rfl) rfl (Jf (Ja (hK5 (Jr (JX (Jm (Et rfl (Res.tmp rfl) (Res.tmp rfl) fun w hH=>?_))))))))));replace hH:=hH.sublist (.cons _ (List.Sublist.refl _));have hc:pcC ad af n i m j=2:=qc_2 hG hpA;rw [show pcV ad af n i m j=[] from if_neg (by rw [hc];decide),hc];exact ⟨none,0,rfl,hH.own0 2 1⟩
   ·
    have hpA:pcA n i m j=true:=by rw [h18] at hb;exact not_t hb.symm
    have hpq:=pc1_y (ds:=ad) (fs:=af) (n:=n) (i:=i) (m:=m) (j:=j) (by unfold pc1;rw [if_pos hG,if_pos hpA];decide);obtain ⟨_,_,hb1,hb3,hb4,hb5,hb6⟩:=hpq;refine ER (σ:=Bool) (fun (b2:Bool)=>[(41,.bool b2)]) (fun (b2:Bool)=>H) (fun (b2:Bool)=>obj g5 (.cells [.slice qad ad.length cad,.slice qaf af.length caf].toArray 35 (0,0))::L) (fun (b2:Bool)=>b2 = !pcR ad n m) ?_ ?_
    ·
     intro _ hMt2;refine Jb (Jg (JA rfl At.z (by simpa [*] using ag35)) rfl (Jg (Jc rfl) rfl (Jg (EG rfl rfl (by first | exact nw _ (by omega) | rfl)) rfl (Jg (Jc rfl) rfl (Jg (Jz rfl rfl (by first | exact nw _ (by omega) | rfl)) rfl (Jw fn74 rfl rfl fun w hH=>(l03Within_c had haf hd h8 (by omega) (by omega) hH).mono ?_))))));rintro _ w ⟨rfl,hH⟩;refine ⟨_,rfl,fun a hF=>JM hF hH ?_⟩;refine Jg (Ej rfl) rfl (Jg (Jc rfl) rfl (Ea (jd:=49) rfl (fun h49=>?_) (fun h49=>?_)))
     ·
      try have h49p:=of_decide_eq_true h49
      refine JG rfl rfl rfl h49 (JG rfl rfl rfl h49 (JG rfl rfl rfl h49 (JG rfl rfl rfl h49 (JG rfl rfl rfl h49 (JG rfl rfl rfl h49 (JG rfl rfl rfl h49 (Jg (JL rfl h49 rfl) rfl (Jg (Jc rfl) rfl (JG rfl rfl rfl rfl (JG rfl rfl rfl rfl (JG rfl rfl rfl rfl (JG rfl rfl rfl rfl (JG rfl rfl rfl rfl (JG rfl rfl rfl rfl ?_))))))))))))));refine JG rfl rfl rfl rfl (JG rfl rfl rfl rfl (JG rfl rfl rfl rfl (JG rfl rfl rfl rfl (JG rfl rfl rfl rfl (Jg (JL rfl rfl rfl) rfl (Jg (Jd rfl) rfl (Jf (Ja ?_))))))));exact hMt2 true (qR_1 hG h49) 30 rfl rfl ⟨rfl,trivial⟩ rfl rfl
     ·
      try have h49p:=of_decide_eq_false h49
      refine JV (JA rfl At.z (by simpa [*] using ag35)) rfl rfl rfl h49 (JV (Jc rfl) rfl rfl rfl h49 (JV (EG rfl rfl (by first | exact nw _ (by omega) | rfl)) rfl rfl rfl h49 (JV (Jc rfl) rfl rfl rfl h49 (JV (Jz rfl rfl (by first | exact nw _ (by omega) | rfl)) rfl rfl rfl h49 (ED fn74 rfl rfl h49 rfl rfl fun w hH=>(l03Within_c had haf hd h8 (by omega) (by omega) hH).mono ?_)))));rintro _ w ⟨rfl,hH⟩;refine ⟨_,rfl,fun a hF=>JM hF hH ?_⟩;refine JV (Ej rfl) rfl rfl rfl h49 (Jg (JW rfl h49 rfl) rfl (Jg (Jc rfl) rfl (Ea (jd:=58) rfl (fun h58=>?_) (fun h58=>?_))))
      ·
       try have h58p:=of_decide_eq_true h58
       refine JG rfl rfl rfl h58 (JG rfl rfl rfl h58 (JG rfl rfl rfl h58 (JG rfl rfl rfl h58 (JG rfl rfl rfl h58 (JG rfl rfl rfl h58 (JG rfl rfl rfl h58 (JG rfl rfl rfl h58 (JG rfl rfl rfl h58 (JG rfl rfl rfl h58 (JG rfl rfl rfl h58 (Jg (JL rfl h58 rfl) rfl (Jg (Jd rfl) rfl (Jf (Ja ?_))))))))))))));exact hMt2 true (qR_2 hG h58) 30 rfl rfl ⟨rfl,trivial⟩ rfl rfl
      ·
       try have h58p:=of_decide_eq_false h58
       refine JV (JA rfl At.z (by simpa [*] using ag35)) rfl rfl rfl h58 (JV (Jc rfl) rfl rfl rfl h58 (JV (Jc rfl) rfl rfl rfl h58 (JV (Jz rfl rfl (by first | exact nw _ (by omega) | rfl)) rfl rfl rfl h58 (JV (EG rfl rfl (by first | exact nw _ (by omega) | rfl)) rfl rfl rfl h58 (JV (Jc rfl) rfl rfl rfl h58 (JV (Jc rfl) rfl rfl rfl h58 (JV (Jz rfl rfl (by first | exact nw _ (by omega) | rfl)) rfl rfl rfl h58 (JV (Jz rfl rfl (by first | exact nw _ (by omega) | rfl)) rfl rfl rfl h58 (ED fn74 rfl rfl h58 rfl rfl fun w hH=>(l03Within_c had haf hd h8 (by omega) (by omega) hH).mono ?_)))))))));rintro _ w ⟨rfl,hH⟩;refine ⟨_,rfl,fun a hF=>JM hF hH ?_⟩;refine JV (Ej rfl) rfl rfl rfl h58 (Jg (JW rfl h58 rfl) rfl (Jg (Jd rfl) rfl (Jf (Ja ?_))));exact hMt2 (!wiB ad (n+m - 1) (n+m+1)) (qR_3 hG h49 h58) 30 rfl rfl ⟨rfl,trivial⟩ rfl rfl
    ·
     rintro b2 hb2;refine Ei rfl (fun h41=>?_) (fun h41=>?_)
     ·
      have hR:pcR ad n m=false:=by rw [h41] at hb2;exact not_f hb2.symm
      refine Je fun _ hK6 _=>(Jb (Jg (Jd rfl) rfl (Jg (Jd rfl) rfl (Jf (Ja (hK6 (Jr (JX (Jm (Et rfl (Res.tmp rfl) (Res.tmp rfl) fun w hH=>?_))))))))));replace hH:=hH.sublist (.cons _ (List.Sublist.refl _));have hc:pcC ad af n i m j=3:=qc_3 hG hpA hR;rw [show pcV ad af n i m j=[] from if_neg (by rw [hc];decide),hc];exact ⟨none,0,rfl,hH.own0 2 1⟩
     ·
      have hR:pcR ad n m=true:=by rw [h41] at hb2;exact not_t hb2.symm
      have hR2:=hR;unfold pcR at hR2;simp only [Bool.and_eq_true] at hR2;have hf1:=ar_fit3 hR2.1;have hf2:=ar_fit3 hR2.2.1;have hf3:=ar_fit3 hR2.2.2;have hcn:=csS_red (n:=n) hA h8 hd;have hcm:=csS_red (n:=m) hA h8 hd;have hcnl:=csS_len (n:=n) hA h8 hd;have hcml:=csS_len (n:=m) hA h8 hd;have hfrl:=fmR_len (monL ad n) (csS ad af n);have hfrl2:=fmR_len (monL ad m) (csS ad af m);refine Jn (JF (Ja (hK2 (Je fun _ hK7 _=>(El (Rs:=[_]) 8 [[], [], [0,1], [], [], [0,1,2,3,4], [0,1,2,3,4,5], [0,1,2,3,4,5,6]] [[8], [], [], [8], [], [], [], []] [[], [], [], [], [], [], [], []] rfl rfl (by kernel_rfl) ?_)))));apply Jo 1 rfl
      iterate 3 focus (intros;(conv=>lhs;simp only [Jh,Jt,JT,Ju,JJ,eq_self,Nat.reduceEqDiff,reduceIte,Nat.reduceSub,Nat.reduceAdd,List.cons_append,List.nil_append]);all_goals rfl)
      ·
       intro gh X K zq zc zq2 zc2 zb zv hK;refine Jg (JA rfl At.z (by simpa [*] using ag35)) rfl (Ji ?_);exact hK zq zc zq2 zc2 zb zv
      ·
       intro gh gh' h
       rfl
      apply Jo 2 rfl
      iterate 3 focus (intros;(conv=>lhs;simp only [Jh,Jt,JT,Ju,JJ,eq_self,Nat.reduceEqDiff,reduceIte,Nat.reduceSub,Nat.reduceAdd,List.cons_append,List.nil_append]);all_goals rfl)
      ·
       intro gh X K zq zc zq2 zc2 zb zv hK;refine Jg (Jc rfl) rfl (Ji ?_);exact hK zq zc zq2 zc2 zb zv
      ·
       intro gh gh' h
       rfl
      apply Eb 3 rfl
      iterate 3 focus (intros;(conv=>lhs;simp only [Jh,Jt,JT,Ju,JJ,eq_self,Nat.reduceEqDiff,reduceIte,Nat.reduceSub,Nat.reduceAdd,List.cons_append,List.nil_append]);all_goals rfl)
      ·
       intro gh X K zq zc zq2 zc2 zb zv hK;refine Jw fn76 rfl rfl fun w hH=>(l03ClassForms_c had haf hG (by omega) hf1 hH).mono ?_;rintro _ w ⟨qo73,co73,vso73,rfl,hH⟩;refine ⟨_,rfl,fun a hF=>JM hF hH ?_⟩;refine Ji ?_;exact hK qo73 co73 zq2 zc2 zb vso73
      ·
       intro gh gh' h;refine ⟨?_,?_⟩ <;> rfl
      apply Jo 4 rfl
      iterate 3 focus (intros;(conv=>lhs;simp only [Jh,Jt,JT,Ju,JJ,eq_self,Nat.reduceEqDiff,reduceIte,Nat.reduceSub,Nat.reduceAdd,List.cons_append,List.nil_append]);all_goals rfl)
      ·
       intro gh X K zq zc zq2 zc2 zb zv hK;refine Jg (JA rfl At.z (by simpa [*] using ag35)) rfl (Ji ?_);exact hK zq zc zq2 zc2 zb zv
      ·
       intro gh gh' h
       rfl
      apply Jo 5 rfl
      iterate 3 focus (intros;(conv=>lhs;simp only [Jh,Jt,JT,Ju,JJ,eq_self,Nat.reduceEqDiff,reduceIte,Nat.reduceSub,Nat.reduceAdd,List.cons_append,List.nil_append]);all_goals rfl)
      ·
       intro gh X K zq zc zq2 zc2 zb zv hK;refine Jg (Jc rfl) rfl (Ji ?_);exact hK zq zc zq2 zc2 zb zv
      ·
       intro gh gh' h
       rfl
      apply Eb 6 rfl
      iterate 3 focus (intros;(conv=>lhs;simp only [Jh,Jt,JT,Ju,JJ,eq_self,Nat.reduceEqDiff,reduceIte,Nat.reduceSub,Nat.reduceAdd,List.cons_append,List.nil_append]);all_goals rfl)
      ·
       intro gh X K zq zc zq2 zc2 zb zv hK;refine Jw fn76 rfl rfl fun w hH=>(l03ClassForms_c had haf hG (by omega) hf2 hH).mono ?_;rintro _ w ⟨qo76,co76,vso76,rfl,hH⟩;refine ⟨_,rfl,fun a hF=>JM hF hH ?_⟩;refine Ji ?_;exact hK qo76 co76 zq2 zc2 zb vso76
      ·
       intro gh gh' h;refine ⟨?_,?_⟩ <;> (first | simp only [h 2 rfl] | rfl)
      apply Jo 7 rfl
      iterate 3 focus (intros;(conv=>lhs;simp only [Jh,Jt,JT,Ju,JJ,eq_self,Nat.reduceEqDiff,reduceIte,Nat.reduceSub,Nat.reduceAdd,List.cons_append,List.nil_append]);all_goals rfl)
      ·
       intro gh X K zq zc zq2 zc2 zb zv hK;refine Jg (Jd rfl) rfl (Ji ?_);exact hK zq zc zq2 zc2 zb zv
      ·
       intro gh gh' h
       first | simp only [h 2 rfl,h 5 rfl] | rfl
      apply Jo 8 rfl
      iterate 3 focus (intros;(conv=>lhs;simp only [Jh,Jt,JT,Ju,JJ,eq_self,Nat.reduceEqDiff,reduceIte,Nat.reduceSub,Nat.reduceAdd,List.cons_append,List.nil_append]);all_goals rfl)
      ·
       intro gh X K zq zc zq2 zc2 zb zv hK;refine Jg (Jd rfl) rfl (Ji ?_);exact hK zq zc zq2 zc2 zb zv
      ·
       intro gh gh' h
       first | simp only [h 2 rfl,h 5 rfl] | rfl
      apply Ek [0,1,2,3,4,5,6,7] [0,1,2,3,4,5,6,7,8] foll0 rfl rfl rfl (by rfl)
      iterate 2 focus (intros;(conv=>lhs;simp only [Jh,Jt,JT,Ju,JJ,eq_self,Nat.reduceEqDiff,reduceIte,Nat.reduceSub,Nat.reduceAdd,List.cons_append,List.nil_append]);all_goals rfl)
      intro gh;generalize (gh 2).c=co73;generalize (gh 2).q=qo73;generalize (gh 2).vs=vso73;generalize (gh 5).c=co76;generalize (gh 5).q=qo76;generalize (gh 5).vs=vso76;clear gh;refine EM .z fun Ho73 hleo73 hAo73=>?_;replace had:=had.le hleo73;replace haf:=haf.le hleo73;have hxo73:=(own_forms (fmR_wf (monL_mn h8) hcn.row) hAo73);have hco73:=own_le hAo73.1;refine EM .z fun Ho76 hleo76 hAo76=>?_;replace had:=had.le hleo76;replace haf:=haf.le hleo76;replace hxo73:=hxo73.le hleo76;have hxo76:=(own_forms (fmR_wf (monL_mn h8) hcm.row) hAo76);have hco76:=own_le hAo76.1;refine Ja (hK7 (Je fun _ hK8 _=>(Je fun _ hK9 _=>(Jb (Jg (Jc rfl) rfl (Jg (Jc rfl) rfl (Jg (Jl u33 rfl rfl) rfl (Jg (PR.geq rfl rfl) rfl (Jg (Jc rfl) rfl (Ea (jd:=81) rfl (fun h81=>?_) (fun h81=>?_)))))))))))
      ·
       try have h81p:=of_decide_eq_true h81
       refine JG rfl rfl rfl h81 (JG rfl rfl rfl h81 (JG rfl rfl rfl h81 (JG rfl rfl rfl h81 (Jg (JL rfl h81 rfl) rfl (Jf (Ja (hK9 (Ep rfl (Je fun _ hK10 _=>(Jb (Jg (Jd rfl) rfl (Jg (Jd rfl) rfl (Jf (Ja (hK10 (Jr ?_))))))))))))))));refine Jm (Et rfl (Res.tmp rfl) (Res.tmp rfl) fun w hH=>?_);replace hH:=hH.sublist (.cons _ (List.Sublist.refl _))
       have hc:pcC ad af n i m j=2:=by rw [qc_4 hG hpA hR,ci_no hb1 (by omega)];rfl
       rw [show pcV ad af n i m j=[] from if_neg (by rw [hc];decide),hc];exact ⟨none,0,rfl,(hH.own0 2 1).weaken (hleo73.trans hleo76) hw0 hw1⟩
      ·
       try have h81p:=of_decide_eq_false h81
       refine JV (Jc rfl) rfl rfl rfl h81 (JV (Jc rfl) rfl rfl rfl h81 (JV (Jl u33 rfl rfl) rfl rfl rfl h81 (JV (PR.geq rfl rfl) rfl rfl rfl h81 (Jg (JW rfl h81 rfl) rfl (Jf (Ja (hK9 (Jp rfl (fun h86=>?_) (fun h86=>?_)))))))))
       ·
        refine Je fun _ hK11 _=>(Jb (Jg (Jd rfl) rfl (Jg (Jd rfl) rfl (Jf (Ja (hK11 (Jr (Jm (Et rfl (Res.tmp rfl) (Res.tmp rfl) fun w hH=>?_)))))))));replace hH:=hH.sublist (.cons _ (List.Sublist.refl _))
        have hc:pcC ad af n i m j=2:=by rw [qc_4 hG hpA hR,ci_no hb3 (by omega),Bool.and_false];rfl
        rw [show pcV ad af n i m j=[] from if_neg (by rw [hc];decide),hc];exact ⟨none,0,rfl,(hH.own0 2 1).weaken (hleo73.trans hleo76) hw0 hw1⟩
       ·
        have hi1:i.toNat<(csS ad af n).length:=by omega
        have hj1:j.toNat<(csS ad af m).length:=by omega
        have hi2:i.toNat<(fmR (monL ad n) (csS ad af n)).length:=by omega
        have hj2:j.toNat<(fmR (monL ad m) (csS ad af m)).length:=by omega
        have hfa:=cf_fm (n:=n) (i:=i) hA h8 hd hi1;have hfb:=cf_fm (n:=m) (i:=j) hA h8 hd hj1;have hla:=cf_len (ds:=ad) (fs:=af) (n:=n) (i:=i) hi1;have hlb:=cf_len (ds:=ad) (fs:=af) (n:=m) (i:=j) hj1;obtain ⟨hs1,hk1⟩:=cfM_ok (n:=n) (i:=i) hA h8 hd hi1;obtain ⟨hs2,hk2⟩:=cfM_ok (n:=m) (i:=j) hA h8 hd hj1;have hmul:(fm (fmR (monL ad n) (csS ad af n)) i.toNat).length * (fm (fmR (monL ad m) (csS ad af m)) j.toNat).length≤121 * 121:=Nat.mul_le_mul hla hlb;have htl:=times_len ad (toS (fm (fmR (monL ad n) (csS ad af n)) i.toNat)) (toS (fm (fmR (monL ad m) (csS ad af m)) j.toNat));rw [toS_len,toS_len] at htl;refine CJ.mask 10 11 ?_;simp only [dropK,Nat.reduceBEq,Bool.or_true,Bool.or_false,Bool.true_or,Bool.false_or,Bool.or_self,cond_true,cond_false];refine Jn (Ja (hK8 (Je fun _ hK12 _=>(El (Rs:=[_]) 18 [[], [], [], [1,2], [], [4], [], [], [6,7], [6,7,8], [], [], [10,11], [10,11,12], [4,5,6,7,8,9,10,11,12,13], [0,1,2,3,4,5,6,7,8,9,10,11,12,13,14], [0,1,2,3,4,5,6,7,8,9,10,11,12,13,14,15], [0,1,2,3,4,5,6,7,8,9,10,11,12,13,14,15,16]] [[18], [], [], [], [], [18], [], [], [], [], [], [], [], [], [], [14], [], []] [[], [], [], [], [], [], [], [], [], [], [], [], [], [], [], [], [], []] rfl rfl (by kernel_rfl) ?_))));apply Jo 1 rfl
        iterate 3 focus (intros;(conv=>lhs;simp only [Jh,Jt,JT,Ju,JJ,eq_self,Nat.reduceEqDiff,reduceIte,Nat.reduceSub,Nat.reduceAdd,List.cons_append,List.nil_append]);all_goals rfl)
        ·
         intro gh X K zq zc zq2 zc2 zb zv hK;refine Jg (JA rfl At.z (by simpa [*] using ag35)) rfl (Ji ?_);exact hK zq zc zq2 zc2 zb zv
        ·
         intro gh gh' h
         rfl
        apply Jo 2 rfl
        iterate 3 focus (intros;(conv=>lhs;simp only [Jh,Jt,JT,Ju,JJ,eq_self,Nat.reduceEqDiff,reduceIte,Nat.reduceSub,Nat.reduceAdd,List.cons_append,List.nil_append]);all_goals rfl)
        ·
         intro gh X K zq zc zq2 zc2 zb zv hK;refine Jg (Jc rfl) rfl (Ji ?_);exact hK zq zc zq2 zc2 zb zv
        ·
         intro gh gh' h
         rfl
        apply Jo 3 rfl
        iterate 3 focus (intros;(conv=>lhs;simp only [Jh,Jt,JT,Ju,JJ,eq_self,Nat.reduceEqDiff,reduceIte,Nat.reduceSub,Nat.reduceAdd,List.cons_append,List.nil_append]);all_goals rfl)
        ·
         intro gh X K zq zc zq2 zc2 zb zv hK;refine Jg (Jc rfl) rfl (Ji ?_);exact hK zq zc zq2 zc2 zb zv
        ·
         intro gh gh' h
         rfl
        apply Jo 4 rfl
        iterate 3 focus (intros;(conv=>lhs;simp only [Jh,Jt,JT,Ju,JJ,eq_self,Nat.reduceEqDiff,reduceIte,Nat.reduceSub,Nat.reduceAdd,List.cons_append,List.nil_append]);all_goals rfl)
        ·
         intro gh X K zq zc zq2 zc2 zb zv hK;refine Jg (Jz rfl rfl (by first | exact nw _ (by omega) | rfl)) rfl (Ji ?_);exact hK zq zc zq2 zc2 zb zv
        ·
         intro gh gh' h
         rfl
        apply Jo 5 rfl
        iterate 3 focus (intros;(conv=>lhs;simp only [Jh,Jt,JT,Ju,JJ,eq_self,Nat.reduceEqDiff,reduceIte,Nat.reduceSub,Nat.reduceAdd,List.cons_append,List.nil_append]);all_goals rfl)
        ·
         intro gh X K zq zc zq2 zc2 zb zv hK;refine Jg (Js u35 rfl sz22 rfl) rfl (Ji ?_);exact hK zq zc zq2 zc2 zb zv
        ·
         intro gh gh' h
         rfl
        apply Jo 6 rfl
        iterate 3 focus (intros;(conv=>lhs;simp only [Jh,Jt,JT,Ju,JJ,eq_self,Nat.reduceEqDiff,reduceIte,Nat.reduceSub,Nat.reduceAdd,List.cons_append,List.nil_append]);all_goals rfl)
        ·
         intro gh X K zq zc zq2 zc2 zb zv hK;refine Jg (Jv rfl At.z rfl pl22) rfl (Ji ?_);exact hK zq zc zq2 zc2 zb zv
        ·
         intro gh gh' h
         rfl
        apply Jo 7 rfl
        iterate 3 focus (intros;(conv=>lhs;simp only [Jh,Jt,JT,Ju,JJ,eq_self,Nat.reduceEqDiff,reduceIte,Nat.reduceSub,Nat.reduceAdd,List.cons_append,List.nil_append]);all_goals rfl)
        ·
         intro gh X K zq zc zq2 zc2 zb zv hK;refine Jg (Jc rfl) rfl (Ji ?_);exact hK zq zc zq2 zc2 zb zv
        ·
         intro gh gh' h
         rfl
        apply Jo 8 rfl
        iterate 3 focus (intros;(conv=>lhs;simp only [Jh,Jt,JT,Ju,JJ,eq_self,Nat.reduceEqDiff,reduceIte,Nat.reduceSub,Nat.reduceAdd,List.cons_append,List.nil_append]);all_goals rfl)
        ·
         intro gh X K zq zc zq2 zc2 zb zv hK;refine Jg (Jc rfl) rfl (Ji ?_);exact hK zq zc zq2 zc2 zb zv
        ·
         intro gh gh' h
         rfl
        apply Jo 9 rfl
        iterate 3 focus (intros;(conv=>lhs;simp only [Jh,Jt,JT,Ju,JJ,eq_self,Nat.reduceEqDiff,reduceIte,Nat.reduceSub,Nat.reduceAdd,List.cons_append,List.nil_append]);all_goals rfl)
        ·
         intro gh X K zq zc zq2 zc2 zb zv hK;refine Jg (JQ (i':=i.toNat) u33 sz39 rfl rfl (by rw [Int.toNat_of_nonneg hb1]) hi2 hxo73.sm) rfl (Ji ?_);exact hK zq zc zq2 zc2 zb zv
        ·
         intro gh gh' h
         rfl
        obtain ⟨qe96,ce96,he96,le96,Fe96⟩:=hxo73 i.toNat hi2;apply Jo 10 rfl
        iterate 3 focus (intros;(conv=>lhs;simp only [Jh,Jt,JT,Ju,JJ,eq_self,Nat.reduceEqDiff,reduceIte,Nat.reduceSub,Nat.reduceAdd,List.cons_append,List.nil_append]);all_goals rfl)
        ·
         intro gh X K zq zc zq2 zc2 zb zv hK;refine Jg (JP (cs:=[_]) rfl (one_cell he96) (hxo73.sm (i:=i.toNat) hi2) ag39) rfl (Ji ?_);exact hK zq zc zq2 zc2 zb zv
        ·
         intro gh gh' h
         rfl
        apply Jo 11 rfl
        iterate 3 focus (intros;(conv=>lhs;simp only [Jh,Jt,JT,Ju,JJ,eq_self,Nat.reduceEqDiff,reduceIte,Nat.reduceSub,Nat.reduceAdd,List.cons_append,List.nil_append]);all_goals rfl)
        ·
         intro gh X K zq zc zq2 zc2 zb zv hK;refine Jg (Jc rfl) rfl (Ji ?_);exact hK zq zc zq2 zc2 zb zv
        ·
         intro gh gh' h
         rfl
        apply Jo 12 rfl
        iterate 3 focus (intros;(conv=>lhs;simp only [Jh,Jt,JT,Ju,JJ,eq_self,Nat.reduceEqDiff,reduceIte,Nat.reduceSub,Nat.reduceAdd,List.cons_append,List.nil_append]);all_goals rfl)
        ·
         intro gh X K zq zc zq2 zc2 zb zv hK;refine Jg (Jc rfl) rfl (Ji ?_);exact hK zq zc zq2 zc2 zb zv
        ·
         intro gh gh' h
         rfl
        apply Jo 13 rfl
        iterate 3 focus (intros;(conv=>lhs;simp only [Jh,Jt,JT,Ju,JJ,eq_self,Nat.reduceEqDiff,reduceIte,Nat.reduceSub,Nat.reduceAdd,List.cons_append,List.nil_append]);all_goals rfl)
        ·
         intro gh X K zq zc zq2 zc2 zb zv hK;refine Jg (JQ (i':=j.toNat) u33 sz39 rfl rfl (by rw [Int.toNat_of_nonneg hb3]) hj2 hxo76.sm) rfl (Ji ?_);exact hK zq zc zq2 zc2 zb zv
        ·
         intro gh gh' h
         rfl
        obtain ⟨qe100,ce100,he100,le100,Fe100⟩:=hxo76 j.toNat hj2;apply Jo 14 rfl
        iterate 3 focus (intros;(conv=>lhs;simp only [Jh,Jt,JT,Ju,JJ,eq_self,Nat.reduceEqDiff,reduceIte,Nat.reduceSub,Nat.reduceAdd,List.cons_append,List.nil_append]);all_goals rfl)
        ·
         intro gh X K zq zc zq2 zc2 zb zv hK;refine Jg (JP (cs:=[_]) rfl (one_cell he100) (hxo76.sm (i:=j.toNat) hj2) ag39) rfl (Ji ?_);exact hK zq zc zq2 zc2 zb zv
        ·
         intro gh gh' h
         rfl
        apply Eb 15 rfl
        iterate 3 focus (intros;(conv=>lhs;simp only [Jh,Jt,JT,Ju,JJ,eq_self,Nat.reduceEqDiff,reduceIte,Nat.reduceSub,Nat.reduceAdd,List.cons_append,List.nil_append]);all_goals rfl)
        ·
         intro gh X K zq zc zq2 zc2 zb zv hK;refine Jw fn77 rfl rfl fun w hH=>(l01Times_c (M:=20) (N:=20) had Fe96 Fe100 hA.hn hA.hd (by rw [hfa];exact cfM_kex h8 hd hk1) (by rw [hfb];exact cfM_kex h8 hd hk2) (by rw [hfa];exact hs1.g) (by rw [hfb];exact hs2.g) (by omega) (by omega) (by omega) hH).mono ?_;rintro _ w ⟨qo101,co101,rfl,hH⟩;refine ⟨_,rfl,fun a hF=>JM hF hH ?_⟩;refine Ji ?_;exact hK qo101 co101 zq2 zc2 zb zv
        ·
         intro gh gh' h;refine ⟨?_,?_⟩ <;> rfl
        apply Eb 16 rfl
        iterate 3 focus (intros;(conv=>lhs;simp only [Jh,Jt,JT,Ju,JJ,eq_self,Nat.reduceEqDiff,reduceIte,Nat.reduceSub,Nat.reduceAdd,List.cons_append,List.nil_append]);all_goals rfl)
        ·
         intro gh X K zq zc zq2 zc2 zb zv hK;refine Jw fn69 rfl rfl fun w hH=>hH.lend .z fun Hl1 hle1 hA1 hB1 hH=>(l03Class_c (M:=40) (had.le hle1) (haf.le hle1) (own_terms (by rw [hfa,hfb];exact (hs1.times hs2).wf (by omega)) hA1) hG (by omega) hf3 (by rw [ofS_len];omega) (by rw [toS_ofS,hfa,hfb];exact hs1.times hs2) (by rw [toS_ofS,hfa,hfb];exact times_mon h8 hd hs1 hs2 hk1 hk2 hf3.1.1 (by omega)) hH).mono ?_;rintro _ w ⟨qo102,co102,rfl,hH⟩;replace hH:=hB1 _ _ hH;refine ⟨_,rfl,fun a hF=>JM hF hH ?_⟩;refine Jy .z (Jy (.s .z) (Ji ?_));exact hK qo102 co102 zq2 zc2 zb zv
        ·
         intro gh gh' h;refine ⟨?_,?_⟩ <;> (first | simp only [h 14 rfl] | rfl)
        apply Jo 17 rfl
        iterate 3 focus (intros;(conv=>lhs;simp only [Jh,Jt,JT,Ju,JJ,eq_self,Nat.reduceEqDiff,reduceIte,Nat.reduceSub,Nat.reduceAdd,List.cons_append,List.nil_append]);all_goals rfl)
        ·
         intro gh X K zq zc zq2 zc2 zb zv hK;refine Jg (Jd rfl) rfl (Ji ?_);exact hK zq zc zq2 zc2 zb zv
        ·
         intro gh gh' h
         first | simp only [h 14 rfl,h 15 rfl] | rfl
        apply Jo 18 rfl
        iterate 3 focus (intros;(conv=>lhs;simp only [Jh,Jt,JT,Ju,JJ,eq_self,Nat.reduceEqDiff,reduceIte,Nat.reduceSub,Nat.reduceAdd,List.cons_append,List.nil_append]);all_goals rfl)
        ·
         intro gh X K zq zc zq2 zc2 zb zv hK;refine Jg (Jd rfl) rfl (Ji ?_);exact hK zq zc zq2 zc2 zb zv
        ·
         intro gh gh' h
         first | simp only [h 14 rfl,h 15 rfl] | rfl
        apply Ek [0,1,2,3,4,5,6,7,8,9,10,11,12,13,14,15,16,17] [0,1,2,3,4,5,6,7,8,9,10,11,12,13,14,15,16,17,18] foll0 rfl rfl rfl (by rfl)
        iterate 2 focus (intros;(conv=>lhs;simp only [Jh,Jt,JT,Ju,JJ,eq_self,Nat.reduceEqDiff,reduceIte,Nat.reduceSub,Nat.reduceAdd,List.cons_append,List.nil_append]);all_goals rfl)
        intro gh;generalize (gh 14).c=co101;generalize (gh 14).q=qo101;generalize (gh 15).c=co102;generalize (gh 15).q=qo102;clear gh;refine Ja (hK12 (Jr (Et rfl (Res.tmp rfl) (Res.tmp rfl) fun w hH=>?_)));replace hH:=hH.sublist (.cons _ (.cons_cons _ (.cons _ (List.Sublist.refl _))))
        have hc:pcC ad af n i m j=0:=by rw [qc_4 hG hpA hR,ci_yes hb1 (by omega),ci_yes hb3 (by omega)];rfl
        rw [toS_ofS,hfa,hfb] at hH ⊢;rw [show pcV ad af n i m j=clV ad af (n+m) ((monL ad (n+m)).map (cf (pcS ad af n i m j))) from if_pos hc,hc];exact ⟨_,_,rfl,hH.weaken (hleo73.trans hleo76) hw0 hw1⟩
theorem ag25:Agg Tryz.prog 25 2:=⟨_,u25,rfl,by kernel_rfl⟩
theorem fn14:Fn Tryz.prog 14:=⟨_,Tryz.func14,by kernel_rfl,rfl⟩
theorem fn17:Fn Tryz.prog 17:=⟨_,Tryz.func17,by kernel_rfl,rfl⟩
theorem fn20:Fn Tryz.prog 20:=⟨_,Tryz.func20,by kernel_rfl,rfl⟩
theorem fn25:Fn Tryz.prog 25:=⟨_,Tryz.func25,by kernel_rfl,rfl⟩
theorem fn33:Fn Tryz.prog 33:=⟨_,Tryz.func33,by kernel_rfl,rfl⟩
theorem fn34:Fn Tryz.prog 34:=⟨_,Tryz.func34,by kernel_rfl,rfl⟩
theorem lawProductOfClasses_c {B:World} {H0 H:HP} {L:List SA} {w:World} {qad qaf:Option Addr} {cad caf:Nat} {ad:List Int} {af:List (List Term)} {n:Int} {i:Int} {m:Int} {j:Int} (had:Ints H qad ad) (haf:Forms H qaf af) (hn:ad.length≤9223372036854775807∧af.length≤9223372036854775807) (hl : ∀i,i<af.length→(fm af i).length≤9223372036854775807) (hi64 : -9223372036854775808≤i∧i≤9223372036854775807∧ -9223372036854775808≤j∧j≤9223372036854775807) (hH:Hp B H0 H L w):Calls Tryz.prog 7 [.agg [.slice qad ad.length cad,.slice qaf af.length caf].toArray,.int .i64 n,.int .i64 i,.int .i64 m,.int .i64 j].toArray w fun e w'=>e = .returned (.bool true)∧Below B.heap.size B w':=by
 refine Jx Tryz.func7 rfl 116 rfl rfl [(0,.agg [.slice qad ad.length cad,.slice qaf af.length caf].toArray),(1,.int .i64 n),(2,.int .i64 i),(3,.int .i64 m),(4,.int .i64 j)] rfl hH ?_;clear hH;have f1:=pcV_len (n:=n) (i:=i) (m:=m) (j:=j) haf.wfss (ds:=ad);refine Je fun _ hK1 _=>(Jb (Ef rfl rfl rfl fun g5=>(Jg (Jd rfl) rfl (Jf (Ja (hK1 (Je fun _ hK2 _=>(Jb (Jg (Jd rfl) rfl (Jf (Ja (hK2 (Je fun _ hK3 _=>(Jb (Jg (JA rfl At.z (by simpa [*] using ag25)) rfl (Jg (Jc rfl) rfl ?_))))))))))))))));refine Jw fn14 rfl rfl fun w hH=>(szAlgebra_c had haf (by omega) hl hH).mono ?_;rintro _ w ⟨rfl,hH⟩;refine ⟨_,rfl,fun a hF=>JM hF hH ?_⟩;refine Jg (Jd rfl) rfl (Jf (Ja (hK3 (Je fun _ hK4 _=>(Je fun _ hK5 _=>(Jb (Jg (Jc rfl) rfl (Jg (JK rfl rfl) rfl (Jf (Ja (hK5 (Jp rfl (fun h11=>?_) (fun h11=>?_)))))))))))))
 ·
  refine Je fun _ hK6 _=>(Jb (Jg (Jd rfl) rfl (Jf (Ja (hK6 (Jr (Jm (Jq rfl (Res.tmp rfl) fun w hH=>?_))))))));replace hH:=hH.tail
  first | exact ⟨rfl,hH.below⟩ | exact absurd rfl h11p | exact absurd rfl h11 | (exfalso;omega) | (simp at h11;done)
 ·
  have hsz:ad.length+af.length+tot af≤1048576:=by unfold szv at h11;split at h11 <;> omega
  have hl6 : ∀i,i<af.length→(fm af i).length≤1048576:=fun i hi=>by have:=tot_fm hi;omega
  refine Jn (Ja (hK4 (Je fun _ hK7 _=>(Jb (Jg (JA rfl At.z (by simpa [*] using ag25)) rfl (Jw fn17 rfl rfl fun w hH=>(toAlgebra_c had haf (by omega) hl6 hH).mono ?_))))));rintro _ w ⟨qdo29,cdo29,qfo29,cfo29,vso29,rfl,hH⟩;refine ⟨_,rfl,fun a hF=>JM hF hH ?_⟩;refine Jg (Jc rfl) rfl (Jg (Jc rfl) rfl (Jg (Jc rfl) rfl (Jg (Jc rfl) rfl (Jw fn33 rfl rfl fun w hH=>hH.lend .z fun Hl1 hle1 hA1 hB1 hH=>hH.lend .z fun Hl2 hle2 hA2 hB2 hH=>(sProductOfClasses_c ((own_ints hA1).le hle2) (own_forms haf.wfss hA2) (by omega) (by omega) hl6 hi64 hH).mono ?_))));rintro _ w ⟨qo34,co34,rfl,hH⟩;replace hH:=hB2 _ _ hH;replace hH:=hB1 _ _ hH;refine ⟨_,rfl,fun a hF=>JM hF hH ?_⟩;refine Jg (Jc rfl) rfl (Jg (JR rfl rfl) rfl (Jg (JR rfl rfl) rfl (Jg (Jd rfl) rfl (Jg (Jd rfl) rfl (Jf (Ja (hK7 (Je fun _ hK8 _=>(Jb (Jg (JA rfl (.s (.s (.s .z))) (by simpa [*] using ag25)) rfl (Jw fn17 rfl rfl fun w hH=>(toAlgebra_c had haf (by omega) hl6 hH).mono ?_)))))))))));rintro _ w ⟨qdo38,cdo38,qfo38,cfo38,vso38,rfl,hH⟩;refine ⟨_,rfl,fun a hF=>JM hF hH ?_⟩;refine JZ ze35 rfl fun g14=>(JN rfl rfl (by first | exact bytesC_one _ | exact intsC_one _ | exact Term.c_one _ | simp [Value.oneCell']) (by simpa [*] using sz35) (by simp [*]) At.z (Jf (Ja (hK8 (Je fun _ hK9 _=>(Jb (Jg (JA rfl At.z (by simpa [*] using ag35)) rfl (Jg (Jc rfl) rfl (Jg (Jc rfl) rfl (Jg (Jc rfl) rfl (Jg (Jc rfl) rfl (Jw fn34 rfl rfl fun w hH=>hH.lend (.s .z) fun Hl1 hle1 hA1 hB1 hH=>hH.lend (.s .z) fun Hl2 hle2 hA2 hB2 hH=>(ProductOfClasses_c ((own_ints hA1).le hle2) (own_forms haf.wfss hA2) (by omega) (by omega) hl6 hi64 hH).mono ?_))))))))))));rintro _ w ⟨qo45,co45,rfl,hH⟩;replace hH:=hB2 _ _ hH;replace hH:=hB1 _ _ hH;refine ⟨_,rfl,fun a hF=>JM hF hH ?_⟩;refine Jg (Jc rfl) rfl (Jg (JR rfl rfl) rfl (Jg (JR rfl rfl) rfl (Jg (Jd rfl) rfl (Jg (Jd rfl) rfl (Jf (Ja (hK9 (Je fun _ hK10 _=>(Je fun _ hK11 _=>(Jb (Jg (Jc rfl) rfl (Jg (Jc rfl) rfl (Jw fn24 rfl rfl fun w hH=>hH.lend (.s (.s .z)) fun Hl1 hle1 hA1 hB1 hH=>hH.lend (.s (.s (.s (.s (.s .z))))) fun Hl2 hle2 hA2 hB2 hH=>(eqInt64S_c ((own_ints hA1).le hle2) (own_ints hA2) (by omega) hH).mono ?_)))))))))))));rintro _ w ⟨rfl,hH⟩;replace hH:=hB2 _ _ hH;replace hH:=hB1 _ _ hH;refine ⟨_,rfl,fun a hF=>JM hF hH ?_⟩;refine Jg (Ej rfl) rfl (Jg (Jc rfl) rfl (Ea (jd:=52) rfl (fun hg52=>?_) (fun hg52=>?_)))
  ·
   try have hg52p:=of_decide_eq_true hg52
   refine JG rfl rfl rfl hg52 (JG rfl rfl rfl hg52 (JG rfl rfl rfl hg52 (Jg (JL rfl hg52 rfl) rfl (Jf (Ja (hK11 (Ep rfl (Je fun _ hK12 _=>(Jb (Jg (Jd rfl) rfl (Jf (Ja (hK12 (Jr (Jm (Jq rfl (Res.tmp rfl) fun w hH=>?_))))))))))))))));replace hH:=hH.tail;replace hH:=hH.tail;replace hH:=hH.tail;replace hH:=hH.tail;replace hH:=hH.tail;replace hH:=hH.tail;replace hH:=hH.tail;replace hH:=hH.tail
   first | exact ⟨rfl,hH.below⟩ | exact absurd rfl hg52p | exact absurd rfl hg52 | (exfalso;omega) | (simp at hg52;done)
  ·
   try have hg52p:=of_decide_eq_false hg52
   refine JV (Jc rfl) rfl rfl rfl hg52 (JV (Jc rfl) rfl rfl rfl hg52 (JV (Em rfl rfl) rfl rfl rfl hg52 (Jg (JW rfl hg52 rfl) rfl (Jf (Ja (hK11 (Jp rfl (fun hc56=>?_) (fun hc56=>?_))))))))
   ·
    refine Je fun _ hK13 _=>(Jb (Jg (Jd rfl) rfl (Jf (Ja (hK13 (Jr (Jm (Jq rfl (Res.tmp rfl) fun w hH=>?_))))))));replace hH:=hH.tail;replace hH:=hH.tail;replace hH:=hH.tail;replace hH:=hH.tail;replace hH:=hH.tail;replace hH:=hH.tail;replace hH:=hH.tail;replace hH:=hH.tail
    first | exact ⟨rfl,hH.below⟩ | exact absurd rfl hc56p | exact absurd rfl hc56 | (exfalso;omega) | (simp at hc56;done)
   ·
    refine Jn (Ja (hK10 (Je fun _ hK14 _=>(Je fun _ hK15 _=>(El (Rs:=[_,_,_,_,_,_,_,_]) 5 [[], [], [1], [0,1,2], [0,1,2,3]] [[9], [12], [], [2,7,8], []] [[], [], [], [], []] rfl rfl (by kernel_rfl) ?_)))));apply Jo 1 rfl
    iterate 3 focus (intros;(conv=>lhs;simp only [Jh,Jt,JT,Ju,JJ,eq_self,Nat.reduceEqDiff,reduceIte,Nat.reduceSub,Nat.reduceAdd,List.cons_append,List.nil_append]);all_goals rfl)
    ·
     intro gh X K zq zc zq2 zc2 zb zv hK;refine Jg (JA rfl At.z (by simpa [*] using ag35)) rfl (Ji ?_);exact hK zq zc zq2 zc2 zb zv
    ·
     intro gh gh' h
     rfl
    apply Jo 2 rfl
    iterate 3 focus (intros;(conv=>lhs;simp only [Jh,Jt,JT,Ju,JJ,eq_self,Nat.reduceEqDiff,reduceIte,Nat.reduceSub,Nat.reduceAdd,List.cons_append,List.nil_append]);all_goals rfl)
    ·
     intro gh X K zq zc zq2 zc2 zb zv hK;refine Jg (JA rfl At.z (by simpa [*] using ag25)) rfl (Ji ?_);exact hK zq zc zq2 zc2 zb zv
    ·
     intro gh gh' h
     rfl
    apply GJ.st2 3 rfl
    iterate 3 focus (intros;(conv=>lhs;simp only [Jh,Jt,JT,Ju,JJ,eq_self,Nat.reduceEqDiff,reduceIte,Nat.reduceSub,Nat.reduceAdd,List.cons_append,List.nil_append]);all_goals rfl)
    ·
     intro gh X K zq zc zq2 zc2 zb zv hK;refine Jw fn17 rfl rfl fun w hH=>(toAlgebra_c had haf (by omega) hl6 hH).mono ?_;rintro _ w ⟨qdo59,cdo59,qfo59,cfo59,vso59,rfl,hH⟩;refine ⟨_,rfl,fun a hF=>JM hF hH ?_⟩;refine Ji ?_;exact hK qdo59 cdo59 qfo59 cfo59 zb vso59
    ·
     intro gh gh' h;refine ⟨?_,?_,?_⟩ <;> rfl
    apply Jo 4 rfl
    iterate 3 focus (intros;(conv=>lhs;simp only [Jh,Jt,JT,Ju,JJ,eq_self,Nat.reduceEqDiff,reduceIte,Nat.reduceSub,Nat.reduceAdd,List.cons_append,List.nil_append]);all_goals rfl)
    ·
     intro gh X K zq zc zq2 zc2 zb zv hK;refine Jw fn20 rfl rfl fun w hH=>hH.lend (.s (.s .z)) fun Hl1 hle1 hA1 hB1 hH=>hH.lend (.s (.s .z)) fun Hl2 hle2 hA2 hB2 hH=>hH.lend .z fun Hl3 hle3 hA3 hB3 hH=>hH.lend .z fun Hl4 hle4 hA4 hB4 hH=>(eqAlgebra_c ((((own_ints hA1).le hle2).le hle3).le hle4) (((own_forms haf.wfss hA2).le hle3).le hle4) ((own_ints hA3).le hle4) (own_forms haf.wfss hA4) (by omega) (by omega) hl hH).mono ?_;rintro _ w ⟨rfl,hH⟩;replace hH:=hB4 _ _ hH;replace hH:=hB3 _ _ hH;replace hH:=hB2 _ _ hH;replace hH:=hB1 _ _ hH;refine ⟨_,rfl,fun a hF=>JM hF hH ?_⟩;refine Jy (.s .z) (Jy (.s .z) (Jy (.s (.s (.s .z))) (Jy (.s (.s (.s .z))) (Ji ?_))));exact hK zq zc zq2 zc2 zb zv
    ·
     intro gh gh' h
     first | simp only [h 2 rfl] | rfl
    apply Jo 5 rfl
    iterate 3 focus (intros;(conv=>lhs;simp only [Jh,Jt,JT,Ju,JJ,eq_self,Nat.reduceEqDiff,reduceIte,Nat.reduceSub,Nat.reduceAdd,List.cons_append,List.nil_append]);all_goals rfl)
    ·
     intro gh X K zq zc zq2 zc2 zb zv hK;refine Jg (Ej rfl) rfl (Ji ?_);exact hK zq zc zq2 zc2 zb zv
    ·
     intro gh gh' h
     first | simp only [h 2 rfl] | rfl
    apply Ek [0,1,2,3,4] [0,1,2,3,4,5,6,7,8,9,10,11,12] foll0 rfl rfl rfl (by rfl)
    iterate 2 focus (intros;(conv=>lhs;simp only [Jh,Jt,JT,Ju,JJ,eq_self,Nat.reduceEqDiff,reduceIte,Nat.reduceSub,Nat.reduceAdd,List.cons_append,List.nil_append]);all_goals rfl)
    intro gh;generalize (gh 2).c=cdo59;generalize (gh 2).c2=cfo59;generalize (gh 2).q=qdo59;generalize (gh 2).q2=qfo59;generalize (gh 2).vs=vso59;clear gh;refine Ja (hK15 (Ei rfl (fun hc61=>?_) (fun hc61=>?_)))
    ·
     refine Je fun _ hK16 _=>(Jb (Jg (Jd rfl) rfl (Jf (Ja (hK16 (Jr (Jm (Jq rfl (Res.tmp rfl) fun w hH=>?_))))))));replace hH:=hH.tail;replace hH:=hH.tail;replace hH:=hH.tail;replace hH:=hH.tail;replace hH:=hH.tail;replace hH:=hH.tail;replace hH:=hH.tail;replace hH:=hH.tail;replace hH:=hH.tail;replace hH:=hH.tail
     first | exact ⟨rfl,hH.below⟩ | exact absurd rfl hc61p | exact absurd rfl hc61 | (exfalso;omega) | (simp at hc61;done)
    ·
     refine Jn (Ja (hK14 (Je fun _ hK17 _=>(Jb (Jg (Jd rfl) rfl (Jf (Ja (hK17 (Je fun _ hK18 _=>(Jb (Jg (JA rfl (.s (.s (.s (.s (.s (.s .z)))))) (by simpa [*] using ag35)) rfl (Jg (Jc rfl) rfl (Jw fn25 rfl rfl fun w hH=>(markAlgebra_c (by omega) (by omega) ((hH.front (.s (.s (.s (.s (.s .z)))))).front (.s (.s (.s (.s (.s .z))))))).mono ?_)))))))))))));rintro _ w ⟨rfl,hH⟩;refine ⟨_,rfl,fun a hF=>JM hF hH ?_⟩;refine Jg (Jd rfl) rfl (Jf (Ja (hK18 (Je fun _ hK19 _=>(Je fun _ hK20 _=>(Jb (Jg (Jc rfl) rfl (Jg (JK rfl rfl) rfl (Jg (Jc rfl) rfl (Ea (jd:=67) rfl (fun hg67=>?_) (fun hg67=>?_)))))))))))
     ·
      try have hg67p:=of_decide_eq_true hg67
      refine JG rfl rfl rfl hg67 (JG rfl rfl rfl hg67 (JG rfl rfl rfl hg67 (JG rfl rfl rfl hg67 (Jg (JL rfl hg67 rfl) rfl (Jg (Jc rfl) rfl (JG rfl rfl rfl rfl (JG rfl rfl rfl rfl (JG rfl rfl rfl rfl (Jg (JL rfl rfl rfl) rfl (Jf (Ja (hK20 (Ep rfl (Je fun _ hK21 _=>(Jb ?_)))))))))))))));refine Jg (Jd rfl) rfl (Jf (Ja (hK21 (Jr (Jm (Jq rfl (Res.tmp rfl) fun w hH=>?_))))));replace hH:=hH.tail;replace hH:=hH.tail;replace hH:=hH.tail;replace hH:=hH.tail;replace hH:=hH.tail;replace hH:=hH.tail;replace hH:=hH.tail;replace hH:=hH.tail;replace hH:=hH.tail;replace hH:=hH.tail
      first | exact ⟨rfl,hH.below⟩ | exact absurd rfl hg67p | exact absurd rfl hg67 | (exfalso;omega) | (simp at hg67;done)
     ·
      try have hg67p:=of_decide_eq_false hg67
      refine JV (Jc rfl) rfl rfl rfl hg67 (JV (Jc rfl) rfl rfl rfl hg67 (ED fn24 rfl rfl hg67 rfl rfl fun w hH=>hH.lend (.s (.s (.s (.s .z)))) fun Hl1 hle1 hA1 hB1 hH=>hH.lend (.s (.s (.s (.s .z)))) fun Hl2 hle2 hA2 hB2 hH=>(eqInt64S_c ((own_ints hA1).le hle2) (own_ints hA2) (by omega) hH).mono ?_));rintro _ w ⟨rfl,hH⟩;replace hH:=hB2 _ _ hH;replace hH:=hB1 _ _ hH;refine ⟨_,rfl,fun a hF=>JM hF hH ?_⟩;refine JV (Ej rfl) rfl rfl rfl hg67 (Jg (JW rfl hg67 rfl) rfl (Jg (Jc rfl) rfl (Ea (jd:=73) rfl (fun hg73=>?_) (fun hg73=>?_))))
      ·
       try have hg73p:=of_decide_eq_true hg73
       refine JG rfl rfl rfl hg73 (JG rfl rfl rfl hg73 (JG rfl rfl rfl hg73 (Jg (JL rfl hg73 rfl) rfl (Jf (Ja (hK20 (Ep rfl (Je fun _ hK22 _=>(Jb (Jg (Jd rfl) rfl (Jf (Ja (hK22 (Jr (Jm (Jq rfl (Res.tmp rfl) fun w hH=>?_))))))))))))))));replace hH:=hH.tail;replace hH:=hH.tail;replace hH:=hH.tail;replace hH:=hH.tail;replace hH:=hH.tail;replace hH:=hH.tail;replace hH:=hH.tail;replace hH:=hH.tail;replace hH:=hH.tail;replace hH:=hH.tail
       first | exact ⟨rfl,hH.below⟩ | exact absurd rfl hg73p | exact absurd rfl hg73 | (exfalso;omega) | (simp at hg73;done)
      ·
       try have hg73p:=of_decide_eq_false hg73
       refine JV (Jc rfl) rfl rfl rfl hg73 (JV (Jc rfl) rfl rfl rfl hg73 (JV (Em rfl rfl) rfl rfl rfl hg73 (Jg (JW rfl hg73 rfl) rfl (Jf (Ja (hK20 (Jp rfl (fun hc77=>?_) (fun hc77=>?_))))))))
       ·
        refine Je fun _ hK23 _=>(Jb (Jg (Jd rfl) rfl (Jf (Ja (hK23 (Jr (Jm (Jq rfl (Res.tmp rfl) fun w hH=>?_))))))));replace hH:=hH.tail;replace hH:=hH.tail;replace hH:=hH.tail;replace hH:=hH.tail;replace hH:=hH.tail;replace hH:=hH.tail;replace hH:=hH.tail;replace hH:=hH.tail;replace hH:=hH.tail;replace hH:=hH.tail
        first | exact ⟨rfl,hH.below⟩ | exact absurd rfl hc77p | exact absurd rfl hc77 | (exfalso;omega) | (simp at hc77;done)
       ·
        refine Jn (Ja (hK19 (Je fun _ hK24 _=>(Jb (Jg (Jd rfl) rfl (Jf (Ja (hK24 (Je fun _ hK25 _=>(Jb (Jg (Jc rfl) rfl (Jg (Jc rfl) rfl (Jw fn26 rfl rfl fun w hH=>(markInt64S_c (by omega) (hH.front .z)).mono ?_)))))))))))));rintro _ w ⟨rfl,hH⟩;refine ⟨_,rfl,fun a hF=>JM hF hH ?_⟩;refine Jg (Jd rfl) rfl (Jf (Ja (hK25 (Je fun _ hK26 _=>(Jb (Jg (Jd rfl) rfl (Jf (Ja (hK26 (Je fun _ hK27 _=>(Jb (Jg (Jc rfl) rfl (Jg (Jc rfl) rfl (Jw fn27 rfl rfl fun w hH=>hH.lend .z fun Hl1 hle1 hA1 hB1 hH=>(heldInt64S_c (own_mints hA1) (by omega) hH).mono ?_))))))))))))));rintro _ w ⟨rfl,hH⟩;replace hH:=hB1 _ _ hH;refine ⟨_,rfl,fun a hF=>JM hF hH ?_⟩;refine Jg (Jd rfl) rfl (Jf (Ja (hK27 (Je fun _ hK28 _=>(Je fun _ hK29 _=>(Jb (Jg (Jc rfl) rfl (Jg (JK rfl rfl) rfl (Jf (Ja (hK29 (Jp rfl (fun hc85=>?_) (fun hc85=>?_)))))))))))))
        ·
         refine Je fun _ hK30 _=>(Jb (Jg (Jd rfl) rfl (Jf (Ja (hK30 (Jr (Jm (Jq rfl (Res.tmp rfl) fun w hH=>?_))))))));replace hH:=hH.tail;replace hH:=hH.tail;replace hH:=hH.tail;replace hH:=hH.tail;replace hH:=hH.tail;replace hH:=hH.tail;replace hH:=hH.tail;replace hH:=hH.tail;replace hH:=hH.tail;replace hH:=hH.tail
         first | exact ⟨rfl,hH.below⟩ | exact absurd rfl hc85p | exact absurd rfl hc85 | (exfalso;omega) | (simp at hc85;done)
        ·
         refine Jn (Ja (hK28 (Je fun _ hK31 _=>(Je fun _ hK32 _=>(Jb (Jg (Jc rfl) rfl (Jg (Jc rfl) rfl (Jg (Em rfl rfl) rfl (Jf (Ja (hK32 (Jp rfl (fun hc88=>?_) (fun hc88=>?_)))))))))))))
         ·
          refine Je fun _ hK33 _=>(Jb (Jg (Jd rfl) rfl (Jf (Ja (hK33 (Jr (Jm (Jq rfl (Res.tmp rfl) fun w hH=>?_))))))));replace hH:=hH.tail;replace hH:=hH.tail;replace hH:=hH.tail;replace hH:=hH.tail;replace hH:=hH.tail;replace hH:=hH.tail;replace hH:=hH.tail;replace hH:=hH.tail;replace hH:=hH.tail;replace hH:=hH.tail
          first | exact ⟨rfl,hH.below⟩ | exact absurd rfl hc88p | exact absurd rfl hc88 | (exfalso;omega) | (simp at hc88;done)
         ·
          refine Jn (Ja (hK31 (Je fun _ hK34 _=>(Jb (Jg (JA rfl (.s (.s (.s (.s (.s (.s (.s (.s (.s .z))))))))) (by simpa [*] using ag25)) rfl (Jw fn17 rfl rfl fun w hH=>(toAlgebra_c had haf (by omega) hl6 hH).mono ?_))))));rintro _ w ⟨qdo91,cdo91,qfo91,cfo91,vso91,rfl,hH⟩;refine ⟨_,rfl,fun a hF=>JM hF hH ?_⟩;refine Jg (Jc rfl) rfl (Jg (Jc rfl) rfl (Jg (Jc rfl) rfl (Jg (Jc rfl) rfl (Jw fn34 rfl rfl fun w hH=>hH.lend .z fun Hl1 hle1 hA1 hB1 hH=>hH.lend .z fun Hl2 hle2 hA2 hB2 hH=>(ProductOfClasses_c ((own_ints hA1).le hle2) (own_forms haf.wfss hA2) (by omega) (by omega) hl6 hi64 hH).mono ?_))));rintro _ w ⟨qo96,co96,rfl,hH⟩;replace hH:=hB2 _ _ hH;replace hH:=hB1 _ _ hH;refine ⟨_,rfl,fun a hF=>JM hF hH ?_⟩;refine Jg (Jc rfl) rfl (Jg (JR rfl rfl) rfl (Jg (JR rfl rfl) rfl (Jg (Jd rfl) rfl (Jg (Jd rfl) rfl (Jf (Ja (hK34 (Je fun _ hK35 _=>(Je fun _ hK36 _=>(Jb (Jg (Jc rfl) rfl (Jg (Jc rfl) rfl (Jw fn24 rfl rfl fun w hH=>hH.lend (.s (.s .z)) fun Hl1 hle1 hA1 hB1 hH=>hH.lend (.s (.s (.s .z))) fun Hl2 hle2 hA2 hB2 hH=>(eqInt64S_c ((own_ints hA1).le hle2) (own_ints hA2) (by omega) hH).mono ?_)))))))))))));rintro _ w ⟨rfl,hH⟩;replace hH:=hB2 _ _ hH;replace hH:=hB1 _ _ hH;refine ⟨_,rfl,fun a hF=>JM hF hH ?_⟩;refine Jg (Ej rfl) rfl (Jg (Jc rfl) rfl (Ea (jd:=103) rfl (fun hg103=>?_) (fun hg103=>?_)))
          ·
           try have hg103p:=of_decide_eq_true hg103
           refine JG rfl rfl rfl hg103 (JG rfl rfl rfl hg103 (JG rfl rfl rfl hg103 (Jg (JL rfl hg103 rfl) rfl (Jf (Ja (hK36 (Ep rfl (Je fun _ hK37 _=>(Jb (Jg (Jd rfl) rfl (Jf (Ja (hK37 (Jr (Jm (Jq rfl (Res.tmp rfl) fun w hH=>?_))))))))))))))));replace hH:=hH.tail;replace hH:=hH.tail;replace hH:=hH.tail;replace hH:=hH.tail;replace hH:=hH.tail;replace hH:=hH.tail;replace hH:=hH.tail;replace hH:=hH.tail;replace hH:=hH.tail;replace hH:=hH.tail;replace hH:=hH.tail;replace hH:=hH.tail;replace hH:=hH.tail
           first | exact ⟨rfl,hH.below⟩ | exact absurd rfl hg103p | exact absurd rfl hg103 | (exfalso;omega) | (simp at hg103;done)
          ·
           try have hg103p:=of_decide_eq_false hg103
           refine JV (Jc rfl) rfl rfl rfl hg103 (JV (Jc rfl) rfl rfl rfl hg103 (JV (Em rfl rfl) rfl rfl rfl hg103 (Jg (JW rfl hg103 rfl) rfl (Jf (Ja (hK36 (Jp rfl (fun hc107=>?_) (fun hc107=>?_))))))))
           ·
            refine Je fun _ hK38 _=>(Jb (Jg (Jd rfl) rfl (Jf (Ja (hK38 (Jr (Jm (Jq rfl (Res.tmp rfl) fun w hH=>?_))))))));replace hH:=hH.tail;replace hH:=hH.tail;replace hH:=hH.tail;replace hH:=hH.tail;replace hH:=hH.tail;replace hH:=hH.tail;replace hH:=hH.tail;replace hH:=hH.tail;replace hH:=hH.tail;replace hH:=hH.tail;replace hH:=hH.tail;replace hH:=hH.tail;replace hH:=hH.tail
            first | exact ⟨rfl,hH.below⟩ | exact absurd rfl hc107p | exact absurd rfl hc107 | (exfalso;omega) | (simp at hc107;done)
           ·
            refine Jn (Ja (hK35 (Je fun _ hK39 _=>(Jb (Jg (Jd rfl) rfl (Jf (Ja (hK39 (Je fun _ hK40 _=>(Jb (Jg (Jc rfl) rfl (Jg (Jc rfl) rfl (Jw fn27 rfl rfl fun w hH=>hH.lend (.s (.s (.s (.s .z)))) fun Hl1 hle1 hA1 hB1 hH=>(heldInt64S_c (own_mints hA1) (by omega) hH).mono ?_)))))))))))));rintro _ w ⟨rfl,hH⟩;replace hH:=hB1 _ _ hH;refine ⟨_,rfl,fun a hF=>JM hF hH ?_⟩;refine Jg (Jd rfl) rfl (Jf (Ja (hK40 (Je fun _ hK41 _=>(Je fun _ hK42 _=>(Jb (Jg (Jc rfl) rfl (Jg (JK rfl rfl) rfl (Jf (Ja (hK42 (Jp rfl (fun hc112=>?_) (fun hc112=>?_)))))))))))))
            ·
             refine Je fun _ hK43 _=>(Jb (Jg (Jd rfl) rfl (Jf (Ja (hK43 (Jr (Jm (Jq rfl (Res.tmp rfl) fun w hH=>?_))))))));replace hH:=hH.tail;replace hH:=hH.tail;replace hH:=hH.tail;replace hH:=hH.tail;replace hH:=hH.tail;replace hH:=hH.tail;replace hH:=hH.tail;replace hH:=hH.tail;replace hH:=hH.tail;replace hH:=hH.tail;replace hH:=hH.tail;replace hH:=hH.tail;replace hH:=hH.tail
             first | exact ⟨rfl,hH.below⟩ | exact absurd rfl hc112p | exact absurd rfl hc112 | (exfalso;omega) | (simp at hc112;done)
            ·
             refine Jn (Ja (hK41 (Je fun _ hK44 _=>(Je fun _ hK45 _=>(Jb (Jg (Jc rfl) rfl (Jg (Jc rfl) rfl (Jg (Em rfl rfl) rfl (Jf (Ja (hK45 (Jp rfl (fun hc115=>?_) (fun hc115=>?_)))))))))))))
             ·
              refine Je fun _ hK46 _=>(Jb (Jg (Jd rfl) rfl (Jf (Ja (hK46 (Jr (Jm (Jq rfl (Res.tmp rfl) fun w hH=>?_))))))));replace hH:=hH.tail;replace hH:=hH.tail;replace hH:=hH.tail;replace hH:=hH.tail;replace hH:=hH.tail;replace hH:=hH.tail;replace hH:=hH.tail;replace hH:=hH.tail;replace hH:=hH.tail;replace hH:=hH.tail;replace hH:=hH.tail;replace hH:=hH.tail;replace hH:=hH.tail
              first | exact ⟨rfl,hH.below⟩ | exact absurd rfl hc115p | exact absurd rfl hc115 | (exfalso;omega) | (simp at hc115;done)
             ·
              refine Jn (Ja (hK44 (Je fun _ hK47 _=>(Jb (Jg (Jd rfl) rfl (Jf (Ja (hK47 (Jr (Jq rfl (Res.tmp rfl) fun w hH=>?_))))))))));replace hH:=hH.tail;replace hH:=hH.tail;replace hH:=hH.tail;replace hH:=hH.tail;replace hH:=hH.tail;replace hH:=hH.tail;replace hH:=hH.tail;replace hH:=hH.tail;replace hH:=hH.tail;replace hH:=hH.tail;replace hH:=hH.tail;replace hH:=hH.tail;replace hH:=hH.tail
              first | exact ⟨rfl,hH.below⟩ | exact absurd rfl hc115p | exact absurd rfl hc115 | (exfalso;omega) | (simp at hc115;done)
end Go.Proofs.YthenedanhcnccaaGreat.G
namespace Go.Proofs.YthenedanhcnccaaGreat.fnExactProductOfClasses
open Go.ChangeShapes Go.WideShapes Go.ChangeAt Go.RowKit
open Go.Proofs.YthenedanhcnccaaGreat.G
theorem u25:Tryz.prog.underlying 25=some (TypeDesc.struct #[{name:="Degrees",type:=22,offset:=0,embedded:=false,tag:="",pkgPath:="",byteOffset:=0},{name:="Images",type:=23,offset:=1,embedded:=false,tag:="",pkgPath:="",byteOffset:=24}]):=by kernel_rfl
theorem u22:Tryz.prog.underlying 22=some (TypeDesc.slice 2):=by kernel_rfl
theorem u2:Tryz.prog.underlying 2=some (TypeDesc.int .i64):=by kernel_rfl
theorem u23:Tryz.prog.underlying 23=some (TypeDesc.slice 28):=by kernel_rfl
theorem u28:Tryz.prog.underlying 28=some (TypeDesc.struct #[{name:="Terms",type:=26,offset:=0,embedded:=false,tag:="",pkgPath:="",byteOffset:=0}]):=by kernel_rfl
theorem u26:Tryz.prog.underlying 26=some (TypeDesc.slice 155):=by kernel_rfl
theorem u155:Tryz.prog.underlying 155=some (TypeDesc.struct #[{name:="Monomial",type:=149,offset:=0,embedded:=false,tag:="",pkgPath:="",byteOffset:=0},{name:="Factor",type:=2,offset:=8,embedded:=false,tag:="",pkgPath:="",byteOffset:=8}]):=by kernel_rfl
theorem u149:Tryz.prog.underlying 149=some (TypeDesc.array 8 5):=by kernel_rfl
theorem u5:Tryz.prog.underlying 5=some (TypeDesc.int .u8):=by kernel_rfl
theorem u4:Tryz.prog.underlying 4=some (TypeDesc.bool):=by kernel_rfl
theorem own:ownKnob Tryz.prog.godebug=none:=by kernel_rfl
theorem lifted (os:Os) (started:os.Started) (H:Type) (enc:TypeId × Value→H):ReturnsInHanded {} Tryz.checked os 7 .any (Rows.fnExactProductOfClassesSpec.pre6 enc Tryz.prog Tryz.f7 Rows.fnExactProductOfClassesRow.domain false) (Rows.fnExactProductOfClassesSpec.post enc Tryz.prog Tryz.f7 false true false false):=by
 refine returnsInHanded_of_change_sized (C:=Tryz.checked) own started (by kernel_rfl) Tryz.func7
  (ChangeSpec.witness6 (enc:=enc) (C:=Tryz.checked) false ⟨#[],#[.agg #[.slice none 0 0,.slice none 0 0],.int .i64 0,.int .i64 0,.int .i64 0,.int .i64 0], []⟩ 12 (by kernel_rfl) (by kernel_rfl) (by kernel_rfl) (by kernel_rfl)) ?_
 intro W base args ds gs before hval0 hW hcnd hsz0 _;have hval : ∀(j:Nat) t v,Tryz.f7.params[j]? = some t→args[j]? = some v→Value.okWide Tryz.prog W .any base t v:=hval0;have hW':=hW;obtain ⟨p,q,hA0,hV,rfl,hfz,hnd⟩:=hW;have hA:DataW.TrodAll enc Tryz.prog W 0 (fun _=>true) true Tryz.f7.params.toList args.toList ds p:=hA0;rw [Tryz.params7] at hA hval;obtain ⟨v0,JT,d0,ds0,p0,q0,hargs,rfl,rfl,h0,r0⟩:=trodAll_cons hA;obtain ⟨v1,vs1,d1,ds1,p1,q1,rfl,rfl,rfl,h1,r1⟩:=trodAll_cons r0;obtain ⟨v2,vs2,d2,ds2,p2,q2,rfl,rfl,rfl,h2,r2⟩:=trodAll_cons r1;obtain ⟨v3,vs3,d3,ds3,p3,q3,rfl,rfl,rfl,h3,r3⟩:=trodAll_cons r2;obtain ⟨v4,vs4,d4,ds4,p4,q4,rfl,rfl,rfl,h4,r4⟩:=trodAll_cons r3;obtain ⟨rfl,rfl,rfl⟩:=trodAll_nil r4
 obtain rfl:args = #[v0,v1,v2,v3,v4]:=by cases args;simp_all
 obtain ⟨rfl,rfl⟩:=trodVars_none hV;obtain ⟨q0d,c0d,ds0,q0f,c0f,fs0,rfl,X0,F0,le0,fl0⟩:=openV_alg u25 rfl rfl rfl rfl (by kernel_rfl) (by kernel_rfl) (by kernel_rfl) u22 u2 (by kernel_rfl) u23 (by kernel_rfl) (fun n l y hy=>tr_form u28 rfl rfl (by kernel_rfl) (by kernel_rfl) u26 (by kernel_rfl) u155 rfl rfl rfl rfl u149 u5 (by kernel_rfl) (by kernel_rfl) u2 (by kernel_rfl) hy) (hval 0 25 v0 rfl rfl) h0;obtain ⟨a1,rfl,lo1,hi1⟩:=openV_int u2 (hval 1 2 v1 rfl rfl) h1;obtain ⟨a2,rfl,lo2,hi2⟩:=openV_int u2 (hval 2 2 v2 rfl rfl) h2;obtain ⟨a3,rfl,lo3,hi3⟩:=openV_int u2 (hval 3 2 v3 rfl rfl) h3;obtain ⟨a4,rfl,lo4,hi4⟩:=openV_int u2 (hval 4 2 v4 rfl rfl) h4;clear hA0 hval0 hsz0;refine ((lawProductOfClasses_c X0 F0 le0 fl0 ⟨lo2,hi2,lo4,hi4⟩ (Hp.start (H:=hp W) fun _ _ h=>h)).mono fun e W' ⟨he,bel⟩=>?_);subst he;exact ⟨_,rfl,law_post (f:=Tryz.f7) (by kernel_rfl) (by kernel_rfl) rfl rfl u4 rfl hW' bel⟩
theorem joined:joinedFacts Tryz.prog 7 Tryz.f7 Rows.fnExactProductOfClassesSpec Rows.fnExactProductOfClassesRow=true:=by
 unfold joinedFacts;simp only [Bool.and_eq_true]
 repeat' apply And.intro
 all_goals first
  | with_reducible exact Facts.fEnter
  | with_reducible exact Facts.fLaid
  | with_reducible exact Facts.fMaps
  | with_reducible exact Facts.fHeard
  | (rw [Facts.fMake];rfl)
  | (rw [Facts.fLift];rfl)
  | (rw [Facts.fKeys];rfl)
  | (rw [Facts.fStops];rfl)
  | (rw [Facts.fStopK];rfl)
  | as_aux_lemma=>kernel_rfl
theorem over:Rows.fnExactProductOfClassesRow.holds Tryz.pinned (OpenSpec.ofChange Rows.fnExactProductOfClassesSpec):=
 OpenClaim.holds_of_wide 7 Tryz.f7 rfl rfl rfl rfl rfl rfl rfl ⟨rfl,rfl,rfl,rfl,rfl⟩ rfl rfl rfl rfl rfl (by as_aux_lemma=>kernel_rfl) Tryz.func7 joined
  (of_decide_eq_true (by as_aux_lemma=>kernel_rfl)) (by unfold Func.isWrapper;first | (rw [if_pos (by decide +kernel)];kernel_rfl) | (rw [if_neg (by decide +kernel)];exact ⟨rfl,rfl⟩))
  (fun os started H enc _=>lifted os started H enc)
theorem proved:Rows.FnExactProductOfClassesSaid:=over
#print axioms proved
end Go.Proofs.YthenedanhcnccaaGreat.fnExactProductOfClasses
namespace Go.Proofs.YthenedanhcnccaaGreat
theorem fnExactProductOfClasses_holds:Rows.FnExactProductOfClassesSaid:=fnExactProductOfClasses.proved
end Go.Proofs.YthenedanhcnccaaGreat
