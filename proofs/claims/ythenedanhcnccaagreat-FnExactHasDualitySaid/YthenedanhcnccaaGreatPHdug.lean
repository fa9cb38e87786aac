/- A part of the walk of one law: what the functions compute. No condition. -/
import Derived.Test.YthenedanhcnccaaGreatRows
import Derived.Test.YthenedanhcnccaaGreatProg
import Derived.WalkKit
import Derived.KernelRfl
import Derived.JoinedOf
import Derived.Maps.AppendAt
import Derived.Still
import Derived.ProofKit
import Derived.OpenShut
import Derived.StillTail
import Derived.Deep.Upon
import Derived.WalkSpells
import Derived.Maps.Range
import Derived.DeepKeys4
import Derived.Maps.Keyed
import Derived.ChangeOld
import Derived.Below
import Derived.SizedLaws
import Derived.Test.YthenedanhcnccaaGreatPHduf
set_option linter.unusedVariables false
set_option linter.unusedSimpArgs false
set_option maxRecDepth 10000
set_option maxHeartbeats 8000000
namespace Go.Proofs.YthenedanhcnccaaGreat.G
open Go Go.RowKit
theorem fn110:Fn Tryz.prog 110:=⟨_,Tryz.func110,by kernel_rfl,rfl⟩
theorem mon_mn {ds:List Int} {n:Int} {m:Nat} (h8:ds.length≤8) : ∀p∈(monS ds n).take m,Mono p:=fun p hp=>(mon_pok h8 (List.mem_of_mem_take hp)).mn (by omega)
theorem monL_mn {ds:List Int} {n:Int} (h8:ds.length≤8) : ∀p∈monL ds n,Mono p:=mon_mn h8
theorem monT_8 {ds:List Int} {n:Int} (h8:ds.length≤8) : ∀p∈monT ds n,p.length=8:=mon_8 h8
theorem mon_srt (ds:List Int) (n:Int) (h8:ds.length≤8):(monS ds n).Pairwise fun p q=>before p q=true:=enumF_srt (by omega) rfl
theorem monL_srt (ds:List Int) (n:Int) (h8:ds.length≤8):(monL ds n).Pairwise fun p q=>before p q=true:=(mon_srt ds n h8).sublist (List.take_sublist _ _)
theorem monT_L {ds:List Int} {n:Int} (h:fitB ds n=true):monT ds n=monL ds n:=by rw [monT_eq h,monL_fit h]
theorem mon_one {p:Pw}:toS (ofS (addS [] p 1))=[(p,1)]:=by rw [toS_ofS,addS_one]
theorem dS_one {ds:List Int} {fs:List (List Term)} (hA:AlgOk ds fs) (h8:ds.length≤8) (hd : ∀j,j<ds.length→1≤ds.getD j 0∧ds.getD j 0≤12) {n:Int} {p:Pw} (hp:p∈monS ds n):Sok 60 (dS ds fs [(p,1)]):=
 dS_sok (ds:=ds) (Sok.one (k:=1) (mon_pok h8 hp) (by omega)) hA.fok (mon_occ h8 hp hd hA.hl)
theorem dS_one_len {ds:List Int} {fs:List (List Term)} (hA:AlgOk ds fs) (h8:ds.length≤8) (hd : ∀j,j<ds.length→1≤ds.getD j 0∧ds.getD j 0≤12) {n:Int} {p:Pw} (hp:p∈monS ds n):(dS ds fs [(p,1)]).length≤80000:=by
 have h1:=dAll_len (ds:=ds) hA.len (mon_occ h8 hp hd hA.hl);have h2:=acc_len (dAll ds fs [(p,1)]) [];simp only [List.length_cons,List.length_nil] at h1 h2;unfold dS
 omega
theorem dS_vec {ds:List Int} {fs:List (List Term)} {n:Int} (hA:AlgOk ds fs) (h8:ds.length≤8) (hd : ∀j,j<ds.length→1≤ds.getD j 0∧ds.getD j 0≤12) (hom:Hom1 ds fs n) {k:Nat} (hk:k<(monL ds n).length):vec (ofS (dS ds fs [(rw_ (monL ds n) k,1)])) (monL ds (n+1))=(monL ds (n+1)).map (cf (dS ds fs [(rw_ (monL ds n) k,1)])):=by
 have h:=vec_cf (ps:=monL ds (n+1)) (f:=ofS (dS ds fs [(rw_ (monL ds n) k,1)])) (by rw [toS_ofS];exact (dS_one hA h8 hd (monL_mem hk)).srt) (monL_srt ds (n+1) h8) (by rw [toS_ofS];exact hom _ (rw_mem hk))
 rwa [toS_ofS] at h
theorem l03Matrix_c {B:World} {H0 H:HP} {L:List SA} {w:World} {qad qaf:Option Addr} {cad caf:Nat} {ad:List Int} {af:List (List Term)} {n:Int} (had:Ints H qad ad) (haf:Forms H qaf af) (hd : ∀j,j<ad.length→1≤ad.getD j 0∧ad.getD j 0≤12) (h8:ad.length≤8) (hn : -1≤n∧n≤100000) (hA:AlgOk ad af) (hfit:fit2 ad n) (hom:Hom1 ad af n) (hH:Hp B H0 H L w):Calls Tryz.prog 120 [.agg [.slice qad ad.length cad,.slice qaf af.length caf].toArray,.int .i64 n].toArray w fun e w'=>∃H' q c,Le H H' ∧RowsR H' q (matS ad af n)∧(matS ad af n).length≤c∧e = .returned (.slice q (matS ad af n).length c)∧Hp B H0 H' L w':=by
 refine Jy Tryz.func120 rfl 38 rfl rfl [(0,.agg [.slice qad ad.length cad,.slice qaf af.length caf].toArray),(1,.int .i64 n)] rfl hH ?_;have hw0:=hH.old;have hw1:=hH.le;have hmT0:=monT_L hfit.1;have hmT1:=monT_L hfit.2;have hml:=monL_len ad n;have hml1:=monL_len ad (n+1);clear hH;refine Je fun _ hK1 _=>(Jb (Ef rfl rfl rfl fun g2=>(Jg (Jd rfl) rfl (Jf (Ja (hK1 (Je fun _ hK2 _=>(Ei (Rs:=[_]) 13 [[], [0], [], [0,1,2], [], [4], [], [6], [0,1,2,3,4,5,6,7], [], [0,1,2,3,4,5,6,7,8], [0,1,2,3,4,5,6,7,8,10], [0,1,2,3,4,5,6,7,8,9,10,11]] [[], [13], [], [], [], [13], [], [], [], [], [], [], []] [[], [], [], [], [], [], [], [], [], [], [], [], []] rfl rfl (by kernel_rfl) ?_))))))));apply Jk 1 rfl
 iterate 3 focus (intros;(conv=>lhs;simp only [Jh,Jr,JJ,Ju,JI,eq_self,Nat.reduceEqDiff,reduceIte,Nat.reduceSub,Nat.reduceAdd,List.cons_append,List.nil_append]);all_goals rfl)
 ·
  intro gh X K zq zc zq2 zc2 zb zv hK;refine Jg (Jt u35 rfl sz22 rfl) rfl (Ji ?_);exact hK zq zc zq2 zc2 zb zv
 ·
  intro gh gh' h
  rfl
 apply Jk 2 rfl
 iterate 3 focus (intros;(conv=>lhs;simp only [Jh,Jr,JJ,Ju,JI,eq_self,Nat.reduceEqDiff,reduceIte,Nat.reduceSub,Nat.reduceAdd,List.cons_append,List.nil_append]);all_goals rfl)
 ·
  intro gh X K zq zc zq2 zc2 zb zv hK;refine Jg (Jw rfl At.z rfl pl22) rfl (Ji ?_);exact hK zq zc zq2 zc2 zb zv
 ·
  intro gh gh' h
  rfl
 apply Jk 3 rfl
 iterate 3 focus (intros;(conv=>lhs;simp only [Jh,Jr,JJ,Ju,JI,eq_self,Nat.reduceEqDiff,reduceIte,Nat.reduceSub,Nat.reduceAdd,List.cons_append,List.nil_append]);all_goals rfl)
 ·
  intro gh X K zq zc zq2 zc2 zb zv hK;refine Jg (Jc rfl) rfl (Ji ?_);exact hK zq zc zq2 zc2 zb zv
 ·
  intro gh gh' h
  rfl
 apply JX 4 rfl
 iterate 3 focus (intros;(conv=>lhs;simp only [Jh,Jr,JJ,Ju,JI,eq_self,Nat.reduceEqDiff,reduceIte,Nat.reduceSub,Nat.reduceAdd,List.cons_append,List.nil_append]);all_goals rfl)
 ·
  intro gh X K zq zc zq2 zc2 zb zv hK;refine Jx fn66 rfl rfl fun w hH=>(l01Monomials_c had hd h8 (by omega) hH).mono ?_;rintro _ w ⟨qo12,co12,rfl,hH⟩;refine ⟨_,rfl,fun a hF=>JQ hF hH ?_⟩;refine Ji ?_;exact hK qo12 co12 zq2 zc2 zb zv
 ·
  intro gh gh' h;refine ⟨?_,?_⟩ <;> rfl
 apply Jk 5 rfl
 iterate 3 focus (intros;(conv=>lhs;simp only [Jh,Jr,JJ,Ju,JI,eq_self,Nat.reduceEqDiff,reduceIte,Nat.reduceSub,Nat.reduceAdd,List.cons_append,List.nil_append]);all_goals rfl)
 ·
  intro gh X K zq zc zq2 zc2 zb zv hK;refine Jg (Jt u35 rfl sz22 rfl) rfl (Ji ?_);exact hK zq zc zq2 zc2 zb zv
 ·
  intro gh gh' h
  rfl
 apply Jk 6 rfl
 iterate 3 focus (intros;(conv=>lhs;simp only [Jh,Jr,JJ,Ju,JI,eq_self,Nat.reduceEqDiff,reduceIte,Nat.reduceSub,Nat.reduceAdd,List.cons_append,List.nil_append]);all_goals rfl)
 ·
  intro gh X K zq zc zq2 zc2 zb zv hK;refine Jg (Jw rfl At.z rfl pl22) rfl (Ji ?_);exact hK zq zc zq2 zc2 zb zv
 ·
  intro gh gh' h
  rfl
 apply Jk 7 rfl
 iterate 3 focus (intros;(conv=>lhs;simp only [Jh,Jr,JJ,Ju,JI,eq_self,Nat.reduceEqDiff,reduceIte,Nat.reduceSub,Nat.reduceAdd,List.cons_append,List.nil_append]);all_goals rfl)
 ·
  intro gh X K zq zc zq2 zc2 zb zv hK;refine Jg (Jc rfl) rfl (Ji ?_);exact hK zq zc zq2 zc2 zb zv
 ·
  intro gh gh' h
  rfl
 apply Jk 8 rfl
 iterate 3 focus (intros;(conv=>lhs;simp only [Jh,Jr,JJ,Ju,JI,eq_self,Nat.reduceEqDiff,reduceIte,Nat.reduceSub,Nat.reduceAdd,List.cons_append,List.nil_append]);all_goals rfl)
 ·
  intro gh X K zq zc zq2 zc2 zb zv hK;refine Jg (JA rfl rfl (by first | exact nw _ (by omega) | rfl)) rfl (Ji ?_);exact hK zq zc zq2 zc2 zb zv
 ·
  intro gh gh' h
  rfl
 apply JX 9 rfl
 iterate 3 focus (intros;(conv=>lhs;simp only [Jh,Jr,JJ,Ju,JI,eq_self,Nat.reduceEqDiff,reduceIte,Nat.reduceSub,Nat.reduceAdd,List.cons_append,List.nil_append]);all_goals rfl)
 ·
  intro gh X K zq zc zq2 zc2 zb zv hK;refine Jx fn66 rfl rfl fun w hH=>(l01Monomials_c had hd h8 (by omega) hH).mono ?_;rintro _ w ⟨qo17,co17,rfl,hH⟩;refine ⟨_,rfl,fun a hF=>JQ hF hH ?_⟩;refine Ji ?_;exact hK qo17 co17 zq2 zc2 zb zv
 ·
  intro gh gh' h;refine ⟨?_,?_⟩ <;> (first | simp only [h 3 rfl] | rfl)
 apply JX 10 rfl
 iterate 3 focus (intros;(conv=>lhs;simp only [Jh,Jr,JJ,Ju,JI,eq_self,Nat.reduceEqDiff,reduceIte,Nat.reduceSub,Nat.reduceAdd,List.cons_append,List.nil_append]);all_goals rfl)
 ·
  intro gh X K zq zc zq2 zc2 zb zv hK;refine EF (EM u57 sz22) rfl fun qo18 co18=>(Ji ?_);exact hK qo18 co18 zq2 zc2 zb zv
 ·
  intro gh gh' h;refine ⟨?_,?_⟩ <;> rfl
 apply Jk 11 rfl
 iterate 3 focus (intros;(conv=>lhs;simp only [Jh,Jr,JJ,Ju,JI,eq_self,Nat.reduceEqDiff,reduceIte,Nat.reduceSub,Nat.reduceAdd,List.cons_append,List.nil_append]);all_goals rfl)
 ·
  intro gh X K zq zc zq2 zc2 zb zv hK;refine Jg (Jd rfl) rfl (Ji ?_);exact hK zq zc zq2 zc2 zb zv
 ·
  intro gh gh' h
  first | simp only [h 3 rfl,h 8 rfl] | rfl
 apply Jk 12 rfl
 iterate 3 focus (intros;(conv=>lhs;simp only [Jh,Jr,JJ,Ju,JI,eq_self,Nat.reduceEqDiff,reduceIte,Nat.reduceSub,Nat.reduceAdd,List.cons_append,List.nil_append]);all_goals rfl)
 ·
  intro gh X K zq zc zq2 zc2 zb zv hK;refine Jg (Jd rfl) rfl (Ji ?_);exact hK zq zc zq2 zc2 zb zv
 ·
  intro gh gh' h
  first | simp only [h 3 rfl,h 8 rfl] | rfl
 apply Jk 13 rfl
 iterate 3 focus (intros;(conv=>lhs;simp only [Jh,Jr,JJ,Ju,JI,eq_self,Nat.reduceEqDiff,reduceIte,Nat.reduceSub,Nat.reduceAdd,List.cons_append,List.nil_append]);all_goals rfl)
 ·
  intro gh X K zq zc zq2 zc2 zb zv hK;refine Jg (Jd rfl) rfl (Ji ?_);exact hK zq zc zq2 zc2 zb zv
 ·
  intro gh gh' h
  first | simp only [h 3 rfl,h 8 rfl,h 9 rfl] | rfl
 apply Ej [0,1,2,3,4,5,6,7,8,9,10,11,12] [0,1,2,3,4,5,6,7,8,9,10,11,12,13] foll0 rfl rfl rfl (by rfl)
 iterate 2 focus (intros;(conv=>lhs;simp only [Jh,Jr,JJ,Ju,JI,eq_self,Nat.reduceEqDiff,reduceIte,Nat.reduceSub,Nat.reduceAdd,List.cons_append,List.nil_append]);all_goals rfl)
 intro gh;generalize (gh 3).c=co12;generalize (gh 3).q=qo12;generalize (gh 8).c=co17;generalize (gh 8).q=qo17;generalize (gh 9).c=co18;generalize (gh 9).q=qo18;clear gh;refine EO .z fun Ho12 hleo12 hAo12=>?_;replace had:=had.le hleo12;replace haf:=haf.le hleo12;have hxo12:=own_monos (monT_8 h8) hAo12;have hco12:=own_le hAo12;refine EO .z fun Ho17 hleo17 hAo17=>?_;replace had:=had.le hleo17;replace haf:=haf.le hleo17;replace hxo12:=hxo12.le hleo17;have hxo17:=own_monos (monT_8 h8) hAo17;have hco17:=own_le hAo17;rw [hmT0] at hxo12;rw [hmT1] at hxo17;rw [hmT0,hmT1];have hmm:=monL_mn (n:=n) h8;have hmm1:=monL_mn (n:=n+1) h8;refine Ja (hK2 (Je fun _ hK3 _=>(Je fun _ hK4 _=>(Jb (Jg (Jd rfl) rfl (Jf (Ja (hK4 (Jl (JD (σ:=HP × Option Addr × Nat × List Value × Nat) (fun ⟨Hk,q,c,vals,k⟩=>[(8,.int .i64 (k:Int)),(7,.slice q k c)]) (fun ⟨Hk,q,c,vals,k⟩=>Hk) (fun ⟨Hk,q,c,vals,k⟩=>own 22 1 q k c vals::obj g2 (.cells [.slice qad ad.length cad,.slice qaf af.length caf].toArray 35 (0,0))::L) (fun ⟨Hk,q,c,vals,k⟩=>Le Ho17 Hk∧SlF Hk vals (matK ad af n k)∧k≤(monL ad n).length) (fun ⟨Hk,q,c,vals,k⟩=>(monL ad n).length - k) (Ho17,qo18,co18, [],0) ⟨Le.refl _,SlF.nil _,by omega⟩ ⟨rfl,⟨rfl,trivial⟩⟩ rfl rfl ?_))))))))));rintro ⟨Hk,q,c,vals,k⟩ ⟨hlk,hS,hk⟩ _ hAg0;replace had:=had.le hlk;replace haf:=haf.le hlk;replace hxo12:=hxo12.le hlk;replace hxo17:=hxo17.le hlk;refine Je fun _ hK5 _=>(Je fun _ hK6 _=>(Jb (Jg (Jc rfl) rfl (Jg (Jc rfl) rfl (Jg (Jm u88 rfl rfl) rfl (Jg (JK rfl rfl) rfl (Jf (Ja (hK6 (Jo rfl (fun h22=>?_) (fun h22=>?_)))))))))))
 ·
  have hk1:k<(monL ad n).length:=by omega
  have hpm:=monL_mem hk1;have hpk:=mon_pok h8 hpm;have hdl:=dS_one_len hA h8 hd hpm;have hds:=dS_one hA h8 hd hpm;refine Jn (Ja (hK5 (Je fun _ hK7 _=>(Jl (Ei (Rs:=[_,_]) 13 [[], [], [], [], [2,3], [2,3,4], [2,3,4,5], [1,2,3,4,5,6], [], [1,2,3,4,5,6,7,8], [1,2,3,4,5,6,7,8,9], [0,1,2,3,4,5,6,7,8,9,10], [0,1,2,3,4,5,6,7,8,9,10,11]] [[], [14], [], [], [], [], [], [6], [], [7], [], [10], []] [[], [], [], [], [], [], [], [], [], [], [], [13], []] rfl rfl (by kernel_rfl) ?_)))));apply Jk 1 rfl
  iterate 3 focus (intros;(conv=>lhs;simp only [Jh,Jr,JJ,Ju,JI,eq_self,Nat.reduceEqDiff,reduceIte,Nat.reduceSub,Nat.reduceAdd,List.cons_append,List.nil_append]);all_goals rfl)
  ·
   intro gh X K zq zc zq2 zc2 zb zv hK;refine Jg (Jc rfl) rfl (Ji ?_);exact hK zq zc zq2 zc2 zb zv
  ·
   intro gh gh' h
   rfl
  apply Jk 2 rfl
  iterate 3 focus (intros;(conv=>lhs;simp only [Jh,Jr,JJ,Ju,JI,eq_self,Nat.reduceEqDiff,reduceIte,Nat.reduceSub,Nat.reduceAdd,List.cons_append,List.nil_append]);all_goals rfl)
  ·
   intro gh X K zq zc zq2 zc2 zb zv hK;refine Jg (Jz rfl At.z (by simpa [*] using ag35)) rfl (Ji ?_);exact hK zq zc zq2 zc2 zb zv
  ·
   intro gh gh' h
   rfl
  apply Jk 3 rfl
  iterate 3 focus (intros;(conv=>lhs;simp only [Jh,Jr,JJ,Ju,JI,eq_self,Nat.reduceEqDiff,reduceIte,Nat.reduceSub,Nat.reduceAdd,List.cons_append,List.nil_append]);all_goals rfl)
  ·
   intro gh X K zq zc zq2 zc2 zb zv hK;refine Jg (Jc rfl) rfl (Ji ?_);exact hK zq zc zq2 zc2 zb zv
  ·
   intro gh gh' h
   rfl
  apply Jk 4 rfl
  iterate 3 focus (intros;(conv=>lhs;simp only [Jh,Jr,JJ,Ju,JI,eq_self,Nat.reduceEqDiff,reduceIte,Nat.reduceSub,Nat.reduceAdd,List.cons_append,List.nil_append]);all_goals rfl)
  ·
   intro gh X K zq zc zq2 zc2 zb zv hK;refine Jg (Jc rfl) rfl (Ji ?_);exact hK zq zc zq2 zc2 zb zv
  ·
   intro gh gh' h
   rfl
  apply Jk 5 rfl
  iterate 3 focus (intros;(conv=>lhs;simp only [Jh,Jr,JJ,Ju,JI,eq_self,Nat.reduceEqDiff,reduceIte,Nat.reduceSub,Nat.reduceAdd,List.cons_append,List.nil_append]);all_goals rfl)
  ·
   intro gh X K zq zc zq2 zc2 zb zv hK;refine Jg (Em u88 sz150 rfl rfl rfl hk1 hxo12.sm) rfl (Ji ?_);exact hK zq zc zq2 zc2 zb zv
  ·
   intro gh gh' h
   rfl
  apply Jk 6 rfl
  iterate 3 focus (intros;(conv=>lhs;simp only [Jh,Jr,JJ,Ju,JI,eq_self,Nat.reduceEqDiff,reduceIte,Nat.reduceSub,Nat.reduceAdd,List.cons_append,List.nil_append]);all_goals rfl)
  ·
   intro gh X K zq zc zq2 zc2 zb zv hK;refine Jg (JO rfl (hxo12.cell _ hk1) (hxo12.sm (i:=k) hk1) (by rw [bytesC_length,hxo12.len _ hk1];exact ag150)) rfl (Ji ?_);exact hK zq zc zq2 zc2 zb zv
  ·
   intro gh gh' h
   rfl
  apply JX 7 rfl
  iterate 3 focus (intros;(conv=>lhs;simp only [Jh,Jr,JJ,Ju,JI,eq_self,Nat.reduceEqDiff,reduceIte,Nat.reduceSub,Nat.reduceAdd,List.cons_append,List.nil_append]);all_goals rfl)
  ·
   intro gh X K zq zc zq2 zc2 zb zv hK;refine Jx fn159 rfl rfl fun w hH=>(l01Single_c (rw_all hmm hk1) (by omega) hH).mono ?_;rintro _ w ⟨qo31,co31,rfl,hH⟩;refine ⟨_,rfl,fun a hF=>JQ hF hH ?_⟩;refine Ji ?_;exact hK qo31 co31 zq2 zc2 zb zv
  ·
   intro gh gh' h;refine ⟨?_,?_⟩ <;> rfl
  apply JX 8 rfl
  iterate 3 focus (intros;(conv=>lhs;simp only [Jh,Jr,JJ,Ju,JI,eq_self,Nat.reduceEqDiff,reduceIte,Nat.reduceSub,Nat.reduceAdd,List.cons_append,List.nil_append]);all_goals rfl)
  ·
   intro gh X K zq zc zq2 zc2 zb zv hK;refine Jx fn107 rfl rfl fun w hH=>hH.lend .z fun Hl1 hle1 hA1 hB1 hH=>(l02D_c (Mi:=20) (Ms:=20) (had.le hle1) (haf.le hle1) (own_terms (one_wf (rw_all hmm hk1)) hA1) hA.hn hA.hd hA.fok hA.hl hA.kex (by rw [mon_one];exact Sok.one hpk (by omega)) (one_kex (mon_ex h8 hpm hd)) (by omega) hA.len (by rw [one_len];omega) hH).mono ?_;rintro _ w ⟨qo32,co32,rfl,hH⟩;replace hH:=hB1 _ _ hH;refine ⟨_,rfl,fun a hF=>JQ hF hH ?_⟩;refine Js .z (Js (.s .z) (Ji ?_));exact hK qo32 co32 zq2 zc2 zb zv
  ·
   intro gh gh' h;refine ⟨?_,?_⟩ <;> (first | simp only [h 6 rfl] | rfl)
  apply Jk 9 rfl
  iterate 3 focus (intros;(conv=>lhs;simp only [Jh,Jr,JJ,Ju,JI,eq_self,Nat.reduceEqDiff,reduceIte,Nat.reduceSub,Nat.reduceAdd,List.cons_append,List.nil_append]);all_goals rfl)
  ·
   intro gh X K zq zc zq2 zc2 zb zv hK;refine Jg (Jc rfl) rfl (Ji ?_);exact hK zq zc zq2 zc2 zb zv
  ·
   intro gh gh' h
   rfl
  apply JX 10 rfl
  iterate 3 focus (intros;(conv=>lhs;simp only [Jh,Jr,JJ,Ju,JI,eq_self,Nat.reduceEqDiff,reduceIte,Nat.reduceSub,Nat.reduceAdd,List.cons_append,List.nil_append]);all_goals rfl)
  ·
   intro gh X K zq zc zq2 zc2 zb zv hK;refine Jx fn110 rfl rfl fun w hH=>hH.lend .z fun Hl1 hle1 hA1 hB1 hH=>(l03Vector_c (own_terms (by rw [mon_one];exact hds.wf (by omega)) hA1) (hxo17.le hle1) (by omega) (by rw [mon_one,ofS_len];omega) hmm1 hH).mono ?_;rintro _ w ⟨qo34,co34,rfl,hH⟩;replace hH:=hB1 _ _ hH;refine ⟨_,rfl,fun a hF=>JQ hF hH ?_⟩;refine Js .z (Js (.s .z) (Ji ?_));exact hK qo34 co34 zq2 zc2 zb zv
  ·
   intro gh gh' h;refine ⟨?_,?_⟩ <;> (first | simp only [h 6 rfl,h 7 rfl] | rfl)
  apply JX 11 rfl
  iterate 3 focus (intros;(conv=>lhs;simp only [Jh,Jr,JJ,Ju,JI,eq_self,Nat.reduceEqDiff,reduceIte,Nat.reduceSub,Nat.reduceAdd,List.cons_append,List.nil_append]);all_goals rfl)
  ·
   intro gh X K zq zc zq2 zc2 zb zv hK;refine EF (EG u57 ze22 sz22 rfl rfl) rfl fun qo35 co35=>(Ji ?_);exact hK qo35 co35 zq2 zc2 zb zv
  ·
   intro gh gh' h;refine ⟨?_,?_⟩ <;> (first | simp only [h 6 rfl,h 7 rfl,h 9 rfl] | rfl)
  apply JX 12 rfl
  iterate 3 focus (intros;(conv=>lhs;simp only [Jh,Jr,JJ,Ju,JI,eq_self,Nat.reduceEqDiff,reduceIte,Nat.reduceSub,Nat.reduceAdd,List.cons_append,List.nil_append]);all_goals rfl)
  ·
   intro gh X K zq zc zq2 zc2 zb zv hK;refine Ey u57 ze22 sz22 by22 rfl rfl rfl rfl (by omega) (.s .z) At.z (fun _ _=>At.z) rfl fun qo36 co36=>(Js .z (Js (.s .z) (Ji ?_)));exact hK qo36 co36 zq2 zc2 zb zv
  ·
   intro gh gh' h;refine ⟨?_,?_⟩ <;> (first | simp only [h 6 rfl,h 7 rfl,h 9 rfl,h 10 rfl] | rfl)
  apply Jk 13 rfl
  iterate 3 focus (intros;(conv=>lhs;simp only [Jh,Jr,JJ,Ju,JI,eq_self,Nat.reduceEqDiff,reduceIte,Nat.reduceSub,Nat.reduceAdd,List.cons_append,List.nil_append]);all_goals rfl)
  ·
   intro gh X K zq zc zq2 zc2 zb zv hK;refine Jg (Jd rfl) rfl (Ji ?_);exact hK zq zc zq2 zc2 zb zv
  ·
   intro gh gh' h
   first | simp only [h 6 rfl,h 7 rfl,h 9 rfl,h 10 rfl,h 11 rfl] | rfl
  apply Ej [0,1,2,3,4,5,6,7,8,9,10,11,12] [0,1,2,3,4,5,6,7,8,9,10,11,12,14] foll0 rfl rfl rfl (by rfl)
  iterate 2 focus (intros;(conv=>lhs;simp only [Jh,Jr,JJ,Ju,JI,eq_self,Nat.reduceEqDiff,reduceIte,Nat.reduceSub,Nat.reduceAdd,List.cons_append,List.nil_append]);all_goals rfl)
  intro gh;generalize (gh 6).c=co31;generalize (gh 6).q=qo31;generalize (gh 7).c=co32;generalize (gh 7).q=qo32;generalize (gh 9).c=co34;generalize (gh 9).q=qo34;generalize (gh 10).c=co35;generalize (gh 10).q=qo35;generalize (gh 11).c=co36;generalize (gh 11).q=qo36;clear gh;refine EO (.s (.s .z)) fun Ho34 hleo34 hAo34=>?_;replace had:=had.le hleo34;replace haf:=haf.le hleo34;replace hxo12:=hxo12.le hleo34;replace hxo17:=hxo17.le hleo34;replace hS:=hS.le hleo34;have hxo34:=own_ints hAo34;have hco34:=own_le hAo34;have hve:=dS_vec hA h8 hd hom hk1;rw [← mon_one] at hve;have hS2:=hS.snoc (hve ▸ hxo34) (by rw [hve]) hco34;rw [mon_one] at hS2;refine JF (Ja (hK7 (Jb (Jg (Jc rfl) rfl (Jg (JA rfl rfl (by first | exact nw _ (by omega) | rfl)) rfl (Jg (Jd rfl) rfl (Jf (Ja (JN .z (JN .z (JN .z ?_)))))))))));exact hAg0 (Ho34,qo36,co36,_,k+1) ⟨(hlk.trans hleo34),by rw [matK_succ hk1];exact hS2,by omega⟩ (by show (monL ad n).length - (k+1)<(monL ad n).length - k;omega) 22 rfl rfl ⟨rfl,⟨rfl,trivial⟩⟩ rfl rfl
 ·
  refine JH (Jj (Jj (JM (Ja (hK3 (Je fun _ hK8 _=>(Jb (Jg (Jc rfl) rfl (EC .z fun Ho18 hleo18 hAo18=>?_)))))))));replace had:=had.le hleo18;replace haf:=haf.le hleo18;replace hxo12:=hxo12.le hleo18;replace hxo17:=hxo17.le hleo18;replace hS:=hS.le hleo18;have hxo18:=hS.rows (Le.refl _) hAo18;have hco18:=own_le hAo18;refine Jg (Jd rfl) rfl (Jf (Ja (hK8 (Jv (Jq rfl (Res.tmp rfl) fun w hH=>?_)))));replace hH:=hH.tail
  have hke:k=(monL ad n).length:=by omega
  rw [matK_end hke] at hxo18;exact ⟨_,q,c,(((hleo12.trans hleo17).trans hlk).trans hleo18),hxo18,by rw [matS_len,← hke];exact hco18,by rw [matS_len,hke],hH⟩
theorem leftP_get {p:Pw} {i j:Nat} (hi:i<8) (hj:j<8):(leftP p i).getD j 0=if j=i then p.getD i 0 - 1 else if j<i then p.getD j 0 else 0:=by
 unfold leftP;rw [getD_set8,show (aheadP p i).length=8 by simp,aheadP_get hj]
 by_cases e:i=j
 ·subst e;rw [if_pos ⟨rfl,hi⟩,if_pos rfl]
 ·rw [if_neg (fun h=>e h.1),if_neg (fun h:j=i=>e h.symm)]
theorem wsum_lb {ds p:Pw} {i:Nat} (hi:i<8) : ∀n:Nat,n≤8→wsum ds (leftP p i) n+wsum ds (behP p (i+1)) n=wsum ds p n - (if i<n then ds.getD i 0 else 0)
 | 0,_=>by simp [wsum]
 | n+1,h=>by
  have ih:=wsum_lb (ds:=ds) (p:=p) hi n (by omega)
  simp only [wsum]
  rw [leftP_get hi (by omega),behP_get (by omega)]
  rcases Nat.lt_trichotomy n i with h1 | h1 | h1
  ·rw [if_neg (by omega),if_pos h1,if_pos (by omega),if_neg (by omega)]
   rw [if_neg (by omega)] at ih
   rw [Int.mul_zero]
   omega
  ·subst h1
   rw [if_pos rfl,if_pos (by omega),if_pos (by omega)]
   rw [if_neg (by omega)] at ih
   rw [Int.mul_zero,Int.mul_sub,Int.mul_one]
   omega
  ·rw [if_neg (by omega),if_neg (by omega),if_neg (by omega),if_pos (by omega)]
   rw [if_pos h1] at ih
   rw [Int.mul_zero]
   omega
theorem wsF_cons (d:Int) (ds p:List Int) (i:Nat):wsF (d::ds) p i=d * p.getD i 0+wsF ds p (i+1):=rfl
theorem wsF_sum {p:List Int} : ∀(pre ds:List Int),wsF ds p pre.length+wsum (pre++ds) p pre.length=wsum (pre++ds) p (pre++ds).length
 | pre, []=>by simp [wsF]
 | pre,d::ds=>by
  have ih:=wsF_sum (p:=p) (pre++[d]) ds
  rw [List.length_append,List.append_assoc] at ih
  simp only [List.length_cons,List.length_nil,List.cons_append,List.nil_append,wsum,Nat.zero_add] at ih
  rw [wsF_cons]
  have e:(pre++d::ds).getD pre.length 0=d:=by simp [List.getD_eq_getElem?_getD]
  rw [e] at ih
  omega
theorem wsF_0 (ds p:List Int):wsF ds p 0=wsum ds p ds.length:=by
 have h:=wsF_sum (p:=p) [] ds
 simpa [wsum] using h
theorem mon_wt {ds:List Int} {n:Int} (h8:ds.length≤8) {p:Pw} (hp:p∈monS ds n):wsum ds p ds.length=n:=by
 rw [← wsF_0];exact (enumF_mem (by omega) rfl hp).2.2.2
theorem wsum_ge {ds p:Pw} (hd : ∀j,0≤ds.getD j 0) (hp : ∀j,0≤p.getD j 0) {j:Nat} : ∀n:Nat,j<n→ds.getD j 0 * p.getD j 0≤wsum ds p n
 | 0,h=>by omega
 | n+1,h=>by
  have h0:=wsum_nn0 hd hp n
  have h1:0≤ds.getD n 0 * p.getD n 0:=Int.mul_nonneg (hd n) (hp n)
  simp only [wsum]
  rcases Nat.lt_or_ge j n with hj | hj
  ·have:=wsum_ge hd hp (j:=j) n hj
   omega
  ·obtain rfl:j=n:=by omega
   omega
theorem mon_in {ds:List Int} (h8:ds.length≤8) (hd : ∀j,j<ds.length→1≤ds.getD j 0∧ds.getD j 0≤12) {n:Int} (hn:n≤41) {M:Int} {p:Pw} (hp:Pok M p) (hx:Ex ds p) (hw:wsum ds p ds.length=n):p∈monS ds n:=by
 have hd0 : ∀j,0≤ds.getD j 0:=fun j=>by
  by_cases hj:j<ds.length
  ·have:=hd j hj;omega
  ·rw [getD_ge (by omega)];omega
 have hp0 : ∀j,0≤p.getD j 0:=fun j=>(hp.bd j).1;refine enumF_in (by omega) rfl hp.len (fun t ht=>(hd t ht).1) (fun j hj=>?_) hp0 (fun t ht=>?_) (by rw [wsF_0];exact hw)
 ·rw [hx.out j (by omega),show zP=List.replicate 8 0 from rfl,rep_get]
 ·rw [Nat.zero_add];have hdt:=hd t ht;have htm:=tmod_two (d:=ds.getD t 0) (by omega);have hge:=wsum_ge hd0 hp0 (j:=t) ds.length ht;rw [hw] at hge;refine ⟨?_,fun h=>hx.odd t ht (by omega)⟩
  by_cases ho:(ds.getD t 0).tmod 2=1
  ·have:=hx.odd t ht (by omega)
   omega
  ·have h2:2≤ds.getD t 0:=by
    rcases (show ds.getD t 0=1∨2≤ds.getD t 0 by omega) with h | h
    ·rw [h] at ho;exact absurd (by decide) ho
    ·exact h
   have h3:2 * p.getD t 0≤ds.getD t 0 * p.getD t 0:=Int.mul_le_mul_of_nonneg_right h2 (hp0 t)
   omega
theorem dS_wt {ds:List Int} {fs:List (List Term)} (hG:isAlg ds fs=true) (hw:Wfss fs) {M:Int} {p:Pw} (hp:Pok M p) (hx:Ex ds p) {x:Pw × Int} (h:x∈dS ds fs [(p,1)]):Ex ds x.1∧wsum ds x.1 ds.length=wsum ds p ds.length+1:=by
 have hA:=isAlg_ok hG hw;have hn:=hA.hn
 rcases acc_mem h with h | ⟨z,hz,e⟩
 ·simp at h
 rw [e];unfold dAll at hz;simp only [List.flatMap_cons,List.flatMap_nil,List.append_nil] at hz;unfold dLk at hz;obtain ⟨i,hi,hz⟩:=List.mem_flatMap.1 hz;have hi8:=List.mem_range.1 hi;unfold dP at hz
 split at hz
 ·rename_i hpos
  have hid:i<ds.length:=by
   rcases Nat.lt_or_ge i ds.length with h | h
   ·exact h
   ·have h1:=hx.out i h;simp only at hpos
    omega
  obtain ⟨y,hy,ey⟩:=scl_key hz;rw [ey]
  have hif:i<fs.length:=by rw [hA.hl];exact hid
  have him:=(hA.fok i hif).1;have hlp:=leftP_pok hp hpos;have hbp:=behP_pok hp (i+1);have g1:Gok M [(leftP p i,1)]:=(Sok.one hlp (k:=1) (by omega)).g;have g3:Gok M [(behP p (i+1),1)]:=(Sok.one hbp (k:=1) (by omega)).g
  have k1:KEx ds [(leftP p i,1)]:=fun x hx'=>by rw [List.mem_singleton.1 hx'];exact leftP_ex hp hx hpos
  have k3:KEx ds [(behP p (i+1),1)]:=fun x hx'=>by rw [List.mem_singleton.1 hx'];exact behP_ex hp hx (i+1)
  have k2:=hA.kex i hif;have k12:=times_kex g1 him.g k1 k2;have g12:=gtimes (ds:=ds) g1 him.g;refine ⟨times_kex g12.g g3 k12 k3 y hy,?_⟩
  rcases acc_mem hy with h | ⟨a,ha,ea⟩
  ·simp at h
  obtain ⟨u,hu,v,hv,_,e2⟩:=mulL_mem ha;rw [List.mem_singleton.1 hv] at e2
  rcases acc_mem hu with h | ⟨b,hb,eb⟩
  ·simp at h
  obtain ⟨c,hc,d,hd',_,e3⟩:=mulL_mem hb;rw [List.mem_singleton.1 hc] at e3;have hdl:=(him.key d hd').len;have h1:=imsOk_at (isAlg_im hG) hif;unfold imOk at h1;have h2:=(Bool.and_eq_true_iff.1 h1).2;have hwd:=degOk_wt hn hA.hd (hw.fm i) h2 d hd';have hlb:=wsum_lb (ds:=ds) (p:=p) hi8 ds.length hn;rw [if_pos hid] at hlb;rw [ea,e2,wsum_add (by rw [eb,e3];simp [addp]) hbp.len,eb,e3,wsum_add hlp.len hdl,hwd]
  omega
 ·simp at hz
theorem hom_of {ds:List Int} {fs:List (List Term)} (hG:isAlg ds fs=true) (hw:Wfss fs) (h8:ds.length≤8) (hd : ∀j,j<ds.length→1≤ds.getD j 0∧ds.getD j 0≤12) {n:Int} (hn:n≤40) (hf:fit2 ds n):Hom1 ds fs n:=fun p hp x hx=>by
 have hp':=List.mem_of_mem_take hp
 have h1:=dS_wt hG hw (mon_pok h8 hp') (mon_ex h8 hp' hd) hx
 have hA:=isAlg_ok hG hw
 have h2:=dS_one hA h8 hd hp'
 rw [monL_fit hf.2]
 exact mon_in h8 hd (by omega) (h2.key x hx) h1.1 (by rw [h1.2,mon_wt h8 hp'])
theorem fn120:Fn Tryz.prog 120:=⟨_,Tryz.func120,by kernel_rfl,rfl⟩
theorem fn170:Fn Tryz.prog 170:=⟨_,Tryz.func170,by kernel_rfl,rfl⟩
theorem fn74:Fn Tryz.prog 74:=⟨_,Tryz.func74,by kernel_rfl,rfl⟩
theorem alg_112 {ds:List Int} {fs:List (List Term)} (h:isAlg ds fs=true) : ∀j,j<ds.length→1≤ds.getD j 0∧ds.getD j 0≤12:=fun j hj=>by
 have h1:=isDeg_bd (isAlg_deg h) j
 have h2:=isDeg_pos1 (isAlg_deg h) j hj
 omega
def askB (m:Int):Bool:=decide (0≤m) && decide (m≤20)
theorem wi_fit {ds:List Int} {a b k:Int} (h:wiB ds a b=true) (h1:max a 0≤k) (h2:k≤b):fitB ds k=true:=by
 have:=List.all_eq_true.1 h (k - max a 0).toNat (List.mem_range.2 (by omega))
 rwa [show max a 0+(((k - max a 0).toNat:Nat):Int)=k by omega] at this
def clV (ds:List Int) (fs:List (List Term)) (n:Int) (v:List Int):List Int:=(csS ds fs n).map fun r=>(byS v (bdS ds fs n)).getD (ldR r) 0
theorem clS_len {ds:List Int} {fs:List (List Term)} {n:Int} (hA:AlgOk ds fs) (h8:ds.length≤8) (hd : ∀j,j<ds.length→1≤ds.getD j 0∧ds.getD j 0≤12):(clS ds fs n).length≤121:=Nat.le_trans (clS_red hA h8 hd).count (monL_len ds n)
theorem bdS_len {ds:List Int} {fs:List (List Term)} {n:Int} (hA:AlgOk ds fs) (h8:ds.length≤8) (hd : ∀j,j<ds.length→1≤ds.getD j 0∧ds.getD j 0≤12):(bdS ds fs n).length≤121:=Nat.le_trans (bdS_red hA h8 hd).count (monL_len ds n)
theorem csS_len {ds:List Int} {fs:List (List Term)} {n:Int} (hA:AlgOk ds fs) (h8:ds.length≤8) (hd : ∀j,j<ds.length→1≤ds.getD j 0∧ds.getD j 0≤12):(csS ds fs n).length≤121:=Nat.le_trans (csS_red hA h8 hd).count (monL_len ds n)
theorem Hp.kerM {B:World} {H0 H:HP} {L:List SA} {w:World} {q:Option Addr} {c:Nat} {rs:List (List Int)} {vs:Vs} {W:Nat} (hW : ∀r∈rs,RowOk W r) (hn:rs.length+W≤100000) (hH:Hp B H0 H (mlt (RwK q c rs) H vs::L) w) :
 Calls Tryz.prog 170 [.slice q rs.length c,.int .i64 (W:Int)].toArray w fun e w'=>∃q c vs,e = .returned (.slice q (kerS rs W).length c)∧Hp B H0 H (mlt (RwK q c (kerS rs W)) H vs::L) w':=
 hH.lend .z fun H1 hle hA _ hH1=>(l03Kernel_c (crs:=c) (mlt_rows hle hA).1 hW hn hH1).mono fun e w' h=>by
  obtain ⟨H',q',c',hle',hI,hc,he,hH'⟩:=h
  obtain ⟨vs',h2⟩:=hH.melt (K:=RwK q' c' (kerS rs W)) hH' (hle.trans hle') ⟨hI,hc⟩
  exact ⟨q',c',vs',he,h2⟩
theorem l03Matrix_m {B:World} {H0 H:HP} {L:List SA} {w:World} {qad qaf:Option Addr} {cad caf:Nat} {ad:List Int} {af:List (List Term)} {n:Int} (had:Ints H qad ad) (haf:Forms H qaf af) (hd : ∀j,j<ad.length→1≤ad.getD j 0∧ad.getD j 0≤12) (h8:ad.length≤8) (hn : -1≤n∧n≤100000) (hA:AlgOk ad af) (hfit:fit2 ad n) (hom:Hom1 ad af n) (hH:Hp B H0 H L w) :
 Calls Tryz.prog 120 [.agg [.slice qad ad.length cad,.slice qaf af.length caf].toArray,.int .i64 n].toArray w fun e w'=>∃q c vs,e = .returned (.slice q (matS ad af n).length c)∧Hp B H0 H (mlt (RwK q c (matS ad af n)) H vs::L) w':=(l03Matrix_c had haf hd h8 hn hA hfit hom hH).mono fun e w' h=>by
 obtain ⟨H',q,c,hle,hI,hc,he,hH'⟩:=h
 obtain ⟨vs,h2⟩:=hH.melt (K:=RwK q c (matS ad af n)) hH' hle ⟨hI,hc⟩
 exact ⟨q,c,vs,he,h2⟩
theorem l03Bounds_c {B:World} {H0 H:HP} {L:List SA} {w:World} {qad qaf:Option Addr} {cad caf:Nat} {ad:List Int} {af:List (List Term)} {n:Int} (had:Ints H qad ad) (haf:Forms H qaf af) (hG:isAlg ad af=true) (hn:0≤n∧n≤40) (hfit:0<n→fit2 ad (n - 1)) (hH:Hp B H0 H L w):Calls Tryz.prog 111 [.agg [.slice qad ad.length cad,.slice qaf af.length caf].toArray,.int .i64 n].toArray w fun e w'=>∃H' q c,Le H H' ∧RowsR H' q (bdS ad af n)∧(bdS ad af n).length≤c∧e = .returned (.slice q (bdS ad af n).length c)∧Hp B H0 H' L w':=by
 refine Jy Tryz.func111 rfl 13 rfl rfl [(0,.agg [.slice qad ad.length cad,.slice qaf af.length caf].toArray),(1,.int .i64 n)] rfl hH ?_;have hw0:=hH.old;have hw1:=hH.le;clear hH;have hwf:=haf.wfss;have hA:=isAlg_ok hG hwf;have h8:=hA.hn;have hd:=alg_112 hG;have hml:=monL_len ad n;have hml1:=monL_len ad (n+1);have hml0:=monL_len ad (n - 1);have hml2:=monL_len ad (n - 1+1);refine Je fun _ hK1 _=>(Jb (Ef rfl rfl rfl fun g2=>(Jg (Jd rfl) rfl (Jf (Ja (hK1 (Je fun _ hK2 _=>(Je fun _ hK3 _=>(Jb (Jg (Jc rfl) rfl (Jg (EH rfl rfl) rfl (Jf (Ja (hK3 (Jo rfl (fun h6=>?_) (fun h6=>?_))))))))))))))))
 ·
  refine Je fun _ hK4 _=>(Jb (EF (EM u57 sz22) rfl fun qo7 co7=>?_));have hnil:=SlF.nil H;refine EC .z fun Ho7 hleo7 hAo7=>?_;replace had:=had.le hleo7;replace haf:=haf.le hleo7;replace hnil:=hnil.le hleo7;have hxo7:=hnil.rows (Le.refl _) hAo7;have hco7:=own_le hAo7;refine Jg (Jd rfl) rfl (Jf (Ja (hK4 (Jv (Jp (Jq rfl (Res.tmp rfl) fun w hH=>?_))))));replace hH:=hH.tail;rw [show bdS ad af n=[] from if_neg (by omega)];exact ⟨_,_,_,hleo7,hxo7,hco7,rfl,hH⟩
 ·
  refine Jn (Ja (hK2 (Je fun _ hK5 _=>(Jb (Jg (Jz rfl At.z (by simpa [*] using ag35)) rfl (Jg (Jc rfl) rfl (Jg (EN rfl rfl (by first | exact nw _ (by omega) | rfl)) rfl (Jx fn120 rfl rfl fun w hH=>(l03Matrix_c had haf hd h8 (by omega) hA (hfit (by omega)) (hom_of hG hwf h8 hd (by omega) (hfit (by omega))) hH).mono ?_))))))));rintro _ w ⟨Hf11,qf11,cf11,hlf11,hI11,hcc11,rfl,hH⟩;refine ⟨_,rfl,fun a hF=>JQ hF hH ?_⟩;replace had:=had.le hlf11;replace haf:=haf.le hlf11;refine Jx fn78 rfl rfl fun w hH=>(l03Reduce_c (W:=(monL ad (n - 1+1)).length) hI11 (matS_ok hA h8 hd) (by rw [matS_len];omega) (by omega) hH).mono ?_;rintro _ w ⟨Hf12,qf12,cf12,hlf12,hI12,hcc12,rfl,hH⟩;refine ⟨_,rfl,fun a hF=>JQ hF hH ?_⟩;replace had:=had.le hlf12;replace haf:=haf.le hlf12;replace hI11:=hI11.le hlf12;refine Jg (Jd rfl) rfl (Jf (Ja (hK5 (Jv (Jq rfl (Res.tmp rfl) fun w hH=>?_)))));replace hH:=hH.tail;rw [show bdS ad af n=redS (matS ad af (n - 1)) from if_pos (by omega)];exact ⟨_,_,_,(hlf11.trans hlf12),hI12,hcc12,rfl,hH⟩
theorem l03Bounds_m {B:World} {H0 H:HP} {L:List SA} {w:World} {qad qaf:Option Addr} {cad caf:Nat} {ad:List Int} {af:List (List Term)} {n:Int} (had:Ints H qad ad) (haf:Forms H qaf af) (hG:isAlg ad af=true) (hn:0≤n∧n≤40) (hfit:0<n→fit2 ad (n - 1)) (hH:Hp B H0 H L w) :
 Calls Tryz.prog 111 [.agg [.slice qad ad.length cad,.slice qaf af.length caf].toArray,.int .i64 n].toArray w fun e w'=>∃q c vs,e = .returned (.slice q (bdS ad af n).length c)∧Hp B H0 H (mlt (RwK q c (bdS ad af n)) H vs::L) w':=(l03Bounds_c had haf hG hn hfit hH).mono fun e w' h=>by
 obtain ⟨H',q,c,hle,hI,hc,he,hH'⟩:=h
 obtain ⟨vs,h2⟩:=hH.melt (K:=RwK q c (bdS ad af n)) hH' hle ⟨hI,hc⟩
 exact ⟨q,c,vs,he,h2⟩
theorem l03Closed_c {B:World} {H0 H:HP} {L:List SA} {w:World} {qad qaf:Option Addr} {cad caf:Nat} {ad:List Int} {af:List (List Term)} {n:Int} (had:Ints H qad ad) (haf:Forms H qaf af) (hG:isAlg ad af=true) (hn:0≤n∧n≤40) (hfit:fit2 ad n) (hH:Hp B H0 H L w):Calls Tryz.prog 127 [.agg [.slice qad ad.length cad,.slice qaf af.length caf].toArray,.int .i64 n].toArray w fun e w'=>∃H' q c,Le H H' ∧RowsR H' q (clS ad af n)∧(clS ad af n).length≤c∧e = .returned (.slice q (clS ad af n).length c)∧Hp B H0 H' L w':=by
 refine Jy Tryz.func127 rfl 15 rfl rfl [(0,.agg [.slice qad ad.length cad,.slice qaf af.length caf].toArray),(1,.int .i64 n)] rfl hH ?_;have hw0:=hH.old;have hw1:=hH.le;clear hH;have hwf:=haf.wfss;have hA:=isAlg_ok hG hwf;have h8:=hA.hn;have hd:=alg_112 hG;have hml:=monL_len ad n;have hml1:=monL_len ad (n+1);have hmT1:=monT_L hfit.2;have hmlen:=matS_len ad af n;refine Je fun _ hK1 _=>(Jb (Ef rfl rfl rfl fun g2=>(Jg (Jd rfl) rfl (Jf (Ja (hK1 (Je fun _ hK2 _=>(Ei (Rs:=[_]) 11 [[], [], [0,1], [], [3], [], [5], [0,1,2,3,4,5,6], [0,1,2,3,4,5,6,7], [0,1,2,3,4,5,6,7,8], [0,1,2,3,4,5,6,7,8,9]] [[11], [], [], [], [11], [], [], [], [], [], []] [[], [], [], [], [], [], [], [], [], [2], []] rfl rfl (by kernel_rfl) ?_))))))));apply Jk 1 rfl
 iterate 3 focus (intros;(conv=>lhs;simp only [Jh,Jr,JJ,Ju,JI,eq_self,Nat.reduceEqDiff,reduceIte,Nat.reduceSub,Nat.reduceAdd,List.cons_append,List.nil_append]);all_goals rfl)
 ·
  intro gh X K zq zc zq2 zc2 zb zv hK;refine Jg (Jz rfl At.z (by simpa [*] using ag35)) rfl (Ji ?_);exact hK zq zc zq2 zc2 zb zv
 ·
  intro gh gh' h
  rfl
 apply Jk 2 rfl
 iterate 3 focus (intros;(conv=>lhs;simp only [Jh,Jr,JJ,Ju,JI,eq_self,Nat.reduceEqDiff,reduceIte,Nat.reduceSub,Nat.reduceAdd,List.cons_append,List.nil_append]);all_goals rfl)
 ·
  intro gh X K zq zc zq2 zc2 zb zv hK;refine Jg (Jc rfl) rfl (Ji ?_);exact hK zq zc zq2 zc2 zb zv
 ·
  intro gh gh' h
  rfl
 apply JX 3 rfl
 iterate 3 focus (intros;(conv=>lhs;simp only [Jh,Jr,JJ,Ju,JI,eq_self,Nat.reduceEqDiff,reduceIte,Nat.reduceSub,Nat.reduceAdd,List.cons_append,List.nil_append]);all_goals rfl)
 ·
  intro gh X K zq zc zq2 zc2 zb zv hK;refine Jx fn120 rfl rfl fun w hH=>(l03Matrix_m had haf hd h8 (by omega) hA hfit (hom_of hG hwf h8 hd (by omega) hfit) hH).mono ?_;rintro _ w ⟨qo7,co7,vso7,rfl,hH⟩;refine ⟨_,rfl,fun a hF=>JQ hF hH ?_⟩;refine Ji ?_;exact hK qo7 co7 zq2 zc2 zb vso7
 ·
  intro gh gh' h;refine ⟨?_,?_⟩ <;> rfl
 apply Jk 4 rfl
 iterate 3 focus (intros;(conv=>lhs;simp only [Jh,Jr,JJ,Ju,JI,eq_self,Nat.reduceEqDiff,reduceIte,Nat.reduceSub,Nat.reduceAdd,List.cons_append,List.nil_append]);all_goals rfl)
 ·
  intro gh X K zq zc zq2 zc2 zb zv hK;refine Jg (Jt u35 rfl sz22 rfl) rfl (Ji ?_);exact hK zq zc zq2 zc2 zb zv
 ·
  intro gh gh' h
  rfl
 apply Jk 5 rfl
 iterate 3 focus (intros;(conv=>lhs;simp only [Jh,Jr,JJ,Ju,JI,eq_self,Nat.reduceEqDiff,reduceIte,Nat.reduceSub,Nat.reduceAdd,List.cons_append,List.nil_append]);all_goals rfl)
 ·
  intro gh X K zq zc zq2 zc2 zb zv hK;refine Jg (Jw rfl At.z rfl pl22) rfl (Ji ?_);exact hK zq zc zq2 zc2 zb zv
 ·
  intro gh gh' h
  rfl
 apply Jk 6 rfl
 iterate 3 focus (intros;(conv=>lhs;simp only [Jh,Jr,JJ,Ju,JI,eq_self,Nat.reduceEqDiff,reduceIte,Nat.reduceSub,Nat.reduceAdd,List.cons_append,List.nil_append]);all_goals rfl)
 ·
  intro gh X K zq zc zq2 zc2 zb zv hK;refine Jg (Jc rfl) rfl (Ji ?_);exact hK zq zc zq2 zc2 zb zv
 ·
  intro gh gh' h
  rfl
 apply Jk 7 rfl
 iterate 3 focus (intros;(conv=>lhs;simp only [Jh,Jr,JJ,Ju,JI,eq_self,Nat.reduceEqDiff,reduceIte,Nat.reduceSub,Nat.reduceAdd,List.cons_append,List.nil_append]);all_goals rfl)
 ·
  intro gh X K zq zc zq2 zc2 zb zv hK;refine Jg (JA rfl rfl (by first | exact nw _ (by omega) | rfl)) rfl (Ji ?_);exact hK zq zc zq2 zc2 zb zv
 ·
  intro gh gh' h
  rfl
 apply JX 8 rfl
 iterate 3 focus (intros;(conv=>lhs;simp only [Jh,Jr,JJ,Ju,JI,eq_self,Nat.reduceEqDiff,reduceIte,Nat.reduceSub,Nat.reduceAdd,List.cons_append,List.nil_append]);all_goals rfl)
 ·
  intro gh X K zq zc zq2 zc2 zb zv hK;refine Jx fn66 rfl rfl fun w hH=>(l01Monomials_c had hd h8 (by omega) hH).mono ?_;rintro _ w ⟨qo12,co12,rfl,hH⟩;refine ⟨_,rfl,fun a hF=>JQ hF hH ?_⟩;refine Ji ?_;exact hK qo12 co12 zq2 zc2 zb zv
 ·
  intro gh gh' h;refine ⟨?_,?_⟩ <;> (first | simp only [h 2 rfl] | rfl)
 apply Jk 9 rfl
 iterate 3 focus (intros;(conv=>lhs;simp only [Jh,Jr,JJ,Ju,JI,eq_self,Nat.reduceEqDiff,reduceIte,Nat.reduceSub,Nat.reduceAdd,List.cons_append,List.nil_append]);all_goals rfl)
 ·
  intro gh X K zq zc zq2 zc2 zb zv hK;refine Jg (EL (v':=.int .i64 (((monL ad (n+1)).length:Nat):Int)) (by rw [hmT1]) (Jm u88 rfl rfl)) rfl (Ji ?_);exact hK zq zc zq2 zc2 zb zv
 ·
  intro gh gh' h
  first | simp only [h 2 rfl,h 7 rfl] | rfl
 apply JX 10 rfl
 iterate 3 focus (intros;(conv=>lhs;simp only [Jh,Jr,JJ,Ju,JI,eq_self,Nat.reduceEqDiff,reduceIte,Nat.reduceSub,Nat.reduceAdd,List.cons_append,List.nil_append]);all_goals rfl)
 ·
  intro gh X K zq zc zq2 zc2 zb zv hK;refine Jx fn170 rfl rfl fun w hH=>(Hp.kerM (matS_ok hA h8 hd) (by omega) (hH.front .z)).mono ?_;rintro _ w ⟨qo14,co14,vso14,rfl,hH⟩;refine ⟨_,rfl,fun a hF=>JQ hF hH ?_⟩;refine Ji ?_;exact hK qo14 co14 zq2 zc2 zb vso14
 ·
  intro gh gh' h;refine ⟨?_,?_⟩ <;> (first | simp only [h 2 rfl,h 7 rfl] | rfl)
 apply Jk 11 rfl
 iterate 3 focus (intros;(conv=>lhs;simp only [Jh,Jr,JJ,Ju,JI,eq_self,Nat.reduceEqDiff,reduceIte,Nat.reduceSub,Nat.reduceAdd,List.cons_append,List.nil_append]);all_goals rfl)
 ·
  intro gh X K zq zc zq2 zc2 zb zv hK;refine Jg (Jd rfl) rfl (Ji ?_);exact hK zq zc zq2 zc2 zb zv
 ·
  intro gh gh' h
  first | simp only [h 2 rfl,h 7 rfl,h 9 rfl] | rfl
 apply Ej [0,1,2,3,4,5,6,7,8,9,10] [0,1,3,4,5,6,7,8,9,10,11] foll0 rfl rfl rfl (by rfl)
 iterate 2 focus (intros;(conv=>lhs;simp only [Jh,Jr,JJ,Ju,JI,eq_self,Nat.reduceEqDiff,reduceIte,Nat.reduceSub,Nat.reduceAdd,List.cons_append,List.nil_append]);all_goals rfl)
 intro gh;generalize (gh 2).c=co7;generalize (gh 2).q=qo7;generalize (gh 2).vs=vso7;generalize (gh 7).c=co12;generalize (gh 7).q=qo12;generalize (gh 9).c=co14;generalize (gh 9).q=qo14;generalize (gh 9).vs=vso14;clear gh;refine EO (.s .z) fun Ho14 hleo14 hAo14=>?_;replace had:=had.le hleo14;replace haf:=haf.le hleo14;obtain ⟨hxo14,hco14⟩:=mlt_rows hleo14 hAo14;refine Ja (hK2 (Jv (Jq rfl (Res.tmp rfl) fun w hH=>?_)));replace hH:=hH.tail;replace hH:=hH.tail;exact ⟨_,_,_,hleo14,hxo14,hco14,rfl,hH⟩
theorem l03Closed_m {B:World} {H0 H:HP} {L:List SA} {w:World} {qad qaf:Option Addr} {cad caf:Nat} {ad:List Int} {af:List (List Term)} {n:Int} (had:Ints H qad ad) (haf:Forms H qaf af) (hG:isAlg ad af=true) (hn:0≤n∧n≤40) (hfit:fit2 ad n) (hH:Hp B H0 H L w) :
 Calls Tryz.prog 127 [.agg [.slice qad ad.length cad,.slice qaf af.length caf].toArray,.int .i64 n].toArray w fun e w'=>∃q c vs,e = .returned (.slice q (clS ad af n).length c)∧Hp B H0 H (mlt (RwK q c (clS ad af n)) H vs::L) w':=(l03Closed_c had haf hG hn hfit hH).mono fun e w' h=>by
 obtain ⟨H',q,c,hle,hI,hc,he,hH'⟩:=h
 obtain ⟨vs,h2⟩:=hH.melt (K:=RwK q c (clS ad af n)) hH' hle ⟨hI,hc⟩
 exact ⟨q,c,vs,he,h2⟩
theorem fn111:Fn Tryz.prog 111:=⟨_,Tryz.func111,by kernel_rfl,rfl⟩
theorem fn127:Fn Tryz.prog 127:=⟨_,Tryz.func127,by kernel_rfl,rfl⟩
theorem fn75:Fn Tryz.prog 75:=⟨_,Tryz.func75,by kernel_rfl,rfl⟩
theorem csK_succ {ds:List Int} {fs:List (List Term)} {n:Int} {k:Nat} (hk:k<(clS ds fs n).length):redS (lfK ds fs n (k+1))=putS (redS (lfK ds fs n k)) (byS (rw_ (clS ds fs n) k) (bdS ds fs n)):=by
 unfold redS;rw [lfK_succ hk,List.foldl_append]
 rfl
theorem Hp.byM {B:World} {H0 H:HP} {L:List SA} {w:World} {q q2:Option Addr} {c c2 W:Nat} {row:List Int} {rs:List (List Int)} {vs:Vs} (hw:RowOk W row) (hW : ∀r∈rs,RowOk W r∧ldR r<W) (hn:rs.length≤1000000) (hWn:W≤1000000) (hH:Hp B H0 H (mlt (RwK q2 c2 rs) H vs::own 2 1 q row.length c (intsC row)::L) w) :
 Calls Tryz.prog 109 [.slice q row.length c,.slice q2 rs.length c2].toArray w fun e w'=>∃q c vs,e = .returned (.slice q (byS row rs).length c)∧Hp B H0 H (mlt (InK q c (byS row rs)) H vs::L) w':=
 hH.lend .z fun H1 hle hA _ hH1=>hH1.lend .z fun H2 hle2 hA2 _ hH2=>(l03By_c (crow:=c) (crs:=c2) (own_ints hA2) ((mlt_rows hle hA).1.le hle2) hw hW hn hWn (own_le hA2) hH2).mono fun e w' h=>by
  obtain ⟨H',q',c',hle',hI,hc,he,hH'⟩:=h
  obtain ⟨vs',h2⟩:=hH.melt (K:=InK q' c' (byS row rs)) hH' ((hle.trans hle2).trans hle') ⟨hI,hc⟩
  exact ⟨q',c',vs',he,h2⟩
theorem l03Classes_c {B:World} {H0 H:HP} {L:List SA} {w:World} {qad qaf:Option Addr} {cad caf:Nat} {ad:List Int} {af:List (List Term)} {n:Int} (had:Ints H qad ad) (haf:Forms H qaf af) (hG:isAlg ad af=true) (hn:0≤n∧n≤40) (hfit:fit3 ad n) (hH:Hp B H0 H L w):Calls Tryz.prog 75 [.agg [.slice qad ad.length cad,.slice qaf af.length caf].toArray,.int .i64 n].toArray w fun e w'=>∃H' q c,Le H H' ∧RowsR H' q (csS ad af n)∧(csS ad af n).length≤c∧e = .returned (.slice q (csS ad af n).length c)∧Hp B H0 H' L w':=by
 refine Jy Tryz.func75 rfl 31 rfl rfl [(0,.agg [.slice qad ad.length cad,.slice qaf af.length caf].toArray),(1,.int .i64 n)] rfl hH ?_;have hw0:=hH.old;have hw1:=hH.le;clear hH;have hwf:=haf.wfss;have hA:=isAlg_ok hG hwf;have h8:=hA.hn;have hd:=alg_112 hG;have hml:=monL_len ad n;have hml1:=monL_len ad (n+1);have hclR:=clS_red (n:=n) hA h8 hd;have hbdR:=bdS_red (n:=n) hA h8 hd;have hcll:=clS_len (n:=n) hA h8 hd;have hbdl:=bdS_len (n:=n) hA h8 hd;have hcsR:=csS_red (n:=n) hA h8 hd;have hcsl:=csS_len (n:=n) hA h8 hd;refine Je fun _ hK1 _=>(Jb (Ef rfl rfl rfl fun g2=>(Jg (Jd rfl) rfl (Jf (Ja (hK1 (Je fun _ hK2 _=>(Ei (Rs:=[_]) 10 [[], [], [0,1], [], [], [0,1,2,3,4], [], [0,1,2,3,4,5], [0,1,2,3,4,5,7], [0,1,2,3,4,5,6,7,8]] [[10], [], [], [10], [], [], [], [], [], []] [[], [], [], [], [], [], [], [], [], []] rfl rfl (by kernel_rfl) ?_))))))));apply Jk 1 rfl
 iterate 3 focus (intros;(conv=>lhs;simp only [Jh,Jr,JJ,Ju,JI,eq_self,Nat.reduceEqDiff,reduceIte,Nat.reduceSub,Nat.reduceAdd,List.cons_append,List.nil_append]);all_goals rfl)
 ·
  intro gh X K zq zc zq2 zc2 zb zv hK;refine Jg (Jz rfl At.z (by simpa [*] using ag35)) rfl (Ji ?_);exact hK zq zc zq2 zc2 zb zv
 ·
  intro gh gh' h
  rfl
 apply Jk 2 rfl
 iterate 3 focus (intros;(conv=>lhs;simp only [Jh,Jr,JJ,Ju,JI,eq_self,Nat.reduceEqDiff,reduceIte,Nat.reduceSub,Nat.reduceAdd,List.cons_append,List.nil_append]);all_goals rfl)
 ·
  intro gh X K zq zc zq2 zc2 zb zv hK;refine Jg (Jc rfl) rfl (Ji ?_);exact hK zq zc zq2 zc2 zb zv
 ·
  intro gh gh' h
  rfl
 apply JX 3 rfl
 iterate 3 focus (intros;(conv=>lhs;simp only [Jh,Jr,JJ,Ju,JI,eq_self,Nat.reduceEqDiff,reduceIte,Nat.reduceSub,Nat.reduceAdd,List.cons_append,List.nil_append]);all_goals rfl)
 ·
  intro gh X K zq zc zq2 zc2 zb zv hK;refine Jx fn127 rfl rfl fun w hH=>(l03Closed_m had haf hG (by omega) hfit.1 hH).mono ?_;rintro _ w ⟨qo11,co11,vso11,rfl,hH⟩;refine ⟨_,rfl,fun a hF=>JQ hF hH ?_⟩;refine Ji ?_;exact hK qo11 co11 zq2 zc2 zb vso11
 ·
  intro gh gh' h;refine ⟨?_,?_⟩ <;> rfl
 apply Jk 4 rfl
 iterate 3 focus (intros;(conv=>lhs;simp only [Jh,Jr,JJ,Ju,JI,eq_self,Nat.reduceEqDiff,reduceIte,Nat.reduceSub,Nat.reduceAdd,List.cons_append,List.nil_append]);all_goals rfl)
 ·
  intro gh X K zq zc zq2 zc2 zb zv hK;refine Jg (Jz rfl At.z (by simpa [*] using ag35)) rfl (Ji ?_);exact hK zq zc zq2 zc2 zb zv
 ·
  intro gh gh' h
  rfl
 apply Jk 5 rfl
 iterate 3 focus (intros;(conv=>lhs;simp only [Jh,Jr,JJ,Ju,JI,eq_self,Nat.reduceEqDiff,reduceIte,Nat.reduceSub,Nat.reduceAdd,List.cons_append,List.nil_append]);all_goals rfl)
 ·
  intro gh X K zq zc zq2 zc2 zb zv hK;refine Jg (Jc rfl) rfl (Ji ?_);exact hK zq zc zq2 zc2 zb zv
 ·
  intro gh gh' h
  rfl
 apply JX 6 rfl
 iterate 3 focus (intros;(conv=>lhs;simp only [Jh,Jr,JJ,Ju,JI,eq_self,Nat.reduceEqDiff,reduceIte,Nat.reduceSub,Nat.reduceAdd,List.cons_append,List.nil_append]);all_goals rfl)
 ·
  intro gh X K zq zc zq2 zc2 zb zv hK;refine Jx fn111 rfl rfl fun w hH=>(l03Bounds_m had haf hG (by omega) (fun h=>⟨hfit.2 h,by rw [Int.sub_add_cancel];exact hfit.1.1⟩) hH).mono ?_;rintro _ w ⟨qo14,co14,vso14,rfl,hH⟩;refine ⟨_,rfl,fun a hF=>JQ hF hH ?_⟩;refine Ji ?_;exact hK qo14 co14 zq2 zc2 zb vso14
 ·
  intro gh gh' h;refine ⟨?_,?_⟩ <;> (first | simp only [h 2 rfl] | rfl)
 apply JX 7 rfl
 iterate 3 focus (intros;(conv=>lhs;simp only [Jh,Jr,JJ,Ju,JI,eq_self,Nat.reduceEqDiff,reduceIte,Nat.reduceSub,Nat.reduceAdd,List.cons_append,List.nil_append]);all_goals rfl)
 ·
  intro gh X K zq zc zq2 zc2 zb zv hK;refine EF (EM u57 sz22) rfl fun qo15 co15=>(Ji ?_);exact hK qo15 co15 zq2 zc2 zb zv
 ·
  intro gh gh' h;refine ⟨?_,?_⟩ <;> rfl
 apply Jk 8 rfl
 iterate 3 focus (intros;(conv=>lhs;simp only [Jh,Jr,JJ,Ju,JI,eq_self,Nat.reduceEqDiff,reduceIte,Nat.reduceSub,Nat.reduceAdd,List.cons_append,List.nil_append]);all_goals rfl)
 ·
  intro gh X K zq zc zq2 zc2 zb zv hK;refine Jg (Jd rfl) rfl (Ji ?_);exact hK zq zc zq2 zc2 zb zv
 ·
  intro gh gh' h
  first | simp only [h 2 rfl,h 5 rfl] | rfl
 apply Jk 9 rfl
 iterate 3 focus (intros;(conv=>lhs;simp only [Jh,Jr,JJ,Ju,JI,eq_self,Nat.reduceEqDiff,reduceIte,Nat.reduceSub,Nat.reduceAdd,List.cons_append,List.nil_append]);all_goals rfl)
 ·
  intro gh X K zq zc zq2 zc2 zb zv hK;refine Jg (Jd rfl) rfl (Ji ?_);exact hK zq zc zq2 zc2 zb zv
 ·
  intro gh gh' h
  first | simp only [h 2 rfl,h 5 rfl] | rfl
 apply Jk 10 rfl
 iterate 3 focus (intros;(conv=>lhs;simp only [Jh,Jr,JJ,Ju,JI,eq_self,Nat.reduceEqDiff,reduceIte,Nat.reduceSub,Nat.reduceAdd,List.cons_append,List.nil_append]);all_goals rfl)
 ·
  intro gh X K zq zc zq2 zc2 zb zv hK;refine Jg (Jd rfl) rfl (Ji ?_);exact hK zq zc zq2 zc2 zb zv
 ·
  intro gh gh' h
  first | simp only [h 2 rfl,h 5 rfl,h 6 rfl] | rfl
 apply Ej [0,1,2,3,4,5,6,7,8,9] [0,1,2,3,4,5,6,7,8,9,10] foll0 rfl rfl rfl (by rfl)
 iterate 2 focus (intros;(conv=>lhs;simp only [Jh,Jr,JJ,Ju,JI,eq_self,Nat.reduceEqDiff,reduceIte,Nat.reduceSub,Nat.reduceAdd,List.cons_append,List.nil_append]);all_goals rfl)
 intro gh;generalize (gh 2).c=co11;generalize (gh 2).q=qo11;generalize (gh 2).vs=vso11;generalize (gh 5).c=co14;generalize (gh 5).q=qo14;generalize (gh 5).vs=vso14;generalize (gh 6).c=co15;generalize (gh 6).q=qo15;clear gh;have hnil:=SlF.nil H;refine EO .z fun Ho11 hleo11 hAo11=>?_;replace had:=had.le hleo11;replace haf:=haf.le hleo11;replace hnil:=hnil.le hleo11;obtain ⟨hxo11,hco11⟩:=mlt_rows hleo11 hAo11;refine EO .z fun Ho14 hleo14 hAo14=>?_;replace had:=had.le hleo14;replace haf:=haf.le hleo14;replace hnil:=hnil.le hleo14;replace hxo11:=hxo11.le hleo14;obtain ⟨hxo14,hco14⟩:=mlt_rows (hleo11.trans hleo14) hAo14;refine EO .z fun Ho15 hleo15 hAo15=>?_;replace had:=had.le hleo15;replace haf:=haf.le hleo15;replace hnil:=hnil.le hleo15;replace hxo11:=hxo11.le hleo15;replace hxo14:=hxo14.le hleo15;have hxo15:=hnil.rows (Le.refl _) hAo15;have hco15:=own_le hAo15;refine Ja (hK2 (Je fun _ hK3 _=>(Je fun _ hK4 _=>(Jb (Jg (Jd rfl) rfl (Jf (Ja (hK4 (Jl (JD (σ:=HP × Option Addr × Nat × Nat) (fun ⟨Hk,q,c,k⟩=>[(8,.int .i64 (k:Int)),(7,.slice q (redS (lfK ad af n k)).length c)]) (fun ⟨Hk,q,c,k⟩=>Hk) (fun ⟨Hk,q,c,k⟩=>obj g2 (.cells [.slice qad ad.length cad,.slice qaf af.length caf].toArray 35 (0,0))::L) (fun ⟨Hk,q,c,k⟩=>Le Ho15 Hk∧RowsR Hk q (redS (lfK ad af n k))∧(redS (lfK ad af n k)).length≤c∧k≤(clS ad af n).length) (fun ⟨Hk,q,c,k⟩=>(clS ad af n).length - k) (Ho15,qo15,co15,0) ⟨Le.refl _,hxo15,hco15,by omega⟩ ⟨rfl,⟨rfl,trivial⟩⟩ rfl rfl ?_))))))))));rintro ⟨Hk,q,c,k⟩ ⟨hlk,hS,hSc,hk⟩ _ hAg0;replace had:=had.le hlk;replace haf:=haf.le hlk;replace hnil:=hnil.le hlk;replace hxo11:=hxo11.le hlk;replace hxo14:=hxo14.le hlk;replace hxo15:=hxo15.le hlk;have hRk:=(redS_ok (lfK_ok (n:=n) (k:=k) hA h8 hd)).1;refine Je fun _ hK5 _=>(Je fun _ hK6 _=>(Jb (Jg (Jc rfl) rfl (Jg (Jc rfl) rfl (Jg (Jm u57 rfl rfl) rfl (Jg (JK rfl rfl) rfl (Jf (Ja (hK6 (Jo rfl (fun h19=>?_) (fun h19=>?_)))))))))))
 ·
  have hk1:k<(clS ad af n).length:=by omega
  have hrk:=hclR.row _ (rw_mem hk1);refine Jn (Ja (hK5 (Je fun _ hK7 _=>(Jl (Jb (Jg (Jc rfl) rfl (Jg (Jc rfl) rfl (Jg (Jc rfl) rfl (Jg (JP u57 sz22 rfl rfl rfl hk1 hxo11.sm) rfl ?_)))))))));obtain ⟨qe26,ce26,he26,le26,Fe26⟩:=hxo11 k hk1;refine Jg (JC rfl he26 pl22) rfl (Jg (Jc rfl) rfl (Jx fn109 rfl rfl fun w hH=>(l03By_c Fe26 hxo14 hrk hbdR.led (by omega) (by omega) le26 hH).mono ?_));rintro _ w ⟨Hf28,qf28,cf28,hlf28,hI28,hcc28,rfl,hH⟩;refine ⟨_,rfl,fun a hF=>JQ hF hH ?_⟩;replace had:=had.le hlf28;replace haf:=haf.le hlf28;replace hnil:=hnil.le hlf28;replace hxo11:=hxo11.le hlf28;replace hxo14:=hxo14.le hlf28;replace hxo15:=hxo15.le hlf28;replace hS:=hS.le hlf28;replace Fe26:=Fe26.le hlf28;refine Jx fn128 rfl rfl fun w hH=>(l03Put_c hS hI28 hRk (byS_ok hrk hbdR.row) (by omega) hcc28 hSc hH).mono ?_;rintro _ w ⟨Hf29,qf29,cf29,hlf29,hI29,hcc29,rfl,hH⟩;refine ⟨_,rfl,fun a hF=>JQ hF hH ?_⟩;replace had:=had.le hlf29;replace haf:=haf.le hlf29;replace hnil:=hnil.le hlf29;replace hxo11:=hxo11.le hlf29;replace hxo14:=hxo14.le hlf29;replace hxo15:=hxo15.le hlf29;replace hS:=hS.le hlf29;replace Fe26:=Fe26.le hlf29;replace hI28:=hI28.le hlf29;refine Jg (Jd rfl) rfl (Jf (JF (Ja (hK7 (Jb (Jg (Jc rfl) rfl (Jg (JA rfl rfl (by first | exact nw _ (by omega) | rfl)) rfl (Jg (Jd rfl) rfl (Jf (Ja ?_))))))))));exact hAg0 (Hf29,qf29,cf29,k+1) ⟨((hlk.trans hlf28).trans hlf29),by rw [csK_succ hk1];exact hI29,by rw [csK_succ hk1];exact hcc29,by omega⟩ (by show (clS ad af n).length - (k+1)<(clS ad af n).length - k;omega) 18 rfl rfl ⟨rfl,⟨(by rw [csK_succ hk1];rfl),trivial⟩⟩ rfl rfl
 ·
  refine JH (Jj (Jj (JM (Ja (hK3 (Je fun _ hK8 _=>(Jb (Jg (Jc rfl) rfl (Jg (Jd rfl) rfl (Jf (Ja (hK8 (Jv (Jq rfl (Res.tmp rfl) fun w hH=>?_))))))))))))));replace hH:=hH.tail
  have hke:k=(clS ad af n).length:=by omega
  rw [lfK_end hke] at hS hSc;exact ⟨_,q,c,(((hleo11.trans hleo14).trans hleo15).trans hlk),hS,hSc,by rw [lfK_end hke],hH⟩
theorem l03Classes_m {B:World} {H0 H:HP} {L:List SA} {w:World} {qad qaf:Option Addr} {cad caf:Nat} {ad:List Int} {af:List (List Term)} {n:Int} (had:Ints H qad ad) (haf:Forms H qaf af) (hG:isAlg ad af=true) (hn:0≤n∧n≤40) (hfit:fit3 ad n) (hH:Hp B H0 H L w) :
 Calls Tryz.prog 75 [.agg [.slice qad ad.length cad,.slice qaf af.length caf].toArray,.int .i64 n].toArray w fun e w'=>∃q c vs,e = .returned (.slice q (csS ad af n).length c)∧Hp B H0 H (mlt (RwK q c (csS ad af n)) H vs::L) w':=(l03Classes_c had haf hG hn hfit hH).mono fun e w' h=>by
 obtain ⟨H',q,c,hle,hI,hc,he,hH'⟩:=h
 obtain ⟨vs,h2⟩:=hH.melt (K:=RwK q c (csS ad af n)) hH' hle ⟨hI,hc⟩
 exact ⟨q,c,vs,he,h2⟩
theorem cfR_ok {ds:List Int} {n:Int} {M:Int} {s:Sm} (hs:Sok M s):RowOk (monL ds n).length ((monL ds n).map (cf s)):=⟨by simp,fun k=>by
 by_cases hk:k<(monL ds n).length
 ·have e:((monL ds n).map (cf s)).getD k 0=cf s (monL ds n)[k]:=by simp [List.getD_eq_getElem?_getD,List.getElem?_eq_getElem hk]
  rw [e]
  exact cf_bd hs _
 ·rw [getD_ge (by simp;omega)]
  omega⟩
theorem vec_mon {ds:List Int} {n:Int} {M:Int} {f:List Term} (h8:ds.length≤8) (hf:Sok M (toS f)) (hi : ∀x∈toS f,x.1∈monL ds n):vec f (monL ds n)=(monL ds n).map (cf (toS f)):=vec_cf hf.srt (monL_srt ds n h8) hi
def clK (ds:List Int) (fs:List (List Term)) (n:Int) (v:List Int) (k:Nat):List Int:=((csS ds fs n).take k).map fun r=>(byS v (bdS ds fs n)).getD (ldR r) 0
theorem clK_succ {ds:List Int} {fs:List (List Term)} {n:Int} {v:List Int} {k:Nat} (hk:k<(csS ds fs n).length):clK ds fs n v (k+1)=clK ds fs n v k++[(byS v (bdS ds fs n)).getD (ldR (rw_ (csS ds fs n) k)) 0]:=by
 unfold clK;rw [rw_take hk,List.map_append]
 rfl
theorem clK_end {ds:List Int} {fs:List (List Term)} {n:Int} {v:List Int} {k:Nat} (hk:k=(csS ds fs n).length):clK ds fs n v k=clV ds fs n v:=by
 subst hk;unfold clK clV;rw [List.take_length]
theorem clK_len {ds:List Int} {fs:List (List Term)} {n:Int} {v:List Int} {k:Nat} (hk:k≤(csS ds fs n).length):(clK ds fs n v k).length=k:=by
 unfold clK;rw [List.length_map,List.length_take]
 omega
theorem clV_len (ds:List Int) (fs:List (List Term)) (n:Int) (v:List Int):(clV ds fs n v).length=(csS ds fs n).length:=by simp [clV]
theorem l03Class_c {B:World} {H0 H:HP} {L:List SA} {w:World} {qad qaf:Option Addr} {cad caf:Nat} {ad:List Int} {af:List (List Term)} {n:Int} {qts:Option Addr} {cts:Nat} {ts:List Term} {M:Int} (had:Ints H qad ad) (haf:Forms H qaf af) (hts:Terms H qts ts) (hG:isAlg ad af=true) (hn:0≤n∧n≤40) (hfit:fit3 ad n) (hfl:ts.length≤1000000) (hfs:Sok M (toS ts)) (hfi : ∀x∈toS ts,x.1∈monL ad n) (hH:Hp B H0 H L w):Calls Tryz.prog 69 [.agg [.slice qad ad.length cad,.slice qaf af.length caf].toArray,.int .i64 n,.agg [.slice qts ts.length cts].toArray].toArray w fun e w'=>∃q c,e = .returned (.slice q (clV ad af n ((monL ad n).map (cf (toS ts)))).length c)∧Hp B H0 H (own 2 1 q (clV ad af n ((monL ad n).map (cf (toS ts)))).length c (intsC (clV ad af n ((monL ad n).map (cf (toS ts)))))::L) w':=by
 refine Jy Tryz.func69 rfl 43 rfl rfl [(0,.agg [.slice qad ad.length cad,.slice qaf af.length caf].toArray),(1,.int .i64 n),(2,.agg [.slice qts ts.length cts].toArray)] rfl hH ?_;have hw0:=hH.old;have hw1:=hH.le;clear hH;have hwf:=haf.wfss;have hA:=isAlg_ok hG hwf;have h8:=hA.hn;have hd:=alg_112 hG;have hml:=monL_len ad n;have hml1:=monL_len ad (n+1);have hclR:=clS_red (n:=n) hA h8 hd;have hbdR:=bdS_red (n:=n) hA h8 hd;have hcll:=clS_len (n:=n) hA h8 hd;have hbdl:=bdS_len (n:=n) hA h8 hd;have hcsR:=csS_red (n:=n) hA h8 hd;have hcsl:=csS_len (n:=n) hA h8 hd;have hmT0:=monT_L hfit.1.1;have hv:=vec_mon h8 hfs hfi;have hvo:=cfR_ok (ds:=ad) (n:=n) hfs;have hbo:=byS_ok hvo hbdR.row;have hbl:=hbo.len;refine Je fun _ hK1 _=>(Jb (Ef rfl rfl rfl fun g3=>(Ef rfl rfl rfl fun g5=>(Jg (Jd rfl) rfl (Jf (Ja (hK1 (Je fun _ hK2 _=>(Ei (Rs:=[_,_]) 11 [[], [], [1], [], [1,2,3], [0,1,2,3,4], [], [], [0,1,2,3,4,5,6,7], [0,1,2,3,4,5,6,7,8], [0,1,2,3,4,5,6,7,8,9]] [[11], [], [12], [], [], [4], [12], [], [], [], []] [[], [], [], [], [], [], [], [], [], [5,8], []] rfl rfl (by kernel_rfl) ?_)))))))));apply Jk 1 rfl
 iterate 3 focus (intros;(conv=>lhs;simp only [Jh,Jr,JJ,Ju,JI,eq_self,Nat.reduceEqDiff,reduceIte,Nat.reduceSub,Nat.reduceAdd,List.cons_append,List.nil_append]);all_goals rfl)
 ·
  intro gh X K zq zc zq2 zc2 zb zv hK;refine Jg (Jz rfl At.z (by simpa [*] using ag39)) rfl (Ji ?_);exact hK zq zc zq2 zc2 zb zv
 ·
  intro gh gh' h
  rfl
 apply Jk 2 rfl
 iterate 3 focus (intros;(conv=>lhs;simp only [Jh,Jr,JJ,Ju,JI,eq_self,Nat.reduceEqDiff,reduceIte,Nat.reduceSub,Nat.reduceAdd,List.cons_append,List.nil_append]);all_goals rfl)
 ·
  intro gh X K zq zc zq2 zc2 zb zv hK;refine Jg (Jt u35 rfl sz22 rfl) rfl (Ji ?_);exact hK zq zc zq2 zc2 zb zv
 ·
  intro gh gh' h
  rfl
 apply Jk 3 rfl
 iterate 3 focus (intros;(conv=>lhs;simp only [Jh,Jr,JJ,Ju,JI,eq_self,Nat.reduceEqDiff,reduceIte,Nat.reduceSub,Nat.reduceAdd,List.cons_append,List.nil_append]);all_goals rfl)
 ·
  intro gh X K zq zc zq2 zc2 zb zv hK;refine Jg (Jw rfl At.z rfl pl22) rfl (Ji ?_);exact hK zq zc zq2 zc2 zb zv
 ·
  intro gh gh' h
  rfl
 apply Jk 4 rfl
 iterate 3 focus (intros;(conv=>lhs;simp only [Jh,Jr,JJ,Ju,JI,eq_self,Nat.reduceEqDiff,reduceIte,Nat.reduceSub,Nat.reduceAdd,List.cons_append,List.nil_append]);all_goals rfl)
 ·
  intro gh X K zq zc zq2 zc2 zb zv hK;refine Jg (Jc rfl) rfl (Ji ?_);exact hK zq zc zq2 zc2 zb zv
 ·
  intro gh gh' h
  rfl
 apply JX 5 rfl
 iterate 3 focus (intros;(conv=>lhs;simp only [Jh,Jr,JJ,Ju,JI,eq_self,Nat.reduceEqDiff,reduceIte,Nat.reduceSub,Nat.reduceAdd,List.cons_append,List.nil_append]);all_goals rfl)
 ·
  intro gh X K zq zc zq2 zc2 zb zv hK;refine Jx fn66 rfl rfl fun w hH=>(l01Monomials_c had hd h8 (by omega) hH).mono ?_;rintro _ w ⟨qo15,co15,rfl,hH⟩;refine ⟨_,rfl,fun a hF=>JQ hF hH ?_⟩;refine Ji ?_;exact hK qo15 co15 zq2 zc2 zb zv
 ·
  intro gh gh' h;refine ⟨?_,?_⟩ <;> rfl
 apply JX 6 rfl
 iterate 3 focus (intros;(conv=>lhs;simp only [Jh,Jr,JJ,Ju,JI,eq_self,Nat.reduceEqDiff,reduceIte,Nat.reduceSub,Nat.reduceAdd,List.cons_append,List.nil_append]);all_goals rfl)
 ·
  intro gh X K zq zc zq2 zc2 zb zv hK;refine Jx fn110 rfl rfl fun w hH=>hH.lend .z fun Hl1 hle1 hA1 hB1 hH=>(l03Vector_c (hts.le hle1) (own_monos (monT_8 h8) hA1) (by rw [hmT0];omega) (by omega) (by rw [hmT0];exact monL_mn h8) hH).mono ?_;rintro _ w ⟨qo16,co16,rfl,hH⟩;replace hH:=hB1 _ _ hH;refine ⟨_,rfl,fun a hF=>JQ hF hH ?_⟩;refine Js .z (Js (.s .z) (Ji ?_));exact hK qo16 co16 zq2 zc2 zb zv
 ·
  intro gh gh' h;refine ⟨?_,?_⟩ <;> (first | simp only [h 4 rfl] | rfl)
 apply Jk 7 rfl
 iterate 3 focus (intros;(conv=>lhs;simp only [Jh,Jr,JJ,Ju,JI,eq_self,Nat.reduceEqDiff,reduceIte,Nat.reduceSub,Nat.reduceAdd,List.cons_append,List.nil_append]);all_goals rfl)
 ·
  intro gh X K zq zc zq2 zc2 zb zv hK;refine Jg (Jz rfl At.z (by simpa [*] using ag35)) rfl (Ji ?_);exact hK zq zc zq2 zc2 zb zv
 ·
  intro gh gh' h
  rfl
 apply Jk 8 rfl
 iterate 3 focus (intros;(conv=>lhs;simp only [Jh,Jr,JJ,Ju,JI,eq_self,Nat.reduceEqDiff,reduceIte,Nat.reduceSub,Nat.reduceAdd,List.cons_append,List.nil_append]);all_goals rfl)
 ·
  intro gh X K zq zc zq2 zc2 zb zv hK;refine Jg (Jc rfl) rfl (Ji ?_);exact hK zq zc zq2 zc2 zb zv
 ·
  intro gh gh' h
  rfl
 apply JX 9 rfl
 iterate 3 focus (intros;(conv=>lhs;simp only [Jh,Jr,JJ,Ju,JI,eq_self,Nat.reduceEqDiff,reduceIte,Nat.reduceSub,Nat.reduceAdd,List.cons_append,List.nil_append]);all_goals rfl)
 ·
  intro gh X K zq zc zq2 zc2 zb zv hK;refine Jx fn111 rfl rfl fun w hH=>(l03Bounds_m had haf hG (by omega) (fun h=>⟨hfit.2 h,by rw [Int.sub_add_cancel];exact hfit.1.1⟩) hH).mono ?_;rintro _ w ⟨qo19,co19,vso19,rfl,hH⟩;refine ⟨_,rfl,fun a hF=>JQ hF hH ?_⟩;refine Ji ?_;exact hK qo19 co19 zq2 zc2 zb vso19
 ·
  intro gh gh' h;refine ⟨?_,?_⟩ <;> (first | simp only [h 4 rfl,h 5 rfl] | rfl)
 apply JX 10 rfl
 iterate 3 focus (intros;(conv=>lhs;simp only [Jh,Jr,JJ,Ju,JI,eq_self,Nat.reduceEqDiff,reduceIte,Nat.reduceSub,Nat.reduceAdd,List.cons_append,List.nil_append]);all_goals rfl)
 ·
  intro gh X K zq zc zq2 zc2 zb zv hK;refine Jx fn109 rfl rfl fun w hH=>(Hp.byM (by rw [hmT0,hv];exact hvo) hbdR.led (by omega) (by omega) ((hH.front .z).front (.s .z))).mono ?_;rintro _ w ⟨qo20,co20,vso20,rfl,hH⟩;refine ⟨_,rfl,fun a hF=>JQ hF hH ?_⟩;refine Ji ?_;exact hK qo20 co20 zq2 zc2 zb vso20
 ·
  intro gh gh' h;refine ⟨?_,?_⟩ <;> (first | simp only [h 4 rfl,h 5 rfl,h 8 rfl] | rfl)
 apply Jk 11 rfl
 iterate 3 focus (intros;(conv=>lhs;simp only [Jh,Jr,JJ,Ju,JI,eq_self,Nat.reduceEqDiff,reduceIte,Nat.reduceSub,Nat.reduceAdd,List.cons_append,List.nil_append]);all_goals rfl)
 ·
  intro gh X K zq zc zq2 zc2 zb zv hK;refine Jg (Jd rfl) rfl (Ji ?_);exact hK zq zc zq2 zc2 zb zv
 ·
  intro gh gh' h
  first | simp only [h 4 rfl,h 5 rfl,h 8 rfl,h 9 rfl] | rfl
 apply Ej [0,1,2,3,4,5,6,7,8,9,10] [0,1,2,3,4,6,7,9,10,11,12] foll0 rfl rfl rfl (by rfl)
 iterate 2 focus (intros;(conv=>lhs;simp only [Jh,Jr,JJ,Ju,JI,eq_self,Nat.reduceEqDiff,reduceIte,Nat.reduceSub,Nat.reduceAdd,List.cons_append,List.nil_append]);all_goals rfl)
 intro gh;generalize (gh 4).c=co15;generalize (gh 4).q=qo15;generalize (gh 5).c=co16;generalize (gh 5).q=qo16;generalize (gh 8).c=co19;generalize (gh 8).q=qo19;generalize (gh 8).vs=vso19;generalize (gh 9).c=co20;generalize (gh 9).q=qo20;generalize (gh 9).vs=vso20;clear gh;refine EO .z fun Ho15 hleo15 hAo15=>?_;replace had:=had.le hleo15;replace haf:=haf.le hleo15;replace hts:=hts.le hleo15;have hxo15:=own_monos (monT_8 h8) hAo15;have hco15:=own_le hAo15;refine EO .z fun Ho20 hleo20 hAo20=>?_;replace had:=had.le hleo20;replace haf:=haf.le hleo20;replace hts:=hts.le hleo20;replace hxo15:=hxo15.le hleo20;obtain ⟨hxo20,hco20⟩:=mlt_ints (hleo15.trans hleo20) hAo20;rw [hmT0,hv] at hxo20 hco20 ⊢;refine Ja (hK2 (Je fun _ hK3 _=>(Jb (Jg (Jz rfl (.s .z) (by simpa [*] using ag35)) rfl (Jg (Jc rfl) rfl (Jx fn75 rfl rfl fun w hH=>(l03Classes_c had haf hG (by omega) hfit hH).mono ?_))))));rintro _ w ⟨Hf23,qf23,cf23,hlf23,hI23,hcc23,rfl,hH⟩;refine ⟨_,rfl,fun a hF=>JQ hF hH ?_⟩;replace had:=had.le hlf23;replace haf:=haf.le hlf23;replace hts:=hts.le hlf23;replace hxo15:=hxo15.le hlf23;replace hxo20:=hxo20.le hlf23;refine EF (MK.lit0I u22 sz2) rfl fun qo24 co24=>(Jg (Jd rfl) rfl (Jg (Jd rfl) rfl (Jf (Ja (hK3 (Je fun _ hK4 _=>(Je fun _ hK5 _=>(Jb (Jg (Jd rfl) rfl (Jf (Ja (hK5 (Jl (JD (σ:=Option Addr × Nat × Nat) (fun ⟨q,c,k⟩=>[(10,.int .i64 (k:Int)),(9,.slice q (clK ad af n ((monL ad n).map (cf (toS ts))) k).length c)]) (fun ⟨q,c,k⟩=>Hf23) (fun ⟨q,c,k⟩=>own 2 1 q (clK ad af n ((monL ad n).map (cf (toS ts))) k).length c (intsC (clK ad af n ((monL ad n).map (cf (toS ts))) k))::obj g5 (.cells [.slice qts ts.length cts].toArray 39 (0,0))::obj g3 (.cells [.slice qad ad.length cad,.slice qaf af.length caf].toArray 35 (0,0))::L) (fun ⟨q,c,k⟩=>k≤(csS ad af n).length) (fun ⟨q,c,k⟩=>(csS ad af n).length - k) (qo24,co24,0) (by show 0≤_;omega) ⟨rfl,⟨rfl,trivial⟩⟩ rfl rfl ?_))))))))))))));rintro ⟨q,c,k⟩ hk _ hAg0;have hckl:=clK_len (v:=((monL ad n).map (cf (toS ts)))) hk;refine Je fun _ hK6 _=>(Je fun _ hK7 _=>(Jb (Jg (Jc rfl) rfl (Jg (Jc rfl) rfl (Jg (Jm u57 rfl rfl) rfl (Jg (JK rfl rfl) rfl (Jf (Ja (hK7 (Jo rfl (fun h28=>?_) (fun h28=>?_)))))))))))
 ·
  have hk1:k<(csS ad af n).length:=by omega
  have hrk:=hcsR.led _ (rw_mem hk1);have hrl:=hrk.1.len;have hld:=idxOf_ld (r:=rw_ (csS ad af n) k) (by omega);have hrle:=hrk.2;refine Jn (Ja (hK6 (Je fun _ hK8 _=>(Jl (Jb (Jg (Jc rfl) rfl (Jg (Jc rfl) rfl (Jg (Jc rfl) rfl (Jg (Jc rfl) rfl (Jg (JP u57 sz22 rfl rfl rfl hk1 hI23.sm) rfl ?_))))))))));obtain ⟨qe36,ce36,he36,le36,Fe36⟩:=hI23 k hk1;refine Jg (JC rfl he36 pl22) rfl (Jx fn108 rfl rfl fun w hH=>(l03First_c Fe36 (by omega) hH).mono ?_);rintro _ w ⟨rfl,hH⟩;refine ⟨_,rfl,fun a hF=>JQ hF hH ?_⟩;rw [hld];refine Jg (JP u22 sz2 rfl rfl rfl (by omega) hxo20.sm) rfl (Jg (JC rfl (hxo20 _ (by omega)) pl2) rfl (EF (MK.lit1I u22 ze2 sz2 rfl) rfl fun qo40 co40=>(J.appendOI u22 ze2 sz2 by2 rfl rfl (by simp only [List.length_cons,List.length_nil];omega) .z At.z (fun _ _=>At.z) rfl fun qo41 co41=>(Jg (Jd rfl) rfl (Jf (JF (Ja (hK8 (Jb (Jg (Jc rfl) rfl (Jg (JA rfl rfl (by first | exact nw _ (by omega) | rfl)) rfl (Jg (Jd rfl) rfl (Jf (Ja (JN .z ?_)))))))))))))));exact hAg0 (qo41,co41,k+1) (by show k+1≤_;omega) (by show (csS ad af n).length - (k+1)<(csS ad af n).length - k;omega) 21 rfl rfl ⟨rfl,⟨(by rw [clK_succ hk1];rfl),trivial⟩⟩ rfl (by dsimp only;rw [clK_succ hk1])
 ·
  refine JH (Jj (Jj (JM (Ja (hK4 (Je fun _ hK9 _=>(Jb (Jg (Jc rfl) rfl (Jg (Jd rfl) rfl (Jf (Ja (hK9 (Jv (Jq rfl (Res.tmp rfl) fun w hH=>?_))))))))))))));replace hH:=hH.sublist (.cons_cons _ (.cons _ (.cons _ (List.Sublist.refl _))))
  have hke:k=(csS ad af n).length:=by omega
  rw [clK_end hke] at hH ⊢;exact ⟨_,_,rfl,hH.weaken ((hleo15.trans hleo20).trans hlf23) hw0 hw1⟩
theorem fn68:Fn Tryz.prog 68:=⟨_,Tryz.func68,by kernel_rfl,rfl⟩
theorem bd172_0_1 : ∀(p0:Option Addr) (b1:Nat) w,(Instr.build 172 #[(0,.pointer p0),(1,.map (some b1))]).run Tryz.prog w = .ok (.agg [.pointer p0,.map (some b1)].toArray) w:=fun p0 b1 _=>by kernel_rfl
theorem lvO_cell : ∀{ls:List (Int × Lv)} {x:Int × Lv} {h:HP},x∈ls→(lvO ls).holds h→(lvB x.2).holds h
 | [],_,_,hx,_=>by simp at hx
 | y::ls,x,h,hx,hh=>by
  rcases List.mem_cons.1 hx with rfl | hx
  ·exact hh.1
  ·exact lvO_cell hx hh.2.1
theorem cpx_cell {lb:Nat} {ls:List (Int × Lv)} {n:Int} {x:Lv} {h:HP} {k:Nat} {v:Value} (hx:(n,x)∈ls) (hh:(cpx lb ls).holds h) (hk:x.cells[k]? = some v):cellO h (some ⟨x.b,0,none⟩) k=some v:=obj_cell (lvO_cell hx hh.2.1) hk
section
variable {P : Program} {ops : Array Oper} {Q : Exit → Act → World → Prop} {n : Nat} {B : World} {H0 H : HP} {rest : List Oper} {us : List (Nat × Value)} {L L' : List SA} {t : TypeId} {p : String} {af : Array Edge} {d : Nat} {x y : Operand}
theorem EQ {ty:TypeId} {lb k b:Nat} {ls:List (Int × Lv)} {m:Int} {lv:Lv} {v:Value} (hx:opv us x=some (ptr (some ⟨b,0,none⟩) k)) (hat:At L (cpx lb ls) (cpx lb ls) L) (hm:(m,lv)∈ls) (hb:lv.b=b) (hk:lv.cells[k]? = some v) (hp:Plain P ty):PR P n B H0 us H L (.load ty x) t v:=
 fun c' w' d' b' a w hF hH=>by
  subst hb
  exact JC (H:=G.hp w) (L:=[]) (B:=w) (H0:=G.hp w) hx (cpx_cell hm (hH.objs _ hat.mem).1 hk) hp c' w' d' b' a w hF (Hp.start fun _ _ h=>h)
end
theorem Hp.cpx0 {B:World} {H0 H:HP} {L:List SA} {w:World} {lb:Nat} (h:Hp B H0 H (lvM lb []::L) w):Hp B H0 H (cpx lb []::L) w:=(h.emp.front (.s .z)).star
theorem monL_pok {ds:List Int} {n:Int} (h8:ds.length≤8) : ∀p∈monL ds n,Pok 20 p:=fun p hp=>mon_pok h8 (List.mem_of_mem_take hp)
theorem newComplex_c {B:World} {H0 H:HP} {L:List SA} {w:World} {ba:Nat} {qad qaf:Option Addr} {cad caf:Nat} {ad:List Int} {af:List (List Term)} (pad:CellAt H ba 0 (.slice qad ad.length cad)) (paf:CellAt H ba 1 (.slice qaf af.length caf)) (had:Ints H qad ad) (haf:Forms H qaf af) (hH:Hp B H0 H L w):Calls Tryz.prog 83 [.pointer (some ⟨ba,0,none⟩)].toArray w fun e w'=>∃H' b lc,Le H H' ∧CellAt H' b 0 (.pointer (some ⟨ba,0,none⟩))∧CellAt H' b 1 (.map (some lc))∧e = .returned (.pointer (some ⟨b,0,none⟩))∧Hp B H0 H' (cpx lc []::L) w':=by
 refine Jy Tryz.func83 rfl 7 rfl rfl [(0,.pointer (some ⟨ba,0,none⟩))] rfl hH ?_;clear hH;refine Je fun _ hK1 _=>(Jb (Jg (Jd rfl) rfl (Jf (Ja (hK1 (Je fun _ hK2 _=>(Jb (Jg (Jc rfl) rfl (ER ekI evB okI rfl fun bm4=>(Jg (PR.build2 rfl rfl (fun w=>bd172_0_1 _ _ w)) rfl (Ef rfl rfl rfl fun g6=>(J.freezeRow .z fun H6 hle6 hc6=>?_))))))))))));replace pad:=pad.le hle6;replace paf:=paf.le hle6;replace had:=had.le hle6;replace haf:=haf.le hle6;refine Jg (Jd rfl) rfl (Jf (Ja (hK2 (Jv (Jq rfl (Res.tmp rfl) fun w hH=>?_)))));replace hH:=hH.sublist (.cons_cons _ (List.Sublist.refl _));exact ⟨_,_,_,hle6,hc6 0 _ rfl,hc6 1 _ rfl,rfl,hH.cpx0⟩
theorem class_c {B:World} {H0 H:HP} {L:List SA} {w:World} {bc lc:Nat} {bca:Nat} {qcad qcaf:Option Addr} {ccad ccaf:Nat} {cad:List Int} {caf:List (List Term)} {lsc:List (Int × Lv)} {n:Int} {vs:Value} {Ms:Int} {s:Sm} (pc0:CellAt H bc 0 (.pointer (some ⟨bca,0,none⟩))) (pc1:CellAt H bc 1 (.map (some lc))) (pcad:CellAt H bca 0 (.slice qcad cad.length ccad)) (pcaf:CellAt H bca 1 (.slice qcaf caf.length ccaf)) (hcad:Ints H qcad cad) (hcaf:Forms H qcaf caf) (hs:SumH H vs s) (ks:Sok Ms s) (hGc:isAlg cad caf=true) (hn:0≤n∧n≤39) (hfit:fit3 cad n) (hCc:CpxOk H cad caf (fun _=>False) lsc) (hNc:Nxt (fun _=>False) lsc) (hM:Ms≤1000000) (hin : ∀x∈s,x.1∈monL cad n) (hH:Hp B H0 H (cpx lc lsc::L) w):Calls Tryz.prog 70 [.pointer (some ⟨bc,0,none⟩),.int .i64 n,vs].toArray w fun e w'=>∃H' ls' q c,Le H H' ∧CpxOk H' cad caf (fun _=>False) ls' ∧Nxt (fun _=>False) ls' ∧Kp lsc ls' ∧e = .returned (.slice q (clV cad caf n ((monL cad n).map (cf s))).length c)∧Hp B H0 H' (own 2 1 q (clV cad caf n ((monL cad n).map (cf s))).length c (intsC (clV cad caf n ((monL cad n).map (cf s))))::cpx lc ls'::L) w':=by
 refine Jy Tryz.func70 rfl 43 rfl rfl [(0,.pointer (some ⟨bc,0,none⟩)),(1,.int .i64 n),(2,vs)] rfl hH ?_;clear hH;have hwc:=hcaf.wfss;have hAc:=isAlg_ok hGc hwc;have h8c:=hAc.hn;have hdc:=alg_112 hGc;have hml:=monL_len cad n;have hcsR:=csS_red (n:=n) hAc h8c hdc;have hcsl:=csS_len (n:=n) hAc h8c hdc;have hbdR:=bdS_red (n:=n) hAc h8c hdc;have hbdl:=bdS_len (n:=n) hAc h8c hdc;have hclR:=clS_red (n:=n) hAc h8c hdc;have hcll:=clS_len (n:=n) hAc h8c hdc;have hvo:=cfR_ok (ds:=cad) (n:=n) ks;have hbo:=byS_ok hvo hbdR.row;have hbl:=hbo.len;refine Je fun _ hK1 _=>(Jb (Jg (Jd rfl) rfl (Jf (Ja (hK1 (Je fun _ hK2 _=>(Jb (Jg (Jc rfl) rfl (Jg (Jc rfl) rfl (Jx fn68 rfl rfl fun w hH=>(at_c pc0 pc1 pcad pcaf hcad hcaf hdc h8c (by omega) hAc hfit (fun m hm hf=>hom_of hGc hwc h8c hdc (by omega) hf) hCc hNc (hH.front .z)).mono ?_))))))))));rintro _ w ⟨Hf14,ls14,⟨b14,p14,⟨ql14,kl14,cl14⟩,⟨qm14,km14,cm14⟩,⟨qz14,kz14,cz14⟩,⟨qy14,ky14,cy14⟩,⟨qx14,kx14,cx14⟩⟩,hlf14,hC14,hN14,hx14,⟨hL14,hM14,hkp14⟩,rfl,hH⟩;refine ⟨_,rfl,fun a hF=>JQ hF hH ?_⟩;replace pc0:=pc0.le hlf14;replace pc1:=pc1.le hlf14;replace pcad:=pcad.le hlf14;replace pcaf:=pcaf.le hlf14;replace hcad:=hcad.le hlf14;replace hcaf:=hcaf.le hlf14;replace hs:=hs.le hlf14;replace hCc:=hCc.le hlf14;obtain rfl:kl14=(monL cad (n)).length:=(hC14.ok _ hx14).one.len;have hpw14:Pows Hf14 ql14 (monL cad (n)):=(hC14.ok _ hx14).one.pw;have hpl14:SumH Hf14 (.map (some p14)) (plM (monL cad (n))):=(hC14.ok _ hx14).one.pl;obtain ⟨⟨e1,hz14⟩,⟨e2,hb14⟩,e3,hs14⟩:(kz14=(clS cad caf (n)).length∧RowsR Hf14 qz14 (clS cad caf (n)))∧(ky14=(bdS cad caf (n)).length∧RowsR Hf14 qy14 (bdS cad caf (n)))∧kx14=(csS cad caf (n)).length∧RowsR Hf14 qx14 (csS cad caf (n)):=hL14;subst e1 e2 e3;refine Jg (Jd rfl) rfl (Jf (Ja (hK2 (Je fun _ hK3 _=>(Ei (Rs:=[_]) 11 [[], [], [0,1], [], [3], [3,4], [3,4,5], [0,1,2,3,4,5,6], [], [0,1,2,3,4,5,6,7], [0,1,2,3,4,5,6,7,8,9]] [[], [], [11], [], [], [], [11], [2], [], [], []] [[], [], [], [], [], [], [], [], [], [], []] rfl rfl (by kernel_rfl) ?_)))));apply Jk 1 rfl
 iterate 3 focus (intros;(conv=>lhs;simp only [Jh,Jr,JJ,Ju,JI,eq_self,Nat.reduceEqDiff,reduceIte,Nat.reduceSub,Nat.reduceAdd,List.cons_append,List.nil_append]);all_goals rfl)
 ·
  intro gh X K zq zc zq2 zc2 zb zv hK;refine Jg (Jc rfl) rfl (Ji ?_);exact hK zq zc zq2 zc2 zb zv
 ·
  intro gh gh' h
  rfl
 apply Jk 2 rfl
 iterate 3 focus (intros;(conv=>lhs;simp only [Jh,Jr,JJ,Ju,JI,eq_self,Nat.reduceEqDiff,reduceIte,Nat.reduceSub,Nat.reduceAdd,List.cons_append,List.nil_append]);all_goals rfl)
 ·
  intro gh X K zq zc zq2 zc2 zb zv hK;refine Jg (Jc rfl) rfl (Ji ?_);exact hK zq zc zq2 zc2 zb zv
 ·
  intro gh gh' h
  rfl
 apply JX 3 rfl
 iterate 3 focus (intros;(conv=>lhs;simp only [Jh,Jr,JJ,Ju,JI,eq_self,Nat.reduceEqDiff,reduceIte,Nat.reduceSub,Nat.reduceAdd,List.cons_append,List.nil_append]);all_goals rfl)
 ·
  intro gh X K zq zc zq2 zc2 zb zv hK;refine Jx fn117 rfl rfl fun w hH=>hH.lend .z fun Hl1 hle1 hA1 hB1 hH=>(row_c (cpx_cell hx14 hA1 rfl) (cpx_cell hx14 hA1 rfl) (hs.le hle1) ks (hpw14.le hle1) (hpl14.le hle1) (monL_nodup h8c _) (by omega) hin (by omega) hH).mono ?_;rintro _ w ⟨qo17,co17,rfl,hH⟩;replace hH:=hB1 _ _ hH;refine ⟨_,rfl,fun a hF=>JQ hF hH ?_⟩;refine Js .z (Js (.s .z) (Ji ?_));exact hK qo17 co17 zq2 zc2 zb zv
 ·
  intro gh gh' h;refine ⟨?_,?_⟩ <;> rfl
 apply Jk 4 rfl
 iterate 3 focus (intros;(conv=>lhs;simp only [Jh,Jr,JJ,Ju,JI,eq_self,Nat.reduceEqDiff,reduceIte,Nat.reduceSub,Nat.reduceAdd,List.cons_append,List.nil_append]);all_goals rfl)
 ·
  intro gh X K zq zc zq2 zc2 zb zv hK;refine Jg (Jc rfl) rfl (Ji ?_);exact hK zq zc zq2 zc2 zb zv
 ·
  intro gh gh' h
  rfl
 apply Jk 5 rfl
 iterate 3 focus (intros;(conv=>lhs;simp only [Jh,Jr,JJ,Ju,JI,eq_self,Nat.reduceEqDiff,reduceIte,Nat.reduceSub,Nat.reduceAdd,List.cons_append,List.nil_append]);all_goals rfl)
 ·
  intro gh X K zq zc zq2 zc2 zb zv hK;refine Jg (JG rfl) rfl (Ji ?_);exact hK zq zc zq2 zc2 zb zv
 ·
  intro gh gh' h
  rfl
 apply Jk 6 rfl
 iterate 3 focus (intros;(conv=>lhs;simp only [Jh,Jr,JJ,Ju,JI,eq_self,Nat.reduceEqDiff,reduceIte,Nat.reduceSub,Nat.reduceAdd,List.cons_append,List.nil_append]);all_goals rfl)
 ·
  intro gh X K zq zc zq2 zc2 zb zv hK;refine Jg (Jt u95 rfl sz57 rfl) rfl (Ji ?_);exact hK zq zc zq2 zc2 zb zv
 ·
  intro gh gh' h
  rfl
 apply Jk 7 rfl
 iterate 3 focus (intros;(conv=>lhs;simp only [Jh,Jr,JJ,Ju,JI,eq_self,Nat.reduceEqDiff,reduceIte,Nat.reduceSub,Nat.reduceAdd,List.cons_append,List.nil_append]);all_goals rfl)
 ·
  intro gh X K zq zc zq2 zc2 zb zv hK;refine Jg (EQ (b:=b14) (k:=4) (v:=.slice qy14 (bdS cad caf (n)).length cy14) rfl At.z hx14 rfl rfl pl57) rfl (Ji ?_);exact hK zq zc zq2 zc2 zb zv
 ·
  intro gh gh' h
  rfl
 apply JX 8 rfl
 iterate 3 focus (intros;(conv=>lhs;simp only [Jh,Jr,JJ,Ju,JI,eq_self,Nat.reduceEqDiff,reduceIte,Nat.reduceSub,Nat.reduceAdd,List.cons_append,List.nil_append]);all_goals rfl)
 ·
  intro gh X K zq zc zq2 zc2 zb zv hK;refine Jx fn116 rfl rfl fun w hH=>hH.lend .z fun Hl1 hle1 hA1 hB1 hH=>(reduceBy_c (own_ints hA1) (hb14.le hle1) (hvo) hbdR.led (by omega) (by omega) hH).mono ?_;rintro _ w ⟨qo22,co22,rfl,hH⟩;replace hH:=hB1 _ _ hH;refine ⟨_,rfl,fun a hF=>JQ hF hH ?_⟩;refine Js .z (Js (.s .z) (Ji ?_));exact hK qo22 co22 zq2 zc2 zb zv
 ·
  intro gh gh' h;refine ⟨?_,?_⟩ <;> (first | simp only [h 2 rfl] | rfl)
 apply JX 9 rfl
 iterate 3 focus (intros;(conv=>lhs;simp only [Jh,Jr,JJ,Ju,JI,eq_self,Nat.reduceEqDiff,reduceIte,Nat.reduceSub,Nat.reduceAdd,List.cons_append,List.nil_append]);all_goals rfl)
 ·
  intro gh X K zq zc zq2 zc2 zb zv hK;refine EF (MK.lit0I u22 sz2) rfl fun qo23 co23=>(Ji ?_);exact hK qo23 co23 zq2 zc2 zb zv
 ·
  intro gh gh' h;refine ⟨?_,?_⟩ <;> rfl
 apply Jk 10 rfl
 iterate 3 focus (intros;(conv=>lhs;simp only [Jh,Jr,JJ,Ju,JI,eq_self,Nat.reduceEqDiff,reduceIte,Nat.reduceSub,Nat.reduceAdd,List.cons_append,List.nil_append]);all_goals rfl)
 ·
  intro gh X K zq zc zq2 zc2 zb zv hK;refine Jg (Jd rfl) rfl (Ji ?_);exact hK zq zc zq2 zc2 zb zv
 ·
  intro gh gh' h
  first | simp only [h 2 rfl,h 7 rfl] | rfl
 apply Jk 11 rfl
 iterate 3 focus (intros;(conv=>lhs;simp only [Jh,Jr,JJ,Ju,JI,eq_self,Nat.reduceEqDiff,reduceIte,Nat.reduceSub,Nat.reduceAdd,List.cons_append,List.nil_append]);all_goals rfl)
 ·
  intro gh X K zq zc zq2 zc2 zb zv hK;refine Jg (Jd rfl) rfl (Ji ?_);exact hK zq zc zq2 zc2 zb zv
 ·
  intro gh gh' h
  first | simp only [h 2 rfl,h 7 rfl,h 8 rfl] | rfl
 apply Ej [0,1,2,3,4,5,6,7,8,9,10] [0,1,2,3,4,5,6,7,8,9,10,11] foll0 rfl rfl rfl (by rfl)
 iterate 2 focus (intros;(conv=>lhs;simp only [Jh,Jr,JJ,Ju,JI,eq_self,Nat.reduceEqDiff,reduceIte,Nat.reduceSub,Nat.reduceAdd,List.cons_append,List.nil_append]);all_goals rfl)
 intro gh;generalize (gh 2).c=co17;generalize (gh 2).q=qo17;generalize (gh 7).c=co22;generalize (gh 7).q=qo22;generalize (gh 8).c=co23;generalize (gh 8).q=qo23;clear gh;refine Ja (hK3 (Je fun _ hK4 _=>(Je fun _ hK5 _=>(Jb (Jg (Jc rfl) rfl (Jg (JG rfl) rfl (Jg (Jt u95 rfl sz57 rfl) rfl (Jg (EQ (b:=b14) (k:=5) (v:=.slice qx14 (csS cad caf (n)).length cx14) rfl (.s (.s (.s .z))) hx14 rfl rfl pl57) rfl (Jg (Jm u57 rfl rfl) rfl (Jg (Jc rfl) rfl (Jf (Ja (hK5 (Jl (JD (σ:=Option Addr × Nat × Nat) (fun ⟨q,c,k⟩=>[(29,.int .i64 (k:Int)),(9,.slice q (clK cad caf n ((monL cad n).map (cf s)) k).length c)]) (fun ⟨q,c,k⟩=>Hf14) (fun ⟨q,c,k⟩=>own 2 1 qo17 ((monL cad n).map (cf s)).length co17 (intsC ((monL cad n).map (cf s)))::own 2 1 qo22 (byS ((monL cad n).map (cf s)) (bdS cad caf n)).length co22 (intsC (byS ((monL cad n).map (cf s)) (bdS cad caf n)))::own 2 1 q (clK cad caf n ((monL cad n).map (cf s)) k).length c (intsC (clK cad caf n ((monL cad n).map (cf s)) k))::cpx lc ls14::L) (fun ⟨q,c,k⟩=>k≤(csS cad caf n).length) (fun ⟨q,c,k⟩=>(csS cad caf n).length - k) (qo23,co23,0) (by show 0≤_;omega) ⟨rfl,⟨rfl,trivial⟩⟩ rfl rfl ?_)))))))))))))));rintro ⟨q,c,k⟩ hk _ hAg0;have hckl:=clK_len (ds:=cad) (fs:=caf) (v:=((monL cad n).map (cf s))) hk;refine Je fun _ hK6 _=>(Jb (Jg (JK rfl rfl) rfl (Jf (Ja (hK6 (Je fun _ hK7 _=>(Jo rfl (fun h30=>?_) (fun h30=>?_))))))))
 ·
  have hk1:k<(csS cad caf n).length:=by omega
  have hrk:=hcsR.led _ (rw_mem hk1);have hrl:=hrk.1.len;have hld:=idxOf_ld (r:=rw_ (csS cad caf n) k) (by omega);have hrle:=hrk.2;refine Jn (Ja (hK7 (Je fun _ hK8 _=>(Jl (Je fun _ hK9 _=>(Jb (Jg (JP u57 sz22 rfl rfl rfl hk1 hs14.sm) rfl ?_)))))));obtain ⟨qe32,ce32,he32,le32,Fe32⟩:=hs14 k hk1;refine Jg (JC rfl he32 pl22) rfl (Jg (Jd rfl) rfl (Jf (Ja (hK9 (Jb (Jg (Jc rfl) rfl (Jg (Jc rfl) rfl (Jg (Jc rfl) rfl (Jx fn125 rfl rfl fun w hH=>(lead_c Fe32 (by omega) hH).mono ?_)))))))));rintro _ w ⟨rfl,hH⟩;refine ⟨_,rfl,fun a hF=>JQ hF hH ?_⟩;rw [hld];refine Jg (Er u22 sz2 rfl rfl rfl (by omega) (.s .z)) rfl (Jg (ED rfl (.s .z) (intsC_get (by omega)) pl2) rfl (EF (MK.lit1I u22 ze2 sz2 rfl) rfl fun qo39 co39=>(J.appendOI u22 ze2 sz2 by2 rfl rfl (by simp only [List.length_cons,List.length_nil];omega) .z (.s (.s .z)) (fun _ _=>(.s (.s .z))) rfl fun qo40 co40=>(Jg (Jd rfl) rfl (Jf (JF (Ja (hK8 (Jb (Jg (JA rfl rfl (by first | exact nw _ (by omega) | rfl)) rfl (Jg (Jc rfl) rfl (Jf (Ja (JN .z ?_))))))))))))));exact hAg0 (qo40,co40,k+1) (by show k+1≤_;omega) (by show (csS cad caf n).length - (k+1)<(csS cad caf n).length - k;omega) 17 rfl rfl ⟨rfl,⟨(by rw [clK_succ hk1];rfl),trivial⟩⟩ rfl (by dsimp only;rw [clK_succ hk1])
 ·
  refine JH (Jj (Jj (JM (Ja (hK4 (Je fun _ hK10 _=>(Jb (Jg (Jc rfl) rfl (Jg (Jd rfl) rfl (Jf (Ja (hK10 (Jv (Jq rfl (Res.tmp rfl) fun w hH=>?_))))))))))))));replace hH:=hH.sublist (.cons _ (.cons _ (.cons_cons _ (.cons_cons _ (List.Sublist.refl _)))))
  have hke:k=(csS cad caf n).length:=by omega
  rw [clK_end hke] at hH ⊢;exact ⟨_,_,_,_,hlf14,hC14,hN14,hkp14,rfl,hH⟩
theorem fn80:Fn Tryz.prog 80:=⟨_,Tryz.func80,by kernel_rfl,rfl⟩
theorem fn83:Fn Tryz.prog 83:=⟨_,Tryz.func83,by kernel_rfl,rfl⟩
theorem fn69:Fn Tryz.prog 69:=⟨_,Tryz.func69,by kernel_rfl,rfl⟩
theorem fn70:Fn Tryz.prog 70:=⟨_,Tryz.func70,by kernel_rfl,rfl⟩
theorem fn129:Fn Tryz.prog 129:=⟨_,Tryz.func129,by kernel_rfl,rfl⟩
theorem fn172:Fn Tryz.prog 172:=⟨_,Tryz.func172,by kernel_rfl,rfl⟩
def fmR (ps:List Pw) (rs:List (List Int)):List (List Term):=rs.map (fmS ps)
def fmRK (ps:List Pw) (rs:List (List Int)) (k:Nat):List (List Term):=(rs.take k).map (fmS ps)
theorem fmRK_len {ps:List Pw} {rs:List (List Int)} {k:Nat} (hk:k≤rs.length):(fmRK ps rs k).length=k:=by
 unfold fmRK;rw [List.length_map,List.length_take]
 omega
theorem fmRK_succ {ps:List Pw} {rs:List (List Int)} {k:Nat} (hk:k<rs.length):fmRK ps rs (k+1)=fmRK ps rs k++[fmS ps (rw_ rs k)]:=by
 unfold fmRK;rw [rw_take hk,List.map_append]
 rfl
theorem fmRK_end {ps:List Pw} {rs:List (List Int)} {k:Nat} (hk:k=rs.length):fmRK ps rs k=fmR ps rs:=by
 subst hk;unfold fmRK fmR;rw [List.take_length]
@[simp] theorem fmR_len (ps:List Pw) (rs:List (List Int)):(fmR ps rs).length=rs.length:=by simp [fmR]
theorem fmR_at {ps:List Pw} {rs:List (List Int)} {k:Nat} (hk:k<rs.length):fm (fmR ps rs) k=fmS ps (rw_ rs k):=by
 simp [fm,fmR,rw_,List.getD_eq_getElem?_getD,List.getElem?_eq_getElem hk]
theorem fmR_wf {W:Nat} {ps:List Pw} {rs:List (List Int)} (hp : ∀p∈ps,Mono p) (hr : ∀r∈rs,RowOk W r):Wfss (fmR ps rs):=fun f hf=>by
 obtain ⟨r,hr',rfl⟩:=List.mem_map.1 hf
 exact fmK_wf hp (hr r hr').val (Nat.le_refl _)
theorem fmS_len (ps:List Pw) (row:List Int):(fmS ps row).length≤ps.length:=fmK_len ps row _
theorem fmS_mon {ds:List Int} {n:Int} {row:List Int} (h8:ds.length≤8) (hr:RowOk (monL ds n).length row):toS (fmS (monL ds n) row)=sumR (monL ds n) row:=by
 rw [fmS_sum (M:=20) (monL_srt ds n h8) (monL_pok h8) hr.val hr.len,toS_ofS]
theorem sumR_mon {ds:List Int} {n:Int} {row:List Int} (h8:ds.length≤8) (hr:row.length≤(monL ds n).length):Sok 20 (sumR (monL ds n) row):=sumR_sok (monL_pok h8) hr
theorem sumR_key {ps:List Pw} {row:List Int} (hr:row.length≤ps.length) : ∀x∈sumR ps row,x.1∈ps:=fun x hx=>by
 rcases acc_mem hx with h | ⟨y,hy,e⟩
 ·simp at h
 ·obtain ⟨i,hi,rfl⟩:=List.mem_map.1 hy
  rw [e]
  exact rw_mem (by have:=List.mem_range.1 hi;omega)
theorem monL_ex {ds:List Int} {n:Int} (h8:ds.length≤8) (hd : ∀j,j<ds.length→1≤ds.getD j 0∧ds.getD j 0≤12) : ∀p∈monL ds n,Ex ds p:=fun p hp=>mon_ex h8 (List.mem_of_mem_take hp) hd
theorem monL_wt {ds:List Int} {n:Int} (h8:ds.length≤8) : ∀p∈monL ds n,wsum ds p ds.length=n:=fun p hp=>mon_wt h8 (List.mem_of_mem_take hp)
theorem sumR_kex {ds:List Int} {n:Int} {row:List Int} (h8:ds.length≤8) (hd : ∀j,j<ds.length→1≤ds.getD j 0∧ds.getD j 0≤12) (hr:row.length≤(monL ds n).length):KEx ds (sumR (monL ds n) row):=fun x hx=>monL_ex h8 hd _ (sumR_key hr x hx)
theorem times_mon {ds:List Int} {n m:Int} {s t:Sm} (h8:ds.length≤8) (hd : ∀j,j<ds.length→1≤ds.getD j 0∧ds.getD j 0≤12) (hs:Sok 20 s) (ht:Sok 20 t) (h1 : ∀x∈s,x.1∈monL ds n) (h2 : ∀x∈t,x.1∈monL ds m) (hf:fitB ds (n+m)=true) (h40:n+m≤41) : ∀x∈timesS ds s t,x.1∈monL ds (n+m):=fun x hx=>by
 have k1:KEx ds s:=fun x hx=>monL_ex h8 hd _ (h1 x hx)
 have k2:KEx ds t:=fun x hx=>monL_ex h8 hd _ (h2 x hx)
 have hk:=times_kex hs.g ht.g k1 k2 x hx
 have ho:=(hs.times ht (ds:=ds)).key x hx
 rw [monL_fit hf]
 refine mon_in h8 hd h40 ho hk ?_
 rcases acc_mem hx with h | ⟨y,hy,e⟩
 ·simp at h
 ·obtain ⟨u,hu,v,hv,_,e2⟩:=mulL_mem hy
  rw [e,e2,wsum_add (hs.key u hu).len (ht.key v hv).len,monL_wt h8 _ (h1 u hu),monL_wt h8 _ (h2 v hv)]
theorem l03Forms_c {B:World} {H0 H:HP} {L:List SA} {w:World} {qrs:Option Addr} {crs:Nat} {rs:List (List Int)} {qps:Option Addr} {cps:Nat} {ps:List (List Int)} {W:Nat} (hrs:RowsR H qrs rs) (hps:Monos H qps ps) (hW : ∀r∈rs,RowOk ps.length r) (hn:rs.length≤1000000) (hpn:ps.length≤1000000) (hpm : ∀p∈ps,Mono p) (hH:Hp B H0 H L w):Calls Tryz.prog 129 [.slice qrs rs.length crs,.slice qps ps.length cps].toArray w fun e w'=>∃q c vs,e = .returned (.slice q (fmR ps rs).length c)∧Hp B H0 H (ownFs 39 152 q c vs (fmR ps rs)::L) w':=by
 refine Jy Tryz.func129 rfl 24 rfl rfl [(0,.slice qrs rs.length crs),(1,.slice qps ps.length cps)] rfl hH ?_;clear hH;refine Je fun _ hK1 _=>(Jb (Jg (Jd rfl) rfl (Jf (Ja (hK1 (Je fun _ hK2 _=>(Jb (EF (EM u33 sz39) rfl fun qo7 co7=>(J.ts0 152 (Jg (Jd rfl) rfl (Jf (Ja (hK2 (Je fun _ hK3 _=>(Je fun _ hK4 _=>(Jb ?_))))))))))))))));refine Jg (Jd rfl) rfl (Jf (Ja (hK4 (Jl (JD (σ:=Option Addr × Nat × Vs × Nat) (fun ⟨q,c,vs,k⟩=>[(6,.int .i64 (k:Int)),(5,.slice q k c)]) (fun ⟨q,c,vs,k⟩=>H) (fun ⟨q,c,vs,k⟩=>ownTs 152 vs (fmRK ps rs k)::own 39 1 q k c (slicesC vs (fmRK ps rs k))::L) (fun ⟨q,c,vs,k⟩=>k≤rs.length) (fun ⟨q,c,vs,k⟩=>rs.length - k) (qo7,co7,nilVs,0) (by show 0≤rs.length;omega) ⟨rfl,⟨rfl,trivial⟩⟩ rfl rfl ?_)))));rintro ⟨q,c,vs,k⟩ hk _ hAg0;refine Je fun _ hK5 _=>(Je fun _ hK6 _=>(Jb (Jg (Jc rfl) rfl (Jg (Jc rfl) rfl (Jg (Jm u57 rfl rfl) rfl (Jg (JK rfl rfl) rfl (Jf (Ja (hK6 (Jo rfl (fun h11=>?_) (fun h11=>?_)))))))))))
 ·
  have hk1:k<rs.length:=by omega
  have hrk:=hW _ (rw_mem hk1);refine Jn (Ja (hK5 (Je fun _ hK7 _=>(Jl (Jb (Jg (Jc rfl) rfl (Jg (Jc rfl) rfl (Jg (Jc rfl) rfl (Jg (JP u57 sz22 rfl rfl rfl hk1 hrs.sm) rfl ?_)))))))));obtain ⟨qe18,ce18,he18,le18,Fe18⟩:=hrs k hk1;refine Jg (JC rfl he18 pl22) rfl (Jg (Jc rfl) rfl (Jx fn172 rfl rfl fun w hH=>(l03Form_c Fe18 hps hrk.len hpn hpm hrk.val hH).mono ?_));rintro _ w ⟨qo20,co20,rfl,hH⟩;refine ⟨_,rfl,fun a hF=>JQ hF hH ?_⟩;refine EF (EG u33 ze39 sz39 rfl rfl) rfl fun qo21 co21=>(Ey u33 ze39 sz39 by39 rfl rfl rfl rfl (by omega) .z (.s (.s .z)) (fun _ _=>(.s (.s .z))) rfl fun qo22 co22=>(Jg (Jd rfl) rfl (Jf (JF (Ja (hK7 (Jb (Jg (Jc rfl) rfl (Jg (JA rfl rfl (by first | exact nw _ (by omega) | rfl)) rfl (Jg (Jd rfl) rfl (Jf (Ja (Js (.s (.s (.s .z))) (Js (.s .z) (Js (.s (.s (.s .z))) ?_)))))))))))))));refine Js (.s (.s (.s .z))) (EJ.fsSnoc (fs:=fmRK ps rs k) (fmRK_len hk) rfl (JN (.s .z) ?_));exact hAg0 (qo22,co22,setV vs k (qo20,co20),k+1) (by show k+1≤rs.length;omega) (by show rs.length - (k+1)<rs.length - k;omega) 19 rfl rfl ⟨rfl,⟨rfl,trivial⟩⟩ rfl (by dsimp only;rw [fmRK_succ hk1,slicesC_set (fmRK_len hk)])
 ·
  refine JH (Jj (Jj (JM (Ja (hK3 (Je fun _ hK8 _=>(Jb (Jg (Jc rfl) rfl (Jg (Jd rfl) rfl (Jf (Ja (hK8 (Jv (Jq rfl (Res.tmp rfl) fun w hH=>?_))))))))))))));replace hH:=hH.sublist (.cons_cons _ (.cons_cons _ (List.Sublist.refl _)))
  have hke:k=rs.length:=by omega
  rw [fmRK_end hke] at hH;exact ⟨q,c,vs,by rw [fmR_len,hke],by unfold ownFs;rw [fmR_len,← hke];exact (hH.front (.s .z)).star⟩
theorem l03ClassForms_c {B:World} {H0 H:HP} {L:List SA} {w:World} {qad qaf:Option Addr} {cad caf:Nat} {ad:List Int} {af:List (List Term)} {n:Int} (had:Ints H qad ad) (haf:Forms H qaf af) (hG:isAlg ad af=true) (hn:0≤n∧n≤40) (hfit:fit3 ad n) (hH:Hp B H0 H L w):Calls Tryz.prog 76 [.agg [.slice qad ad.length cad,.slice qaf af.length caf].toArray,.int .i64 n].toArray w fun e w'=>∃q c vs,e = .returned (.slice q (fmR (monL ad n) (csS ad af n)).length c)∧Hp B H0 H (ownFs 39 152 q c vs (fmR (monL ad n) (csS ad af n))::L) w':=by
 refine Jy Tryz.func76 rfl 13 rfl rfl [(0,.agg [.slice qad ad.length cad,.slice qaf af.length caf].toArray),(1,.int .i64 n)] rfl hH ?_;have hw0:=hH.old;have hw1:=hH.le;clear hH;have hwf:=haf.wfss;have hA:=isAlg_ok hG hwf;have h8:=hA.hn;have hd:=alg_112 hG;have hml:=monL_len ad n;have hml1:=monL_len ad (n+1);have hclR:=clS_red (n:=n) hA h8 hd;have hbdR:=bdS_red (n:=n) hA h8 hd;have hcll:=clS_len (n:=n) hA h8 hd;have hbdl:=bdS_len (n:=n) hA h8 hd;have hcsR:=csS_red (n:=n) hA h8 hd;have hcsl:=csS_len (n:=n) hA h8 hd;have hmT0:=monT_L hfit.1.1;refine Je fun _ hK1 _=>(Jb (Ef rfl rfl rfl fun g2=>(Jg (Jd rfl) rfl (Jf (Ja (hK1 (Je fun _ hK2 _=>(Ei (Rs:=[_]) 9 [[], [], [0,1], [], [3], [], [0,1,2,3,4,5], [0,1,2,3,4,5,6], [0,1,2,3,4,5,6,7]] [[9], [], [], [], [9], [], [], [2,6], []] [[], [], [], [], [], [], [], [], []] rfl rfl (by kernel_rfl) ?_))))))));apply Jk 1 rfl
 iterate 3 focus (intros;(conv=>lhs;simp only [Jh,Jr,JJ,Ju,JI,eq_self,Nat.reduceEqDiff,reduceIte,Nat.reduceSub,Nat.reduceAdd,List.cons_append,List.nil_append]);all_goals rfl)
 ·
  intro gh X K zq zc zq2 zc2 zb zv hK;refine Jg (Jz rfl At.z (by simpa [*] using ag35)) rfl (Ji ?_);exact hK zq zc zq2 zc2 zb zv
 ·
  intro gh gh' h
  rfl
 apply Jk 2 rfl
 iterate 3 focus (intros;(conv=>lhs;simp only [Jh,Jr,JJ,Ju,JI,eq_self,Nat.reduceEqDiff,reduceIte,Nat.reduceSub,Nat.reduceAdd,List.cons_append,List.nil_append]);all_goals rfl)
 ·
  intro gh X K zq zc zq2 zc2 zb zv hK;refine Jg (Jc rfl) rfl (Ji ?_);exact hK zq zc zq2 zc2 zb zv
 ·
  intro gh gh' h
  rfl
 apply JX 3 rfl
 iterate 3 focus (intros;(conv=>lhs;simp only [Jh,Jr,JJ,Ju,JI,eq_self,Nat.reduceEqDiff,reduceIte,Nat.reduceSub,Nat.reduceAdd,List.cons_append,List.nil_append]);all_goals rfl)
 ·
  intro gh X K zq zc zq2 zc2 zb zv hK;refine Jx fn75 rfl rfl fun w hH=>(l03Classes_m had haf hG (by omega) hfit hH).mono ?_;rintro _ w ⟨qo7,co7,vso7,rfl,hH⟩;refine ⟨_,rfl,fun a hF=>JQ hF hH ?_⟩;refine Ji ?_;exact hK qo7 co7 zq2 zc2 zb vso7
 ·
  intro gh gh' h;refine ⟨?_,?_⟩ <;> rfl
 apply Jk 4 rfl
 iterate 3 focus (intros;(conv=>lhs;simp only [Jh,Jr,JJ,Ju,JI,eq_self,Nat.reduceEqDiff,reduceIte,Nat.reduceSub,Nat.reduceAdd,List.cons_append,List.nil_append]);all_goals rfl)
 ·
  intro gh X K zq zc zq2 zc2 zb zv hK;refine Jg (Jt u35 rfl sz22 rfl) rfl (Ji ?_);exact hK zq zc zq2 zc2 zb zv
 ·
  intro gh gh' h
  rfl
 apply Jk 5 rfl
 iterate 3 focus (intros;(conv=>lhs;simp only [Jh,Jr,JJ,Ju,JI,eq_self,Nat.reduceEqDiff,reduceIte,Nat.reduceSub,Nat.reduceAdd,List.cons_append,List.nil_append]);all_goals rfl)
 ·
  intro gh X K zq zc zq2 zc2 zb zv hK;refine Jg (Jw rfl At.z rfl pl22) rfl (Ji ?_);exact hK zq zc zq2 zc2 zb zv
 ·
  intro gh gh' h
  rfl
 apply Jk 6 rfl
 iterate 3 focus (intros;(conv=>lhs;simp only [Jh,Jr,JJ,Ju,JI,eq_self,Nat.reduceEqDiff,reduceIte,Nat.reduceSub,Nat.reduceAdd,List.cons_append,List.nil_append]);all_goals rfl)
 ·
  intro gh X K zq zc zq2 zc2 zb zv hK;refine Jg (Jc rfl) rfl (Ji ?_);exact hK zq zc zq2 zc2 zb zv
 ·
  intro gh gh' h
  rfl
 apply JX 7 rfl
 iterate 3 focus (intros;(conv=>lhs;simp only [Jh,Jr,JJ,Ju,JI,eq_self,Nat.reduceEqDiff,reduceIte,Nat.reduceSub,Nat.reduceAdd,List.cons_append,List.nil_append]);all_goals rfl)
 ·
  intro gh X K zq zc zq2 zc2 zb zv hK;refine Jx fn66 rfl rfl fun w hH=>(l01Monomials_c had hd h8 (by omega) hH).mono ?_;rintro _ w ⟨qo11,co11,rfl,hH⟩;refine ⟨_,rfl,fun a hF=>JQ hF hH ?_⟩;refine Ji ?_;exact hK qo11 co11 zq2 zc2 zb zv
 ·
  intro gh gh' h;refine ⟨?_,?_⟩ <;> (first | simp only [h 2 rfl] | rfl)
 apply JX 8 rfl
 iterate 3 focus (intros;(conv=>lhs;simp only [Jh,Jr,JJ,Ju,JI,eq_self,Nat.reduceEqDiff,reduceIte,Nat.reduceSub,Nat.reduceAdd,List.cons_append,List.nil_append]);all_goals rfl)
 ·
  intro gh X K zq zc zq2 zc2 zb zv hK;refine Jx fn129 rfl rfl fun w hH=>hH.lend .z fun Hl1 hle1 hA1 hB1 hH=>hH.lend .z fun Hl2 hle2 hA2 hB2 hH=>(l03Forms_c (W:=0) ((mlt_rows hle1 hA1).1.le hle2) (own_monos (monT_8 h8) hA2) (by rw [hmT0];exact hcsR.row) (by omega) (by rw [hmT0];omega) (by rw [hmT0];exact monL_mn h8) hH).mono ?_;rintro _ w ⟨qo12,co12,vso12,rfl,hH⟩;replace hH:=hB2 _ _ hH;replace hH:=hB1 _ _ hH;refine ⟨_,rfl,fun a hF=>JQ hF hH ?_⟩;refine Js (.s .z) (Js (.s .z) (Js (.s (.s .z)) (Ji ?_)));exact hK qo12 co12 zq2 zc2 zb vso12
 ·
  intro gh gh' h;refine ⟨?_,?_⟩ <;> (first | simp only [h 2 rfl,h 6 rfl] | rfl)
 apply Jk 9 rfl
 iterate 3 focus (intros;(conv=>lhs;simp only [Jh,Jr,JJ,Ju,JI,eq_self,Nat.reduceEqDiff,reduceIte,Nat.reduceSub,Nat.reduceAdd,List.cons_append,List.nil_append]);all_goals rfl)
 ·
  intro gh X K zq zc zq2 zc2 zb zv hK;refine Jg (Jd rfl) rfl (Ji ?_);exact hK zq zc zq2 zc2 zb zv
 ·
  intro gh gh' h
  first | simp only [h 2 rfl,h 6 rfl,h 7 rfl] | rfl
 apply Ej [0,1,2,3,4,5,6,7,8] [0,1,2,3,4,5,6,7,8,9] foll0 rfl rfl rfl (by rfl)
 iterate 2 focus (intros;(conv=>lhs;simp only [Jh,Jr,JJ,Ju,JI,eq_self,Nat.reduceEqDiff,reduceIte,Nat.reduceSub,Nat.reduceAdd,List.cons_append,List.nil_append]);all_goals rfl)
 intro gh;generalize (gh 2).c=co7;generalize (gh 2).q=qo7;generalize (gh 2).vs=vso7;generalize (gh 6).c=co11;generalize (gh 6).q=qo11;generalize (gh 7).c=co12;generalize (gh 7).q=qo12;generalize (gh 7).vs=vso12;clear gh;refine Ja (hK2 (Jv (Jq rfl (Res.tmp rfl) fun w hH=>?_)));replace hH:=hH.sublist (.cons _ (.cons _ (.cons_cons _ (.cons _ (List.Sublist.refl _)))));rw [hmT0] at hH ⊢;exact ⟨_,_,_,rfl,hH⟩
theorem fn137:Fn Tryz.prog 137:=⟨_,Tryz.func137,by kernel_rfl,rfl⟩
theorem fn79:Fn Tryz.prog 79:=⟨_,Tryz.func79,by kernel_rfl,rfl⟩
section
variable {ds : List Int} {fs : List (List Term)} {n i m j : Int}
def pcA (n i m j:Int):Bool:=!decide (i<0) && (!decide (j<0) && (askB n && (askB m && askB (n+m))))
def pc1 (ds:List Int) (fs:List (List Term)) (n i m j:Int):Int:=if isAlg ds fs then if pcA n i m j then 0 else 2 else 1
def cfM (ds:List Int) (fs:List (List Term)) (n i:Int):Sm:=sumR (monL ds n) (rw_ (csS ds fs n) i.toNat)
theorem pc_f (b:Bool):firstOf [codeA ds fs [],if b then 2 else 0]=if isAlg ds fs then (if b then 2 else 0) else 1:=by
 rw [codeA_nil,firstOf_two];unfold algC
 by_cases hG:isAlg ds fs=true
 ·rw [if_pos hG,if_pos hG,if_pos rfl]
 ·rw [if_neg hG,if_neg hG,if_neg (by decide)]
theorem cfM_ok (hA:AlgOk ds fs) (h8:ds.length≤8) (hd : ∀j,j<ds.length→1≤ds.getD j 0∧ds.getD j 0≤12) (hi:i.toNat<(csS ds fs n).length):Sok 20 (cfM ds fs n i)∧∀x∈cfM ds fs n i,x.1∈monL ds n:=by
 have hr:=(csS_red (n:=n) hA h8 hd).row _ (rw_mem hi);exact ⟨sumR_mon h8 (by rw [hr.len];exact Nat.le_refl _),sumR_key (by rw [hr.len];exact Nat.le_refl _)⟩
end
theorem fn76:Fn Tryz.prog 76:=⟨_,Tryz.func76,by kernel_rfl,rfl⟩
section
variable {ds : List Int} {fs : List (List Term)} {n i m j : Int}
theorem cf_fm (hA:AlgOk ds fs) (h8:ds.length≤8) (hd : ∀j,j<ds.length→1≤ds.getD j 0∧ds.getD j 0≤12) (hi:i.toNat<(csS ds fs n).length):toS (fm (fmR (monL ds n) (csS ds fs n)) i.toNat)=cfM ds fs n i:=by
 rw [fmR_at hi,fmS_mon h8 ((csS_red (n:=n) hA h8 hd).row _ (rw_mem hi))]
 rfl
theorem cf_len (hi:i.toNat<(csS ds fs n).length):(fm (fmR (monL ds n) (csS ds fs n)) i.toNat).length≤121:=by
 rw [fmR_at hi];exact Nat.le_trans (fmS_len _ _) (monL_len ds n)
end
theorem fn86:Fn Tryz.prog 86:=⟨_,Tryz.func86,by kernel_rfl,rfl⟩
section
variable {B : World} {H0 H : HP} {L : List SA} {w : World}
open Classical in
def mltA (K:HP→SA→Prop) (H:HP) (vs:Vs):SA where
 fp b:=(vs b).2≠0
 holds h:=∃(F:HP) (A:SA),Le H F∧(∀b o,F b=some o→H b=some o∨((vs b).2≠0∧h b=some o))∧(∀b,A.fp b→(vs b).2≠0∧F b=none)∧A.holds h∧K F A
 loc h h' hb:=fun ⟨F,A,h0,h1,h2,h3,h4⟩=>⟨F,A,h0,fun b o ho=>(h1 b o ho).imp id fun ⟨h5,h6⟩=>⟨h5,by rw [← hb b h5];exact h6⟩,h2,A.loc h h' (fun b hb'=>hb b (h2 b hb').1) h3,h4⟩
open Classical in
theorem Hp.meltA {K:HP→SA→Prop} {A:SA} {H':HP} {L0:List SA} {w0 w:World} (h0:Hp B H0 H L0 w0) (h:Hp B H0 H' (A::L) w) (hle:Le H H') (hK:K H' A) : ∃vs,Hp B H0 H (mltA K H vs::L) w:=by
 let vs:Vs:=fun b=>(none,if ((H' b).isSome∧H b=none)∨A.fp b then 1 else 0)
 have hv : ∀b,(vs b).2≠0↔(((H' b).isSome∧H b=none)∨A.fp b):=fun b=>by
  show (if _ then 1 else 0)≠0↔_
  split <;> simp_all
 have hsome : ∀b,(H' b).isSome=true→∃o,H' b=some o∧hp w b=some o:=fun b hb=>by
  obtain ⟨o,ho⟩:=Option.isSome_iff_exists.1 hb
  exact ⟨o,ho,h.agree b o ho⟩
 have hnone : ∀b,H' b=none→H b=none:=fun b hb=>by
  cases hHb:H b with
  | none=>rfl
  | some o=>have:=hle b o hHb;rw [hb] at this;cases this
 have hA:=h.objs A (by simp)
 have hsp:=List.pairwise_cons.1 h.sep
 refine ⟨vs,h.below,fun b o ho=>h.agree b o (hle b o ho),h0.old,h0.le,fun X hX=>?_,List.pairwise_cons.2 ⟨fun X hX b hb hXb=>?_,hsp.2⟩⟩
 ·rcases List.mem_cons.1 hX with rfl | hX
  ·refine ⟨⟨H',A,hle,fun b o ho=>?_,fun b hb=>⟨(hv b).2 (.inr hb),(hA.2 b hb).2.2⟩,hA.1,hK⟩,fun b hb=>?_⟩
   ·cases hHb:H b with
    | some o'=>left;have:=hle b o' hHb;rw [ho] at this;exact this.symm
    | none=>exact .inr ⟨(hv b).2 (.inl ⟨by rw [ho];rfl,hHb⟩),h.agree b o ho⟩
   ·rcases (hv b).1 hb with ⟨hb1,hb2⟩ | hb1
    ·obtain ⟨o,ho,hw⟩:=hsome b hb1
     refine ⟨?_,hp_lt hw,hb2⟩
     rcases Nat.lt_or_ge b B.heap.size with hlt | hge
     ·have h1:=h.old b hlt
      have h2:=h0.old b hlt
      rw [← h2,hb2,ho] at h1
      cases h1
     ·exact hge
    ·exact ⟨(hA.2 b hb1).1,(hA.2 b hb1).2.1,hnone b (hA.2 b hb1).2.2⟩
  ·obtain ⟨g1,g2⟩:=h.objs X (List.mem_cons_of_mem _ hX)
   exact ⟨g1,fun b hb=>⟨(g2 b hb).1,(g2 b hb).2.1,hnone b (g2 b hb).2.2⟩⟩
 ·rcases (hv b).1 hb with ⟨hb1,_⟩ | hb1
  ·rw [((h.objs X (List.mem_cons_of_mem _ hX)).2 b hXb).2.2] at hb1
   cases hb1
  ·exact hsp.1 X hX b hb1 hXb
theorem Hp.unmeltA {K:HP→SA→Prop} {vs:Vs} (h:Hp B H0 H (mltA K H vs::L) w) : ∃F A,Le H F∧K F A∧Hp B H0 F (A::L) w:=by
 have hM:=h.objs (mltA K H vs) (by simp);obtain ⟨F,A,h0,h1,h2,h3,h4⟩:=hM.1;have hsp:=List.pairwise_cons.1 h.sep;refine ⟨F,A,h0,h4,h.below,fun b o ho=>(h1 b o ho).elim (h.agree b o) fun h=>h.2,fun b hb=>?_,h.le.trans h0,fun X hX=>?_,List.pairwise_cons.2 ⟨fun X hX b hb=>hsp.1 X hX b (h2 b hb).1,hsp.2⟩⟩
 ·have hn : ¬(vs b).2≠0:=fun hv=>by
   have:=(hM.2 b hv).1
   omega
  rw [← h.old b hb]
  cases hF:F b with
  | some o=>exact ((h1 b o hF).elim id fun h=>absurd h.1 hn).symm
  | none=>
   cases hH:H b with
   | none=>rfl
   | some o=>have:=h0 b o hH;rw [hF] at this;cases this
 ·rcases List.mem_cons.1 hX with rfl | hX
  ·exact ⟨h3,fun b hb=>⟨(hM.2 b (h2 b hb).1).1,(hM.2 b (h2 b hb).1).2.1,(h2 b hb).2⟩⟩
  ·obtain ⟨g1,g2⟩:=h.objs X (List.mem_cons_of_mem _ hX);refine ⟨g1,fun b hb=>⟨(g2 b hb).1,(g2 b hb).2.1,?_⟩⟩
   cases hF:F b with
   | none=>rfl
   | some o=>
    rcases h1 b o hF with hc | hc
    ·rw [(g2 b hb).2.2] at hc
     cases hc
    ·exact absurd hb (hsp.1 X hX b hc.1)
theorem EJ.unmeltA {R:Act→World→Prop} {n:Nat} {us:List (Nat × Value)} {L L':List SA} {K:HP→SA→Prop} {vs:Vs} (hr:Rm L (mltA K H vs) L') (k : ∀F A,Le H F→K F A→EJ R n B H0 us F (A::L')):EJ R n B H0 us H L:=fun a w hF hH=>by
 obtain ⟨F,A,h1,h2,h3⟩:=(hH.front hr).unmeltA
 exact k F A h1 h2 a w hF h3
theorem EJ.unstar {R:Act→World→Prop} {n:Nat} {us:List (Nat × Value)} {L:List SA} {A A':SA} (k:EJ R n B H0 us H (A::A'::L)):EJ R n B H0 us H (star A A'::L):=fun a w hF hH=>k a w hF hH.unstar
theorem Fl_of {H H':HP} {ds:List Int} {fs:List (List Term)} {n:Int} {b p:Nat} {l d s:Sl} {qm qz:Option Addr} {km cm kz cz:Nat} (hA:AlgOk ds fs) (h8:ds.length≤8) (hd : ∀j,j<ds.length→1≤ds.getD j 0∧ds.getD j 0≤12) (hm:km=(matS ds fs n).length∧RowsR H qm (matS ds fs n)) (hz:RowsR H' qz (clS ds fs n)) (h:0<(csS ds fs n).length):Fl ⟨b,p,l,⟨qm,km,cm⟩,⟨qz,kz,cz⟩,d,s⟩:=by
 have h1:0<(clS ds fs n).length:=by
  rcases Nat.eq_zero_or_pos (clS ds fs n).length with h0 | h0
  ·have e:csS ds fs n=[]:=by
    unfold csS;rw [List.eq_nil_of_length_eq_zero h0]
    rfl
   rw [e] at h
   simp at h
  ·exact h0
 have h2:0<(matS ds fs n).length:=by
  rw [matS_len];have:=((clS_red (n:=n) hA h8 hd).led _ (rw_mem h1)).2
  omega
 exact ⟨hm.2.sm (i:=0) h2,hz.sm (i:=0) h1⟩
theorem cpx_look {ls:List (Int × Lv)} {n:Int} {x:Lv} (hn:(ls.map (·.1)).Nodup) (hx:(n,x)∈ls):look (lvK ls) n=some x.b:=
 look_some (by unfold lvK;rw [List.map_map];exact hn) (List.mem_map.2 ⟨_,hx,rfl⟩)
end
theorem withMatrixH_c {B:World} {H0 H:HP} {L:List SA} {w:World} {bc lc:Nat} {bca:Nat} {qcad qcaf:Option Addr} {ccad ccaf:Nat} {cad:List Int} {caf:List (List Term)} {n:Int} {ls:List (Int × Lv)} {x:Lv} (pc0:CellAt H bc 0 (.pointer (some ⟨bca,0,none⟩))) (pc1:CellAt H bc 1 (.map (some lc))) (pcad:CellAt H bca 0 (.slice qcad cad.length ccad)) (pcaf:CellAt H bca 1 (.slice qcaf caf.length ccaf)) (hcad:Ints H qcad cad) (hcaf:Forms H qcaf caf) (hn : -1000000≤n∧n≤1000000) (hnd:(ls.map (·.1)).Nodup) (hx:(n,x)∈ls) (hF:Fl x) (hH:Hp B H0 H (cpx lc ls::L) w):Calls Tryz.prog 122 [.pointer (some ⟨bc,0,none⟩),.int .i64 n].toArray w fun e w'=>e = .returned (.pointer (some ⟨x.b,0,none⟩))∧Hp B H0 H (cpx lc ls::L) w':=by
 refine Jy Tryz.func122 rfl 55 rfl rfl [(0,.pointer (some ⟨bc,0,none⟩)),(1,.int .i64 n)] rfl hH ?_;clear hH;refine Je fun _ hK1 _=>(Jb (Jg (Jd rfl) rfl (Jf (Ja (hK1 (Je fun _ hK2 _=>(Jb (Jg (Jc rfl) rfl (Jg (Jc rfl) rfl (Jx fn124 rfl rfl fun w hH=>(bareK_c (n:=n) pc0 pc1 pcad pcaf hcad hcaf hn (cpx_look hnd hx) hH.unstar).mono ?_))))))))));rintro _ w ⟨rfl,hH⟩;replace hH:=Hp.star hH;refine ⟨_,rfl,fun a hF9=>JQ hF9 hH ?_⟩;refine Jg (Jd rfl) rfl (Jf (Ja (hK2 (Je fun _ hK3 _=>(Je fun _ hK4 _=>(Jb (Jg (Jc rfl) rfl (Jg (JG rfl) rfl (Jg (Jt u95 rfl sz57 rfl) rfl (Jg (EQ (b:=x.b) (k:=2) (v:=.slice x.m.q x.m.k x.m.c) rfl At.z hx rfl rfl pl57) rfl (Jg (PR.eqlNil u57 rfl rfl) rfl (Jf (Ja (hK4 (Eh rfl (fun h16=>?_) (fun h16=>?_))))))))))))))))
 ·
  have:=hF.1
  cases hq:x.m.q <;> simp_all
 ·
  refine Jn (Ja (hK3 (Je fun _ hK5 _=>(Jb (Jg (Jc rfl) rfl (Jg (Jd rfl) rfl (Jf (Ja (hK5 (Jv (Jq rfl (Res.tmp rfl) fun w hH=>?_)))))))))));replace hH:=hH.sublist (.cons_cons _ (List.Sublist.refl _));exact ⟨rfl,hH⟩
theorem atH_c {B:World} {H0 H:HP} {L:List SA} {w:World} {bc lc:Nat} {bca:Nat} {qcad qcaf:Option Addr} {ccad ccaf:Nat} {cad:List Int} {caf:List (List Term)} {n:Int} {ls:List (Int × Lv)} {x:Lv} (pc0:CellAt H bc 0 (.pointer (some ⟨bca,0,none⟩))) (pc1:CellAt H bc 1 (.map (some lc))) (pcad:CellAt H bca 0 (.slice qcad cad.length ccad)) (pcaf:CellAt H bca 1 (.slice qcaf caf.length ccaf)) (hcad:Ints H qcad cad) (hcaf:Forms H qcaf caf) (hn : -1000000≤n∧n≤1000000) (hnd:(ls.map (·.1)).Nodup) (hx:(n,x)∈ls) (hF:Fl x) (hH:Hp B H0 H (cpx lc ls::L) w):Calls Tryz.prog 68 [.pointer (some ⟨bc,0,none⟩),.int .i64 n].toArray w fun e w'=>e = .returned (.pointer (some ⟨x.b,0,none⟩))∧Hp B H0 H (cpx lc ls::L) w':=by
 refine Jy Tryz.func68 rfl 73 rfl rfl [(0,.pointer (some ⟨bc,0,none⟩)),(1,.int .i64 n)] rfl hH ?_;clear hH;refine Je fun _ hK1 _=>(Jb (Jg (Jd rfl) rfl (Jf (Ja (hK1 (Je fun _ hK2 _=>(Jb (Jg (Jc rfl) rfl (Jg (Jc rfl) rfl (Jx fn122 rfl rfl fun w hH=>(withMatrixH_c (n:=n) pc0 pc1 pcad pcaf hcad hcaf hn hnd hx hF hH).mono ?_))))))))));rintro _ w ⟨rfl,hH⟩;refine ⟨_,rfl,fun a hF9=>JQ hF9 hH ?_⟩;refine Jg (Jd rfl) rfl (Jf (Ja (hK2 (Je fun _ hK3 _=>(Je fun _ hK4 _=>(Jb (Jg (Jc rfl) rfl (Jg (JG rfl) rfl (Jg (Jt u95 rfl sz57 rfl) rfl (Jg (EQ (b:=x.b) (k:=3) (v:=.slice x.z.q x.z.k x.z.c) rfl At.z hx rfl rfl pl57) rfl (Jg (PR.neqNil u57 rfl rfl) rfl (Jf (Ja (hK4 (Eh rfl (fun h16=>?_) (fun h16=>?_))))))))))))))))
 ·
  refine Je fun _ hK5 _=>(Jb (Jg (Jc rfl) rfl (Jg (Jd rfl) rfl (Jf (Ja (hK5 (Jv (Jp (Jq rfl (Res.tmp rfl) fun w hH=>?_)))))))));replace hH:=hH.sublist (.cons_cons _ (List.Sublist.refl _));exact ⟨rfl,hH⟩
 ·
  have:=hF.2
  cases hq:x.z.q <;> simp_all
def ptR (ds:List Int) (fs:List (List Term)) (p q:Int) (r s:List Int):List Int:=clV ds fs (p+q) ((monL ds (p+q)).map (cf (timesS ds (sumR (monL ds p) r) (sumR (monL ds q) s))))
def ptS (ds:List Int) (fs:List (List Term)) (p q:Int):List (List Int):=(csS ds fs p).flatMap fun r=>(csS ds fs q).map (ptR ds fs p q r)
def ptK (ds:List Int) (fs:List (List Term)) (p q:Int) (k j:Nat):List (List Int):=(((csS ds fs p).take k).flatMap fun r=>(csS ds fs q).map (ptR ds fs p q r))++((csS ds fs q).take j).map (ptR ds fs p q (rw_ (csS ds fs p) k))
section
variable {ds : List Int} {fs : List (List Term)} {p q : Int} {k j : Nat}
theorem ptK_succ (hj:j<(csS ds fs q).length):ptK ds fs p q k (j+1)=ptK ds fs p q k j++[ptR ds fs p q (rw_ (csS ds fs p) k) (rw_ (csS ds fs q) j)]:=by
 unfold ptK;rw [rw_take hj,List.map_append,← List.append_assoc]
 rfl
theorem ptK_next (hk:k<(csS ds fs p).length) (hj:j=(csS ds fs q).length):ptK ds fs p q k j=ptK ds fs p q (k+1) 0:=by
 unfold ptK;rw [rw_take hk,List.flatMap_append,hj,List.take_length]
 simp
theorem ptK_end (hk:k=(csS ds fs p).length):ptK ds fs p q k 0=ptS ds fs p q:=by
 unfold ptK ptS;rw [hk,List.take_length]
 simp
theorem ptK_zero:ptK ds fs p q 0 0=[]:=by simp [ptK]
theorem ptK_len (hk:k≤(csS ds fs p).length) (hj:j≤(csS ds fs q).length):(ptK ds fs p q k j).length=k * (csS ds fs q).length+j:=by
 unfold ptK;rw [List.length_append,List.length_map,List.length_take_of_le hj,List.length_flatMap]
 congr 1
 simp only [List.length_map];rw [List.map_const',List.sum_replicate_nat,List.length_take_of_le hk]
theorem ptS_len:(ptS ds fs p q).length=(csS ds fs p).length * (csS ds fs q).length:=by
 rw [← ptK_end rfl,ptK_len (Nat.le_refl _) (Nat.zero_le _)]
 rfl
theorem ptK_bd (hA:AlgOk ds fs) (h8:ds.length≤8) (hd : ∀j,j<ds.length→1≤ds.getD j 0∧ds.getD j 0≤12) (hk:k≤(csS ds fs p).length) (hj:j≤(csS ds fs q).length):(ptK ds fs p q k j).length≤20000:=by
 rw [ptK_len hk hj];have h1:=csS_len (n:=p) hA h8 hd;have h2:=csS_len (n:=q) hA h8 hd;have:k * (csS ds fs q).length≤121 * 121:=Nat.mul_le_mul (by omega) h2
 omega
def KCl (cad:List Int) (caf:List (List Term)) (lc:Nat) (ls:List (Int × Lv)) (q:Option Addr) (c:Nat) (v:List Int):HP→SA→Prop:=fun F A=>∃ls',CpxOk F cad caf (fun _=>False) ls' ∧Nxt (fun _=>False) ls' ∧Kp ls ls' ∧A=star (own 2 1 q v.length c (intsC v)) (cpx lc ls')
theorem class_m {B:World} {H0 H:HP} {L:List SA} {w:World} {bc lc bca:Nat} {qcad qcaf:Option Addr} {ccad ccaf:Nat} {cad:List Int} {caf:List (List Term)} {lsc:List (Int × Lv)} {n:Int} {b:Nat} {Ms:Int} {s:Sm} (pc0:CellAt H bc 0 (.pointer (some ⟨bca,0,none⟩))) (pc1:CellAt H bc 1 (.map (some lc))) (pcad:CellAt H bca 0 (.slice qcad cad.length ccad)) (pcaf:CellAt H bca 1 (.slice qcaf caf.length ccaf)) (hcad:Ints H qcad cad) (hcaf:Forms H qcaf caf) (ks:Sok Ms s) (hGc:isAlg cad caf=true) (hn:0≤n∧n≤39) (hfit:fit3 cad n) (hCc:CpxOk H cad caf (fun _=>False) lsc) (hNc:Nxt (fun _=>False) lsc) (hM:Ms≤1000000) (hin : ∀x∈s,x.1∈monL cad n) (hH:Hp B H0 H (osum b s::cpx lc lsc::L) w) :
 Calls Tryz.prog 70 [.pointer (some ⟨bc,0,none⟩),.int .i64 n,.map (some b)].toArray w fun e w'=>∃q c vs,e = .returned (.slice q (clV cad caf n ((monL cad n).map (cf s))).length c)∧Hp B H0 H (mltA (KCl cad caf lc lsc q c (clV cad caf n ((monL cad n).map (cf s)))) H vs::L) w':=
 hH.lend .z fun H1 hle1 hA1 _ hH1=>(class_c (pc0.le hle1) (pc1.le hle1) (pcad.le hle1) (pcaf.le hle1) (hcad.le hle1) (hcaf.le hle1) (omap_H hA1) ks hGc hn hfit (hCc.le hle1) hNc hM hin hH1).mono fun e w' ⟨H',ls',q,c,hle,hC,hN,hkp,he,hH'⟩=>by
  obtain ⟨vs,hv⟩:=Hp.meltA hH hH'.star (hle1.trans hle) (K:=KCl cad caf lc lsc q c (clV cad caf n ((monL cad n).map (cf s)))) ⟨ls',hC,hN,hkp,rfl⟩
  exact ⟨q,c,vs,he,hv⟩
end
theorem table_c {B:World} {H0 H:HP} {L:List SA} {w:World} {bc lc:Nat} {bca:Nat} {qcad qcaf:Option Addr} {ccad ccaf:Nat} {cad:List Int} {caf:List (List Term)} {lsc:List (Int × Lv)} {n:Int} {m:Int} (pc0:CellAt H bc 0 (.pointer (some ⟨bca,0,none⟩))) (pc1:CellAt H bc 1 (.map (some lc))) (pcad:CellAt H bca 0 (.slice qcad cad.length ccad)) (pcaf:CellAt H bca 1 (.slice qcaf caf.length ccaf)) (hcad:Ints H qcad cad) (hcaf:Forms H qcaf caf) (hGc:isAlg cad caf=true) (hn:0≤n∧n≤14) (hm:0≤m∧m≤14) (hnm:n+m≤14) (hfn:fit3 cad n) (hfm:fit3 cad m) (hft:fit3 cad (n+m)) (hCc:CpxOk H cad caf (fun _=>False) lsc) (hNc:Nxt (fun _=>False) lsc) (hH:Hp B H0 H (cpx lc lsc::L) w):Calls Tryz.prog 85 [.pointer (some ⟨bc,0,none⟩),.int .i64 n,.int .i64 m].toArray w fun e w'=>∃H' ls' q c vs,Le H H' ∧CpxOk H' cad caf (fun _=>False) ls' ∧Nxt (fun _=>False) ls' ∧e = .returned (.slice q (ptS cad caf n m).length c)∧Hp B H0 H' (ownRs 22 2 q c vs (ptS cad caf n m)::cpx lc ls'::L) w':=by
 refine Jy Tryz.func85 rfl 64 rfl rfl [(0,.pointer (some ⟨bc,0,none⟩)),(1,.int .i64 n),(2,.int .i64 m)] rfl hH ?_;clear hH;have hwc:=hcaf.wfss;have hAc:=isAlg_ok hGc hwc;have h8c:=hAc.hn;have hdc:=alg_112 hGc;have hml:=monL_len cad n;have hcsR:=csS_red (n:=n) hAc h8c hdc;have hcsl:=csS_len (n:=n) hAc h8c hdc;have hbdR:=bdS_red (n:=n) hAc h8c hdc;have hbdl:=bdS_len (n:=n) hAc h8c hdc;have hclR:=clS_red (n:=n) hAc h8c hdc;have hcll:=clS_len (n:=n) hAc h8c hdc;have hmlm:=monL_len cad m;have hcsM:=csS_red (n:=m) hAc h8c hdc;have hcml:=csS_len (n:=m) hAc h8c hdc;refine Je fun _ hK1 _=>(Jb (Jg (Jd rfl) rfl (Jf (Ja (hK1 (Je fun _ hK2 _=>(Jb (EF (EM u57 sz22) rfl fun qo12 co12=>(J.is0 2 (Jg (Jd rfl) rfl (Jf (Ja (hK2 (Je fun _ hK3 _=>(Je fun _ hK4 _=>(Jb ?_))))))))))))))));refine Jg (Jc rfl) rfl (Jg (Jc rfl) rfl (Jx fn68 rfl rfl fun w hH=>(at_c pc0 pc1 pcad pcaf hcad hcaf hdc h8c (by omega) hAc hfn (fun m hm hf=>hom_of hGc hwc h8c hdc (by omega) hf) hCc hNc (hH.front (.s (.s .z)))).mono ?_));rintro _ w ⟨Hf15,ls15,⟨b15,p15,⟨ql15,kl15,cl15⟩,⟨qm15,km15,cm15⟩,⟨qz15,kz15,cz15⟩,⟨qy15,ky15,cy15⟩,⟨qx15,kx15,cx15⟩⟩,hlf15,hC15,hN15,hx15,⟨hL15,hM15,hkp15⟩,rfl,hH⟩;refine ⟨_,rfl,fun a hF=>JQ hF hH ?_⟩;replace pc0:=pc0.le hlf15;replace pc1:=pc1.le hlf15;replace pcad:=pcad.le hlf15;replace pcaf:=pcaf.le hlf15;replace hcad:=hcad.le hlf15;replace hcaf:=hcaf.le hlf15;replace hCc:=hCc.le hlf15;obtain rfl:kl15=(monL cad (n)).length:=(hC15.ok _ hx15).one.len;have hpw15:Pows Hf15 ql15 (monL cad (n)):=(hC15.ok _ hx15).one.pw;have hpl15:SumH Hf15 (.map (some p15)) (plM (monL cad (n))):=(hC15.ok _ hx15).one.pl;obtain ⟨⟨e1,hz15⟩,⟨e2,hb15⟩,e3,hs15⟩:(kz15=(clS cad caf (n)).length∧RowsR Hf15 qz15 (clS cad caf (n)))∧(ky15=(bdS cad caf (n)).length∧RowsR Hf15 qy15 (bdS cad caf (n)))∧kx15=(csS cad caf (n)).length∧RowsR Hf15 qx15 (csS cad caf (n)):=hL15;subst e1 e2 e3;refine Jg (JG rfl) rfl (Jg (Jt u95 rfl sz57 rfl) rfl (Jg (EQ (b:=b15) (k:=5) (v:=.slice qx15 (csS cad caf (n)).length cx15) rfl At.z hx15 rfl rfl pl57) rfl (Jg (Jm u57 rfl rfl) rfl (Jg (Jc rfl) rfl (Jf (Ja (hK4 (Jl (JD (σ:=HP × List (Int × Lv) × Option Addr × Nat × Vs × Nat) (fun ⟨Hk,lsk,q,c,vs,k⟩=>[(20,.int .i64 (k:Int)),(7,.slice q (ptK cad caf n m k 0).length c)]) (fun ⟨Hk,lsk,q,c,vs,k⟩=>Hk) (fun ⟨Hk,lsk,q,c,vs,k⟩=>cpx lc lsk::ownIs 2 vs (ptK cad caf n m k 0)::own 22 1 q (ptK cad caf n m k 0).length c (slicesI vs (ptK cad caf n m k 0))::L) (fun ⟨Hk,lsk,q,c,vs,k⟩=>Le Hf15 Hk∧(CpxOk Hk cad caf (fun _=>False) lsk∧Nxt (fun _=>False) lsk)∧(n,⟨b15,p15,⟨ql15,(monL cad n).length,cl15⟩,⟨qm15,km15,cm15⟩,⟨qz15,(clS cad caf n).length,cz15⟩,⟨qy15,(bdS cad caf n).length,cy15⟩,⟨qx15,(csS cad caf n).length,cx15⟩⟩)∈lsk∧k≤(csS cad caf n).length) (fun ⟨Hk,lsk,q,c,vs,k⟩=>(csS cad caf n).length - k) (_,ls15,qo12,co12,nilVs,0) ⟨Le.refl _,⟨hC15,hN15⟩,hx15,by show 0≤_;omega⟩ ⟨rfl,⟨(by rw [ptK_zero];rfl),trivial⟩⟩ rfl (by dsimp only;rw [ptK_zero];rfl) ?_)))))))));rintro ⟨Hk,lsk,q,c,vs,k⟩ ⟨hlk,⟨hCk,hNk⟩,hx15,hk⟩ _ hAg0;replace pc0:=pc0.le hlk;replace pc1:=pc1.le hlk;replace pcad:=pcad.le hlk;replace pcaf:=pcaf.le hlk;replace hcad:=hcad.le hlk;replace hcaf:=hcaf.le hlk;replace hCc:=hCc.le hlk;replace hC15:=hC15.le hlk;replace hpw15:=hpw15.le hlk;replace hpl15:=hpl15.le hlk;replace hz15:=hz15.le hlk;replace hb15:=hb15.le hlk;replace hs15:=hs15.le hlk;refine Je fun _ hK5 _=>(Jb (Jg (JK rfl rfl) rfl (Jf (Ja (hK5 (Je fun _ hK6 _=>(Jo rfl (fun h21=>?_) (fun h21=>?_))))))))
 ·
  have hk1:k<(csS cad caf n).length:=by omega
  have hF15:Fl ⟨b15,p15,⟨ql15,(monL cad n).length,cl15⟩,⟨qm15,km15,cm15⟩,⟨qz15,(clS cad caf n).length,cz15⟩,⟨qy15,(bdS cad caf n).length,cy15⟩,⟨qx15,(csS cad caf n).length,cx15⟩⟩:=Fl_of hAc h8c hdc hM15 hz15 (by omega);have hrk:=hcsR.led _ (rw_mem hk1);have hrl:=hrk.1.len;refine Jn (Ja (hK6 (Je fun _ hK7 _=>(Jl (Je fun _ hK8 _=>(Jb (Jg (JP u57 sz22 rfl rfl rfl hk1 hs15.sm) rfl ?_)))))));obtain ⟨qe23,ce23,he23,le23,Fe23⟩:=hs15 k hk1;refine Jg (JC rfl he23 pl22) rfl (Jg (Jd rfl) rfl (Jf (Ja (hK8 (Je fun _ hK9 _=>(Jb (Jg (Jc rfl) rfl (Jg (Jc rfl) rfl (Jx fn68 rfl rfl fun w hH=>(at_c pc0 pc1 pcad pcaf hcad hcaf hdc h8c (by omega) hAc hfm (fun m hm hf=>hom_of hGc hwc h8c hdc (by omega) hf) hCk hNk (hH.front .z)).mono ?_)))))))));rintro _ w ⟨Hf26,ls26,⟨b26,p26,⟨ql26,kl26,cl26⟩,⟨qm26,km26,cm26⟩,⟨qz26,kz26,cz26⟩,⟨qy26,ky26,cy26⟩,⟨qx26,kx26,cx26⟩⟩,hlf26,hC26,hN26,hx26,⟨hL26,hM26,hkp26⟩,rfl,hH⟩;refine ⟨_,rfl,fun a hF=>JQ hF hH ?_⟩;replace pc0:=pc0.le hlf26;replace pc1:=pc1.le hlf26;replace pcad:=pcad.le hlf26;replace pcaf:=pcaf.le hlf26;replace hcad:=hcad.le hlf26;replace hcaf:=hcaf.le hlf26;replace hCc:=hCc.le hlf26;replace hC15:=hC15.le hlf26;replace hpw15:=hpw15.le hlf26;replace hpl15:=hpl15.le hlf26;replace hz15:=hz15.le hlf26;replace hb15:=hb15.le hlf26;replace hs15:=hs15.le hlf26;replace hCk:=hCk.le hlf26;replace Fe23:=Fe23.le hlf26;obtain rfl:kl26=(monL cad (m)).length:=(hC26.ok _ hx26).one.len;have hpw26:Pows Hf26 ql26 (monL cad (m)):=(hC26.ok _ hx26).one.pw;have hpl26:SumH Hf26 (.map (some p26)) (plM (monL cad (m))):=(hC26.ok _ hx26).one.pl;obtain ⟨⟨e1,hz26⟩,⟨e2,hb26⟩,e3,hs26⟩:(kz26=(clS cad caf (m)).length∧RowsR Hf26 qz26 (clS cad caf (m)))∧(ky26=(bdS cad caf (m)).length∧RowsR Hf26 qy26 (bdS cad caf (m)))∧kx26=(csS cad caf (m)).length∧RowsR Hf26 qx26 (csS cad caf (m)):=hL26;subst e1 e2 e3;refine Jg (JG rfl) rfl (Jg (Jt u95 rfl sz57 rfl) rfl (Jg (EQ (b:=b26) (k:=5) (v:=.slice qx26 (csS cad caf (m)).length cx26) rfl At.z hx26 rfl rfl pl57) rfl (Jg (Jm u57 rfl rfl) rfl (Jg (Jc rfl) rfl (Jf (Ja (hK9 (Jl (JD (σ:=HP × List (Int × Lv) × Option Addr × Nat × Vs × Nat) (fun ⟨Hj,lsj,q1,c1,vs1,j⟩=>[(31,.int .i64 (j:Int)),(7,.slice q1 (ptK cad caf n m k j).length c1)]) (fun ⟨Hj,lsj,q1,c1,vs1,j⟩=>Hj) (fun ⟨Hj,lsj,q1,c1,vs1,j⟩=>cpx lc lsj::ownIs 2 vs1 (ptK cad caf n m k j)::own 22 1 q1 (ptK cad caf n m k j).length c1 (slicesI vs1 (ptK cad caf n m k j))::L) (fun ⟨Hj,lsj,q1,c1,vs1,j⟩=>Le Hf26 Hj∧(CpxOk Hj cad caf (fun _=>False) lsj∧Nxt (fun _=>False) lsj)∧((n,⟨b15,p15,⟨ql15,(monL cad n).length,cl15⟩,⟨qm15,km15,cm15⟩,⟨qz15,(clS cad caf n).length,cz15⟩,⟨qy15,(bdS cad caf n).length,cy15⟩,⟨qx15,(csS cad caf n).length,cx15⟩⟩)∈lsj∧(m,⟨b26,p26,⟨ql26,(monL cad m).length,cl26⟩,⟨qm26,km26,cm26⟩,⟨qz26,(clS cad caf m).length,cz26⟩,⟨qy26,(bdS cad caf m).length,cy26⟩,⟨qx26,(csS cad caf m).length,cx26⟩⟩)∈lsj)∧j≤(csS cad caf m).length) (fun ⟨Hj,lsj,q1,c1,vs1,j⟩=>(csS cad caf m).length - j) (_,ls26,q,c,vs,0) ⟨Le.refl _,⟨hC26,hN26⟩,⟨hkp26 _ hx15 hF15,hx26⟩,by show 0≤_;omega⟩ ⟨rfl,⟨rfl,trivial⟩⟩ rfl rfl ?_)))))))));rintro ⟨Hj,lsj,q1,c1,vs1,j⟩ ⟨hlj,⟨hCj,hNj⟩,⟨hx15,hx26⟩,hj⟩ _ hAg1;replace pc0:=pc0.le hlj;replace pc1:=pc1.le hlj;replace pcad:=pcad.le hlj;replace pcaf:=pcaf.le hlj;replace hcad:=hcad.le hlj;replace hcaf:=hcaf.le hlj;replace hCc:=hCc.le hlj;replace hC15:=hC15.le hlj;replace hpw15:=hpw15.le hlj;replace hpl15:=hpl15.le hlj;replace hz15:=hz15.le hlj;replace hb15:=hb15.le hlj;replace hs15:=hs15.le hlj;replace hCk:=hCk.le hlj;replace Fe23:=Fe23.le hlj;replace hC26:=hC26.le hlj;replace hpw26:=hpw26.le hlj;replace hpl26:=hpl26.le hlj;replace hz26:=hz26.le hlj;replace hb26:=hb26.le hlj;replace hs26:=hs26.le hlj;refine Je fun _ hK10 _=>(Jb (Jg (JK rfl rfl) rfl (Jf (Ja (hK10 (Je fun _ hK11 _=>(Jo rfl (fun h32=>?_) (fun h32=>?_))))))))
  ·
   have hj1:j<(csS cad caf m).length:=by omega
   have hF26:Fl ⟨b26,p26,⟨ql26,(monL cad m).length,cl26⟩,⟨qm26,km26,cm26⟩,⟨qz26,(clS cad caf m).length,cz26⟩,⟨qy26,(bdS cad caf m).length,cy26⟩,⟨qx26,(csS cad caf m).length,cx26⟩⟩:=Fl_of hAc h8c hdc hM26 hz26 (by omega);have hrj:=hcsM.led _ (rw_mem hj1);have hrjl:=hrj.1.len;have hs1:=sumR_mon (ds:=cad) (n:=n) (row:=rw_ (csS cad caf n) k) h8c (by omega);have hs2:=sumR_mon (ds:=cad) (n:=m) (row:=rw_ (csS cad caf m) j) h8c (by omega);have hk1m:=sumR_key (ps:=monL cad n) (row:=rw_ (csS cad caf n) k) (by omega);have hk2m:=sumR_key (ps:=monL cad m) (row:=rw_ (csS cad caf m) j) (by omega);have hpb:=ptK_bd (p:=n) (q:=m) (k:=k) (j:=j) hAc h8c hdc (by omega) (by omega);refine Jn (Ja (hK11 (Je fun _ hK12 _=>(Jl (Je fun _ hK13 _=>(Jb (Jg (JP u57 sz22 rfl rfl rfl hj1 hs26.sm) rfl ?_)))))));obtain ⟨qe34,ce34,he34,le34,Fe34⟩:=hs26 j hj1;refine Jg (JC rfl he34 pl22) rfl (Jg (Jd rfl) rfl (Jf (Ja (hK13 (Ei (Rs:=[_,_,_]) 27 [[], [], [], [], [2,3], [], [], [5,6], [], [5,6,7,8], [], [10], [10,11], [10,11,12], [10,11,12,13], [10,11,12,13,14], [10,11,12,13,14,15], [], [], [5,6,7,8,9,17,18], [], [5,6,7,8,9,17,18,19,20], [5,6,7,8,9,10,11,12,13,14,15,16,17,18,19,20,21], [1,2,3,4,5,6,7,8,9,10,11,12,13,14,15,16,17,18,19,20,21,22], [1,2,3,4,5,6,7,8,9,10,11,12,13,14,15,16,17,18,19,20,21,22,23], [0,1,2,3,4,5,6,7,8,9,10,11,12,13,14,15,16,17,18,19,20,21,22,23,24], [0,1,2,3,4,5,6,7,8,9,10,11,12,13,14,15,16,17,18,19,20,21,22,23,24,25]] [[], [], [], [], [], [], [], [27], [], [27], [], [], [], [], [], [], [], [], [], [27], [], [27], [9,21], [], [], [24], []] [[], [], [], [], [], [], [], [], [], [], [], [], [], [], [], [], [], [], [], [], [], [], [], [22,27], [], [29], []] rfl rfl (by kernel_rfl) ?_)))));apply Jk 1 rfl
   iterate 3 focus (intros;(conv=>lhs;simp only [Jh,Jr,JJ,Ju,JI,eq_self,Nat.reduceEqDiff,reduceIte,Nat.reduceSub,Nat.reduceAdd,List.cons_append,List.nil_append]);all_goals rfl)
   ·
    intro gh X K zq zc zq2 zc2 zb zv hK;refine Jg (Jc rfl) rfl (Ji ?_);exact hK zq zc zq2 zc2 zb zv
   ·
    intro gh gh' h
    rfl
   apply Jk 2 rfl
   iterate 3 focus (intros;(conv=>lhs;simp only [Jh,Jr,JJ,Ju,JI,eq_self,Nat.reduceEqDiff,reduceIte,Nat.reduceSub,Nat.reduceAdd,List.cons_append,List.nil_append]);all_goals rfl)
   ·
    intro gh X K zq zc zq2 zc2 zb zv hK;refine Jg (Jc rfl) rfl (Ji ?_);exact hK zq zc zq2 zc2 zb zv
   ·
    intro gh gh' h
    rfl
   apply Jk 3 rfl
   iterate 3 focus (intros;(conv=>lhs;simp only [Jh,Jr,JJ,Ju,JI,eq_self,Nat.reduceEqDiff,reduceIte,Nat.reduceSub,Nat.reduceAdd,List.cons_append,List.nil_append]);all_goals rfl)
   ·
    intro gh X K zq zc zq2 zc2 zb zv hK;refine Jg (Jc rfl) rfl (Ji ?_);exact hK zq zc zq2 zc2 zb zv
   ·
    intro gh gh' h
    rfl
   apply Jk 4 rfl
   iterate 3 focus (intros;(conv=>lhs;simp only [Jh,Jr,JJ,Ju,JI,eq_self,Nat.reduceEqDiff,reduceIte,Nat.reduceSub,Nat.reduceAdd,List.cons_append,List.nil_append]);all_goals rfl)
   ·
    intro gh X K zq zc zq2 zc2 zb zv hK;refine Jg (Jc rfl) rfl (Ji ?_);exact hK zq zc zq2 zc2 zb zv
   ·
    intro gh gh' h
    rfl
   apply Jk 5 rfl
   iterate 3 focus (intros;(conv=>lhs;simp only [Jh,Jr,JJ,Ju,JI,eq_self,Nat.reduceEqDiff,reduceIte,Nat.reduceSub,Nat.reduceAdd,List.cons_append,List.nil_append]);all_goals rfl)
   ·
    intro gh X K zq zc zq2 zc2 zb zv hK;refine Jg (JA rfl rfl (by first | exact nw _ (by omega) | rfl)) rfl (Ji ?_);exact hK zq zc zq2 zc2 zb zv
   ·
    intro gh gh' h
    rfl
   apply Jk 6 rfl
   iterate 3 focus (intros;(conv=>lhs;simp only [Jh,Jr,JJ,Ju,JI,eq_self,Nat.reduceEqDiff,reduceIte,Nat.reduceSub,Nat.reduceAdd,List.cons_append,List.nil_append]);all_goals rfl)
   ·
    intro gh X K zq zc zq2 zc2 zb zv hK;refine Jg (Jc rfl) rfl (Ji ?_);exact hK zq zc zq2 zc2 zb zv
   ·
    intro gh gh' h
    rfl
   apply Jk 7 rfl
   iterate 3 focus (intros;(conv=>lhs;simp only [Jh,Jr,JJ,Ju,JI,eq_self,Nat.reduceEqDiff,reduceIte,Nat.reduceSub,Nat.reduceAdd,List.cons_append,List.nil_append]);all_goals rfl)
   ·
    intro gh X K zq zc zq2 zc2 zb zv hK;refine Jg (Jc rfl) rfl (Ji ?_);exact hK zq zc zq2 zc2 zb zv
   ·
    intro gh gh' h
    rfl
   apply Jk 8 rfl
   iterate 3 focus (intros;(conv=>lhs;simp only [Jh,Jr,JJ,Ju,JI,eq_self,Nat.reduceEqDiff,reduceIte,Nat.reduceSub,Nat.reduceAdd,List.cons_append,List.nil_append]);all_goals rfl)
   ·
    intro gh X K zq zc zq2 zc2 zb zv hK;refine Jx fn68 rfl rfl fun w hH=>(atH_c (n:=n) pc0 pc1 pcad pcaf hcad hcaf (by omega) hCj.nd hx15 hF15 (hH.front .z)).mono ?_;rintro _ w ⟨rfl,hH⟩;refine ⟨_,rfl,fun a hF9=>JQ hF9 hH ?_⟩;refine Ji ?_;exact hK zq zc zq2 zc2 zb zv
   ·
    intro gh gh' h
    rfl
   apply Jk 9 rfl
   iterate 3 focus (intros;(conv=>lhs;simp only [Jh,Jr,JJ,Ju,JI,eq_self,Nat.reduceEqDiff,reduceIte,Nat.reduceSub,Nat.reduceAdd,List.cons_append,List.nil_append]);all_goals rfl)
   ·
    intro gh X K zq zc zq2 zc2 zb zv hK;refine Jg (Jc rfl) rfl (Ji ?_);exact hK zq zc zq2 zc2 zb zv
   ·
    intro gh gh' h
    rfl
   apply JX 10 rfl
   iterate 3 focus (intros;(conv=>lhs;simp only [Jh,Jr,JJ,Ju,JI,eq_self,Nat.reduceEqDiff,reduceIte,Nat.reduceSub,Nat.reduceAdd,List.cons_append,List.nil_append]);all_goals rfl)
   ·
    intro gh X K zq zc zq2 zc2 zb zv hK;refine Jx fn137 rfl rfl fun w hH=>hH.lend .z fun Hl1 hle1 hA1 hB1 hH=>(sum_c (M:=20) (cpx_cell hx15 hA1 rfl) (cpx_cell hx15 hA1 rfl) (Fe23.le hle1) (hpw15.le hle1) (monL_pok h8c) (by omega) (by omega) (fun j=>by have:=hrk.1.val j;omega) (by omega) hH).mono ?_;rintro _ w ⟨bo44,rfl,hH⟩;replace hH:=hB1 _ _ hH;refine ⟨_,rfl,fun a hF=>JQ hF hH ?_⟩;refine Js .z (Js (.s .z) (Ji ?_));exact hK zq zc zq2 zc2 bo44 zv
   ·
    intro gh gh' h;refine ⟨?_,?_⟩ <;> rfl
   apply Jk 11 rfl
   iterate 3 focus (intros;(conv=>lhs;simp only [Jh,Jr,JJ,Ju,JI,eq_self,Nat.reduceEqDiff,reduceIte,Nat.reduceSub,Nat.reduceAdd,List.cons_append,List.nil_append]);all_goals rfl)
   ·
    intro gh X K zq zc zq2 zc2 zb zv hK;refine Jg (Jc rfl) rfl (Ji ?_);exact hK zq zc zq2 zc2 zb zv
   ·
    intro gh gh' h
    rfl
   apply Jk 12 rfl
   iterate 3 focus (intros;(conv=>lhs;simp only [Jh,Jr,JJ,Ju,JI,eq_self,Nat.reduceEqDiff,reduceIte,Nat.reduceSub,Nat.reduceAdd,List.cons_append,List.nil_append]);all_goals rfl)
   ·
    intro gh X K zq zc zq2 zc2 zb zv hK;refine Jg (JG rfl) rfl (Ji ?_);exact hK zq zc zq2 zc2 zb zv
   ·
    intro gh gh' h
    rfl
   apply Jk 13 rfl
   iterate 3 focus (intros;(conv=>lhs;simp only [Jh,Jr,JJ,Ju,JI,eq_self,Nat.reduceEqDiff,reduceIte,Nat.reduceSub,Nat.reduceAdd,List.cons_append,List.nil_append]);all_goals rfl)
   ·
    intro gh X K zq zc zq2 zc2 zb zv hK;refine Jg (Jt u172 rfl sz81 rfl) rfl (Ji ?_);exact hK zq zc zq2 zc2 zb zv
   ·
    intro gh gh' h
    rfl
   apply Jk 14 rfl
   iterate 3 focus (intros;(conv=>lhs;simp only [Jh,Jr,JJ,Ju,JI,eq_self,Nat.reduceEqDiff,reduceIte,Nat.reduceSub,Nat.reduceAdd,List.cons_append,List.nil_append]);all_goals rfl)
   ·
    intro gh X K zq zc zq2 zc2 zb zv hK;refine Jg (JC (q:=some ⟨bc,0,none⟩) (k:=0) rfl pc0 pl81) rfl (Ji ?_);exact hK zq zc zq2 zc2 zb zv
   ·
    intro gh gh' h
    rfl
   apply Jk 15 rfl
   iterate 3 focus (intros;(conv=>lhs;simp only [Jh,Jr,JJ,Ju,JI,eq_self,Nat.reduceEqDiff,reduceIte,Nat.reduceSub,Nat.reduceAdd,List.cons_append,List.nil_append]);all_goals rfl)
   ·
    intro gh X K zq zc zq2 zc2 zb zv hK;refine Jg (JG rfl) rfl (Ji ?_);exact hK zq zc zq2 zc2 zb zv
   ·
    intro gh gh' h
    rfl
   apply Jk 16 rfl
   iterate 3 focus (intros;(conv=>lhs;simp only [Jh,Jr,JJ,Ju,JI,eq_self,Nat.reduceEqDiff,reduceIte,Nat.reduceSub,Nat.reduceAdd,List.cons_append,List.nil_append]);all_goals rfl)
   ·
    intro gh X K zq zc zq2 zc2 zb zv hK;refine Jg (Jt u35 rfl sz22 rfl) rfl (Ji ?_);exact hK zq zc zq2 zc2 zb zv
   ·
    intro gh gh' h
    rfl
   apply Jk 17 rfl
   iterate 3 focus (intros;(conv=>lhs;simp only [Jh,Jr,JJ,Ju,JI,eq_self,Nat.reduceEqDiff,reduceIte,Nat.reduceSub,Nat.reduceAdd,List.cons_append,List.nil_append]);all_goals rfl)
   ·
    intro gh X K zq zc zq2 zc2 zb zv hK;refine Jg (JC (q:=some ⟨bca,0,none⟩) (k:=0) rfl pcad pl22) rfl (Ji ?_);exact hK zq zc zq2 zc2 zb zv
   ·
    intro gh gh' h
    rfl
   apply Jk 18 rfl
   iterate 3 focus (intros;(conv=>lhs;simp only [Jh,Jr,JJ,Ju,JI,eq_self,Nat.reduceEqDiff,reduceIte,Nat.reduceSub,Nat.reduceAdd,List.cons_append,List.nil_append]);all_goals rfl)
   ·
    intro gh X K zq zc zq2 zc2 zb zv hK;refine Jg (Jc rfl) rfl (Ji ?_);exact hK zq zc zq2 zc2 zb zv
   ·
    intro gh gh' h
    rfl
   apply Jk 19 rfl
   iterate 3 focus (intros;(conv=>lhs;simp only [Jh,Jr,JJ,Ju,JI,eq_self,Nat.reduceEqDiff,reduceIte,Nat.reduceSub,Nat.reduceAdd,List.cons_append,List.nil_append]);all_goals rfl)
   ·
    intro gh X K zq zc zq2 zc2 zb zv hK;refine Jg (Jc rfl) rfl (Ji ?_);exact hK zq zc zq2 zc2 zb zv
   ·
    intro gh gh' h
    rfl
   apply Jk 20 rfl
   iterate 3 focus (intros;(conv=>lhs;simp only [Jh,Jr,JJ,Ju,JI,eq_self,Nat.reduceEqDiff,reduceIte,Nat.reduceSub,Nat.reduceAdd,List.cons_append,List.nil_append]);all_goals rfl)
   ·
    intro gh X K zq zc zq2 zc2 zb zv hK;refine Jx fn68 rfl rfl fun w hH=>(atH_c (n:=m) pc0 pc1 pcad pcaf hcad hcaf (by omega) hCj.nd hx26 hF26 (hH.front .z)).mono ?_;rintro _ w ⟨rfl,hH⟩;refine ⟨_,rfl,fun a hF9=>JQ hF9 hH ?_⟩;refine Ji ?_;exact hK zq zc zq2 zc2 zb zv
   ·
    intro gh gh' h
    first | simp only [h 9 rfl] | rfl
   apply Jk 21 rfl
   iterate 3 focus (intros;(conv=>lhs;simp only [Jh,Jr,JJ,Ju,JI,eq_self,Nat.reduceEqDiff,reduceIte,Nat.reduceSub,Nat.reduceAdd,List.cons_append,List.nil_append]);all_goals rfl)
   ·
    intro gh X K zq zc zq2 zc2 zb zv hK;refine Jg (Jc rfl) rfl (Ji ?_);exact hK zq zc zq2 zc2 zb zv
   ·
    intro gh gh' h
    rfl
   apply JX 22 rfl
   iterate 3 focus (intros;(conv=>lhs;simp only [Jh,Jr,JJ,Ju,JI,eq_self,Nat.reduceEqDiff,reduceIte,Nat.reduceSub,Nat.reduceAdd,List.cons_append,List.nil_append]);all_goals rfl)
   ·
    intro gh X K zq zc zq2 zc2 zb zv hK;refine Jx fn137 rfl rfl fun w hH=>hH.lend .z fun Hl1 hle1 hA1 hB1 hH=>(sum_c (M:=20) (cpx_cell hx26 hA1 rfl) (cpx_cell hx26 hA1 rfl) (Fe34.le hle1) (hpw26.le hle1) (monL_pok h8c) (by omega) (by omega) (fun j=>by have:=hrj.1.val j;omega) (by omega) hH).mono ?_;rintro _ w ⟨bo56,rfl,hH⟩;replace hH:=hB1 _ _ hH;refine ⟨_,rfl,fun a hF=>JQ hF hH ?_⟩;refine Js .z (Js (.s .z) (Ji ?_));exact hK zq zc zq2 zc2 bo56 zv
   ·
    intro gh gh' h;refine ⟨?_,?_⟩ <;> (first | simp only [h 9 rfl] | rfl)
   apply JX 23 rfl
   iterate 3 focus (intros;(conv=>lhs;simp only [Jh,Jr,JJ,Ju,JI,eq_self,Nat.reduceEqDiff,reduceIte,Nat.reduceSub,Nat.reduceAdd,List.cons_append,List.nil_append]);all_goals rfl)
   ·
    intro gh X K zq zc zq2 zc2 zb zv hK;refine Jx fn90 rfl rfl fun w hH=>hH.lend .z fun Hl1 hle1 hA1 hB1 hH=>hH.lend .z fun Hl2 hle2 hA2 hB2 hH=>(times_c ((omap_H hA1).le hle2) hs1 ((hcad.le hle1).le hle2) (omap_H hA2) hs2 hAc.hn hAc.hd (by omega) hH).mono ?_;rintro _ w ⟨bo57,rfl,hH⟩;replace hH:=hB2 _ _ hH;replace hH:=hB1 _ _ hH;refine ⟨_,rfl,fun a hF=>JQ hF hH ?_⟩;refine Js (.s .z) (Js (.s .z) (Js (.s (.s .z)) (Ji ?_)));exact hK zq zc zq2 zc2 bo57 zv
   ·
    intro gh gh' h;refine ⟨?_,?_⟩ <;> (first | simp only [h 9 rfl,h 21 rfl] | rfl)
   apply JX 24 rfl
   iterate 3 focus (intros;(conv=>lhs;simp only [Jh,Jr,JJ,Ju,JI,eq_self,Nat.reduceEqDiff,reduceIte,Nat.reduceSub,Nat.reduceAdd,List.cons_append,List.nil_append]);all_goals rfl)
   ·
    intro gh X K zq zc zq2 zc2 zb zv hK;refine Jx fn70 rfl rfl fun w hH=>(class_m (Ms:=40) pc0 pc1 pcad pcaf hcad hcaf (hs1.times hs2) hGc (by omega) hft hCj hNj (by omega) (times_mon h8c hdc hs1 hs2 hk1m hk2m hft.1.1 (by omega)) ((hH.front (.s .z)).front (.s .z))).mono ?_;rintro _ w ⟨qo58,co58,vo58,rfl,hH⟩;refine ⟨_,rfl,fun a hF9=>JQ hF9 hH ?_⟩;refine Ji ?_;exact hK qo58 co58 zq2 zc2 zb vo58
   ·
    intro gh gh' h;refine ⟨?_,?_⟩ <;> (first | simp only [h 9 rfl,h 21 rfl,h 22 rfl] | rfl)
   apply JX 25 rfl
   iterate 3 focus (intros;(conv=>lhs;simp only [Jh,Jr,JJ,Ju,JI,eq_self,Nat.reduceEqDiff,reduceIte,Nat.reduceSub,Nat.reduceAdd,List.cons_append,List.nil_append]);all_goals rfl)
   ·
    intro gh X K zq zc zq2 zc2 zb zv hK;refine EF (EG u57 ze22 sz22 rfl rfl) rfl fun qo59 co59=>(Ji ?_);exact hK qo59 co59 zq2 zc2 zb zv
   ·
    intro gh gh' h;refine ⟨?_,?_⟩ <;> (first | simp only [h 9 rfl,h 21 rfl,h 22 rfl,h 23 rfl] | rfl)
   apply JX 26 rfl
   iterate 3 focus (intros;(conv=>lhs;simp only [Jh,Jr,JJ,Ju,JI,eq_self,Nat.reduceEqDiff,reduceIte,Nat.reduceSub,Nat.reduceAdd,List.cons_append,List.nil_append]);all_goals rfl)
   ·
    intro gh X K zq zc zq2 zc2 zb zv hK;refine Ey u57 ze22 sz22 by22 rfl rfl rfl rfl (by omega) (.s .z) At.z (fun _ _=>At.z) rfl fun qo60 co60=>(Js .z (Js (.s .z) (Ji ?_)));exact hK qo60 co60 zq2 zc2 zb zv
   ·
    intro gh gh' h;refine ⟨?_,?_⟩ <;> (first | simp only [h 9 rfl,h 21 rfl,h 22 rfl,h 23 rfl,h 24 rfl] | rfl)
   apply Jk 27 rfl
   iterate 3 focus (intros;(conv=>lhs;simp only [Jh,Jr,JJ,Ju,JI,eq_self,Nat.reduceEqDiff,reduceIte,Nat.reduceSub,Nat.reduceAdd,List.cons_append,List.nil_append]);all_goals rfl)
   ·
    intro gh X K zq zc zq2 zc2 zb zv hK;refine Jg (Jd rfl) rfl (Ji ?_);exact hK zq zc zq2 zc2 zb zv
   ·
    intro gh gh' h
    first | simp only [h 9 rfl,h 21 rfl,h 22 rfl,h 23 rfl,h 24 rfl,h 25 rfl] | rfl
   apply Ej [0,1,2,3,4,5,6,7,8,9,10,11,12,13,14,15,16,17,18,19,20,21,22,23,24,25,26] [0,1,2,3,4,5,6,7,8,9,10,11,12,13,14,15,16,17,18,19,20,21,23,24,25,26,28] foll0 rfl rfl rfl (by rfl)
   iterate 2 focus (intros;(conv=>lhs;simp only [Jh,Jr,JJ,Ju,JI,eq_self,Nat.reduceEqDiff,reduceIte,Nat.reduceSub,Nat.reduceAdd,List.cons_append,List.nil_append]);all_goals rfl)
   intro gh;generalize (gh 9).b=bo44;generalize (gh 21).b=bo56;generalize (gh 22).b=bo57;generalize (gh 23).c=co58;generalize (gh 23).q=qo58;generalize (gh 23).vs=vo58;generalize (gh 24).c=co59;generalize (gh 24).q=qo59;generalize (gh 25).c=co60;generalize (gh 25).q=qo60;clear gh;refine EJ.unmeltA (.s (.s .z)) fun Hz Az hlez hKz=>?_;obtain ⟨lsz,hCz,hNz,hkpz,rfl⟩:=hKz;refine EJ.unstar ?_;replace pc0:=pc0.le hlez;replace pc1:=pc1.le hlez;replace pcad:=pcad.le hlez;replace pcaf:=pcaf.le hlez;replace hcad:=hcad.le hlez;replace hcaf:=hcaf.le hlez;replace hCc:=hCc.le hlez;replace hC15:=hC15.le hlez;replace hpw15:=hpw15.le hlez;replace hpl15:=hpl15.le hlez;replace hz15:=hz15.le hlez;replace hb15:=hb15.le hlez;replace hs15:=hs15.le hlez;replace hCk:=hCk.le hlez;replace Fe23:=Fe23.le hlez;replace hC26:=hC26.le hlez;replace hpw26:=hpw26.le hlez;replace hpl26:=hpl26.le hlez;replace hz26:=hz26.le hlez;replace hb26:=hb26.le hlez;replace hs26:=hs26.le hlez;replace hCj:=hCj.le hlez;replace Fe34:=Fe34.le hlez;refine JF (Ja (hK12 (Jb (Jg (JA rfl rfl (by first | exact nw _ (by omega) | rfl)) rfl (Jg (Jc rfl) rfl (Jf (Ja (Js (.s (.s (.s (.s (.s .z))))) (Js (.s (.s (.s (.s (.s .z))))) (Js (.s (.s (.s (.s (.s .z))))) (Js (.s (.s (.s (.s (.s .z))))) (Js (.s (.s (.s (.s (.s .z))))) (Js (.s (.s (.s (.s (.s (.s .z)))))) (Js (.s (.s (.s (.s (.s (.s .z)))))) (EJ.isSnoc (rs:=(ptK cad caf n m k j)) rfl rfl ?_)))))))))))))));refine JN (.s (.s .z)) (JN (.s (.s .z)) (JN (.s (.s .z)) (Js (.s (.s .z)) (Js (.s .z) (Js (.s (.s .z)) ?_)))));exact hAg1 (_,lsz,qo60,co60,setV vs1 (ptK cad caf n m k j).length (qo58,co58),j+1) ⟨(hlj.trans hlez),⟨hCz,hNz⟩,⟨hkpz _ hx15 hF15,hkpz _ hx26 hF26⟩,by show j+1≤_;omega⟩ (by show (csS cad caf m).length - (j+1)<(csS cad caf m).length - j;omega) 35 rfl rfl ⟨rfl,⟨(by rw [ptK_succ hj1,List.length_append];rfl),trivial⟩⟩ rfl (by dsimp only;rw [ptK_succ hj1,slicesI_set rfl,List.length_append];rfl)
  ·
   refine JH (Jj (Jj (JM (JF (Ja (hK7 (Jb (Jg (JA rfl rfl (by first | exact nw _ (by omega) | rfl)) rfl (Jg (Jc rfl) rfl (Jf (Ja ?_)))))))))));exact hAg0 (_,lsj,q1,c1,vs1,k+1) ⟨((hlk.trans hlf26).trans hlj),⟨hCj,hNj⟩,hx15,by show k+1≤_;omega⟩ (by show (csS cad caf n).length - (k+1)<(csS cad caf n).length - k;omega) 19 rfl rfl ⟨rfl,⟨(by rw [← ptK_next (q:=m) (j:=j) hk1 (by omega)];rfl),trivial⟩⟩ rfl (by dsimp only;rw [ptK_next (q:=m) (j:=j) hk1 (by omega)])
 ·
  refine JH (Jj (Jj (JM (Ja (hK3 (Je fun _ hK14 _=>(Jb (Jg (Jc rfl) rfl (Jg (Jd rfl) rfl (Jf (Ja (hK14 (Jv (Jq rfl (Res.tmp rfl) fun w hH=>?_))))))))))))));replace hH:=hH.sublist (.cons_cons _ (.cons_cons _ (.cons_cons _ (List.Sublist.refl _))))
  have hke:k=(csS cad caf n).length:=by omega
  rw [ptK_end hke] at hH;exact ⟨_,_,q,c,vs,(hlf15.trans hlk),hCk,hNk,by rw [← ptK_end hke],by unfold ownRs;exact ((hH.front (.s .z)).front (.s (.s .z))).star⟩
theorem fn84:Fn Tryz.prog 84:=⟨_,Tryz.func84,by kernel_rfl,rfl⟩
theorem fn85:Fn Tryz.prog 85:=⟨_,Tryz.func85,by kernel_rfl,rfl⟩
section
variable {ds : List Int} {fs : List (List Term)} {n m : Int}
theorem up_wi (ds:List Int) (n:Int):upB ds n=wiB ds 0 (n+1):=by
 unfold upB wiB;rw [show (n+1+1 - max (0:Int) 0).toNat=(n+2).toNat by omega]
 congr 1
 funext k
 rw [show max (0:Int) 0+(k:Int)=(k:Int) by omega]
theorem wi_f3 {k t:Int} (h:wiB ds 0 t=true) (h0:0≤k) (hk:k+1≤t):fit3 ds k:=⟨⟨wi_fit h (by omega) (by omega),wi_fit h (by omega) (by omega)⟩,fun h1=>wi_fit h (by omega) (by omega)⟩
end
section
variable {ds : List Int} {fs : List (List Term)} {n m : Int}
theorem upC_n (h:upC ds n≠0):upC ds n=3∧wiB ds 0 (n+1)=false:=by
 unfold upC at h ⊢;rw [up_wi] at h ⊢
 cases hh:wiB ds 0 (n+1) with
 | true=>rw [hh] at h;exact absurd rfl h
 | false=>exact ⟨rfl,rfl⟩
theorem upC_z (h : ¬upC ds n≠0):wiB ds 0 (n+1)=true:=by
 unfold upC at h;rw [up_wi] at h
 cases hh:wiB ds 0 (n+1) with
 | true=>rfl
 | false=>rw [hh] at h;simp at h
end
end Go.Proofs.YthenedanhcnccaaGreat.G
