/- A part of the walk of one law: what the functions compute. No condition. -/
import Derived.Test.YtelcehjliighfaaGreatRows
import Derived.Test.YtelcehjliighfaaGreatProg
import Derived.WalkKit
import Derived.KernelRfl
import Derived.JoinedOf
import Derived.Maps.AppendAt
import Derived.Still
import Derived.ProofKit
import Derived.OpenShut
import Derived.StillTail
import Derived.Deep.Upon
import Derived.WalkSpells
import Derived.Maps.Range
import Derived.DeepKeys4
import Derived.Maps.Keyed
import Derived.ChangeOld
import Derived.Below
import Derived.SizedLaws
import Derived.Test.YtelcehjliighfaaGreatPLopf
set_option linter.unusedVariables false
set_option linter.unusedSimpArgs false
set_option maxRecDepth 10000
set_option maxHeartbeats 8000000
open Nat (reduceEqDiff reduceSub reduceAdd)
namespace Go.Proofs.YtelcehjliighfaaGreat.G
open Go Go.RowKit
theorem fn71:Fn Tryz.prog 71:=⟨_,Tryz.func71,by kernel_rfl,rfl⟩
theorem mon_mn {ds:List Int} {n:Int} {m:Nat} (h8:ds.length≤8) : ∀p∈(monS ds n).take m,Mono p:=fun p hp=>(mon_pok h8 (List.mem_of_mem_take hp)).mn (by omega)
theorem monL_mn {ds:List Int} {n:Int} (h8:ds.length≤8) : ∀p∈monL ds n,Mono p:=mon_mn h8
theorem monT_8 {ds:List Int} {n:Int} (h8:ds.length≤8) : ∀p∈monT ds n,p.length=8:=mon_8 h8
theorem mon_srt (ds:List Int) (n:Int) (h8:ds.length≤8):(monS ds n).Pairwise fun p q=>before p q=true:=enumF_srt (by omega) rfl
theorem monL_srt (ds:List Int) (n:Int) (h8:ds.length≤8):(monL ds n).Pairwise fun p q=>before p q=true:=(mon_srt ds n h8).sublist (List.take_sublist _ _)
theorem monT_L {ds:List Int} {n:Int} (h:fitB ds n=true):monT ds n=monL ds n:=by rw [monT_eq h,monL_fit h]
theorem mon_one {p:Pw}:toS (ofS (addS [] p 1))=[(p,1)]:=by rw [toS_ofS,addS_one]
theorem dS_one {ds:List Int} {fs:List (List Term)} (hA:AlgOk ds fs) (h8:ds.length≤8) (hd : ∀j,j<ds.length→1≤ds.getD j 0∧ds.getD j 0≤12) {n:Int} {p:Pw} (hp:p∈monS ds n):Sok 60 (dS ds fs [(p,1)]):=
 dS_sok (ds:=ds) (Sok.one (k:=1) (mon_pok h8 hp) (by omega)) hA.fok (mon_occ h8 hp hd hA.hl)
theorem dS_one_len {ds:List Int} {fs:List (List Term)} (hA:AlgOk ds fs) (h8:ds.length≤8) (hd : ∀j,j<ds.length→1≤ds.getD j 0∧ds.getD j 0≤12) {n:Int} {p:Pw} (hp:p∈monS ds n):(dS ds fs [(p,1)]).length≤80000:=by
 have h1:=dAll_len (ds:=ds) hA.len (mon_occ h8 hp hd hA.hl);have h2:=acc_len (dAll ds fs [(p,1)]) [];simp only [List.length_cons,List.length_nil] at h1 h2;unfold dS
 omega
theorem dS_vec {ds:List Int} {fs:List (List Term)} {n:Int} (hA:AlgOk ds fs) (h8:ds.length≤8) (hd : ∀j,j<ds.length→1≤ds.getD j 0∧ds.getD j 0≤12) (hom:Hom1 ds fs n) {k:Nat} (hk:k<(monL ds n).length):vec (ofS (dS ds fs [(rw_ (monL ds n) k,1)])) (monL ds (n+1))=(monL ds (n+1)).map (cf (dS ds fs [(rw_ (monL ds n) k,1)])):=by
 have h:=vec_cf (ps:=monL ds (n+1)) (f:=ofS (dS ds fs [(rw_ (monL ds n) k,1)])) (by rw [toS_ofS];exact (dS_one hA h8 hd (monL_mem hk)).srt) (monL_srt ds (n+1) h8) (by rw [toS_ofS];exact hom _ (rw_mem hk))
 rwa [toS_ofS] at h
theorem l03Matrix_c {B:World} {H0 H:HP} {L:List SA} {w:World} {qad qaf:Option Addr} {cad caf:Nat} {ad:List Int} {af:List (List Term)} {n:Int} (had:Ints H qad ad) (haf:Forms H qaf af) (hd : ∀j,j<ad.length→1≤ad.getD j 0∧ad.getD j 0≤12) (h8:ad.length≤8) (hn : -1≤n∧n≤100000) (hA:AlgOk ad af) (hfit:fit2 ad n) (hom:Hom1 ad af n) (hH:Hp B H0 H L w):Calls Tryz.prog 120 [.agg [.slice qad ad.length cad,.slice qaf af.length caf].toArray,.int .i64 n].toArray w fun e w'=>∃H' q c,Le H H' ∧RowsR H' q (matS ad af n)∧(matS ad af n).length≤c∧e = .returned (.slice q (matS ad af n).length c)∧Hp B H0 H' L w':=by
 refine Jx Tryz.func120 rfl 38 rfl rfl [(0,.agg [.slice qad ad.length cad,.slice qaf af.length caf].toArray),(1,.int .i64 n)] rfl hH ?_;have hw0:=hH.old;have hw1:=hH.le;have hmT0:=monT_L hfit.1;have hmT1:=monT_L hfit.2;have hml:=monL_len ad n;have hml1:=monL_len ad (n+1);clear hH;refine Je fun _ hK1 _=>(Jb (Ee rfl rfl rfl fun g2=>(Jg (Jd rfl) rfl (Jf (Ja (hK1 (Je fun _ hK2 _=>(Ej (Rs:=[_]) 13 [[], [0], [], [0,1,2], [], [4], [], [6], [0,1,2,3,4,5,6,7], [], [0,1,2,3,4,5,6,7,8], [0,1,2,3,4,5,6,7,8,10], [0,1,2,3,4,5,6,7,8,9,10,11]] [[], [13], [], [], [], [13], [], [], [], [], [], [], []] [[], [], [], [], [], [], [], [], [], [], [], [], []] rfl rfl (by kernel_rfl) ?_))))))));apply Jl 1 rfl
 iterate 3 focus (intros;(conv=>lhs;simp only [Jh,Jr,JM,Jt,JH,eq_self,reduceEqDiff,reduceIte,reduceSub,reduceAdd,JxA,JxB]);all_goals rfl)
 ·
  intro gh X K zq zc zq2 zc2 zb zv hK;refine Jg (Js u36 rfl sz22 rfl) rfl (Ji ?_);exact hK zq zc zq2 zc2 zb zv
 ·
  intro gh gh' h
  rfl
 apply Jl 2 rfl
 iterate 3 focus (intros;(conv=>lhs;simp only [Jh,Jr,JM,Jt,JH,eq_self,reduceEqDiff,reduceIte,reduceSub,reduceAdd,JxA,JxB]);all_goals rfl)
 ·
  intro gh X K zq zc zq2 zc2 zb zv hK;refine Jg (Jv rfl At.z rfl pl22) rfl (Ji ?_);exact hK zq zc zq2 zc2 zb zv
 ·
  intro gh gh' h
  rfl
 apply Jl 3 rfl
 iterate 3 focus (intros;(conv=>lhs;simp only [Jh,Jr,JM,Jt,JH,eq_self,reduceEqDiff,reduceIte,reduceSub,reduceAdd,JxA,JxB]);all_goals rfl)
 ·
  intro gh X K zq zc zq2 zc2 zb zv hK;refine Jg (Jc rfl) rfl (Ji ?_);exact hK zq zc zq2 zc2 zb zv
 ·
  intro gh gh' h
  rfl
 apply JZ 4 rfl
 iterate 3 focus (intros;(conv=>lhs;simp only [Jh,Jr,JM,Jt,JH,eq_self,reduceEqDiff,reduceIte,reduceSub,reduceAdd,JxA,JxB]);all_goals rfl)
 ·
  intro gh X K zq zc zq2 zc2 zb zv hK;refine Jy fn68 rfl rfl fun w hH=>(l01Monomials_c had hd h8 (by omega) hH).mono ?_;rintro _ w ⟨qo12,co12,rfl,hH⟩;refine ⟨_,rfl,fun a hF=>JR hF hH ?_⟩;refine Ji ?_;exact hK qo12 co12 zq2 zc2 zb zv
 ·
  intro gh gh' h;refine ⟨?_,?_⟩ <;> rfl
 apply Jl 5 rfl
 iterate 3 focus (intros;(conv=>lhs;simp only [Jh,Jr,JM,Jt,JH,eq_self,reduceEqDiff,reduceIte,reduceSub,reduceAdd,JxA,JxB]);all_goals rfl)
 ·
  intro gh X K zq zc zq2 zc2 zb zv hK;refine Jg (Js u36 rfl sz22 rfl) rfl (Ji ?_);exact hK zq zc zq2 zc2 zb zv
 ·
  intro gh gh' h
  rfl
 apply Jl 6 rfl
 iterate 3 focus (intros;(conv=>lhs;simp only [Jh,Jr,JM,Jt,JH,eq_self,reduceEqDiff,reduceIte,reduceSub,reduceAdd,JxA,JxB]);all_goals rfl)
 ·
  intro gh X K zq zc zq2 zc2 zb zv hK;refine Jg (Jv rfl At.z rfl pl22) rfl (Ji ?_);exact hK zq zc zq2 zc2 zb zv
 ·
  intro gh gh' h
  rfl
 apply Jl 7 rfl
 iterate 3 focus (intros;(conv=>lhs;simp only [Jh,Jr,JM,Jt,JH,eq_self,reduceEqDiff,reduceIte,reduceSub,reduceAdd,JxA,JxB]);all_goals rfl)
 ·
  intro gh X K zq zc zq2 zc2 zb zv hK;refine Jg (Jc rfl) rfl (Ji ?_);exact hK zq zc zq2 zc2 zb zv
 ·
  intro gh gh' h
  rfl
 apply Jl 8 rfl
 iterate 3 focus (intros;(conv=>lhs;simp only [Jh,Jr,JM,Jt,JH,eq_self,reduceEqDiff,reduceIte,reduceSub,reduceAdd,JxA,JxB]);all_goals rfl)
 ·
  intro gh X K zq zc zq2 zc2 zb zv hK;refine Jg (Jz rfl rfl (by first | exact nw _ (by omega) | rfl)) rfl (Ji ?_);exact hK zq zc zq2 zc2 zb zv
 ·
  intro gh gh' h
  rfl
 apply JZ 9 rfl
 iterate 3 focus (intros;(conv=>lhs;simp only [Jh,Jr,JM,Jt,JH,eq_self,reduceEqDiff,reduceIte,reduceSub,reduceAdd,JxA,JxB]);all_goals rfl)
 ·
  intro gh X K zq zc zq2 zc2 zb zv hK;refine Jy fn68 rfl rfl fun w hH=>(l01Monomials_c had hd h8 (by omega) hH).mono ?_;rintro _ w ⟨qo17,co17,rfl,hH⟩;refine ⟨_,rfl,fun a hF=>JR hF hH ?_⟩;refine Ji ?_;exact hK qo17 co17 zq2 zc2 zb zv
 ·
  intro gh gh' h;refine ⟨?_,?_⟩ <;> (first | simp only [h 3 rfl] | rfl)
 apply JZ 10 rfl
 iterate 3 focus (intros;(conv=>lhs;simp only [Jh,Jr,JM,Jt,JH,eq_self,reduceEqDiff,reduceIte,reduceSub,reduceAdd,JxA,JxB]);all_goals rfl)
 ·
  intro gh X K zq zc zq2 zc2 zb zv hK;refine EL (EP u31 sz22) rfl fun qo18 co18=>(Ji ?_);exact hK qo18 co18 zq2 zc2 zb zv
 ·
  intro gh gh' h;refine ⟨?_,?_⟩ <;> rfl
 apply Jl 11 rfl
 iterate 3 focus (intros;(conv=>lhs;simp only [Jh,Jr,JM,Jt,JH,eq_self,reduceEqDiff,reduceIte,reduceSub,reduceAdd,JxA,JxB]);all_goals rfl)
 ·
  intro gh X K zq zc zq2 zc2 zb zv hK;refine Jg (Jd rfl) rfl (Ji ?_);exact hK zq zc zq2 zc2 zb zv
 ·
  intro gh gh' h
  first | simp only [h 3 rfl,h 8 rfl] | rfl
 apply Jl 12 rfl
 iterate 3 focus (intros;(conv=>lhs;simp only [Jh,Jr,JM,Jt,JH,eq_self,reduceEqDiff,reduceIte,reduceSub,reduceAdd,JxA,JxB]);all_goals rfl)
 ·
  intro gh X K zq zc zq2 zc2 zb zv hK;refine Jg (Jd rfl) rfl (Ji ?_);exact hK zq zc zq2 zc2 zb zv
 ·
  intro gh gh' h
  first | simp only [h 3 rfl,h 8 rfl] | rfl
 apply Jl 13 rfl
 iterate 3 focus (intros;(conv=>lhs;simp only [Jh,Jr,JM,Jt,JH,eq_self,reduceEqDiff,reduceIte,reduceSub,reduceAdd,JxA,JxB]);all_goals rfl)
 ·
  intro gh X K zq zc zq2 zc2 zb zv hK;refine Jg (Jd rfl) rfl (Ji ?_);exact hK zq zc zq2 zc2 zb zv
 ·
  intro gh gh' h
  first | simp only [h 3 rfl,h 8 rfl,h 9 rfl] | rfl
 apply Ei [0,1,2,3,4,5,6,7,8,9,10,11,12] [0,1,2,3,4,5,6,7,8,9,10,11,12,13] foll0 rfl rfl rfl (by rfl)
 iterate 2 focus (intros;(conv=>lhs;simp only [Jh,Jr,JM,Jt,JH,eq_self,reduceEqDiff,reduceIte,reduceSub,reduceAdd,JxA,JxB]);all_goals rfl)
 intro gh;generalize (gh 3).c=co12;generalize (gh 3).q=qo12;generalize (gh 8).c=co17;generalize (gh 8).q=qo17;generalize (gh 9).c=co18;generalize (gh 9).q=qo18;clear gh;refine EF .z fun Ho12 hleo12 hAo12=>?_;replace had:=had.le hleo12;replace haf:=haf.le hleo12;have hxo12:=own_monos (monT_8 h8) hAo12;have hco12:=own_le hAo12;refine EF .z fun Ho17 hleo17 hAo17=>?_;replace had:=had.le hleo17;replace haf:=haf.le hleo17;replace hxo12:=hxo12.le hleo17;have hxo17:=own_monos (monT_8 h8) hAo17;have hco17:=own_le hAo17;rw [hmT0] at hxo12;rw [hmT1] at hxo17;rw [hmT0,hmT1];have hmm:=monL_mn (n:=n) h8;have hmm1:=monL_mn (n:=n+1) h8;refine Ja (hK2 (Je fun _ hK3 _=>(Je fun _ hK4 _=>(Jb (Jg (Jd rfl) rfl (Jf (Ja (hK4 (Jk (JC (σ:=HP × Option Addr × Nat × List Value × Nat) (fun ⟨Hk,q,c,vals,k⟩=>[(8,.int .i64 (k:Int)),(7,.slice q k c)]) (fun ⟨Hk,q,c,vals,k⟩=>Hk) (fun ⟨Hk,q,c,vals,k⟩=>own 22 1 q k c vals::obj g2 (.cells [.slice qad ad.length cad,.slice qaf af.length caf].toArray 36 (0,0))::L) (fun ⟨Hk,q,c,vals,k⟩=>Le Ho17 Hk∧SlF Hk vals (matK ad af n k)∧k≤(monL ad n).length) (fun ⟨Hk,q,c,vals,k⟩=>(monL ad n).length - k) (Ho17,qo18,co18, [],0) ⟨Le.refl _,SlF.nil _,by omega⟩ ⟨rfl,⟨rfl,trivial⟩⟩ rfl rfl ?_))))))))));rintro ⟨Hk,q,c,vals,k⟩ ⟨hlk,hS,hk⟩ _ hAg0;replace had:=had.le hlk;replace haf:=haf.le hlk;replace hxo12:=hxo12.le hlk;replace hxo17:=hxo17.le hlk;refine Je fun _ hK5 _=>(Je fun _ hK6 _=>(Jb (Jg (Jc rfl) rfl (Jg (Jc rfl) rfl (Jg (Jn u135 rfl rfl) rfl (Jg (JO rfl rfl) rfl (Jf (Ja (hK6 (Jo rfl (fun h22=>?_) (fun h22=>?_)))))))))))
 ·
  have hk1:k<(monL ad n).length:=by omega
  have hpm:=monL_mem hk1;have hpk:=mon_pok h8 hpm;have hdl:=dS_one_len hA h8 hd hpm;have hds:=dS_one hA h8 hd hpm;refine Jm (Ja (hK5 (Je fun _ hK7 _=>(Jk (Ej (Rs:=[_,_]) 13 [[], [], [], [], [2,3], [2,3,4], [2,3,4,5], [1,2,3,4,5,6], [], [1,2,3,4,5,6,7,8], [1,2,3,4,5,6,7,8,9], [0,1,2,3,4,5,6,7,8,9,10], [0,1,2,3,4,5,6,7,8,9,10,11]] [[], [14], [], [], [], [], [], [6], [], [7], [], [10], []] [[], [], [], [], [], [], [], [], [], [], [], [13], []] rfl rfl (by kernel_rfl) ?_)))));apply Jl 1 rfl
  iterate 3 focus (intros;(conv=>lhs;simp only [Jh,Jr,JM,Jt,JH,eq_self,reduceEqDiff,reduceIte,reduceSub,reduceAdd,JxA,JxB]);all_goals rfl)
  ·
   intro gh X K zq zc zq2 zc2 zb zv hK;refine Jg (Jc rfl) rfl (Ji ?_);exact hK zq zc zq2 zc2 zb zv
  ·
   intro gh gh' h
   rfl
  apply Jl 2 rfl
  iterate 3 focus (intros;(conv=>lhs;simp only [Jh,Jr,JM,Jt,JH,eq_self,reduceEqDiff,reduceIte,reduceSub,reduceAdd,JxA,JxB]);all_goals rfl)
  ·
   intro gh X K zq zc zq2 zc2 zb zv hK;refine Jg (JA rfl At.z (by simpa [*] using ag36)) rfl (Ji ?_);exact hK zq zc zq2 zc2 zb zv
  ·
   intro gh gh' h
   rfl
  apply Jl 3 rfl
  iterate 3 focus (intros;(conv=>lhs;simp only [Jh,Jr,JM,Jt,JH,eq_self,reduceEqDiff,reduceIte,reduceSub,reduceAdd,JxA,JxB]);all_goals rfl)
  ·
   intro gh X K zq zc zq2 zc2 zb zv hK;refine Jg (Jc rfl) rfl (Ji ?_);exact hK zq zc zq2 zc2 zb zv
  ·
   intro gh gh' h
   rfl
  apply Jl 4 rfl
  iterate 3 focus (intros;(conv=>lhs;simp only [Jh,Jr,JM,Jt,JH,eq_self,reduceEqDiff,reduceIte,reduceSub,reduceAdd,JxA,JxB]);all_goals rfl)
  ·
   intro gh X K zq zc zq2 zc2 zb zv hK;refine Jg (Jc rfl) rfl (Ji ?_);exact hK zq zc zq2 zc2 zb zv
  ·
   intro gh gh' h
   rfl
  apply Jl 5 rfl
  iterate 3 focus (intros;(conv=>lhs;simp only [Jh,Jr,JM,Jt,JH,eq_self,reduceEqDiff,reduceIte,reduceSub,reduceAdd,JxA,JxB]);all_goals rfl)
  ·
   intro gh X K zq zc zq2 zc2 zb zv hK;refine Jg (El u135 sz105 rfl rfl rfl hk1 hxo12.sm) rfl (Ji ?_);exact hK zq zc zq2 zc2 zb zv
  ·
   intro gh gh' h
   rfl
  apply Jl 6 rfl
  iterate 3 focus (intros;(conv=>lhs;simp only [Jh,Jr,JM,Jt,JH,eq_self,reduceEqDiff,reduceIte,reduceSub,reduceAdd,JxA,JxB]);all_goals rfl)
  ·
   intro gh X K zq zc zq2 zc2 zb zv hK;refine Jg (JP rfl (hxo12.cell _ hk1) (hxo12.sm (i:=k) hk1) (by rw [bytesC_length,hxo12.len _ hk1];exact ag105)) rfl (Ji ?_);exact hK zq zc zq2 zc2 zb zv
  ·
   intro gh gh' h
   rfl
  apply JZ 7 rfl
  iterate 3 focus (intros;(conv=>lhs;simp only [Jh,Jr,JM,Jt,JH,eq_self,reduceEqDiff,reduceIte,reduceSub,reduceAdd,JxA,JxB]);all_goals rfl)
  ·
   intro gh X K zq zc zq2 zc2 zb zv hK;refine Jy fn130 rfl rfl fun w hH=>(l01Single_c (rw_all hmm hk1) (by omega) hH).mono ?_;rintro _ w ⟨qo31,co31,rfl,hH⟩;refine ⟨_,rfl,fun a hF=>JR hF hH ?_⟩;refine Ji ?_;exact hK qo31 co31 zq2 zc2 zb zv
  ·
   intro gh gh' h;refine ⟨?_,?_⟩ <;> rfl
  apply JZ 8 rfl
  iterate 3 focus (intros;(conv=>lhs;simp only [Jh,Jr,JM,Jt,JH,eq_self,reduceEqDiff,reduceIte,reduceSub,reduceAdd,JxA,JxB]);all_goals rfl)
  ·
   intro gh X K zq zc zq2 zc2 zb zv hK;refine Jy fn93 rfl rfl fun w hH=>hH.lend .z fun Hl1 hle1 hA1 hB1 hH=>(l02D_c (Mi:=20) (Ms:=20) (had.le hle1) (haf.le hle1) (own_terms (one_wf (rw_all hmm hk1)) hA1) hA.hn hA.hd hA.fok hA.hl hA.kex (by rw [mon_one];exact Sok.one hpk (by omega)) (one_kex (mon_ex h8 hpm hd)) (by omega) hA.len (by rw [one_len];omega) hH).mono ?_;rintro _ w ⟨qo32,co32,rfl,hH⟩;replace hH:=hB1 _ _ hH;refine ⟨_,rfl,fun a hF=>JR hF hH ?_⟩;refine Jw .z (Jw (.s .z) (Ji ?_));exact hK qo32 co32 zq2 zc2 zb zv
  ·
   intro gh gh' h;refine ⟨?_,?_⟩ <;> (first | simp only [h 6 rfl] | rfl)
  apply Jl 9 rfl
  iterate 3 focus (intros;(conv=>lhs;simp only [Jh,Jr,JM,Jt,JH,eq_self,reduceEqDiff,reduceIte,reduceSub,reduceAdd,JxA,JxB]);all_goals rfl)
  ·
   intro gh X K zq zc zq2 zc2 zb zv hK;refine Jg (Jc rfl) rfl (Ji ?_);exact hK zq zc zq2 zc2 zb zv
  ·
   intro gh gh' h
   rfl
  apply JZ 10 rfl
  iterate 3 focus (intros;(conv=>lhs;simp only [Jh,Jr,JM,Jt,JH,eq_self,reduceEqDiff,reduceIte,reduceSub,reduceAdd,JxA,JxB]);all_goals rfl)
  ·
   intro gh X K zq zc zq2 zc2 zb zv hK;refine Jy fn71 rfl rfl fun w hH=>hH.lend .z fun Hl1 hle1 hA1 hB1 hH=>(l03Vector_c (own_terms (by rw [mon_one];exact hds.wf (by omega)) hA1) (hxo17.le hle1) (by omega) (by rw [mon_one,ofS_len];omega) hmm1 hH).mono ?_;rintro _ w ⟨qo34,co34,rfl,hH⟩;replace hH:=hB1 _ _ hH;refine ⟨_,rfl,fun a hF=>JR hF hH ?_⟩;refine Jw .z (Jw (.s .z) (Ji ?_));exact hK qo34 co34 zq2 zc2 zb zv
  ·
   intro gh gh' h;refine ⟨?_,?_⟩ <;> (first | simp only [h 6 rfl,h 7 rfl] | rfl)
  apply JZ 11 rfl
  iterate 3 focus (intros;(conv=>lhs;simp only [Jh,Jr,JM,Jt,JH,eq_self,reduceEqDiff,reduceIte,reduceSub,reduceAdd,JxA,JxB]);all_goals rfl)
  ·
   intro gh X K zq zc zq2 zc2 zb zv hK;refine EL (EB u31 ze22 sz22 rfl rfl) rfl fun qo35 co35=>(Ji ?_);exact hK qo35 co35 zq2 zc2 zb zv
  ·
   intro gh gh' h;refine ⟨?_,?_⟩ <;> (first | simp only [h 6 rfl,h 7 rfl,h 9 rfl] | rfl)
  apply JZ 12 rfl
  iterate 3 focus (intros;(conv=>lhs;simp only [Jh,Jr,JM,Jt,JH,eq_self,reduceEqDiff,reduceIte,reduceSub,reduceAdd,JxA,JxB]);all_goals rfl)
  ·
   intro gh X K zq zc zq2 zc2 zb zv hK;refine EA u31 ze22 sz22 by22 rfl rfl rfl rfl (by omega) (.s .z) At.z (fun _ _=>At.z) rfl fun qo36 co36=>(Jw .z (Jw (.s .z) (Ji ?_)));exact hK qo36 co36 zq2 zc2 zb zv
  ·
   intro gh gh' h;refine ⟨?_,?_⟩ <;> (first | simp only [h 6 rfl,h 7 rfl,h 9 rfl,h 10 rfl] | rfl)
  apply Jl 13 rfl
  iterate 3 focus (intros;(conv=>lhs;simp only [Jh,Jr,JM,Jt,JH,eq_self,reduceEqDiff,reduceIte,reduceSub,reduceAdd,JxA,JxB]);all_goals rfl)
  ·
   intro gh X K zq zc zq2 zc2 zb zv hK;refine Jg (Jd rfl) rfl (Ji ?_);exact hK zq zc zq2 zc2 zb zv
  ·
   intro gh gh' h
   first | simp only [h 6 rfl,h 7 rfl,h 9 rfl,h 10 rfl,h 11 rfl] | rfl
  apply Ei [0,1,2,3,4,5,6,7,8,9,10,11,12] [0,1,2,3,4,5,6,7,8,9,10,11,12,14] foll0 rfl rfl rfl (by rfl)
  iterate 2 focus (intros;(conv=>lhs;simp only [Jh,Jr,JM,Jt,JH,eq_self,reduceEqDiff,reduceIte,reduceSub,reduceAdd,JxA,JxB]);all_goals rfl)
  intro gh;generalize (gh 6).c=co31;generalize (gh 6).q=qo31;generalize (gh 7).c=co32;generalize (gh 7).q=qo32;generalize (gh 9).c=co34;generalize (gh 9).q=qo34;generalize (gh 10).c=co35;generalize (gh 10).q=qo35;generalize (gh 11).c=co36;generalize (gh 11).q=qo36;clear gh;refine EF (.s (.s .z)) fun Ho34 hleo34 hAo34=>?_;replace had:=had.le hleo34;replace haf:=haf.le hleo34;replace hxo12:=hxo12.le hleo34;replace hxo17:=hxo17.le hleo34;replace hS:=hS.le hleo34;have hxo34:=own_ints hAo34;have hco34:=own_le hAo34;have hve:=dS_vec hA h8 hd hom hk1;rw [← mon_one] at hve;have hS2:=hS.snoc (hve ▸ hxo34) (by rw [hve]) hco34;rw [mon_one] at hS2;refine JD (Ja (hK7 (Jb (Jg (Jc rfl) rfl (Jg (Jz rfl rfl (by first | exact nw _ (by omega) | rfl)) rfl (Jg (Jd rfl) rfl (Jf (Ja (JN .z (JN .z (JN .z ?_)))))))))));exact hAg0 (Ho34,qo36,co36,_,k+1) ⟨(hlk.trans hleo34),by rw [matK_succ hk1];exact hS2,by omega⟩ (by show (monL ad n).length - (k+1)<(monL ad n).length - k;omega) 22 rfl rfl ⟨rfl,⟨rfl,trivial⟩⟩ rfl rfl
 ·
  refine JG (Jj (Jj (JL (Ja (hK3 (Je fun _ hK8 _=>(Jb (Jg (Jc rfl) rfl (Ew .z fun Ho18 hleo18 hAo18=>?_)))))))));replace had:=had.le hleo18;replace haf:=haf.le hleo18;replace hxo12:=hxo12.le hleo18;replace hxo17:=hxo17.le hleo18;replace hS:=hS.le hleo18;have hxo18:=hS.rows (Le.refl _) hAo18;have hco18:=own_le hAo18;refine Jg (Jd rfl) rfl (Jf (Ja (hK8 (Ju (Jq rfl (Res.tmp rfl) fun w hH=>?_)))));replace hH:=hH.tail
  have hke:k=(monL ad n).length:=by omega
  rw [matK_end hke] at hxo18;exact ⟨_,q,c,(((hleo12.trans hleo17).trans hlk).trans hleo18),hxo18,by rw [matS_len,← hke];exact hco18,by rw [matS_len,hke],hH⟩
theorem leftP_get {p:Pw} {i j:Nat} (hi:i<8) (hj:j<8):(leftP p i).getD j 0=if j=i then p.getD i 0 - 1 else if j<i then p.getD j 0 else 0:=by
 unfold leftP;rw [getD_set8,show (aheadP p i).length=8 by simp,aheadP_get hj]
 by_cases e:i=j
 ·subst e;rw [if_pos ⟨rfl,hi⟩,if_pos rfl]
 ·rw [if_neg (fun h=>e h.1),if_neg (fun h:j=i=>e h.symm)]
theorem wsum_lb {ds p:Pw} {i:Nat} (hi:i<8) : ∀n:Nat,n≤8→wsum ds (leftP p i) n+wsum ds (behP p (i+1)) n=wsum ds p n - (if i<n then ds.getD i 0 else 0)
 | 0,_=>by simp [wsum]
 | n+1,h=>by
  have ih:=wsum_lb (ds:=ds) (p:=p) hi n (by omega)
  simp only [wsum]
  rw [leftP_get hi (by omega),behP_get (by omega)]
  rcases Nat.lt_trichotomy n i with h1 | h1 | h1
  ·rw [if_neg (by omega),if_pos h1,if_pos (by omega),if_neg (by omega)]
   rw [if_neg (by omega)] at ih
   rw [Int.mul_zero]
   omega
  ·subst h1
   rw [if_pos rfl,if_pos (by omega),if_pos (by omega)]
   rw [if_neg (by omega)] at ih
   rw [Int.mul_zero,Int.mul_sub,Int.mul_one]
   omega
  ·rw [if_neg (by omega),if_neg (by omega),if_neg (by omega),if_pos (by omega)]
   rw [if_pos h1] at ih
   rw [Int.mul_zero]
   omega
theorem wsF_cons (d:Int) (ds p:List Int) (i:Nat):wsF (d::ds) p i=d * p.getD i 0+wsF ds p (i+1):=rfl
theorem wsF_sum {p:List Int} : ∀(pre ds:List Int),wsF ds p pre.length+wsum (pre++ds) p pre.length=wsum (pre++ds) p (pre++ds).length
 | pre, []=>by simp [wsF]
 | pre,d::ds=>by
  have ih:=wsF_sum (p:=p) (pre++[d]) ds
  rw [List.length_append,List.append_assoc] at ih
  simp only [List.length_cons,List.length_nil,JxA,JxB,wsum,Nat.zero_add] at ih
  rw [wsF_cons]
  have e:(pre++d::ds).getD pre.length 0=d:=by simp [List.getD_eq_getElem?_getD]
  rw [e] at ih
  omega
theorem wsF_0 (ds p:List Int):wsF ds p 0=wsum ds p ds.length:=by
 have h:=wsF_sum (p:=p) [] ds
 simpa [wsum] using h
theorem mon_wt {ds:List Int} {n:Int} (h8:ds.length≤8) {p:Pw} (hp:p∈monS ds n):wsum ds p ds.length=n:=by
 rw [← wsF_0];exact (enumF_mem (by omega) rfl hp).2.2.2
theorem wsum_ge {ds p:Pw} (hd : ∀j,0≤ds.getD j 0) (hp : ∀j,0≤p.getD j 0) {j:Nat} : ∀n:Nat,j<n→ds.getD j 0 * p.getD j 0≤wsum ds p n
 | 0,h=>by omega
 | n+1,h=>by
  have h0:=wsum_nn0 hd hp n
  have h1:0≤ds.getD n 0 * p.getD n 0:=Int.mul_nonneg (hd n) (hp n)
  simp only [wsum]
  rcases Nat.lt_or_ge j n with hj | hj
  ·have:=wsum_ge hd hp (j:=j) n hj
   omega
  ·obtain rfl:j=n:=by omega
   omega
theorem mon_in {ds:List Int} (h8:ds.length≤8) (hd : ∀j,j<ds.length→1≤ds.getD j 0∧ds.getD j 0≤12) {n:Int} (hn:n≤41) {M:Int} {p:Pw} (hp:Pok M p) (hx:Ex ds p) (hw:wsum ds p ds.length=n):p∈monS ds n:=by
 have hd0 : ∀j,0≤ds.getD j 0:=fun j=>by
  by_cases hj:j<ds.length
  ·have:=hd j hj;omega
  ·rw [getD_ge (by omega)];omega
 have hp0 : ∀j,0≤p.getD j 0:=fun j=>(hp.bd j).1;refine enumF_in (by omega) rfl hp.len (fun t ht=>(hd t ht).1) (fun j hj=>?_) hp0 (fun t ht=>?_) (by rw [wsF_0];exact hw)
 ·rw [hx.out j (by omega),show zP=List.replicate 8 0 from rfl,rep_get]
 ·rw [Nat.zero_add];have hdt:=hd t ht;have htm:=tmod_two (d:=ds.getD t 0) (by omega);have hge:=wsum_ge hd0 hp0 (j:=t) ds.length ht;rw [hw] at hge;refine ⟨?_,fun h=>hx.odd t ht (by omega)⟩
  by_cases ho:(ds.getD t 0).tmod 2=1
  ·have:=hx.odd t ht (by omega)
   omega
  ·have h2:2≤ds.getD t 0:=by
    rcases (show ds.getD t 0=1∨2≤ds.getD t 0 by omega) with h | h
    ·rw [h] at ho;exact absurd (by decide) ho
    ·exact h
   have h3:2 * p.getD t 0≤ds.getD t 0 * p.getD t 0:=Int.mul_le_mul_of_nonneg_right h2 (hp0 t)
   omega
theorem dS_wt {ds:List Int} {fs:List (List Term)} (hG:isAlg ds fs=true) (hw:Wfss fs) {M:Int} {p:Pw} (hp:Pok M p) (hx:Ex ds p) {x:Pw × Int} (h:x∈dS ds fs [(p,1)]):Ex ds x.1∧wsum ds x.1 ds.length=wsum ds p ds.length+1:=by
 have hA:=isAlg_ok hG hw;have hn:=hA.hn
 rcases acc_mem h with h | ⟨z,hz,e⟩
 ·simp at h
 rw [e];unfold dAll at hz;simp only [List.flatMap_cons,List.flatMap_nil,List.append_nil] at hz;unfold dLk at hz;obtain ⟨i,hi,hz⟩:=List.mem_flatMap.1 hz;have hi8:=List.mem_range.1 hi;unfold dP at hz
 split at hz
 ·rename_i hpos
  have hid:i<ds.length:=by
   rcases Nat.lt_or_ge i ds.length with h | h
   ·exact h
   ·have h1:=hx.out i h;simp only at hpos
    omega
  obtain ⟨y,hy,ey⟩:=scl_key hz;rw [ey]
  have hif:i<fs.length:=by rw [hA.hl];exact hid
  have him:=(hA.fok i hif).1;have hlp:=leftP_pok hp hpos;have hbp:=behP_pok hp (i+1);have g1:Gok M [(leftP p i,1)]:=(Sok.one hlp (k:=1) (by omega)).g;have g3:Gok M [(behP p (i+1),1)]:=(Sok.one hbp (k:=1) (by omega)).g
  have k1:KEx ds [(leftP p i,1)]:=fun x hx'=>by rw [List.mem_singleton.1 hx'];exact leftP_ex hp hx hpos
  have k3:KEx ds [(behP p (i+1),1)]:=fun x hx'=>by rw [List.mem_singleton.1 hx'];exact behP_ex hp hx (i+1)
  have k2:=hA.kex i hif;have k12:=times_kex g1 him.g k1 k2;have g12:=gtimes (ds:=ds) g1 him.g;refine ⟨times_kex g12.g g3 k12 k3 y hy,?_⟩
  rcases acc_mem hy with h | ⟨a,ha,ea⟩
  ·simp at h
  obtain ⟨u,hu,v,hv,_,e2⟩:=mulL_mem ha;rw [List.mem_singleton.1 hv] at e2
  rcases acc_mem hu with h | ⟨b,hb,eb⟩
  ·simp at h
  obtain ⟨c,hc,d,hd',_,e3⟩:=mulL_mem hb;rw [List.mem_singleton.1 hc] at e3;have hdl:=(him.key d hd').len;have h1:=imsOk_at (isAlg_im hG) hif;unfold imOk at h1;have h2:=(Bool.and_eq_true_iff.1 h1).2;have hwd:=degOk_wt hn hA.hd (hw.fm i) h2 d hd';have hlb:=wsum_lb (ds:=ds) (p:=p) hi8 ds.length hn;rw [if_pos hid] at hlb;rw [ea,e2,wsum_add (by rw [eb,e3];simp [addp]) hbp.len,eb,e3,wsum_add hlp.len hdl,hwd]
  omega
 ·simp at hz
theorem hom_of {ds:List Int} {fs:List (List Term)} (hG:isAlg ds fs=true) (hw:Wfss fs) (h8:ds.length≤8) (hd : ∀j,j<ds.length→1≤ds.getD j 0∧ds.getD j 0≤12) {n:Int} (hn:n≤40) (hf:fit2 ds n):Hom1 ds fs n:=fun p hp x hx=>by
 have hp':=List.mem_of_mem_take hp
 have h1:=dS_wt hG hw (mon_pok h8 hp') (mon_ex h8 hp' hd) hx
 have hA:=isAlg_ok hG hw
 have h2:=dS_one hA h8 hd hp'
 rw [monL_fit hf.2]
 exact mon_in h8 hd (by omega) (h2.key x hx) h1.1 (by rw [h1.2,mon_wt h8 hp'])
theorem fn120:Fn Tryz.prog 120:=⟨_,Tryz.func120,by kernel_rfl,rfl⟩
theorem fn142:Fn Tryz.prog 142:=⟨_,Tryz.func142,by kernel_rfl,rfl⟩
theorem fn63:Fn Tryz.prog 63:=⟨_,Tryz.func63,by kernel_rfl,rfl⟩
theorem fn65:Fn Tryz.prog 65:=⟨_,Tryz.func65,by kernel_rfl,rfl⟩
theorem alg_112 {ds:List Int} {fs:List (List Term)} (h:isAlg ds fs=true) : ∀j,j<ds.length→1≤ds.getD j 0∧ds.getD j 0≤12:=fun j hj=>by
 have h1:=isDeg_bd (isAlg_deg h) j
 have h2:=isDeg_pos1 (isAlg_deg h) j hj
 omega
def askB (m:Int):Bool:=decide (0≤m) && decide (m≤20)
theorem askB_y {m:Int} (h:askB m=true):0≤m∧m≤20:=by unfold askB at h;simpa using h
def allC (ds:List Int) (fs:List (List Term)) (m:Int):Int:=if isAlg ds fs then if askB m then if wiB ds 0 (m+1) then 0 else 3 else 2 else 1
theorem wi_fit {ds:List Int} {a b k:Int} (h:wiB ds a b=true) (h1:max a 0≤k) (h2:k≤b):fitB ds k=true:=by
 have:=List.all_eq_true.1 h (k - max a 0).toNat (List.mem_range.2 (by omega))
 rwa [show max a 0+(((k - max a 0).toNat:Nat):Int)=k by omega] at this
def clV (ds:List Int) (fs:List (List Term)) (n:Int) (v:List Int):List Int:=(csS ds fs n).map fun r=>(byS v (bdS ds fs n)).getD (ldR r) 0
theorem clS_len {ds:List Int} {fs:List (List Term)} {n:Int} (hA:AlgOk ds fs) (h8:ds.length≤8) (hd : ∀j,j<ds.length→1≤ds.getD j 0∧ds.getD j 0≤12):(clS ds fs n).length≤121:=Nat.le_trans (clS_red hA h8 hd).count (monL_len ds n)
theorem bdS_len {ds:List Int} {fs:List (List Term)} {n:Int} (hA:AlgOk ds fs) (h8:ds.length≤8) (hd : ∀j,j<ds.length→1≤ds.getD j 0∧ds.getD j 0≤12):(bdS ds fs n).length≤121:=Nat.le_trans (bdS_red hA h8 hd).count (monL_len ds n)
theorem csS_len {ds:List Int} {fs:List (List Term)} {n:Int} (hA:AlgOk ds fs) (h8:ds.length≤8) (hd : ∀j,j<ds.length→1≤ds.getD j 0∧ds.getD j 0≤12):(csS ds fs n).length≤121:=Nat.le_trans (csS_red hA h8 hd).count (monL_len ds n)
theorem Hp.kerM {B:World} {H0 H:HP} {L:List SA} {w:World} {q:Option Addr} {c:Nat} {rs:List (List Int)} {vs:Vs} {W:Nat} (hW : ∀r∈rs,RowOk W r) (hn:rs.length+W≤100000) (hH:Hp B H0 H (mlt (RwK q c rs) H vs::L) w) :
 Calls Tryz.prog 142 [.slice q rs.length c,.int .i64 (W:Int)].toArray w fun e w'=>∃q c vs,e = .returned (.slice q (kerS rs W).length c)∧Hp B H0 H (mlt (RwK q c (kerS rs W)) H vs::L) w':=
 hH.lend .z fun H1 hle hA _ hH1=>(l03Kernel_c (crs:=c) (mlt_rows hle hA).1 hW hn hH1).mono fun e w' h=>by
  obtain ⟨H',q',c',hle',hI,hc,he,hH'⟩:=h
  obtain ⟨vs',h2⟩:=hH.melt (K:=RwK q' c' (kerS rs W)) hH' (hle.trans hle') ⟨hI,hc⟩
  exact ⟨q',c',vs',he,h2⟩
theorem l03Matrix_m {B:World} {H0 H:HP} {L:List SA} {w:World} {qad qaf:Option Addr} {cad caf:Nat} {ad:List Int} {af:List (List Term)} {n:Int} (had:Ints H qad ad) (haf:Forms H qaf af) (hd : ∀j,j<ad.length→1≤ad.getD j 0∧ad.getD j 0≤12) (h8:ad.length≤8) (hn : -1≤n∧n≤100000) (hA:AlgOk ad af) (hfit:fit2 ad n) (hom:Hom1 ad af n) (hH:Hp B H0 H L w) :
 Calls Tryz.prog 120 [.agg [.slice qad ad.length cad,.slice qaf af.length caf].toArray,.int .i64 n].toArray w fun e w'=>∃q c vs,e = .returned (.slice q (matS ad af n).length c)∧Hp B H0 H (mlt (RwK q c (matS ad af n)) H vs::L) w':=(l03Matrix_c had haf hd h8 hn hA hfit hom hH).mono fun e w' h=>by
 obtain ⟨H',q,c,hle,hI,hc,he,hH'⟩:=h
 obtain ⟨vs,h2⟩:=hH.melt (K:=RwK q c (matS ad af n)) hH' hle ⟨hI,hc⟩
 exact ⟨q,c,vs,he,h2⟩
theorem l03All_c {B:World} {H0 H:HP} {L:List SA} {w:World} {qad qaf:Option Addr} {cad caf:Nat} {ad:List Int} {af:List (List Term)} {n:Int} (had:Ints H qad ad) (haf:Forms H qaf af) (hn8:ad.length≤1048576) (hn9:af.length≤1048576) (hl9 : ∀i,i<af.length→(fm af i).length≤1048576) (hH:Hp B H0 H L w):Calls Tryz.prog 37 [.agg [.slice qad ad.length cad,.slice qaf af.length caf].toArray,.int .i64 n].toArray w fun e w'=>e = .returned (.int .i64 (allC ad af n))∧Hp B H0 H L w':=by
 refine Jx Tryz.func37 rfl 19 rfl rfl [(0,.agg [.slice qad ad.length cad,.slice qaf af.length caf].toArray),(1,.int .i64 n)] rfl hH ?_;clear hH;refine Je fun _ hK1 _=>(Jb (Ee rfl rfl rfl fun g2=>(Jg (Jd rfl) rfl (Jf (Ja (hK1 (Je fun _ hK2 _=>(Jk (Je fun _ hK3 _=>(Jb (Jg (JA rfl At.z (by simpa [*] using ag36)) rfl (Jy fn63 rfl rfl fun w hH=>(l02Is_c had haf (by omega) (by omega) hl9 hH).mono ?_))))))))))));rintro _ w ⟨rfl,hH⟩;refine ⟨_,rfl,fun a hF=>JR hF hH ?_⟩;refine Jg (En rfl) rfl (Jg (Jd rfl) rfl (Jf (Ja (hK3 (Eh rfl (fun h5=>?_) (fun h5=>?_))))))
 ·
  refine Je fun _ hK4 _=>(Jb (Jg (Jd rfl) rfl (Jf (Ja (hK4 (Ju (JT (Jp (Jq rfl (Res.tmp rfl) fun w hH=>?_)))))))));replace hH:=hH.tail;exact ⟨ri (by rw [allC,if_neg (by rw [not_f h5];decide)]),hH⟩
 ·
  have hG:isAlg ad af=true:=not_t h5;have hwf:=haf.wfss;have hA:=isAlg_ok hG hwf;have h8:=hA.hn;have hd:=alg_112 hG;refine Je fun _ hK5 _=>(Jb (Jg (Jc rfl) rfl (Jy fn64 rfl rfl fun w hH=>(l01In_c hH).mono ?_)));rintro _ w ⟨rfl,hH⟩;refine ⟨_,rfl,fun a hF=>JR hF hH ?_⟩;refine Jg (En rfl) rfl (Jg (Jd rfl) rfl (Jf (Ja (hK5 (Eh rfl (fun h9=>?_) (fun h9=>?_))))))
  ·
   refine Je fun _ hK6 _=>(Jb (Jg (Jd rfl) rfl (Jf (Ja (hK6 (Ju (JT (Jp (Jq rfl (Res.tmp rfl) fun w hH=>?_)))))))));replace hH:=hH.tail;exact ⟨ri (by rw [allC,if_pos hG,if_neg (by rw [show askB n=false from not_f h9];decide)]),hH⟩
  ·
   have hk:=askB_y (not_t h9);refine Je fun _ hK7 _=>(Jb (Jg (JA rfl At.z (by simpa [*] using ag36)) rfl (Jg (Jc rfl) rfl (Jg (Jz rfl rfl (by first | exact nw _ (by omega) | rfl)) rfl (Jy fn65 rfl rfl fun w hH=>(l03Within_c had haf hd h8 (by omega) (by omega) hH).mono ?_)))));rintro _ w ⟨rfl,hH⟩;refine ⟨_,rfl,fun a hF=>JR hF hH ?_⟩;refine Jg (En rfl) rfl (Jg (Jd rfl) rfl (Jf (Ja (hK7 (Eh rfl (fun h13=>?_) (fun h13=>?_))))))
   ·
    refine Je fun _ hK8 _=>(Jb (Jg (Jd rfl) rfl (Jf (Ja (hK8 (Ju (JT (Jp (Jq rfl (Res.tmp rfl) fun w hH=>?_)))))))));replace hH:=hH.tail;exact ⟨ri (by rw [allC,if_pos hG,if_pos (show askB n=true from not_t h9),if_neg (by rw [not_f h13];decide)]),hH⟩
   ·
    refine Jm (JD (Ja (hK2 (Je fun _ hK9 _=>(Jb (Jg (Jd rfl) rfl (Jf (Ja (hK9 (Ju (Jq rfl (Res.tmp rfl) fun w hH=>?_)))))))))));replace hH:=hH.tail;exact ⟨ri (by rw [allC,if_pos hG,if_pos (show askB n=true from not_t h9),if_pos (not_t h13)]),hH⟩
theorem l03Bounds_c {B:World} {H0 H:HP} {L:List SA} {w:World} {qad qaf:Option Addr} {cad caf:Nat} {ad:List Int} {af:List (List Term)} {n:Int} (had:Ints H qad ad) (haf:Forms H qaf af) (hG:isAlg ad af=true) (hn:0≤n∧n≤40) (hfit:0<n→fit2 ad (n - 1)) (hH:Hp B H0 H L w):Calls Tryz.prog 69 [.agg [.slice qad ad.length cad,.slice qaf af.length caf].toArray,.int .i64 n].toArray w fun e w'=>∃H' q c,Le H H' ∧RowsR H' q (bdS ad af n)∧(bdS ad af n).length≤c∧e = .returned (.slice q (bdS ad af n).length c)∧Hp B H0 H' L w':=by
 refine Jx Tryz.func69 rfl 13 rfl rfl [(0,.agg [.slice qad ad.length cad,.slice qaf af.length caf].toArray),(1,.int .i64 n)] rfl hH ?_;have hw0:=hH.old;have hw1:=hH.le;clear hH;have hwf:=haf.wfss;have hA:=isAlg_ok hG hwf;have h8:=hA.hn;have hd:=alg_112 hG;have hml:=monL_len ad n;have hml1:=monL_len ad (n+1);have hml0:=monL_len ad (n - 1);have hml2:=monL_len ad (n - 1+1);refine Je fun _ hK1 _=>(Jb (Ee rfl rfl rfl fun g2=>(Jg (Jd rfl) rfl (Jf (Ja (hK1 (Je fun _ hK2 _=>(Je fun _ hK3 _=>(Jb (Jg (Jc rfl) rfl (Jg (EI rfl rfl) rfl (Jf (Ja (hK3 (Jo rfl (fun h6=>?_) (fun h6=>?_))))))))))))))))
 ·
  refine Je fun _ hK4 _=>(Jb (EL (EP u31 sz22) rfl fun qo7 co7=>?_));have hnil:=SlF.nil H;refine Ew .z fun Ho7 hleo7 hAo7=>?_;replace had:=had.le hleo7;replace haf:=haf.le hleo7;replace hnil:=hnil.le hleo7;have hxo7:=hnil.rows (Le.refl _) hAo7;have hco7:=own_le hAo7;refine Jg (Jd rfl) rfl (Jf (Ja (hK4 (Ju (Jp (Jq rfl (Res.tmp rfl) fun w hH=>?_))))));replace hH:=hH.tail;rw [show bdS ad af n=[] from if_neg (by omega)];exact ⟨_,_,_,hleo7,hxo7,hco7,rfl,hH⟩
 ·
  refine Jm (Ja (hK2 (Je fun _ hK5 _=>(Jb (Jg (JA rfl At.z (by simpa [*] using ag36)) rfl (Jg (Jc rfl) rfl (Jg (EQ rfl rfl (by first | exact nw _ (by omega) | rfl)) rfl (Jy fn120 rfl rfl fun w hH=>(l03Matrix_c had haf hd h8 (by omega) hA (hfit (by omega)) (hom_of hG hwf h8 hd (by omega) (hfit (by omega))) hH).mono ?_))))))));rintro _ w ⟨Hf11,qf11,cf11,hlf11,hI11,hcc11,rfl,hH⟩;refine ⟨_,rfl,fun a hF=>JR hF hH ?_⟩;replace had:=had.le hlf11;replace haf:=haf.le hlf11;refine Jy fn119 rfl rfl fun w hH=>(l03Reduce_c (W:=(monL ad (n - 1+1)).length) hI11 (matS_ok hA h8 hd) (by rw [matS_len];omega) (by omega) hH).mono ?_;rintro _ w ⟨Hf12,qf12,cf12,hlf12,hI12,hcc12,rfl,hH⟩;refine ⟨_,rfl,fun a hF=>JR hF hH ?_⟩;replace had:=had.le hlf12;replace haf:=haf.le hlf12;replace hI11:=hI11.le hlf12;refine Jg (Jd rfl) rfl (Jf (Ja (hK5 (Ju (Jq rfl (Res.tmp rfl) fun w hH=>?_)))));replace hH:=hH.tail;rw [show bdS ad af n=redS (matS ad af (n - 1)) from if_pos (by omega)];exact ⟨_,_,_,(hlf11.trans hlf12),hI12,hcc12,rfl,hH⟩
theorem l03Bounds_m {B:World} {H0 H:HP} {L:List SA} {w:World} {qad qaf:Option Addr} {cad caf:Nat} {ad:List Int} {af:List (List Term)} {n:Int} (had:Ints H qad ad) (haf:Forms H qaf af) (hG:isAlg ad af=true) (hn:0≤n∧n≤40) (hfit:0<n→fit2 ad (n - 1)) (hH:Hp B H0 H L w) :
 Calls Tryz.prog 69 [.agg [.slice qad ad.length cad,.slice qaf af.length caf].toArray,.int .i64 n].toArray w fun e w'=>∃q c vs,e = .returned (.slice q (bdS ad af n).length c)∧Hp B H0 H (mlt (RwK q c (bdS ad af n)) H vs::L) w':=(l03Bounds_c had haf hG hn hfit hH).mono fun e w' h=>by
 obtain ⟨H',q,c,hle,hI,hc,he,hH'⟩:=h
 obtain ⟨vs,h2⟩:=hH.melt (K:=RwK q c (bdS ad af n)) hH' hle ⟨hI,hc⟩
 exact ⟨q,c,vs,he,h2⟩
theorem l03Closed_c {B:World} {H0 H:HP} {L:List SA} {w:World} {qad qaf:Option Addr} {cad caf:Nat} {ad:List Int} {af:List (List Term)} {n:Int} (had:Ints H qad ad) (haf:Forms H qaf af) (hG:isAlg ad af=true) (hn:0≤n∧n≤40) (hfit:fit2 ad n) (hH:Hp B H0 H L w):Calls Tryz.prog 117 [.agg [.slice qad ad.length cad,.slice qaf af.length caf].toArray,.int .i64 n].toArray w fun e w'=>∃H' q c,Le H H' ∧RowsR H' q (clS ad af n)∧(clS ad af n).length≤c∧e = .returned (.slice q (clS ad af n).length c)∧Hp B H0 H' L w':=by
 refine Jx Tryz.func117 rfl 15 rfl rfl [(0,.agg [.slice qad ad.length cad,.slice qaf af.length caf].toArray),(1,.int .i64 n)] rfl hH ?_;have hw0:=hH.old;have hw1:=hH.le;clear hH;have hwf:=haf.wfss;have hA:=isAlg_ok hG hwf;have h8:=hA.hn;have hd:=alg_112 hG;have hml:=monL_len ad n;have hml1:=monL_len ad (n+1);have hmT1:=monT_L hfit.2;have hmlen:=matS_len ad af n;refine Je fun _ hK1 _=>(Jb (Ee rfl rfl rfl fun g2=>(Jg (Jd rfl) rfl (Jf (Ja (hK1 (Je fun _ hK2 _=>(Ej (Rs:=[_]) 11 [[], [], [0,1], [], [3], [], [5], [0,1,2,3,4,5,6], [0,1,2,3,4,5,6,7], [0,1,2,3,4,5,6,7,8], [0,1,2,3,4,5,6,7,8,9]] [[11], [], [], [], [11], [], [], [], [], [], []] [[], [], [], [], [], [], [], [], [], [2], []] rfl rfl (by kernel_rfl) ?_))))))));apply Jl 1 rfl
 iterate 3 focus (intros;(conv=>lhs;simp only [Jh,Jr,JM,Jt,JH,eq_self,reduceEqDiff,reduceIte,reduceSub,reduceAdd,JxA,JxB]);all_goals rfl)
 ·
  intro gh X K zq zc zq2 zc2 zb zv hK;refine Jg (JA rfl At.z (by simpa [*] using ag36)) rfl (Ji ?_);exact hK zq zc zq2 zc2 zb zv
 ·
  intro gh gh' h
  rfl
 apply Jl 2 rfl
 iterate 3 focus (intros;(conv=>lhs;simp only [Jh,Jr,JM,Jt,JH,eq_self,reduceEqDiff,reduceIte,reduceSub,reduceAdd,JxA,JxB]);all_goals rfl)
 ·
  intro gh X K zq zc zq2 zc2 zb zv hK;refine Jg (Jc rfl) rfl (Ji ?_);exact hK zq zc zq2 zc2 zb zv
 ·
  intro gh gh' h
  rfl
 apply JZ 3 rfl
 iterate 3 focus (intros;(conv=>lhs;simp only [Jh,Jr,JM,Jt,JH,eq_self,reduceEqDiff,reduceIte,reduceSub,reduceAdd,JxA,JxB]);all_goals rfl)
 ·
  intro gh X K zq zc zq2 zc2 zb zv hK;refine Jy fn120 rfl rfl fun w hH=>(l03Matrix_m had haf hd h8 (by omega) hA hfit (hom_of hG hwf h8 hd (by omega) hfit) hH).mono ?_;rintro _ w ⟨qo7,co7,vso7,rfl,hH⟩;refine ⟨_,rfl,fun a hF=>JR hF hH ?_⟩;refine Ji ?_;exact hK qo7 co7 zq2 zc2 zb vso7
 ·
  intro gh gh' h;refine ⟨?_,?_⟩ <;> rfl
 apply Jl 4 rfl
 iterate 3 focus (intros;(conv=>lhs;simp only [Jh,Jr,JM,Jt,JH,eq_self,reduceEqDiff,reduceIte,reduceSub,reduceAdd,JxA,JxB]);all_goals rfl)
 ·
  intro gh X K zq zc zq2 zc2 zb zv hK;refine Jg (Js u36 rfl sz22 rfl) rfl (Ji ?_);exact hK zq zc zq2 zc2 zb zv
 ·
  intro gh gh' h
  rfl
 apply Jl 5 rfl
 iterate 3 focus (intros;(conv=>lhs;simp only [Jh,Jr,JM,Jt,JH,eq_self,reduceEqDiff,reduceIte,reduceSub,reduceAdd,JxA,JxB]);all_goals rfl)
 ·
  intro gh X K zq zc zq2 zc2 zb zv hK;refine Jg (Jv rfl At.z rfl pl22) rfl (Ji ?_);exact hK zq zc zq2 zc2 zb zv
 ·
  intro gh gh' h
  rfl
 apply Jl 6 rfl
 iterate 3 focus (intros;(conv=>lhs;simp only [Jh,Jr,JM,Jt,JH,eq_self,reduceEqDiff,reduceIte,reduceSub,reduceAdd,JxA,JxB]);all_goals rfl)
 ·
  intro gh X K zq zc zq2 zc2 zb zv hK;refine Jg (Jc rfl) rfl (Ji ?_);exact hK zq zc zq2 zc2 zb zv
 ·
  intro gh gh' h
  rfl
 apply Jl 7 rfl
 iterate 3 focus (intros;(conv=>lhs;simp only [Jh,Jr,JM,Jt,JH,eq_self,reduceEqDiff,reduceIte,reduceSub,reduceAdd,JxA,JxB]);all_goals rfl)
 ·
  intro gh X K zq zc zq2 zc2 zb zv hK;refine Jg (Jz rfl rfl (by first | exact nw _ (by omega) | rfl)) rfl (Ji ?_);exact hK zq zc zq2 zc2 zb zv
 ·
  intro gh gh' h
  rfl
 apply JZ 8 rfl
 iterate 3 focus (intros;(conv=>lhs;simp only [Jh,Jr,JM,Jt,JH,eq_self,reduceEqDiff,reduceIte,reduceSub,reduceAdd,JxA,JxB]);all_goals rfl)
 ·
  intro gh X K zq zc zq2 zc2 zb zv hK;refine Jy fn68 rfl rfl fun w hH=>(l01Monomials_c had hd h8 (by omega) hH).mono ?_;rintro _ w ⟨qo12,co12,rfl,hH⟩;refine ⟨_,rfl,fun a hF=>JR hF hH ?_⟩;refine Ji ?_;exact hK qo12 co12 zq2 zc2 zb zv
 ·
  intro gh gh' h;refine ⟨?_,?_⟩ <;> (first | simp only [h 2 rfl] | rfl)
 apply Jl 9 rfl
 iterate 3 focus (intros;(conv=>lhs;simp only [Jh,Jr,JM,Jt,JH,eq_self,reduceEqDiff,reduceIte,reduceSub,reduceAdd,JxA,JxB]);all_goals rfl)
 ·
  intro gh X K zq zc zq2 zc2 zb zv hK;refine Jg (EK (v':=.int .i64 (((monL ad (n+1)).length:Nat):Int)) (by rw [hmT1]) (Jn u135 rfl rfl)) rfl (Ji ?_);exact hK zq zc zq2 zc2 zb zv
 ·
  intro gh gh' h
  first | simp only [h 2 rfl,h 7 rfl] | rfl
 apply JZ 10 rfl
 iterate 3 focus (intros;(conv=>lhs;simp only [Jh,Jr,JM,Jt,JH,eq_self,reduceEqDiff,reduceIte,reduceSub,reduceAdd,JxA,JxB]);all_goals rfl)
 ·
  intro gh X K zq zc zq2 zc2 zb zv hK;refine Jy fn142 rfl rfl fun w hH=>(Hp.kerM (matS_ok hA h8 hd) (by omega) (hH.front .z)).mono ?_;rintro _ w ⟨qo14,co14,vso14,rfl,hH⟩;refine ⟨_,rfl,fun a hF=>JR hF hH ?_⟩;refine Ji ?_;exact hK qo14 co14 zq2 zc2 zb vso14
 ·
  intro gh gh' h;refine ⟨?_,?_⟩ <;> (first | simp only [h 2 rfl,h 7 rfl] | rfl)
 apply Jl 11 rfl
 iterate 3 focus (intros;(conv=>lhs;simp only [Jh,Jr,JM,Jt,JH,eq_self,reduceEqDiff,reduceIte,reduceSub,reduceAdd,JxA,JxB]);all_goals rfl)
 ·
  intro gh X K zq zc zq2 zc2 zb zv hK;refine Jg (Jd rfl) rfl (Ji ?_);exact hK zq zc zq2 zc2 zb zv
 ·
  intro gh gh' h
  first | simp only [h 2 rfl,h 7 rfl,h 9 rfl] | rfl
 apply Ei [0,1,2,3,4,5,6,7,8,9,10] [0,1,3,4,5,6,7,8,9,10,11] foll0 rfl rfl rfl (by rfl)
 iterate 2 focus (intros;(conv=>lhs;simp only [Jh,Jr,JM,Jt,JH,eq_self,reduceEqDiff,reduceIte,reduceSub,reduceAdd,JxA,JxB]);all_goals rfl)
 intro gh;generalize (gh 2).c=co7;generalize (gh 2).q=qo7;generalize (gh 2).vs=vso7;generalize (gh 7).c=co12;generalize (gh 7).q=qo12;generalize (gh 9).c=co14;generalize (gh 9).q=qo14;generalize (gh 9).vs=vso14;clear gh;refine EF (.s .z) fun Ho14 hleo14 hAo14=>?_;replace had:=had.le hleo14;replace haf:=haf.le hleo14;obtain ⟨hxo14,hco14⟩:=mlt_rows hleo14 hAo14;refine Ja (hK2 (Ju (Jq rfl (Res.tmp rfl) fun w hH=>?_)));replace hH:=hH.tail;replace hH:=hH.tail;exact ⟨_,_,_,hleo14,hxo14,hco14,rfl,hH⟩
theorem l03Closed_m {B:World} {H0 H:HP} {L:List SA} {w:World} {qad qaf:Option Addr} {cad caf:Nat} {ad:List Int} {af:List (List Term)} {n:Int} (had:Ints H qad ad) (haf:Forms H qaf af) (hG:isAlg ad af=true) (hn:0≤n∧n≤40) (hfit:fit2 ad n) (hH:Hp B H0 H L w) :
 Calls Tryz.prog 117 [.agg [.slice qad ad.length cad,.slice qaf af.length caf].toArray,.int .i64 n].toArray w fun e w'=>∃q c vs,e = .returned (.slice q (clS ad af n).length c)∧Hp B H0 H (mlt (RwK q c (clS ad af n)) H vs::L) w':=(l03Closed_c had haf hG hn hfit hH).mono fun e w' h=>by
 obtain ⟨H',q,c,hle,hI,hc,he,hH'⟩:=h
 obtain ⟨vs,h2⟩:=hH.melt (K:=RwK q c (clS ad af n)) hH' hle ⟨hI,hc⟩
 exact ⟨q,c,vs,he,h2⟩
theorem fn117:Fn Tryz.prog 117:=⟨_,Tryz.func117,by kernel_rfl,rfl⟩
theorem fn67:Fn Tryz.prog 67:=⟨_,Tryz.func67,by kernel_rfl,rfl⟩
theorem fn69:Fn Tryz.prog 69:=⟨_,Tryz.func69,by kernel_rfl,rfl⟩
theorem csK_succ {ds:List Int} {fs:List (List Term)} {n:Int} {k:Nat} (hk:k<(clS ds fs n).length):redS (lfK ds fs n (k+1))=putS (redS (lfK ds fs n k)) (byS (rw_ (clS ds fs n) k) (bdS ds fs n)):=by
 unfold redS;rw [lfK_succ hk,List.foldl_append]
 rfl
theorem l03Classes_c {B:World} {H0 H:HP} {L:List SA} {w:World} {qad qaf:Option Addr} {cad caf:Nat} {ad:List Int} {af:List (List Term)} {n:Int} (had:Ints H qad ad) (haf:Forms H qaf af) (hG:isAlg ad af=true) (hn:0≤n∧n≤40) (hfit:fit3 ad n) (hH:Hp B H0 H L w):Calls Tryz.prog 67 [.agg [.slice qad ad.length cad,.slice qaf af.length caf].toArray,.int .i64 n].toArray w fun e w'=>∃H' q c,Le H H' ∧RowsR H' q (csS ad af n)∧(csS ad af n).length≤c∧e = .returned (.slice q (csS ad af n).length c)∧Hp B H0 H' L w':=by
 refine Jx Tryz.func67 rfl 31 rfl rfl [(0,.agg [.slice qad ad.length cad,.slice qaf af.length caf].toArray),(1,.int .i64 n)] rfl hH ?_;have hw0:=hH.old;have hw1:=hH.le;clear hH;have hwf:=haf.wfss;have hA:=isAlg_ok hG hwf;have h8:=hA.hn;have hd:=alg_112 hG;have hml:=monL_len ad n;have hml1:=monL_len ad (n+1);have hclR:=clS_red (n:=n) hA h8 hd;have hbdR:=bdS_red (n:=n) hA h8 hd;have hcll:=clS_len (n:=n) hA h8 hd;have hbdl:=bdS_len (n:=n) hA h8 hd;have hcsR:=csS_red (n:=n) hA h8 hd;have hcsl:=csS_len (n:=n) hA h8 hd;refine Je fun _ hK1 _=>(Jb (Ee rfl rfl rfl fun g2=>(Jg (Jd rfl) rfl (Jf (Ja (hK1 (Je fun _ hK2 _=>(Ej (Rs:=[_]) 10 [[], [], [0,1], [], [], [0,1,2,3,4], [], [0,1,2,3,4,5], [0,1,2,3,4,5,7], [0,1,2,3,4,5,6,7,8]] [[10], [], [], [10], [], [], [], [], [], []] [[], [], [], [], [], [], [], [], [], []] rfl rfl (by kernel_rfl) ?_))))))));apply Jl 1 rfl
 iterate 3 focus (intros;(conv=>lhs;simp only [Jh,Jr,JM,Jt,JH,eq_self,reduceEqDiff,reduceIte,reduceSub,reduceAdd,JxA,JxB]);all_goals rfl)
 ·
  intro gh X K zq zc zq2 zc2 zb zv hK;refine Jg (JA rfl At.z (by simpa [*] using ag36)) rfl (Ji ?_);exact hK zq zc zq2 zc2 zb zv
 ·
  intro gh gh' h
  rfl
 apply Jl 2 rfl
 iterate 3 focus (intros;(conv=>lhs;simp only [Jh,Jr,JM,Jt,JH,eq_self,reduceEqDiff,reduceIte,reduceSub,reduceAdd,JxA,JxB]);all_goals rfl)
 ·
  intro gh X K zq zc zq2 zc2 zb zv hK;refine Jg (Jc rfl) rfl (Ji ?_);exact hK zq zc zq2 zc2 zb zv
 ·
  intro gh gh' h
  rfl
 apply JZ 3 rfl
 iterate 3 focus (intros;(conv=>lhs;simp only [Jh,Jr,JM,Jt,JH,eq_self,reduceEqDiff,reduceIte,reduceSub,reduceAdd,JxA,JxB]);all_goals rfl)
 ·
  intro gh X K zq zc zq2 zc2 zb zv hK;refine Jy fn117 rfl rfl fun w hH=>(l03Closed_m had haf hG (by omega) hfit.1 hH).mono ?_;rintro _ w ⟨qo11,co11,vso11,rfl,hH⟩;refine ⟨_,rfl,fun a hF=>JR hF hH ?_⟩;refine Ji ?_;exact hK qo11 co11 zq2 zc2 zb vso11
 ·
  intro gh gh' h;refine ⟨?_,?_⟩ <;> rfl
 apply Jl 4 rfl
 iterate 3 focus (intros;(conv=>lhs;simp only [Jh,Jr,JM,Jt,JH,eq_self,reduceEqDiff,reduceIte,reduceSub,reduceAdd,JxA,JxB]);all_goals rfl)
 ·
  intro gh X K zq zc zq2 zc2 zb zv hK;refine Jg (JA rfl At.z (by simpa [*] using ag36)) rfl (Ji ?_);exact hK zq zc zq2 zc2 zb zv
 ·
  intro gh gh' h
  rfl
 apply Jl 5 rfl
 iterate 3 focus (intros;(conv=>lhs;simp only [Jh,Jr,JM,Jt,JH,eq_self,reduceEqDiff,reduceIte,reduceSub,reduceAdd,JxA,JxB]);all_goals rfl)
 ·
  intro gh X K zq zc zq2 zc2 zb zv hK;refine Jg (Jc rfl) rfl (Ji ?_);exact hK zq zc zq2 zc2 zb zv
 ·
  intro gh gh' h
  rfl
 apply JZ 6 rfl
 iterate 3 focus (intros;(conv=>lhs;simp only [Jh,Jr,JM,Jt,JH,eq_self,reduceEqDiff,reduceIte,reduceSub,reduceAdd,JxA,JxB]);all_goals rfl)
 ·
  intro gh X K zq zc zq2 zc2 zb zv hK;refine Jy fn69 rfl rfl fun w hH=>(l03Bounds_m had haf hG (by omega) (fun h=>⟨hfit.2 h,by rw [Int.sub_add_cancel];exact hfit.1.1⟩) hH).mono ?_;rintro _ w ⟨qo14,co14,vso14,rfl,hH⟩;refine ⟨_,rfl,fun a hF=>JR hF hH ?_⟩;refine Ji ?_;exact hK qo14 co14 zq2 zc2 zb vso14
 ·
  intro gh gh' h;refine ⟨?_,?_⟩ <;> (first | simp only [h 2 rfl] | rfl)
 apply JZ 7 rfl
 iterate 3 focus (intros;(conv=>lhs;simp only [Jh,Jr,JM,Jt,JH,eq_self,reduceEqDiff,reduceIte,reduceSub,reduceAdd,JxA,JxB]);all_goals rfl)
 ·
  intro gh X K zq zc zq2 zc2 zb zv hK;refine EL (EP u31 sz22) rfl fun qo15 co15=>(Ji ?_);exact hK qo15 co15 zq2 zc2 zb zv
 ·
  intro gh gh' h;refine ⟨?_,?_⟩ <;> rfl
 apply Jl 8 rfl
 iterate 3 focus (intros;(conv=>lhs;simp only [Jh,Jr,JM,Jt,JH,eq_self,reduceEqDiff,reduceIte,reduceSub,reduceAdd,JxA,JxB]);all_goals rfl)
 ·
  intro gh X K zq zc zq2 zc2 zb zv hK;refine Jg (Jd rfl) rfl (Ji ?_);exact hK zq zc zq2 zc2 zb zv
 ·
  intro gh gh' h
  first | simp only [h 2 rfl,h 5 rfl] | rfl
 apply Jl 9 rfl
 iterate 3 focus (intros;(conv=>lhs;simp only [Jh,Jr,JM,Jt,JH,eq_self,reduceEqDiff,reduceIte,reduceSub,reduceAdd,JxA,JxB]);all_goals rfl)
 ·
  intro gh X K zq zc zq2 zc2 zb zv hK;refine Jg (Jd rfl) rfl (Ji ?_);exact hK zq zc zq2 zc2 zb zv
 ·
  intro gh gh' h
  first | simp only [h 2 rfl,h 5 rfl] | rfl
 apply Jl 10 rfl
 iterate 3 focus (intros;(conv=>lhs;simp only [Jh,Jr,JM,Jt,JH,eq_self,reduceEqDiff,reduceIte,reduceSub,reduceAdd,JxA,JxB]);all_goals rfl)
 ·
  intro gh X K zq zc zq2 zc2 zb zv hK;refine Jg (Jd rfl) rfl (Ji ?_);exact hK zq zc zq2 zc2 zb zv
 ·
  intro gh gh' h
  first | simp only [h 2 rfl,h 5 rfl,h 6 rfl] | rfl
 apply Ei [0,1,2,3,4,5,6,7,8,9] [0,1,2,3,4,5,6,7,8,9,10] foll0 rfl rfl rfl (by rfl)
 iterate 2 focus (intros;(conv=>lhs;simp only [Jh,Jr,JM,Jt,JH,eq_self,reduceEqDiff,reduceIte,reduceSub,reduceAdd,JxA,JxB]);all_goals rfl)
 intro gh;generalize (gh 2).c=co11;generalize (gh 2).q=qo11;generalize (gh 2).vs=vso11;generalize (gh 5).c=co14;generalize (gh 5).q=qo14;generalize (gh 5).vs=vso14;generalize (gh 6).c=co15;generalize (gh 6).q=qo15;clear gh;have hnil:=SlF.nil H;refine EF .z fun Ho11 hleo11 hAo11=>?_;replace had:=had.le hleo11;replace haf:=haf.le hleo11;replace hnil:=hnil.le hleo11;obtain ⟨hxo11,hco11⟩:=mlt_rows hleo11 hAo11;refine EF .z fun Ho14 hleo14 hAo14=>?_;replace had:=had.le hleo14;replace haf:=haf.le hleo14;replace hnil:=hnil.le hleo14;replace hxo11:=hxo11.le hleo14;obtain ⟨hxo14,hco14⟩:=mlt_rows (hleo11.trans hleo14) hAo14;refine EF .z fun Ho15 hleo15 hAo15=>?_;replace had:=had.le hleo15;replace haf:=haf.le hleo15;replace hnil:=hnil.le hleo15;replace hxo11:=hxo11.le hleo15;replace hxo14:=hxo14.le hleo15;have hxo15:=hnil.rows (Le.refl _) hAo15;have hco15:=own_le hAo15;refine Ja (hK2 (Je fun _ hK3 _=>(Je fun _ hK4 _=>(Jb (Jg (Jd rfl) rfl (Jf (Ja (hK4 (Jk (JC (σ:=HP × Option Addr × Nat × Nat) (fun ⟨Hk,q,c,k⟩=>[(8,.int .i64 (k:Int)),(7,.slice q (redS (lfK ad af n k)).length c)]) (fun ⟨Hk,q,c,k⟩=>Hk) (fun ⟨Hk,q,c,k⟩=>obj g2 (.cells [.slice qad ad.length cad,.slice qaf af.length caf].toArray 36 (0,0))::L) (fun ⟨Hk,q,c,k⟩=>Le Ho15 Hk∧RowsR Hk q (redS (lfK ad af n k))∧(redS (lfK ad af n k)).length≤c∧k≤(clS ad af n).length) (fun ⟨Hk,q,c,k⟩=>(clS ad af n).length - k) (Ho15,qo15,co15,0) ⟨Le.refl _,hxo15,hco15,by omega⟩ ⟨rfl,⟨rfl,trivial⟩⟩ rfl rfl ?_))))))))));rintro ⟨Hk,q,c,k⟩ ⟨hlk,hS,hSc,hk⟩ _ hAg0;replace had:=had.le hlk;replace haf:=haf.le hlk;replace hnil:=hnil.le hlk;replace hxo11:=hxo11.le hlk;replace hxo14:=hxo14.le hlk;replace hxo15:=hxo15.le hlk;have hRk:=(redS_ok (lfK_ok (n:=n) (k:=k) hA h8 hd)).1;refine Je fun _ hK5 _=>(Je fun _ hK6 _=>(Jb (Jg (Jc rfl) rfl (Jg (Jc rfl) rfl (Jg (Jn u31 rfl rfl) rfl (Jg (JO rfl rfl) rfl (Jf (Ja (hK6 (Jo rfl (fun h19=>?_) (fun h19=>?_)))))))))))
 ·
  have hk1:k<(clS ad af n).length:=by omega
  have hrk:=hclR.row _ (rw_mem hk1);refine Jm (Ja (hK5 (Je fun _ hK7 _=>(Jk (Jb (Jg (Jc rfl) rfl (Jg (Jc rfl) rfl (Jg (Jc rfl) rfl (Jg (JQ u31 sz22 rfl rfl rfl hk1 hxo11.sm) rfl ?_)))))))));obtain ⟨qe26,ce26,he26,le26,Fe26⟩:=hxo11 k hk1;refine Jg (JF rfl he26 pl22) rfl (Jg (Jc rfl) rfl (Jy fn70 rfl rfl fun w hH=>(l03By_c Fe26 hxo14 hrk hbdR.led (by omega) (by omega) le26 hH).mono ?_));rintro _ w ⟨Hf28,qf28,cf28,hlf28,hI28,hcc28,rfl,hH⟩;refine ⟨_,rfl,fun a hF=>JR hF hH ?_⟩;replace had:=had.le hlf28;replace haf:=haf.le hlf28;replace hnil:=hnil.le hlf28;replace hxo11:=hxo11.le hlf28;replace hxo14:=hxo14.le hlf28;replace hxo15:=hxo15.le hlf28;replace hS:=hS.le hlf28;replace Fe26:=Fe26.le hlf28;refine Jy fn49 rfl rfl fun w hH=>(l03Put_c hS hI28 hRk (byS_ok hrk hbdR.row) (by omega) hcc28 hSc hH).mono ?_;rintro _ w ⟨Hf29,qf29,cf29,hlf29,hI29,hcc29,rfl,hH⟩;refine ⟨_,rfl,fun a hF=>JR hF hH ?_⟩;replace had:=had.le hlf29;replace haf:=haf.le hlf29;replace hnil:=hnil.le hlf29;replace hxo11:=hxo11.le hlf29;replace hxo14:=hxo14.le hlf29;replace hxo15:=hxo15.le hlf29;replace hS:=hS.le hlf29;replace Fe26:=Fe26.le hlf29;replace hI28:=hI28.le hlf29;refine Jg (Jd rfl) rfl (Jf (JD (Ja (hK7 (Jb (Jg (Jc rfl) rfl (Jg (Jz rfl rfl (by first | exact nw _ (by omega) | rfl)) rfl (Jg (Jd rfl) rfl (Jf (Ja ?_))))))))));exact hAg0 (Hf29,qf29,cf29,k+1) ⟨((hlk.trans hlf28).trans hlf29),by rw [csK_succ hk1];exact hI29,by rw [csK_succ hk1];exact hcc29,by omega⟩ (by show (clS ad af n).length - (k+1)<(clS ad af n).length - k;omega) 18 rfl rfl ⟨rfl,⟨(by rw [csK_succ hk1];rfl),trivial⟩⟩ rfl rfl
 ·
  refine JG (Jj (Jj (JL (Ja (hK3 (Je fun _ hK8 _=>(Jb (Jg (Jc rfl) rfl (Jg (Jd rfl) rfl (Jf (Ja (hK8 (Ju (Jq rfl (Res.tmp rfl) fun w hH=>?_))))))))))))));replace hH:=hH.tail
  have hke:k=(clS ad af n).length:=by omega
  rw [lfK_end hke] at hS hSc;exact ⟨_,q,c,(((hleo11.trans hleo14).trans hleo15).trans hlk),hS,hSc,by rw [lfK_end hke],hH⟩
theorem l03Classes_m {B:World} {H0 H:HP} {L:List SA} {w:World} {qad qaf:Option Addr} {cad caf:Nat} {ad:List Int} {af:List (List Term)} {n:Int} (had:Ints H qad ad) (haf:Forms H qaf af) (hG:isAlg ad af=true) (hn:0≤n∧n≤40) (hfit:fit3 ad n) (hH:Hp B H0 H L w) :
 Calls Tryz.prog 67 [.agg [.slice qad ad.length cad,.slice qaf af.length caf].toArray,.int .i64 n].toArray w fun e w'=>∃q c vs,e = .returned (.slice q (csS ad af n).length c)∧Hp B H0 H (mlt (RwK q c (csS ad af n)) H vs::L) w':=(l03Classes_c had haf hG hn hfit hH).mono fun e w' h=>by
 obtain ⟨H',q,c,hle,hI,hc,he,hH'⟩:=h
 obtain ⟨vs,h2⟩:=hH.melt (K:=RwK q c (csS ad af n)) hH' hle ⟨hI,hc⟩
 exact ⟨q,c,vs,he,h2⟩
theorem cfR_ok {ds:List Int} {n:Int} {M:Int} {s:Sm} (hs:Sok M s):RowOk (monL ds n).length ((monL ds n).map (cf s)):=⟨by simp,fun k=>by
 by_cases hk:k<(monL ds n).length
 ·have e:((monL ds n).map (cf s)).getD k 0=cf s (monL ds n)[k]:=by simp [List.getD_eq_getElem?_getD,List.getElem?_eq_getElem hk]
  rw [e]
  exact cf_bd hs _
 ·rw [getD_ge (by simp;omega)]
  omega⟩
theorem vec_mon {ds:List Int} {n:Int} {M:Int} {f:List Term} (h8:ds.length≤8) (hf:Sok M (toS f)) (hi : ∀x∈toS f,x.1∈monL ds n):vec f (monL ds n)=(monL ds n).map (cf (toS f)):=vec_cf hf.srt (monL_srt ds n h8) hi
def clK (ds:List Int) (fs:List (List Term)) (n:Int) (v:List Int) (k:Nat):List Int:=((csS ds fs n).take k).map fun r=>(byS v (bdS ds fs n)).getD (ldR r) 0
theorem clK_succ {ds:List Int} {fs:List (List Term)} {n:Int} {v:List Int} {k:Nat} (hk:k<(csS ds fs n).length):clK ds fs n v (k+1)=clK ds fs n v k++[(byS v (bdS ds fs n)).getD (ldR (rw_ (csS ds fs n) k)) 0]:=by
 unfold clK;rw [rw_take hk,List.map_append]
 rfl
theorem clK_end {ds:List Int} {fs:List (List Term)} {n:Int} {v:List Int} {k:Nat} (hk:k=(csS ds fs n).length):clK ds fs n v k=clV ds fs n v:=by
 subst hk;unfold clK clV;rw [List.take_length]
theorem clK_len {ds:List Int} {fs:List (List Term)} {n:Int} {v:List Int} {k:Nat} (hk:k≤(csS ds fs n).length):(clK ds fs n v k).length=k:=by
 unfold clK;rw [List.length_map,List.length_take]
 omega
theorem clV_len (ds:List Int) (fs:List (List Term)) (n:Int) (v:List Int):(clV ds fs n v).length=(csS ds fs n).length:=by simp [clV]
theorem fn41:Fn Tryz.prog 41:=⟨_,Tryz.func41,by kernel_rfl,rfl⟩
theorem bd126_0_1 : ∀(p0:Option Addr) (b1:Nat) w,(Instr.build 126 #[(0,.pointer p0),(1,.map (some b1))]).run Tryz.prog w = .ok (.agg [.pointer p0,.map (some b1)].toArray) w:=fun p0 b1 _=>by kernel_rfl
theorem lvO_cell : ∀{ls:List (Int × Lv)} {x:Int × Lv} {h:HP},x∈ls→(lvO ls).holds h→(lvB x.2).holds h
 | [],_,_,hx,_=>by simp at hx
 | y::ls,x,h,hx,hh=>by
  rcases List.mem_cons.1 hx with rfl | hx
  ·exact hh.1
  ·exact lvO_cell hx hh.2.1
theorem cpx_cell {lb:Nat} {ls:List (Int × Lv)} {n:Int} {x:Lv} {h:HP} {k:Nat} {v:Value} (hx:(n,x)∈ls) (hh:(cpx lb ls).holds h) (hk:x.cells[k]? = some v):cellO h (some ⟨x.b,0,none⟩) k=some v:=obj_cell (lvO_cell hx hh.2.1) hk
section
variable {P : Program} {ops : Array Oper} {Q : Exit → Act → World → Prop} {n : Nat} {B : World} {H0 H : HP} {rest : List Oper} {us : List (Nat × Value)} {L L' : List SA} {t : TypeId} {p : String} {af : Array Edge} {d : Nat} {x y : Operand}
theorem PR.loadCx {ty:TypeId} {lb k b:Nat} {ls:List (Int × Lv)} {m:Int} {lv:Lv} {v:Value} (hx:opv us x=some (ptr (some ⟨b,0,none⟩) k)) (hat:At L (cpx lb ls) (cpx lb ls) L) (hm:(m,lv)∈ls) (hb:lv.b=b) (hk:lv.cells[k]? = some v) (hp:Plain P ty):PR P n B H0 us H L (.load ty x) t v:=
 fun c' w' d' b' a w hF hH=>by
  subst hb
  exact JF (H:=G.hp w) (L:=[]) (B:=w) (H0:=G.hp w) hx (cpx_cell hm (hH.objs _ hat.mem).1 hk) hp c' w' d' b' a w hF (Hp.start fun _ _ h=>h)
end
theorem Hp.cpx0 {B:World} {H0 H:HP} {L:List SA} {w:World} {lb:Nat} (h:Hp B H0 H (lvM lb []::L) w):Hp B H0 H (cpx lb []::L) w:=(h.emp.front (.s .z)).star
theorem monL_pok {ds:List Int} {n:Int} (h8:ds.length≤8) : ∀p∈monL ds n,Pok 20 p:=fun p hp=>mon_pok h8 (List.mem_of_mem_take hp)
theorem newComplex_c {B:World} {H0 H:HP} {L:List SA} {w:World} {ba:Nat} {qad qaf:Option Addr} {cad caf:Nat} {ad:List Int} {af:List (List Term)} (pad:CellAt H ba 0 (.slice qad ad.length cad)) (paf:CellAt H ba 1 (.slice qaf af.length caf)) (had:Ints H qad ad) (haf:Forms H qaf af) (hH:Hp B H0 H L w):Calls Tryz.prog 56 [.pointer (some ⟨ba,0,none⟩)].toArray w fun e w'=>∃H' b lc,Le H H' ∧CellAt H' b 0 (.pointer (some ⟨ba,0,none⟩))∧CellAt H' b 1 (.map (some lc))∧e = .returned (.pointer (some ⟨b,0,none⟩))∧Hp B H0 H' (cpx lc []::L) w':=by
 refine Jx Tryz.func56 rfl 7 rfl rfl [(0,.pointer (some ⟨ba,0,none⟩))] rfl hH ?_;clear hH;refine Je fun _ hK1 _=>(Jb (Jg (Jd rfl) rfl (Jf (Ja (hK1 (Je fun _ hK2 _=>(Jb (Jg (Jc rfl) rfl (EO ekI evB okI rfl fun bm4=>(Jg (PR.build2 rfl rfl (fun w=>bd126_0_1 _ _ w)) rfl (Ee rfl rfl rfl fun g6=>(J.freezeRow .z fun H6 hle6 hc6=>?_))))))))))));replace pad:=pad.le hle6;replace paf:=paf.le hle6;replace had:=had.le hle6;replace haf:=haf.le hle6;refine Jg (Jd rfl) rfl (Jf (Ja (hK2 (Ju (Jq rfl (Res.tmp rfl) fun w hH=>?_)))));replace hH:=hH.sublist (.cons_cons _ (List.Sublist.refl _));exact ⟨_,_,_,hle6,hc6 0 _ rfl,hc6 1 _ rfl,rfl,hH.cpx0⟩
theorem class_c {B:World} {H0 H:HP} {L:List SA} {w:World} {bc lc:Nat} {bca:Nat} {qcad qcaf:Option Addr} {ccad ccaf:Nat} {cad:List Int} {caf:List (List Term)} {lsc:List (Int × Lv)} {n:Int} {vs:Value} {Ms:Int} {s:Sm} (pc0:CellAt H bc 0 (.pointer (some ⟨bca,0,none⟩))) (pc1:CellAt H bc 1 (.map (some lc))) (pcad:CellAt H bca 0 (.slice qcad cad.length ccad)) (pcaf:CellAt H bca 1 (.slice qcaf caf.length ccaf)) (hcad:Ints H qcad cad) (hcaf:Forms H qcaf caf) (hs:SumH H vs s) (ks:Sok Ms s) (hGc:isAlg cad caf=true) (hn:0≤n∧n≤39) (hfit:fit3 cad n) (hCc:CpxOk H cad caf (fun _=>False) lsc) (hNc:Nxt (fun _=>False) lsc) (hM:Ms≤1000000) (hin : ∀x∈s,x.1∈monL cad n) (hH:Hp B H0 H (cpx lc lsc::L) w):Calls Tryz.prog 43 [.pointer (some ⟨bc,0,none⟩),.int .i64 n,vs].toArray w fun e w'=>∃H' ls' q c,Le H H' ∧CpxOk H' cad caf (fun _=>False) ls' ∧Nxt (fun _=>False) ls' ∧Kp lsc ls' ∧e = .returned (.slice q (clV cad caf n ((monL cad n).map (cf s))).length c)∧Hp B H0 H' (own 2 1 q (clV cad caf n ((monL cad n).map (cf s))).length c (intsC (clV cad caf n ((monL cad n).map (cf s))))::cpx lc ls'::L) w':=by
 refine Jx Tryz.func43 rfl 43 rfl rfl [(0,.pointer (some ⟨bc,0,none⟩)),(1,.int .i64 n),(2,vs)] rfl hH ?_;clear hH;have hwc:=hcaf.wfss;have hAc:=isAlg_ok hGc hwc;have h8c:=hAc.hn;have hdc:=alg_112 hGc;have hml:=monL_len cad n;have hcsR:=csS_red (n:=n) hAc h8c hdc;have hcsl:=csS_len (n:=n) hAc h8c hdc;have hbdR:=bdS_red (n:=n) hAc h8c hdc;have hbdl:=bdS_len (n:=n) hAc h8c hdc;have hclR:=clS_red (n:=n) hAc h8c hdc;have hcll:=clS_len (n:=n) hAc h8c hdc;have hvo:=cfR_ok (ds:=cad) (n:=n) ks;have hbo:=byS_ok hvo hbdR.row;have hbl:=hbo.len;refine Je fun _ hK1 _=>(Jb (Jg (Jd rfl) rfl (Jf (Ja (hK1 (Je fun _ hK2 _=>(Jb (Jg (Jc rfl) rfl (Jg (Jc rfl) rfl (Jy fn41 rfl rfl fun w hH=>(at_c pc0 pc1 pcad pcaf hcad hcaf hdc h8c (by omega) hAc hfit (fun m hm hf=>hom_of hGc hwc h8c hdc (by omega) hf) hCc hNc (hH.front .z)).mono ?_))))))))));rintro _ w ⟨Hf14,ls14,⟨b14,p14,⟨ql14,kl14,cl14⟩,⟨qm14,km14,cm14⟩,⟨qz14,kz14,cz14⟩,⟨qy14,ky14,cy14⟩,⟨qx14,kx14,cx14⟩⟩,hlf14,hC14,hN14,hx14,⟨hL14,hM14,hkp14⟩,rfl,hH⟩;refine ⟨_,rfl,fun a hF=>JR hF hH ?_⟩;replace pc0:=pc0.le hlf14;replace pc1:=pc1.le hlf14;replace pcad:=pcad.le hlf14;replace pcaf:=pcaf.le hlf14;replace hcad:=hcad.le hlf14;replace hcaf:=hcaf.le hlf14;replace hs:=hs.le hlf14;replace hCc:=hCc.le hlf14;obtain rfl:kl14=(monL cad (n)).length:=(hC14.ok _ hx14).one.len;have hpw14:Pows Hf14 ql14 (monL cad (n)):=(hC14.ok _ hx14).one.pw;have hpl14:SumH Hf14 (.map (some p14)) (plM (monL cad (n))):=(hC14.ok _ hx14).one.pl;obtain ⟨⟨e1,hz14⟩,⟨e2,hb14⟩,e3,hs14⟩:(kz14=(clS cad caf (n)).length∧RowsR Hf14 qz14 (clS cad caf (n)))∧(ky14=(bdS cad caf (n)).length∧RowsR Hf14 qy14 (bdS cad caf (n)))∧kx14=(csS cad caf (n)).length∧RowsR Hf14 qx14 (csS cad caf (n)):=hL14;subst e1 e2 e3;refine Jg (Jd rfl) rfl (Jf (Ja (hK2 (Je fun _ hK3 _=>(Ej (Rs:=[_]) 11 [[], [], [0,1], [], [3], [3,4], [3,4,5], [0,1,2,3,4,5,6], [], [0,1,2,3,4,5,6,7], [0,1,2,3,4,5,6,7,8,9]] [[], [], [11], [], [], [], [11], [2], [], [], []] [[], [], [], [], [], [], [], [], [], [], []] rfl rfl (by kernel_rfl) ?_)))));apply Jl 1 rfl
 iterate 3 focus (intros;(conv=>lhs;simp only [Jh,Jr,JM,Jt,JH,eq_self,reduceEqDiff,reduceIte,reduceSub,reduceAdd,JxA,JxB]);all_goals rfl)
 ·
  intro gh X K zq zc zq2 zc2 zb zv hK;refine Jg (Jc rfl) rfl (Ji ?_);exact hK zq zc zq2 zc2 zb zv
 ·
  intro gh gh' h
  rfl
 apply Jl 2 rfl
 iterate 3 focus (intros;(conv=>lhs;simp only [Jh,Jr,JM,Jt,JH,eq_self,reduceEqDiff,reduceIte,reduceSub,reduceAdd,JxA,JxB]);all_goals rfl)
 ·
  intro gh X K zq zc zq2 zc2 zb zv hK;refine Jg (Jc rfl) rfl (Ji ?_);exact hK zq zc zq2 zc2 zb zv
 ·
  intro gh gh' h
  rfl
 apply JZ 3 rfl
 iterate 3 focus (intros;(conv=>lhs;simp only [Jh,Jr,JM,Jt,JH,eq_self,reduceEqDiff,reduceIte,reduceSub,reduceAdd,JxA,JxB]);all_goals rfl)
 ·
  intro gh X K zq zc zq2 zc2 zb zv hK;refine Jy fn81 rfl rfl fun w hH=>hH.lend .z fun Hl1 hle1 hA1 hB1 hH=>(row_c (cpx_cell hx14 hA1 rfl) (cpx_cell hx14 hA1 rfl) (hs.le hle1) ks (hpw14.le hle1) (hpl14.le hle1) (monL_nodup h8c _) (by omega) hin (by omega) hH).mono ?_;rintro _ w ⟨qo17,co17,rfl,hH⟩;replace hH:=hB1 _ _ hH;refine ⟨_,rfl,fun a hF=>JR hF hH ?_⟩;refine Jw .z (Jw (.s .z) (Ji ?_));exact hK qo17 co17 zq2 zc2 zb zv
 ·
  intro gh gh' h;refine ⟨?_,?_⟩ <;> rfl
 apply Jl 4 rfl
 iterate 3 focus (intros;(conv=>lhs;simp only [Jh,Jr,JM,Jt,JH,eq_self,reduceEqDiff,reduceIte,reduceSub,reduceAdd,JxA,JxB]);all_goals rfl)
 ·
  intro gh X K zq zc zq2 zc2 zb zv hK;refine Jg (Jc rfl) rfl (Ji ?_);exact hK zq zc zq2 zc2 zb zv
 ·
  intro gh gh' h
  rfl
 apply Jl 5 rfl
 iterate 3 focus (intros;(conv=>lhs;simp only [Jh,Jr,JM,Jt,JH,eq_self,reduceEqDiff,reduceIte,reduceSub,reduceAdd,JxA,JxB]);all_goals rfl)
 ·
  intro gh X K zq zc zq2 zc2 zb zv hK;refine Jg (JI rfl) rfl (Ji ?_);exact hK zq zc zq2 zc2 zb zv
 ·
  intro gh gh' h
  rfl
 apply Jl 6 rfl
 iterate 3 focus (intros;(conv=>lhs;simp only [Jh,Jr,JM,Jt,JH,eq_self,reduceEqDiff,reduceIte,reduceSub,reduceAdd,JxA,JxB]);all_goals rfl)
 ·
  intro gh X K zq zc zq2 zc2 zb zv hK;refine Jg (Js u88 rfl sz31 rfl) rfl (Ji ?_);exact hK zq zc zq2 zc2 zb zv
 ·
  intro gh gh' h
  rfl
 apply Jl 7 rfl
 iterate 3 focus (intros;(conv=>lhs;simp only [Jh,Jr,JM,Jt,JH,eq_self,reduceEqDiff,reduceIte,reduceSub,reduceAdd,JxA,JxB]);all_goals rfl)
 ·
  intro gh X K zq zc zq2 zc2 zb zv hK;refine Jg (PR.loadCx (b:=b14) (k:=4) (v:=.slice qy14 (bdS cad caf (n)).length cy14) rfl At.z hx14 rfl rfl pl31) rfl (Ji ?_);exact hK zq zc zq2 zc2 zb zv
 ·
  intro gh gh' h
  rfl
 apply JZ 8 rfl
 iterate 3 focus (intros;(conv=>lhs;simp only [Jh,Jr,JM,Jt,JH,eq_self,reduceEqDiff,reduceIte,reduceSub,reduceAdd,JxA,JxB]);all_goals rfl)
 ·
  intro gh X K zq zc zq2 zc2 zb zv hK;refine Jy fn78 rfl rfl fun w hH=>hH.lend .z fun Hl1 hle1 hA1 hB1 hH=>(reduceBy_c (own_ints hA1) (hb14.le hle1) (hvo) hbdR.led (by omega) (by omega) hH).mono ?_;rintro _ w ⟨qo22,co22,rfl,hH⟩;replace hH:=hB1 _ _ hH;refine ⟨_,rfl,fun a hF=>JR hF hH ?_⟩;refine Jw .z (Jw (.s .z) (Ji ?_));exact hK qo22 co22 zq2 zc2 zb zv
 ·
  intro gh gh' h;refine ⟨?_,?_⟩ <;> (first | simp only [h 2 rfl] | rfl)
 apply JZ 9 rfl
 iterate 3 focus (intros;(conv=>lhs;simp only [Jh,Jr,JM,Jt,JH,eq_self,reduceEqDiff,reduceIte,reduceSub,reduceAdd,JxA,JxB]);all_goals rfl)
 ·
  intro gh X K zq zc zq2 zc2 zb zv hK;refine EL (MK.lit0I u22 sz2) rfl fun qo23 co23=>(Ji ?_);exact hK qo23 co23 zq2 zc2 zb zv
 ·
  intro gh gh' h;refine ⟨?_,?_⟩ <;> rfl
 apply Jl 10 rfl
 iterate 3 focus (intros;(conv=>lhs;simp only [Jh,Jr,JM,Jt,JH,eq_self,reduceEqDiff,reduceIte,reduceSub,reduceAdd,JxA,JxB]);all_goals rfl)
 ·
  intro gh X K zq zc zq2 zc2 zb zv hK;refine Jg (Jd rfl) rfl (Ji ?_);exact hK zq zc zq2 zc2 zb zv
 ·
  intro gh gh' h
  first | simp only [h 2 rfl,h 7 rfl] | rfl
 apply Jl 11 rfl
 iterate 3 focus (intros;(conv=>lhs;simp only [Jh,Jr,JM,Jt,JH,eq_self,reduceEqDiff,reduceIte,reduceSub,reduceAdd,JxA,JxB]);all_goals rfl)
 ·
  intro gh X K zq zc zq2 zc2 zb zv hK;refine Jg (Jd rfl) rfl (Ji ?_);exact hK zq zc zq2 zc2 zb zv
 ·
  intro gh gh' h
  first | simp only [h 2 rfl,h 7 rfl,h 8 rfl] | rfl
 apply Ei [0,1,2,3,4,5,6,7,8,9,10] [0,1,2,3,4,5,6,7,8,9,10,11] foll0 rfl rfl rfl (by rfl)
 iterate 2 focus (intros;(conv=>lhs;simp only [Jh,Jr,JM,Jt,JH,eq_self,reduceEqDiff,reduceIte,reduceSub,reduceAdd,JxA,JxB]);all_goals rfl)
 intro gh;generalize (gh 2).c=co17;generalize (gh 2).q=qo17;generalize (gh 7).c=co22;generalize (gh 7).q=qo22;generalize (gh 8).c=co23;generalize (gh 8).q=qo23;clear gh;refine Ja (hK3 (Je fun _ hK4 _=>(Je fun _ hK5 _=>(Jb (Jg (Jc rfl) rfl (Jg (JI rfl) rfl (Jg (Js u88 rfl sz31 rfl) rfl (Jg (PR.loadCx (b:=b14) (k:=5) (v:=.slice qx14 (csS cad caf (n)).length cx14) rfl (.s (.s (.s .z))) hx14 rfl rfl pl31) rfl (Jg (Jn u31 rfl rfl) rfl (Jg (Jc rfl) rfl (Jf (Ja (hK5 (Jk (JC (σ:=Option Addr × Nat × Nat) (fun ⟨q,c,k⟩=>[(29,.int .i64 (k:Int)),(9,.slice q (clK cad caf n ((monL cad n).map (cf s)) k).length c)]) (fun ⟨q,c,k⟩=>Hf14) (fun ⟨q,c,k⟩=>own 2 1 qo17 ((monL cad n).map (cf s)).length co17 (intsC ((monL cad n).map (cf s)))::own 2 1 qo22 (byS ((monL cad n).map (cf s)) (bdS cad caf n)).length co22 (intsC (byS ((monL cad n).map (cf s)) (bdS cad caf n)))::own 2 1 q (clK cad caf n ((monL cad n).map (cf s)) k).length c (intsC (clK cad caf n ((monL cad n).map (cf s)) k))::cpx lc ls14::L) (fun ⟨q,c,k⟩=>k≤(csS cad caf n).length) (fun ⟨q,c,k⟩=>(csS cad caf n).length - k) (qo23,co23,0) (by show 0≤_;omega) ⟨rfl,⟨rfl,trivial⟩⟩ rfl rfl ?_)))))))))))))));rintro ⟨q,c,k⟩ hk _ hAg0;have hckl:=clK_len (ds:=cad) (fs:=caf) (v:=((monL cad n).map (cf s))) hk;refine Je fun _ hK6 _=>(Jb (Jg (JO rfl rfl) rfl (Jf (Ja (hK6 (Je fun _ hK7 _=>(Jo rfl (fun h30=>?_) (fun h30=>?_))))))))
 ·
  have hk1:k<(csS cad caf n).length:=by omega
  have hrk:=hcsR.led _ (rw_mem hk1);have hrl:=hrk.1.len;have hld:=idxOf_ld (r:=rw_ (csS cad caf n) k) (by omega);have hrle:=hrk.2;refine Jm (Ja (hK7 (Je fun _ hK8 _=>(Jk (Je fun _ hK9 _=>(Jb (Jg (JQ u31 sz22 rfl rfl rfl hk1 hs14.sm) rfl ?_)))))));obtain ⟨qe32,ce32,he32,le32,Fe32⟩:=hs14 k hk1;refine Jg (JF rfl he32 pl22) rfl (Jg (Jd rfl) rfl (Jf (Ja (hK9 (Jb (Jg (Jc rfl) rfl (Jg (Jc rfl) rfl (Jg (Jc rfl) rfl (Jy fn82 rfl rfl fun w hH=>(lead_c Fe32 (by omega) hH).mono ?_)))))))));rintro _ w ⟨rfl,hH⟩;refine ⟨_,rfl,fun a hF=>JR hF hH ?_⟩;rw [hld];refine Jg (Eu u22 sz2 rfl rfl rfl (by omega) (.s .z)) rfl (Jg (EM rfl (.s .z) (intsC_get (by omega)) pl2) rfl (EL (MK.lit1I u22 ze2 sz2 rfl) rfl fun qo39 co39=>(J.appendOI u22 ze2 sz2 by2 rfl rfl (by simp only [List.length_cons,List.length_nil];omega) .z (.s (.s .z)) (fun _ _=>(.s (.s .z))) rfl fun qo40 co40=>(Jg (Jd rfl) rfl (Jf (JD (Ja (hK8 (Jb (Jg (Jz rfl rfl (by first | exact nw _ (by omega) | rfl)) rfl (Jg (Jc rfl) rfl (Jf (Ja (JN .z ?_))))))))))))));exact hAg0 (qo40,co40,k+1) (by show k+1≤_;omega) (by show (csS cad caf n).length - (k+1)<(csS cad caf n).length - k;omega) 17 rfl rfl ⟨rfl,⟨(by rw [clK_succ hk1];rfl),trivial⟩⟩ rfl (by dsimp only;rw [clK_succ hk1])
 ·
  refine JG (Jj (Jj (JL (Ja (hK4 (Je fun _ hK10 _=>(Jb (Jg (Jc rfl) rfl (Jg (Jd rfl) rfl (Jf (Ja (hK10 (Ju (Jq rfl (Res.tmp rfl) fun w hH=>?_))))))))))))));replace hH:=hH.sublist (.cons _ (.cons _ (.cons_cons _ (.cons_cons _ (List.Sublist.refl _)))))
  have hke:k=(csS cad caf n).length:=by omega
  rw [clK_end hke] at hH ⊢;exact ⟨_,_,_,_,hlf14,hC14,hN14,hkp14,rfl,hH⟩
theorem fn116:Fn Tryz.prog 116:=⟨_,Tryz.func116,by kernel_rfl,rfl⟩
theorem fn66:Fn Tryz.prog 66:=⟨_,Tryz.func66,by kernel_rfl,rfl⟩
def fmR (ps:List Pw) (rs:List (List Int)):List (List Term):=rs.map (fmS ps)
def fmRK (ps:List Pw) (rs:List (List Int)) (k:Nat):List (List Term):=(rs.take k).map (fmS ps)
theorem fmRK_len {ps:List Pw} {rs:List (List Int)} {k:Nat} (hk:k≤rs.length):(fmRK ps rs k).length=k:=by
 unfold fmRK;rw [List.length_map,List.length_take]
 omega
theorem fmRK_succ {ps:List Pw} {rs:List (List Int)} {k:Nat} (hk:k<rs.length):fmRK ps rs (k+1)=fmRK ps rs k++[fmS ps (rw_ rs k)]:=by
 unfold fmRK;rw [rw_take hk,List.map_append]
 rfl
theorem fmRK_end {ps:List Pw} {rs:List (List Int)} {k:Nat} (hk:k=rs.length):fmRK ps rs k=fmR ps rs:=by
 subst hk;unfold fmRK fmR;rw [List.take_length]
@[simp] theorem fmR_len (ps:List Pw) (rs:List (List Int)):(fmR ps rs).length=rs.length:=by simp [fmR]
theorem fmR_at {ps:List Pw} {rs:List (List Int)} {k:Nat} (hk:k<rs.length):fm (fmR ps rs) k=fmS ps (rw_ rs k):=by
 simp [fm,fmR,rw_,List.getD_eq_getElem?_getD,List.getElem?_eq_getElem hk]
theorem fmR_wf {W:Nat} {ps:List Pw} {rs:List (List Int)} (hp : ∀p∈ps,Mono p) (hr : ∀r∈rs,RowOk W r):Wfss (fmR ps rs):=fun f hf=>by
 obtain ⟨r,hr',rfl⟩:=List.mem_map.1 hf
 exact fmK_wf hp (hr r hr').val (Nat.le_refl _)
theorem fmS_len (ps:List Pw) (row:List Int):(fmS ps row).length≤ps.length:=fmK_len ps row _
theorem fmS_mon {ds:List Int} {n:Int} {row:List Int} (h8:ds.length≤8) (hr:RowOk (monL ds n).length row):toS (fmS (monL ds n) row)=sumR (monL ds n) row:=by
 rw [fmS_sum (M:=20) (monL_srt ds n h8) (monL_pok h8) hr.val hr.len,toS_ofS]
theorem sumR_mon {ds:List Int} {n:Int} {row:List Int} (h8:ds.length≤8) (hr:row.length≤(monL ds n).length):Sok 20 (sumR (monL ds n) row):=sumR_sok (monL_pok h8) hr
theorem sumR_key {ps:List Pw} {row:List Int} (hr:row.length≤ps.length) : ∀x∈sumR ps row,x.1∈ps:=fun x hx=>by
 rcases acc_mem hx with h | ⟨y,hy,e⟩
 ·simp at h
 ·obtain ⟨i,hi,rfl⟩:=List.mem_map.1 hy
  rw [e]
  exact rw_mem (by have:=List.mem_range.1 hi;omega)
theorem monL_ex {ds:List Int} {n:Int} (h8:ds.length≤8) (hd : ∀j,j<ds.length→1≤ds.getD j 0∧ds.getD j 0≤12) : ∀p∈monL ds n,Ex ds p:=fun p hp=>mon_ex h8 (List.mem_of_mem_take hp) hd
theorem monL_wt {ds:List Int} {n:Int} (h8:ds.length≤8) : ∀p∈monL ds n,wsum ds p ds.length=n:=fun p hp=>mon_wt h8 (List.mem_of_mem_take hp)
theorem sumR_kex {ds:List Int} {n:Int} {row:List Int} (h8:ds.length≤8) (hd : ∀j,j<ds.length→1≤ds.getD j 0∧ds.getD j 0≤12) (hr:row.length≤(monL ds n).length):KEx ds (sumR (monL ds n) row):=fun x hx=>monL_ex h8 hd _ (sumR_key hr x hx)
theorem times_mon {ds:List Int} {n m:Int} {s t:Sm} (h8:ds.length≤8) (hd : ∀j,j<ds.length→1≤ds.getD j 0∧ds.getD j 0≤12) (hs:Sok 20 s) (ht:Sok 20 t) (h1 : ∀x∈s,x.1∈monL ds n) (h2 : ∀x∈t,x.1∈monL ds m) (hf:fitB ds (n+m)=true) (h40:n+m≤41) : ∀x∈timesS ds s t,x.1∈monL ds (n+m):=fun x hx=>by
 have k1:KEx ds s:=fun x hx=>monL_ex h8 hd _ (h1 x hx)
 have k2:KEx ds t:=fun x hx=>monL_ex h8 hd _ (h2 x hx)
 have hk:=times_kex hs.g ht.g k1 k2 x hx
 have ho:=(hs.times ht (ds:=ds)).key x hx
 rw [monL_fit hf]
 refine mon_in h8 hd h40 ho hk ?_
 rcases acc_mem hx with h | ⟨y,hy,e⟩
 ·simp at h
 ·obtain ⟨u,hu,v,hv,_,e2⟩:=mulL_mem hy
  rw [e,e2,wsum_add (hs.key u hu).len (ht.key v hv).len,monL_wt h8 _ (h1 u hu),monL_wt h8 _ (h2 v hv)]
theorem Hp.sumIf {B:World} {H0 H:HP} {L:List SA} {w:World} {b:Nat} {s:Sm} {C:Prop} [Decidable C] (hC:C) (h:Hp B H0 H (osum b s::L) w):Hp B H0 H ((if C then osum b s else G.emp)::L) w:=by
 rw [if_pos hC];exact h
theorem Hp.sumNo {B:World} {H0 H:HP} {L:List SA} {w:World} {b:Nat} {s:Sm} {C:Prop} [Decidable C] (hC : ¬C) (h:Hp B H0 H L w):Hp B H0 H ((if C then osum b s else G.emp)::L) w:=by
 rw [if_neg hC];exact h.emp
theorem l03Forms_c {B:World} {H0 H:HP} {L:List SA} {w:World} {qrs:Option Addr} {crs:Nat} {rs:List (List Int)} {qps:Option Addr} {cps:Nat} {ps:List (List Int)} {W:Nat} (hrs:RowsR H qrs rs) (hps:Monos H qps ps) (hW : ∀r∈rs,RowOk ps.length r) (hn:rs.length≤1000000) (hpn:ps.length≤1000000) (hpm : ∀p∈ps,Mono p) (hH:Hp B H0 H L w):Calls Tryz.prog 66 [.slice qrs rs.length crs,.slice qps ps.length cps].toArray w fun e w'=>∃q c vs,e = .returned (.slice q (fmR ps rs).length c)∧Hp B H0 H (ownFs 40 107 q c vs (fmR ps rs)::L) w':=by
 refine Jx Tryz.func66 rfl 24 rfl rfl [(0,.slice qrs rs.length crs),(1,.slice qps ps.length cps)] rfl hH ?_;clear hH;refine Je fun _ hK1 _=>(Jb (Jg (Jd rfl) rfl (Jf (Ja (hK1 (Je fun _ hK2 _=>(Jb (EL (EP u34 sz40) rfl fun qo7 co7=>(J.ts0 107 (Jg (Jd rfl) rfl (Jf (Ja (hK2 (Je fun _ hK3 _=>(Je fun _ hK4 _=>(Jb ?_))))))))))))))));refine Jg (Jd rfl) rfl (Jf (Ja (hK4 (Jk (JC (σ:=Option Addr × Nat × Vs × Nat) (fun ⟨q,c,vs,k⟩=>[(6,.int .i64 (k:Int)),(5,.slice q k c)]) (fun ⟨q,c,vs,k⟩=>H) (fun ⟨q,c,vs,k⟩=>ownTs 107 vs (fmRK ps rs k)::own 40 1 q k c (slicesC vs (fmRK ps rs k))::L) (fun ⟨q,c,vs,k⟩=>k≤rs.length) (fun ⟨q,c,vs,k⟩=>rs.length - k) (qo7,co7,nilVs,0) (by show 0≤rs.length;omega) ⟨rfl,⟨rfl,trivial⟩⟩ rfl rfl ?_)))));rintro ⟨q,c,vs,k⟩ hk _ hAg0;refine Je fun _ hK5 _=>(Je fun _ hK6 _=>(Jb (Jg (Jc rfl) rfl (Jg (Jc rfl) rfl (Jg (Jn u31 rfl rfl) rfl (Jg (JO rfl rfl) rfl (Jf (Ja (hK6 (Jo rfl (fun h11=>?_) (fun h11=>?_)))))))))))
 ·
  have hk1:k<rs.length:=by omega
  have hrk:=hW _ (rw_mem hk1);refine Jm (Ja (hK5 (Je fun _ hK7 _=>(Jk (Jb (Jg (Jc rfl) rfl (Jg (Jc rfl) rfl (Jg (Jc rfl) rfl (Jg (JQ u31 sz22 rfl rfl rfl hk1 hrs.sm) rfl ?_)))))))));obtain ⟨qe18,ce18,he18,le18,Fe18⟩:=hrs k hk1;refine Jg (JF rfl he18 pl22) rfl (Jg (Jc rfl) rfl (Jy fn116 rfl rfl fun w hH=>(l03Form_c Fe18 hps hrk.len hpn hpm hrk.val hH).mono ?_));rintro _ w ⟨qo20,co20,rfl,hH⟩;refine ⟨_,rfl,fun a hF=>JR hF hH ?_⟩;refine EL (EB u34 ze40 sz40 rfl rfl) rfl fun qo21 co21=>(EA u34 ze40 sz40 by40 rfl rfl rfl rfl (by omega) .z (.s (.s .z)) (fun _ _=>(.s (.s .z))) rfl fun qo22 co22=>(Jg (Jd rfl) rfl (Jf (JD (Ja (hK7 (Jb (Jg (Jc rfl) rfl (Jg (Jz rfl rfl (by first | exact nw _ (by omega) | rfl)) rfl (Jg (Jd rfl) rfl (Jf (Ja (Jw (.s (.s (.s .z))) (Jw (.s .z) (Jw (.s (.s (.s .z))) ?_)))))))))))))));refine Jw (.s (.s (.s .z))) (EJ.fsSnoc (fs:=fmRK ps rs k) (fmRK_len hk) rfl (JN (.s .z) ?_));exact hAg0 (qo22,co22,setV vs k (qo20,co20),k+1) (by show k+1≤rs.length;omega) (by show rs.length - (k+1)<rs.length - k;omega) 19 rfl rfl ⟨rfl,⟨rfl,trivial⟩⟩ rfl (by dsimp only;rw [fmRK_succ hk1,slicesC_set (fmRK_len hk)])
 ·
  refine JG (Jj (Jj (JL (Ja (hK3 (Je fun _ hK8 _=>(Jb (Jg (Jc rfl) rfl (Jg (Jd rfl) rfl (Jf (Ja (hK8 (Ju (Jq rfl (Res.tmp rfl) fun w hH=>?_))))))))))))));replace hH:=hH.sublist (.cons_cons _ (.cons_cons _ (List.Sublist.refl _)))
  have hke:k=rs.length:=by omega
  rw [fmRK_end hke] at hH;exact ⟨q,c,vs,by rw [fmR_len,hke],by unfold ownFs;rw [fmR_len,← hke];exact (hH.front (.s .z)).star⟩
theorem l03ClassForms_c {B:World} {H0 H:HP} {L:List SA} {w:World} {qad qaf:Option Addr} {cad caf:Nat} {ad:List Int} {af:List (List Term)} {n:Int} (had:Ints H qad ad) (haf:Forms H qaf af) (hG:isAlg ad af=true) (hn:0≤n∧n≤40) (hfit:fit3 ad n) (hH:Hp B H0 H L w):Calls Tryz.prog 38 [.agg [.slice qad ad.length cad,.slice qaf af.length caf].toArray,.int .i64 n].toArray w fun e w'=>∃q c vs,e = .returned (.slice q (fmR (monL ad n) (csS ad af n)).length c)∧Hp B H0 H (ownFs 40 107 q c vs (fmR (monL ad n) (csS ad af n))::L) w':=by
 refine Jx Tryz.func38 rfl 13 rfl rfl [(0,.agg [.slice qad ad.length cad,.slice qaf af.length caf].toArray),(1,.int .i64 n)] rfl hH ?_;have hw0:=hH.old;have hw1:=hH.le;clear hH;have hwf:=haf.wfss;have hA:=isAlg_ok hG hwf;have h8:=hA.hn;have hd:=alg_112 hG;have hml:=monL_len ad n;have hml1:=monL_len ad (n+1);have hclR:=clS_red (n:=n) hA h8 hd;have hbdR:=bdS_red (n:=n) hA h8 hd;have hcll:=clS_len (n:=n) hA h8 hd;have hbdl:=bdS_len (n:=n) hA h8 hd;have hcsR:=csS_red (n:=n) hA h8 hd;have hcsl:=csS_len (n:=n) hA h8 hd;have hmT0:=monT_L hfit.1.1;refine Je fun _ hK1 _=>(Jb (Ee rfl rfl rfl fun g2=>(Jg (Jd rfl) rfl (Jf (Ja (hK1 (Je fun _ hK2 _=>(Ej (Rs:=[_]) 9 [[], [], [0,1], [], [3], [], [0,1,2,3,4,5], [0,1,2,3,4,5,6], [0,1,2,3,4,5,6,7]] [[9], [], [], [], [9], [], [], [2,6], []] [[], [], [], [], [], [], [], [], []] rfl rfl (by kernel_rfl) ?_))))))));apply Jl 1 rfl
 iterate 3 focus (intros;(conv=>lhs;simp only [Jh,Jr,JM,Jt,JH,eq_self,reduceEqDiff,reduceIte,reduceSub,reduceAdd,JxA,JxB]);all_goals rfl)
 ·
  intro gh X K zq zc zq2 zc2 zb zv hK;refine Jg (JA rfl At.z (by simpa [*] using ag36)) rfl (Ji ?_);exact hK zq zc zq2 zc2 zb zv
 ·
  intro gh gh' h
  rfl
 apply Jl 2 rfl
 iterate 3 focus (intros;(conv=>lhs;simp only [Jh,Jr,JM,Jt,JH,eq_self,reduceEqDiff,reduceIte,reduceSub,reduceAdd,JxA,JxB]);all_goals rfl)
 ·
  intro gh X K zq zc zq2 zc2 zb zv hK;refine Jg (Jc rfl) rfl (Ji ?_);exact hK zq zc zq2 zc2 zb zv
 ·
  intro gh gh' h
  rfl
 apply JZ 3 rfl
 iterate 3 focus (intros;(conv=>lhs;simp only [Jh,Jr,JM,Jt,JH,eq_self,reduceEqDiff,reduceIte,reduceSub,reduceAdd,JxA,JxB]);all_goals rfl)
 ·
  intro gh X K zq zc zq2 zc2 zb zv hK;refine Jy fn67 rfl rfl fun w hH=>(l03Classes_m had haf hG (by omega) hfit hH).mono ?_;rintro _ w ⟨qo7,co7,vso7,rfl,hH⟩;refine ⟨_,rfl,fun a hF=>JR hF hH ?_⟩;refine Ji ?_;exact hK qo7 co7 zq2 zc2 zb vso7
 ·
  intro gh gh' h;refine ⟨?_,?_⟩ <;> rfl
 apply Jl 4 rfl
 iterate 3 focus (intros;(conv=>lhs;simp only [Jh,Jr,JM,Jt,JH,eq_self,reduceEqDiff,reduceIte,reduceSub,reduceAdd,JxA,JxB]);all_goals rfl)
 ·
  intro gh X K zq zc zq2 zc2 zb zv hK;refine Jg (Js u36 rfl sz22 rfl) rfl (Ji ?_);exact hK zq zc zq2 zc2 zb zv
 ·
  intro gh gh' h
  rfl
 apply Jl 5 rfl
 iterate 3 focus (intros;(conv=>lhs;simp only [Jh,Jr,JM,Jt,JH,eq_self,reduceEqDiff,reduceIte,reduceSub,reduceAdd,JxA,JxB]);all_goals rfl)
 ·
  intro gh X K zq zc zq2 zc2 zb zv hK;refine Jg (Jv rfl At.z rfl pl22) rfl (Ji ?_);exact hK zq zc zq2 zc2 zb zv
 ·
  intro gh gh' h
  rfl
 apply Jl 6 rfl
 iterate 3 focus (intros;(conv=>lhs;simp only [Jh,Jr,JM,Jt,JH,eq_self,reduceEqDiff,reduceIte,reduceSub,reduceAdd,JxA,JxB]);all_goals rfl)
 ·
  intro gh X K zq zc zq2 zc2 zb zv hK;refine Jg (Jc rfl) rfl (Ji ?_);exact hK zq zc zq2 zc2 zb zv
 ·
  intro gh gh' h
  rfl
 apply JZ 7 rfl
 iterate 3 focus (intros;(conv=>lhs;simp only [Jh,Jr,JM,Jt,JH,eq_self,reduceEqDiff,reduceIte,reduceSub,reduceAdd,JxA,JxB]);all_goals rfl)
 ·
  intro gh X K zq zc zq2 zc2 zb zv hK;refine Jy fn68 rfl rfl fun w hH=>(l01Monomials_c had hd h8 (by omega) hH).mono ?_;rintro _ w ⟨qo11,co11,rfl,hH⟩;refine ⟨_,rfl,fun a hF=>JR hF hH ?_⟩;refine Ji ?_;exact hK qo11 co11 zq2 zc2 zb zv
 ·
  intro gh gh' h;refine ⟨?_,?_⟩ <;> (first | simp only [h 2 rfl] | rfl)
 apply JZ 8 rfl
 iterate 3 focus (intros;(conv=>lhs;simp only [Jh,Jr,JM,Jt,JH,eq_self,reduceEqDiff,reduceIte,reduceSub,reduceAdd,JxA,JxB]);all_goals rfl)
 ·
  intro gh X K zq zc zq2 zc2 zb zv hK;refine Jy fn66 rfl rfl fun w hH=>hH.lend .z fun Hl1 hle1 hA1 hB1 hH=>hH.lend .z fun Hl2 hle2 hA2 hB2 hH=>(l03Forms_c (W:=0) ((mlt_rows hle1 hA1).1.le hle2) (own_monos (monT_8 h8) hA2) (by rw [hmT0];exact hcsR.row) (by omega) (by rw [hmT0];omega) (by rw [hmT0];exact monL_mn h8) hH).mono ?_;rintro _ w ⟨qo12,co12,vso12,rfl,hH⟩;replace hH:=hB2 _ _ hH;replace hH:=hB1 _ _ hH;refine ⟨_,rfl,fun a hF=>JR hF hH ?_⟩;refine Jw (.s .z) (Jw (.s .z) (Jw (.s (.s .z)) (Ji ?_)));exact hK qo12 co12 zq2 zc2 zb vso12
 ·
  intro gh gh' h;refine ⟨?_,?_⟩ <;> (first | simp only [h 2 rfl,h 6 rfl] | rfl)
 apply Jl 9 rfl
 iterate 3 focus (intros;(conv=>lhs;simp only [Jh,Jr,JM,Jt,JH,eq_self,reduceEqDiff,reduceIte,reduceSub,reduceAdd,JxA,JxB]);all_goals rfl)
 ·
  intro gh X K zq zc zq2 zc2 zb zv hK;refine Jg (Jd rfl) rfl (Ji ?_);exact hK zq zc zq2 zc2 zb zv
 ·
  intro gh gh' h
  first | simp only [h 2 rfl,h 6 rfl,h 7 rfl] | rfl
 apply Ei [0,1,2,3,4,5,6,7,8] [0,1,2,3,4,5,6,7,8,9] foll0 rfl rfl rfl (by rfl)
 iterate 2 focus (intros;(conv=>lhs;simp only [Jh,Jr,JM,Jt,JH,eq_self,reduceEqDiff,reduceIte,reduceSub,reduceAdd,JxA,JxB]);all_goals rfl)
 intro gh;generalize (gh 2).c=co7;generalize (gh 2).q=qo7;generalize (gh 2).vs=vso7;generalize (gh 6).c=co11;generalize (gh 6).q=qo11;generalize (gh 7).c=co12;generalize (gh 7).q=qo12;generalize (gh 7).vs=vso12;clear gh;refine Ja (hK2 (Ju (Jq rfl (Res.tmp rfl) fun w hH=>?_)));replace hH:=hH.sublist (.cons _ (.cons _ (.cons_cons _ (.cons _ (List.Sublist.refl _)))));rw [hmT0] at hH ⊢;exact ⟨_,_,_,rfl,hH⟩
theorem fn80:Fn Tryz.prog 80:=⟨_,Tryz.func80,by kernel_rfl,rfl⟩
theorem classForm_c {B:World} {H0 H:HP} {L:List SA} {w:World} {bc lc:Nat} {bca:Nat} {qcad qcaf:Option Addr} {ccad ccaf:Nat} {cad:List Int} {caf:List (List Term)} {lsc:List (Int × Lv)} {n:Int} {i:Int} (pc0:CellAt H bc 0 (.pointer (some ⟨bca,0,none⟩))) (pc1:CellAt H bc 1 (.map (some lc))) (pcad:CellAt H bca 0 (.slice qcad cad.length ccad)) (pcaf:CellAt H bca 1 (.slice qcaf caf.length ccaf)) (hcad:Ints H qcad cad) (hcaf:Forms H qcaf caf) (hGc:isAlg cad caf=true) (hn:0≤n∧n≤39) (hfit:fit3 cad n) (hCc:CpxOk H cad caf (fun _=>False) lsc) (hNc:Nxt (fun _=>False) lsc) (hi : -1000000000≤i∧i≤9223372036854775807) (hH:Hp B H0 H (cpx lc lsc::L) w):Calls Tryz.prog 42 [.pointer (some ⟨bc,0,none⟩),.int .i64 n,.int .i64 i].toArray w fun e w'=>∃H' ls' b v,Le H H' ∧CpxOk H' cad caf (fun _=>False) ls' ∧Nxt (fun _=>False) ls' ∧((0≤i∧i<((csS cad caf n).length:Int))→v = .map (some b))∧e = .returned (.tuple #[v,.bool (decide (0≤i∧i<((csS cad caf n).length:Int)))])∧Hp B H0 H' ((if (0≤i∧i<((csS cad caf n).length:Int)) then osum b (sumR (monL cad n) (rw_ (csS cad caf n) i.toNat)) else G.emp)::cpx lc ls'::L) w':=by
 refine Jx Tryz.func42 rfl 30 rfl rfl [(0,.pointer (some ⟨bc,0,none⟩)),(1,.int .i64 n),(2,.int .i64 i)] rfl hH ?_;clear hH;have hwc:=hcaf.wfss;have hAc:=isAlg_ok hGc hwc;have h8c:=hAc.hn;have hdc:=alg_112 hGc;have hml:=monL_len cad n;have hcsR:=csS_red (n:=n) hAc h8c hdc;have hcsl:=csS_len (n:=n) hAc h8c hdc;have hbdR:=bdS_red (n:=n) hAc h8c hdc;have hbdl:=bdS_len (n:=n) hAc h8c hdc;have hclR:=clS_red (n:=n) hAc h8c hdc;have hcll:=clS_len (n:=n) hAc h8c hdc;refine Je fun _ hK1 _=>(Jb (Jg (Jd rfl) rfl (Jg (Jd rfl) rfl (Jf (Ja (hK1 (Je fun _ hK2 _=>(Jb (Jg (Jc rfl) rfl (Jg (Jc rfl) rfl (Jy fn41 rfl rfl fun w hH=>(at_c pc0 pc1 pcad pcaf hcad hcaf hdc h8c (by omega) hAc hfit (fun m hm hf=>hom_of hGc hwc h8c hdc (by omega) hf) hCc hNc (hH.front .z)).mono ?_)))))))))));rintro _ w ⟨Hf11,ls11,⟨b11,p11,⟨ql11,kl11,cl11⟩,⟨qm11,km11,cm11⟩,⟨qz11,kz11,cz11⟩,⟨qy11,ky11,cy11⟩,⟨qx11,kx11,cx11⟩⟩,hlf11,hC11,hN11,hx11,⟨hL11,hM11,hkp11⟩,rfl,hH⟩;refine ⟨_,rfl,fun a hF=>JR hF hH ?_⟩;replace pc0:=pc0.le hlf11;replace pc1:=pc1.le hlf11;replace pcad:=pcad.le hlf11;replace pcaf:=pcaf.le hlf11;replace hcad:=hcad.le hlf11;replace hcaf:=hcaf.le hlf11;replace hCc:=hCc.le hlf11;obtain rfl:kl11=(monL cad (n)).length:=(hC11.ok _ hx11).one.len;have hpw11:Pows Hf11 ql11 (monL cad (n)):=(hC11.ok _ hx11).one.pw;have hpl11:SumH Hf11 (.map (some p11)) (plM (monL cad (n))):=(hC11.ok _ hx11).one.pl;obtain ⟨⟨e1,hz11⟩,⟨e2,hb11⟩,e3,hs11⟩:(kz11=(clS cad caf (n)).length∧RowsR Hf11 qz11 (clS cad caf (n)))∧(ky11=(bdS cad caf (n)).length∧RowsR Hf11 qy11 (bdS cad caf (n)))∧kx11=(csS cad caf (n)).length∧RowsR Hf11 qx11 (csS cad caf (n)):=hL11;subst e1 e2 e3;refine Jg (Jd rfl) rfl (Jf (Ja (hK2 (Je fun _ hK3 _=>(Je fun _ hK4 _=>(Jb (Jg (Jc rfl) rfl (Jg (Jc rfl) rfl (Jg (JI rfl) rfl (Jg (Js u88 rfl sz31 rfl) rfl (Jg (PR.loadCx (b:=b11) (k:=5) (v:=.slice qx11 (csS cad caf (n)).length cx11) rfl At.z hx11 rfl rfl pl31) rfl (Jg (Jn u31 rfl rfl) rfl (Jg (EQ rfl rfl (nw _ (by omega))) rfl (Jy fn79 rfl rfl fun w hH=>(within_c hH).mono ?_))))))))))))));rintro _ w ⟨rfl,hH⟩;refine ⟨_,rfl,fun a hF=>JR hF hH ?_⟩;refine Jg (En rfl) rfl (Jf (Ja (hK4 (Eh rfl (fun h20=>?_) (fun h20=>?_)))))
 ·
  refine Je fun _ hK5 _=>(Jb (Jg (Jd rfl) rfl (Jg (Jd rfl) rfl (Jf (Ja (hK5 (Ju (Jp (EC rfl (Res.tmp rfl) (Res.tmp rfl) fun w hH=>?_)))))))));replace hH:=hH.sublist (.cons_cons _ (List.Sublist.refl _))
  have hne : ¬(0≤i∧i<((csS cad caf n).length:Int)):=fun h=>by simp at h20;omega
  exact ⟨_,_,0,.map none,hlf11,hC11,hN11,fun h=>absurd h hne,by rw [decide_eq_false hne],hH.sumNo hne⟩
 ·
  have hci:(0≤i∧i<((csS cad caf n).length:Int)):=by
   simp at h20
   omega
  have hik:i.toNat<(csS cad caf n).length:=by omega
  have hrk:=hcsR.led _ (rw_mem hik);have hrl:=hrk.1.len;refine Jm (Ja (hK3 (Je fun _ hK6 _=>(Jb (Jg (Jc rfl) rfl (Jg (Jc rfl) rfl (Jg (JI rfl) rfl (Jg (Js u88 rfl sz31 rfl) rfl (Jg (PR.loadCx (b:=b11) (k:=5) (v:=.slice qx11 (csS cad caf (n)).length cx11) rfl At.z hx11 rfl rfl pl31) rfl (Jg (Jc rfl) rfl (Jg (JQ (i':=i.toNat) u31 sz22 rfl rfl (by rw [Int.toNat_of_nonneg hci.1]) hik hs11.sm) rfl ?_)))))))))));obtain ⟨qe28,ce28,he28,le28,Fe28⟩:=hs11 i.toNat hik;refine Jg (JF rfl he28 pl22) rfl (Jy fn80 rfl rfl fun w hH=>hH.lend .z fun Hl1 hle1 hA1 hB1 hH=>(sum_c (M:=20) (cpx_cell hx11 hA1 rfl) (cpx_cell hx11 hA1 rfl) (Fe28.le hle1) (hpw11.le hle1) (monL_pok h8c) (by omega) (by omega) (fun j=>by have:=hrk.1.val j;omega) (by omega) hH).mono ?_);rintro _ w ⟨bo29,rfl,hH⟩;replace hH:=hB1 _ _ hH;refine ⟨_,rfl,fun a hF=>JR hF hH ?_⟩;refine Jg (Jd rfl) rfl (Jg (Jd rfl) rfl (Jf (Ja (hK6 (Ju (EC rfl (Res.tmp rfl) (Res.tmp rfl) fun w hH=>?_))))));replace hH:=hH.sublist (.cons_cons _ (.cons_cons _ (List.Sublist.refl _)));exact ⟨_,_,_,_,hlf11,hC11,hN11,fun _=>rfl,by rw [decide_eq_true hci],(hH.front (.s .z)).sumIf hci⟩
section
variable {ds : List Int} {fs : List (List Term)} {n i m j : Int}
def pcA (n i m j:Int):Bool:=!decide (i<0) && (!decide (j<0) && (askB n && (askB m && askB (n+m))))
def pc1 (ds:List Int) (fs:List (List Term)) (n i m j:Int):Int:=if isAlg ds fs then if pcA n i m j then 0 else 2 else 1
def cfM (ds:List Int) (fs:List (List Term)) (n i:Int):Sm:=sumR (monL ds n) (rw_ (csS ds fs n) i.toNat)
theorem pc_f (b:Bool):firstOf [codeA ds fs [],if b then 2 else 0]=if isAlg ds fs then (if b then 2 else 0) else 1:=by
 rw [codeA_nil,firstOf_two];unfold algC
 by_cases hG:isAlg ds fs=true
 ·rw [if_pos hG,if_pos hG,if_pos rfl]
 ·rw [if_neg hG,if_neg hG,if_neg (by decide)]
theorem cfM_ok (hA:AlgOk ds fs) (h8:ds.length≤8) (hd : ∀j,j<ds.length→1≤ds.getD j 0∧ds.getD j 0≤12) (hi:i.toNat<(csS ds fs n).length):Sok 20 (cfM ds fs n i)∧∀x∈cfM ds fs n i,x.1∈monL ds n:=by
 have hr:=(csS_red (n:=n) hA h8 hd).row _ (rw_mem hi);exact ⟨sumR_mon h8 (by rw [hr.len];exact Nat.le_refl _),sumR_key (by rw [hr.len];exact Nat.le_refl _)⟩
end
theorem isAsked_c {B:World} {H0 H:HP} {L:List SA} {w:World} {n:Int} (hH:Hp B H0 H L w):Calls Tryz.prog 74 [.int .i64 n].toArray w fun e w'=>e = .returned (.bool (askB n))∧Hp B H0 H L w':=by
 refine Jx Tryz.func74 rfl 5 rfl rfl [(0,.int .i64 n)] rfl hH ?_;clear hH;refine Je fun _ hK1 _=>(Jb (Jg (Jd rfl) rfl (Jf (Ja (hK1 (Je fun _ hK2 _=>(Jb (Jg (Jc rfl) rfl (Jy fn79 rfl rfl fun w hH=>(within_c hH).mono ?_)))))))));rintro _ w ⟨rfl,hH⟩;refine ⟨_,rfl,fun a hF=>JR hF hH ?_⟩;refine Jg (Jd rfl) rfl (Jf (Ja (hK2 (Ju (Jq rfl (Res.tmp rfl) fun w hH=>?_)))));exact ⟨rfl,hH⟩
section
variable {B : World} {H0 H : HP} {L : List SA} {w : World}
open Classical in
def mltA (K:HP→SA→Prop) (H:HP) (vs:Vs):SA where
 fp b:=(vs b).2≠0
 holds h:=∃(F:HP) (A:SA),Le H F∧(∀b o,F b=some o→H b=some o∨((vs b).2≠0∧h b=some o))∧(∀b,A.fp b→(vs b).2≠0∧F b=none)∧A.holds h∧K F A
 loc h h' hb:=fun ⟨F,A,h0,h1,h2,h3,h4⟩=>⟨F,A,h0,fun b o ho=>(h1 b o ho).imp id fun ⟨h5,h6⟩=>⟨h5,by rw [← hb b h5];exact h6⟩,h2,A.loc h h' (fun b hb'=>hb b (h2 b hb').1) h3,h4⟩
open Classical in
theorem Hp.meltA {K:HP→SA→Prop} {A:SA} {H':HP} {L0:List SA} {w0 w:World} (h0:Hp B H0 H L0 w0) (h:Hp B H0 H' (A::L) w) (hle:Le H H') (hK:K H' A) : ∃vs,Hp B H0 H (mltA K H vs::L) w:=by
 let vs:Vs:=fun b=>(none,if ((H' b).isSome∧H b=none)∨A.fp b then 1 else 0)
 have hv : ∀b,(vs b).2≠0↔(((H' b).isSome∧H b=none)∨A.fp b):=fun b=>by
  show (if _ then 1 else 0)≠0↔_
  split <;> simp_all
 have hsome : ∀b,(H' b).isSome=true→∃o,H' b=some o∧hp w b=some o:=fun b hb=>by
  obtain ⟨o,ho⟩:=Option.isSome_iff_exists.1 hb
  exact ⟨o,ho,h.agree b o ho⟩
 have hnone : ∀b,H' b=none→H b=none:=fun b hb=>by
  cases hHb:H b with
  | none=>rfl
  | some o=>have:=hle b o hHb;rw [hb] at this;cases this
 have hA:=h.objs A (by simp)
 have hsp:=List.pairwise_cons.1 h.sep
 refine ⟨vs,h.below,fun b o ho=>h.agree b o (hle b o ho),h0.old,h0.le,fun X hX=>?_,List.pairwise_cons.2 ⟨fun X hX b hb hXb=>?_,hsp.2⟩⟩
 ·rcases List.mem_cons.1 hX with rfl | hX
  ·refine ⟨⟨H',A,hle,fun b o ho=>?_,fun b hb=>⟨(hv b).2 (.inr hb),(hA.2 b hb).2.2⟩,hA.1,hK⟩,fun b hb=>?_⟩
   ·cases hHb:H b with
    | some o'=>left;have:=hle b o' hHb;rw [ho] at this;exact this.symm
    | none=>exact .inr ⟨(hv b).2 (.inl ⟨by rw [ho];rfl,hHb⟩),h.agree b o ho⟩
   ·rcases (hv b).1 hb with ⟨hb1,hb2⟩ | hb1
    ·obtain ⟨o,ho,hw⟩:=hsome b hb1
     refine ⟨?_,hp_lt hw,hb2⟩
     rcases Nat.lt_or_ge b B.heap.size with hlt | hge
     ·have h1:=h.old b hlt
      have h2:=h0.old b hlt
      rw [← h2,hb2,ho] at h1
      cases h1
     ·exact hge
    ·exact ⟨(hA.2 b hb1).1,(hA.2 b hb1).2.1,hnone b (hA.2 b hb1).2.2⟩
  ·obtain ⟨g1,g2⟩:=h.objs X (List.mem_cons_of_mem _ hX)
   exact ⟨g1,fun b hb=>⟨(g2 b hb).1,(g2 b hb).2.1,hnone b (g2 b hb).2.2⟩⟩
 ·rcases (hv b).1 hb with ⟨hb1,_⟩ | hb1
  ·rw [((h.objs X (List.mem_cons_of_mem _ hX)).2 b hXb).2.2] at hb1
   cases hb1
  ·exact hsp.1 X hX b hb1 hXb
theorem Hp.unmeltA {K:HP→SA→Prop} {vs:Vs} (h:Hp B H0 H (mltA K H vs::L) w) : ∃F A,Le H F∧K F A∧Hp B H0 F (A::L) w:=by
 have hM:=h.objs (mltA K H vs) (by simp);obtain ⟨F,A,h0,h1,h2,h3,h4⟩:=hM.1;have hsp:=List.pairwise_cons.1 h.sep;refine ⟨F,A,h0,h4,h.below,fun b o ho=>(h1 b o ho).elim (h.agree b o) fun h=>h.2,fun b hb=>?_,h.le.trans h0,fun X hX=>?_,List.pairwise_cons.2 ⟨fun X hX b hb=>hsp.1 X hX b (h2 b hb).1,hsp.2⟩⟩
 ·have hn : ¬(vs b).2≠0:=fun hv=>by
   have:=(hM.2 b hv).1
   omega
  rw [← h.old b hb]
  cases hF:F b with
  | some o=>exact ((h1 b o hF).elim id fun h=>absurd h.1 hn).symm
  | none=>
   cases hH:H b with
   | none=>rfl
   | some o=>have:=h0 b o hH;rw [hF] at this;cases this
 ·rcases List.mem_cons.1 hX with rfl | hX
  ·exact ⟨h3,fun b hb=>⟨(hM.2 b (h2 b hb).1).1,(hM.2 b (h2 b hb).1).2.1,(h2 b hb).2⟩⟩
  ·obtain ⟨g1,g2⟩:=h.objs X (List.mem_cons_of_mem _ hX);refine ⟨g1,fun b hb=>⟨(g2 b hb).1,(g2 b hb).2.1,?_⟩⟩
   cases hF:F b with
   | none=>rfl
   | some o=>
    rcases h1 b o hF with hc | hc
    ·rw [(g2 b hb).2.2] at hc
     cases hc
    ·exact absurd hb (hsp.1 X hX b hc.1)
theorem EJ.unmeltA {R:Act→World→Prop} {n:Nat} {us:List (Nat × Value)} {L L':List SA} {K:HP→SA→Prop} {vs:Vs} (hr:Rm L (mltA K H vs) L') (k : ∀F A,Le H F→K F A→EJ R n B H0 us F (A::L')):EJ R n B H0 us H L:=fun a w hF hH=>by
 obtain ⟨F,A,h1,h2,h3⟩:=(hH.front hr).unmeltA
 exact k F A h1 h2 a w hF h3
end
section
variable {ds : List Int} {fs : List (List Term)} {n m : Int}
theorem up_wi (ds:List Int) (n:Int):upB ds n=wiB ds 0 (n+1):=by
 unfold upB wiB;rw [show (n+1+1 - max (0:Int) 0).toNat=(n+2).toNat by omega]
 congr 1
 funext k
 rw [show max (0:Int) 0+(k:Int)=(k:Int) by omega]
theorem wi_f3 {k t:Int} (h:wiB ds 0 t=true) (h0:0≤k) (hk:k+1≤t):fit3 ds k:=⟨⟨wi_fit h (by omega) (by omega),wi_fit h (by omega) (by omega)⟩,fun h1=>wi_fit h (by omega) (by omega)⟩
end
section
variable {ds : List Int} {fs : List (List Term)} {n m : Int}
theorem upC_n (h:upC ds n≠0):upC ds n=3∧wiB ds 0 (n+1)=false:=by
 unfold upC at h ⊢;rw [up_wi] at h ⊢
 cases hh:wiB ds 0 (n+1) with
 | true=>rw [hh] at h;exact absurd rfl h
 | false=>exact ⟨rfl,rfl⟩
theorem upC_z (h : ¬upC ds n≠0):wiB ds 0 (n+1)=true:=by
 unfold upC at h;rw [up_wi] at h
 cases hh:wiB ds 0 (n+1) with
 | true=>rfl
 | false=>rw [hh] at h;simp at h
end
def Nn (p:Pw):Prop:=p.length=8∧∀j,0≤p.getD j 0
theorem Nn.add {p q:Pw} (hp:Nn p) (hq:Nn q):Nn (addp p q):=⟨by simp,fun j=>by
 rw [addp_get hp.1 hq.1]
 have:=hp.2 j
 have:=hq.2 j
 omega⟩
def par (x:Int):Int:=if x % 2=1 then -1 else 1
theorem par_add (x y:Int):par (x+y)=par x * par y:=by
 unfold par
 rcases (show x % 2=0∨x % 2=1 by omega) with h | h <;> rcases (show y % 2=0∨y % 2=1 by omega) with k | k
 ·rw [if_neg (by omega),if_neg (by omega),if_neg (by omega)];rfl
 ·rw [if_pos (by omega),if_neg (by omega),if_pos (by omega)];rfl
 ·rw [if_pos (by omega),if_pos (by omega),if_neg (by omega)];rfl
 ·rw [if_neg (by omega),if_pos (by omega),if_pos (by omega)];rfl
section
variable {ds : Pw}
theorem oin_nn (hd : ∀j,0≤ds.getD j 0∧ds.getD j 0≤12) {p:Pw} (hp:Nn p) (i:Nat) : ∀m,0≤oin ds p i m
 | 0=>by simp [oin]
 | m+1=>by
  have h1:=oin_nn hd hp i m
  have h2:=hp.2 (i+1+m)
  simp only [oin]
  rcases deg2 hd (i+1+m) with h | h <;> rw [h] <;> omega
theorem oddTo_nn (hd : ∀j,0≤ds.getD j 0∧ds.getD j 0≤12) {p q:Pw} (hp:Nn p) : ∀k,0≤oddTo ds p q k
 | 0=>by simp [oddTo]
 | k+1=>by
  have h1:=oddTo_nn hd hp (q:=q) k
  have h2:=oin_nn hd hp k (ds.length - (k+1))
  simp only [oddTo]
  split <;> omega
theorem sgn_par (hd : ∀j,0≤ds.getD j 0∧ds.getD j 0≤12) {p q:Pw} (hp:Nn p) (h:hits ds p q=false):sgn ds p q=par (oddTo ds p q ds.length):=by
 unfold sgn par;rw [h,if_neg (by decide),Int.tmod_eq_emod_of_nonneg (oddTo_nn hd hp _)]
theorem sgn_z0 {p q:Pw} (h:hits ds p q=true):sgn ds p q=0:=by unfold sgn;rw [h];rfl
theorem oin_add {p p':Pw} (hp:p.length=8) (hp':p'.length=8) (i:Nat) : ∀m,oin ds (addp p p') i m=oin ds p i m+oin ds p' i m
 | 0=>by simp [oin]
 | m+1=>by
  simp only [oin]
  rw [oin_add hp hp' i m,addp_get hp hp',Int.mul_add]
  omega
theorem oddTo_addl {p p' q:Pw} (hp:p.length=8) (hp':p'.length=8) : ∀k,oddTo ds (addp p p') q k=oddTo ds p q k+oddTo ds p' q k
 | 0=>by simp [oddTo]
 | k+1=>by
  simp only [oddTo]
  rw [oddTo_addl hp hp' k,oin_add hp hp']
  split <;> omega
theorem hits_at {p q:Pw} (h:hits ds p q=false) {i:Nat} (hi:i<ds.length):(ds.getD i 0).tmod 2≠0→¬(0<p.getD i 0∧0<q.getD i 0):=fun ho hh=>by
 have:=List.any_eq_false.1 h i (List.mem_range.2 hi)
 unfold hitAt at this
 rw [decide_eq_true ho,decide_eq_true hh.1,decide_eq_true hh.2] at this
 exact this rfl
theorem hits_of {p q:Pw} (h : ∀i,i<ds.length→(ds.getD i 0).tmod 2≠0→¬(0<p.getD i 0∧0<q.getD i 0)):hits ds p q=false:=hits_no fun i hi=>by
 have:=h i hi
 unfold hitAt
 by_cases h1:(ds.getD i 0).tmod 2≠0
 ·have h2:=this h1
  rw [decide_eq_true h1]
  by_cases h3:0<p.getD i 0
  ·rw [decide_eq_true h3,decide_eq_false (show ¬0<q.getD i 0 from fun h4=>h2 ⟨h3,h4⟩)]
   rfl
  ·rw [decide_eq_false h3]
   rfl
 ·rw [decide_eq_false h1]
  rfl
theorem oddTo_addr {p q q':Pw} (hq:Nn q) (hq':Nn q') (h:hits ds q q'=false) : ∀k,k≤ds.length→oddTo ds p (addp q q') k=oddTo ds p q k+oddTo ds p q' k
 | 0,_=>by simp [oddTo]
 | k+1,hk=>by
  have ih:=oddTo_addr (p:=p) hq hq' h k (by omega)
  have h1:=hits_at h (i:=k) (by omega)
  have h2:=hq.2 k
  have h3:=hq'.2 k
  simp only [oddTo]
  rw [ih,addp_get hq.1 hq'.1]
  by_cases ho:(ds.getD k 0).tmod 2≠0
  ·have h4:=h1 ho
   by_cases ha:0<q.getD k 0
   ·have hb : ¬0<q'.getD k 0:=fun hb=>h4 ⟨ha,hb⟩
    rw [if_pos ⟨ho,by omega⟩,if_pos ⟨ho,ha⟩,if_neg fun hh=>hb hh.2]
    omega
   ·by_cases hb:0<q'.getD k 0
    ·rw [if_pos ⟨ho,by omega⟩,if_neg fun hh=>ha hh.2,if_pos ⟨ho,hb⟩]
     omega
    ·rw [if_neg fun hh=>by have:=hh.2;omega,if_neg fun hh=>ha hh.2,if_neg fun hh=>hb hh.2]
     omega
  ·rw [if_neg fun hh=>ho hh.1,if_neg fun hh=>ho hh.1,if_neg fun hh=>ho hh.1]
   omega
theorem sgn_assoc (hd : ∀j,0≤ds.getD j 0∧ds.getD j 0≤12) {p q r:Pw} (hp:Nn p) (hq:Nn q) (hr:Nn r):sgn ds p q * sgn ds (addp p q) r=sgn ds q r * sgn ds p (addp q r):=by
 cases h1:hits ds p q with
 | true=>
  have h2:hits ds p (addp q r)=true:=by
   cases hh:hits ds p (addp q r) with
   | true=>rfl
   | false=>
    have:=hits_of (ds:=ds) (p:=p) (q:=q) fun i hi ho hx=>hits_at hh hi ho ⟨hx.1,by rw [addp_get hq.1 hr.1];have:=hr.2 i;omega⟩;rw [this] at h1
    cases h1
  rw [sgn_z0 h1,sgn_z0 h2,Int.zero_mul,Int.mul_zero]
 | false=>
  cases h3:hits ds q r with
  | true=>
   have h2:hits ds (addp p q) r=true:=by
    cases hh:hits ds (addp p q) r with
    | true=>rfl
    | false=>
     have:=hits_of (ds:=ds) (p:=q) (q:=r) fun i hi ho hx=>hits_at hh hi ho ⟨by rw [addp_get hp.1 hq.1];have:=hp.2 i;omega,hx.2⟩;rw [this] at h3
     cases h3
   rw [sgn_z0 h3,sgn_z0 h2,Int.zero_mul,Int.mul_zero]
  | false=>
   have e:hits ds (addp p q) r=hits ds p (addp q r):=by
    cases ha:hits ds p (addp q r) with
    | false=>
     refine hits_of fun i hi ho hx=>?_;have hx1:=hx.1;rw [addp_get hp.1 hq.1] at hx1;have h4:=hits_at ha hi ho;rw [addp_get hq.1 hr.1] at h4;have h5:=hits_at h3 hi ho;have:=hp.2 i;have:=hq.2 i
     by_cases hpi:0<p.getD i 0
     ·exact h4 ⟨hpi,by have:=hx.2;omega⟩
     ·exact h5 ⟨by omega,hx.2⟩
    | true=>
     cases hb:hits ds (addp p q) r with
     | true=>rfl
     | false=>
      have:=hits_of (ds:=ds) (p:=p) (q:=addp q r) fun i hi ho hx=>by
       have hx2:=hx.2;rw [addp_get hq.1 hr.1] at hx2;have h4:=hits_at hb hi ho;rw [addp_get hp.1 hq.1] at h4;have h5:=hits_at h1 hi ho;have:=hq.2 i;have:=hr.2 i
       by_cases hqi:0<q.getD i 0
       ·exact h5 ⟨hx.1,hqi⟩
       ·exact h4 ⟨by have:=hx.1;omega,by omega⟩
      rw [this] at ha
      cases ha
   cases h6:hits ds p (addp q r) with
   | true=>rw [sgn_z0 h6,sgn_z0 (e.trans h6),Int.mul_zero,Int.mul_zero]
   | false=>
    rw [sgn_par hd hp h1,sgn_par hd (hp.add hq) (e.trans h6),sgn_par hd hq h3,sgn_par hd hp h6,oddTo_addl hp.1 hq.1,oddTo_addr hq hr h3 _ (Nat.le_refl _),← par_add,← par_add]
    congr 1
    omega
end
def od (ds:Pw) (j:Nat):Int:=(ds.getD j 0).tmod 2
def eG (i:Nat):Pw:=(List.range 8).map fun j=>if j=i then 1 else 0
theorem eG_len (i:Nat):(eG i).length=8:=by simp [eG]
theorem eG_get {i j:Nat} (hi:i<8):(eG i).getD j 0=if j=i then 1 else 0:=by
 rcases Nat.lt_or_ge j 8 with h | h
 ·simp [eG,List.getD_eq_getElem?_getD,h]
 ·rw [getD_ge (by rw [eG_len];omega),if_neg (by omega)]
theorem eG_nn {i:Nat} (hi:i<8):Nn (eG i):=⟨eG_len i,fun j=>by rw [eG_get hi];split <;> omega⟩
def ow (ds p:Pw):Nat→Int
 | 0=>0
 | k+1=>ow ds p k+od ds k * p.getD k 0
section
variable {ds : Pw}
theorem od_cases (hd : ∀j,0≤ds.getD j 0∧ds.getD j 0≤12) (j:Nat):od ds j=0∨od ds j=1:=deg2 hd j
theorem oin_ow (p:Pw) (i:Nat) : ∀m,oin ds p i m=ow ds p (i+1+m) - ow ds p (i+1)
 | 0=>by simp [oin]
 | m+1=>by
  simp only [oin]
  rw [oin_ow p i m,show i+1+(m+1)=(i+1+m)+1 by omega]
  simp only [ow]
  show _+od ds (i+1+m) * _=_
  omega
theorem ow_eG {i:Nat} (hi:i<8) : ∀k,ow ds (eG i) k=if i<k then od ds i else 0
 | 0=>by simp [ow]
 | k+1=>by
  simp only [ow]
  rw [ow_eG hi k,eG_get hi]
  by_cases h:k=i
  ·subst h
   rw [if_neg (by omega),if_pos rfl,if_pos (by omega)]
   omega
  ·rw [if_neg h,Int.mul_zero]
   by_cases h2:i<k
   ·rw [if_pos h2,if_pos (by omega)]
    omega
   ·rw [if_neg h2,if_neg (by omega)]
    omega
def Od1 (ds p:Pw):Prop:=∀j,j<ds.length→od ds j=1→p.getD j 0≤1
theorem oddTo_r (hd : ∀j,0≤ds.getD j 0∧ds.getD j 0≤12) {t:Pw} {i:Nat} (hi:i<ds.length) (h8:ds.length≤8) : ∀k,k≤ds.length→oddTo ds t (eG i) k=if i<k then od ds i * (ow ds t ds.length - ow ds t (i+1)) else 0
 | 0,_=>by simp [oddTo]
 | k+1,hk=>by
  simp only [oddTo]
  rw [oddTo_r hd hi h8 k (by omega),eG_get (by omega),oin_ow,show k+1+(ds.length - (k+1))=ds.length by omega]
  by_cases h:k=i
  ·subst h
   rw [if_neg (show ¬k<k by omega),if_pos (show k<k+1 by omega),if_pos rfl]
   rcases od_cases hd k with h1 | h1
   ·rw [h1,if_neg fun hh=>hh.1 h1]
    omega
   ·rw [h1,if_pos ⟨by show od ds k≠0;omega,by decide⟩]
    omega
  ·have e : ¬((ds.getD k 0).tmod 2≠0∧0<if k=i then (1:Int) else 0):=fun hh=>by
    have h2:=hh.2
    rw [if_neg h] at h2
    omega
   rw [if_neg e]
   by_cases h2:i<k
   ·rw [if_pos h2,if_pos (by omega)]
    omega
   ·rw [if_neg h2,if_neg (by omega)]
    omega
theorem oddTo_l (hd : ∀j,0≤ds.getD j 0∧ds.getD j 0≤12) {t:Pw} (ht:Nn t) (h1:Od1 ds t) {i:Nat} (hi:i<ds.length) (h8:ds.length≤8) : ∀k,k≤ds.length→oddTo ds (eG i) t k=od ds i * ow ds t (min k i)
 | 0,_=>by simp [oddTo,ow]
 | k+1,hk=>by
  simp only [oddTo]
  rw [oddTo_l hd ht h1 hi h8 k (by omega),oin_ow,show k+1+(ds.length - (k+1))=ds.length by omega,ow_eG (by omega),ow_eG (by omega),if_pos hi]
  by_cases h:k<i
  ·rw [if_neg (show ¬i<k+1 by omega),Nat.min_eq_left (by omega),Nat.min_eq_left (by omega)]
   simp only [ow]
   have h2:=ht.2 k
   rcases od_cases hd k with h3 | h3
   ·rw [h3,if_neg fun hh=>hh.1 h3]
    simp
   ·have h4:=h1 k (by omega) h3
    rw [h3,Int.one_mul,Int.mul_add]
    by_cases h5:0<t.getD k 0
    ·rw [if_pos ⟨by show od ds k≠0;omega,h5⟩,show t.getD k 0=1 by omega]
     omega
    ·rw [if_neg fun hh=>h5 hh.2,show t.getD k 0=0 by omega]
     omega
  ·rw [if_pos (show i<k+1 by omega),Nat.min_eq_right (by omega),Nat.min_eq_right (by omega)]
   split <;> omega
theorem hits_symm (p q:Pw):hits ds p q=hits ds q p:=by
 unfold hits
 congr 1
 funext i
 unfold hitAt;rw [Bool.and_comm (decide (0<p.getD i 0))]
theorem emod_od (hd : ∀j,0≤ds.getD j 0∧ds.getD j 0≤12) (j:Nat):ds.getD j 0 % 2=od ds j:=by
 unfold od;rw [Int.tmod_eq_emod_of_nonneg (hd j).1]
theorem ow_par (hd : ∀j,0≤ds.getD j 0∧ds.getD j 0≤12) (p:Pw) : ∀k,wsum ds p k % 2=ow ds p k % 2
 | 0=>by simp [wsum,ow]
 | k+1=>by
  have ih:=ow_par hd p k
  have h1:(ds.getD k 0 * p.getD k 0) % 2=(od ds k * p.getD k 0) % 2:=by
   rw [Int.mul_emod,Int.mul_emod (od ds k),show od ds k % 2=ds.getD k 0 % 2 by rw [← emod_od hd k];omega]
  simp only [wsum,ow]
  omega
theorem par_mod {x y:Int} (h:x % 2=y % 2):par x=par y:=by unfold par;rw [h]
theorem sgn_comm (hd : ∀j,0≤ds.getD j 0∧ds.getD j 0≤12) {t:Pw} (ht:Nn t) (h1:Od1 ds t) {i:Nat} (hi:i<ds.length) (h8:ds.length≤8):sgn ds t (eG i)=par (wsum ds t ds.length * ds.getD i 0) * sgn ds (eG i) t:=by
 cases hh:hits ds t (eG i) with
 | true=>rw [sgn_z0 hh,sgn_z0 ((hits_symm _ _).trans hh),Int.mul_zero]
 | false=>
  have hg:hits ds (eG i) t=false:=(hits_symm _ _).trans hh;rw [sgn_par hd ht hh,sgn_par hd (eG_nn (by omega)) hg,oddTo_r hd hi h8 _ (Nat.le_refl _),if_pos hi,oddTo_l hd ht h1 hi h8 _ (Nat.le_refl _),Nat.min_eq_right (by omega),← par_add];refine par_mod ?_
  have hz:od ds i * (od ds i * t.getD i 0)=0:=by
   rcases od_cases hd i with h | h
   ·rw [h,Int.zero_mul]
   ·have h2:=hits_at hh hi (by show od ds i≠0;omega);rw [eG_get (by omega),if_pos rfl] at h2;have h3:=ht.2 i
    rw [show t.getD i 0=0 by
     rcases Int.lt_or_le 0 (t.getD i 0) with h4 | h4
     ·exact absurd ⟨h4,by decide⟩ h2
     ·omega]
    simp
  have e1:ow ds t (i+1)=ow ds t i+od ds i * t.getD i 0:=rfl
  have e2:(wsum ds t ds.length * ds.getD i 0) % 2=(ow ds t ds.length * od ds i) % 2:=by
   rw [Int.mul_emod,ow_par hd,Int.mul_emod (ow ds t ds.length),show od ds i % 2=ds.getD i 0 % 2 by rw [← emod_od hd i];omega]
  rw [e1,Int.mul_sub,Int.mul_add,hz];rw [Int.mul_comm (ow ds t ds.length)] at e2
  omega
theorem sgn_first (hd : ∀j,0≤ds.getD j 0∧ds.getD j 0≤12) {q:Pw} (hq:Nn q) {i:Nat} (hi:i<ds.length) (h8:ds.length≤8) (h0 : ∀j,j<i→q.getD j 0=0) (ho:od ds i=1→q.getD i 0=0):sgn ds (eG i) q=1:=by
 have hh:hits ds (eG i) q=false:=hits_of fun j hj hoj hx=>by
  have hx1:=hx.1;rw [eG_get (by omega)] at hx1
  by_cases e:j=i
  ·subst e;have h2:=ho ((od_cases hd j).resolve_left hoj);have:=hx.2
   omega
  ·rw [if_neg e] at hx1
   omega
 have hw : ∀k,k≤ds.length→oddTo ds (eG i) q k=0:=fun k=>by
  induction k with
  | zero=>intro _;rfl
  | succ k ih=>
   intro hk;simp only [oddTo];rw [ih (by omega)]
   by_cases h:k<i
   ·rw [if_neg fun hh=>by
     have h1:=h0 k h;have h2:=hh.2
     omega]
    rfl
   ·rw [oin_ow,ow_eG (by omega),ow_eG (by omega),show k+1+(ds.length - (k+1))=ds.length by omega,if_pos hi,if_pos (show i<k+1 by omega)]
    split <;> omega
 rw [sgn_par hd (eG_nn (by omega)) hh,hw _ (Nat.le_refl _)]
 rfl
end
section
variable {ds : Pw}
theorem wG_cong {G G':Pw→Int} : ∀{s:Sm},(∀x∈s,Mo (G x.1) (G' x.1))→Mo (wG G s) (wG G' s)
 | [],_=>Mo.refl _
 | x::s,h=>((h x (by simp)).mull x.2).add (wG_cong fun y hy=>h y (by simp [hy]))
theorem wG_addF (G G':Pw→Int) : ∀s:Sm,wG (fun p=>G p+G' p) s=wG G s+wG G' s
 | []=>rfl
 | x::s=>by
  simp only [wG]
  rw [wG_addF G G' s,Int.mul_add]
  omega
theorem wG_mulF (k:Int) (G:Pw→Int) : ∀s:Sm,wG (fun p=>k * G p) s=k * wG G s
 | []=>by simp [wG]
 | x::s=>by
  simp only [wG]
  rw [wG_mulF k G s,Int.mul_add,← Int.mul_assoc,← Int.mul_assoc,Int.mul_comm x.2 k]
theorem wG_zeroF : ∀s:Sm,wG (fun _=>0) s=0
 | []=>rfl
 | x::s=>by simp only [wG];rw [wG_zeroF s];omega
def lG (ds:Pw) (m:Pw) (G:Pw→Int) (q:Pw):Int:=sgn ds m q * G (addp m q)
def rG (ds:Pw) (q:Pw) (G:Pw→Int) (m:Pw):Int:=sgn ds m q * G (addp m q)
theorem wG_mul1 (G:Pw→Int) (x:Pw × Int) : ∀t:Sm,Mo (wG G (mul1 ds x t)) (x.2 * wG (lG ds x.1 G) t)
 | []=>by
  show Mo 0 (x.2 * 0)
  rw [Int.mul_zero]
  exact Mo.refl _
 | y::t=>by
  have ih:=wG_mul1 G x t
  have e:mul1 ds x (y::t)=(if sgn ds x.1 y.1=0 then [] else [(addp x.1 y.1,(sgn ds x.1 y.1 * x.2 * y.2).tmod 10007)])++mul1 ds x t:=rfl
  rw [e,wG_app]
  simp only [wG]
  rw [Int.mul_add]
  refine Mo.add ?_ ih
  split
  ·rename_i h
   show Mo 0 _
   unfold lG
   rw [h,Int.zero_mul,Int.mul_zero,Int.mul_zero]
   exact Mo.refl _
  ·show Mo (_ * G (addp x.1 y.1)+0) _
   rw [Int.add_zero]
   refine ((Mo.tmod _).mul _).trans ?_
   have e2:sgn ds x.1 y.1 * x.2 * y.2 * G (addp x.1 y.1)=x.2 * (y.2 * lG ds x.1 G y.1):=by
    unfold lG
    rw [Int.mul_comm (sgn ds x.1 y.1) x.2,Int.mul_assoc,Int.mul_assoc,Int.mul_left_comm (sgn ds x.1 y.1) y.2]
   rw [e2]
   exact Mo.refl _
theorem wG_mulL (G:Pw→Int) (t:Sm) : ∀s:Sm,Mo (wG G (mulL ds s t)) (wG (fun p=>wG (lG ds p G) t) s)
 | []=>Mo.refl _
 | x::s=>by
  have ih:=wG_mulL G t s
  have e:mulL ds (x::s) t=mul1 ds x t++mulL ds s t:=rfl
  rw [e,wG_app]
  exact (wG_mul1 G x t).add ih
theorem wG_times (G:Pw→Int) (s t:Sm):Mo (wG G (timesS ds s t)) (wG (fun p=>wG (lG ds p G) t) s):=by
 have h:=wG_acc G (mulL ds s t) [];have h0:wG G []=0:=rfl;rw [h0,Int.zero_add] at h;exact h.trans (wG_mulL G t s)
def tG (ds:Pw) (im:Sm) (p:Pw) (i:Nat) (G:Pw→Int):Int:=wG (fun r=>sgn ds (leftP p i) r * (sgn ds (addp (leftP p i) r) (behP p (i+1)) * G (addp (addp (leftP p i) r) (behP p (i+1))))) im
theorem wG_dT (G:Pw→Int) (im:Sm) (p:Pw) (i:Nat):Mo (wG G (dT ds im p i)) (tG ds im p i G):=by
 unfold dT;refine (wG_times G _ _).trans ((wG_times _ _ _).trans ?_);simp only [wG,Int.one_mul,Int.add_zero];refine wG_cong fun x _=>?_;unfold lG;exact Mo.refl _
def dG (ds:Pw) (fs:List (List Term)) (G:Pw→Int) (p:Pw):Nat→Int
 | 0=>0
 | k+1=>dG ds fs G p k+if 0<p.getD k 0 then dsg ds p k * (p.getD k 0 * tG ds (toS (fm fs k)) p k G) else 0
theorem wG_dLk (fs:List (List Term)) (G:Pw→Int) (x:Pw × Int) : ∀k,Mo (wG G (dLk ds fs x k)) (x.2 * dG ds fs G x.1 k)
 | 0=>by
  show Mo 0 (x.2 * 0)
  rw [Int.mul_zero]
  exact Mo.refl _
 | k+1=>by
  have ih:=wG_dLk fs G x k
  rw [dLk_succ,wG_app]
  simp only [dG]
  rw [Int.mul_add]
  refine ih.add ?_
  unfold dP
  split
  ·refine (wG_scl G _ _).trans ?_
   refine ((wG_dT G _ _ _).mull _).trans ?_
   refine ((Mo.fld _).mul _).trans ?_
   have e:dsg ds x.1 k * x.2 * x.1.getD k 0 * tG ds (toS (fm fs k)) x.1 k G=x.2 * (dsg ds x.1 k * (x.1.getD k 0 * tG ds (toS (fm fs k)) x.1 k G)):=by
    rw [Int.mul_comm (dsg ds x.1 k) x.2,Int.mul_assoc,Int.mul_assoc]
   rw [e]
   exact Mo.refl _
  ·rw [Int.mul_zero]
   exact Mo.refl _
theorem wG_dAll (fs:List (List Term)) (G:Pw→Int) : ∀s:Sm,Mo (wG G (dAll ds fs s)) (wG (fun p=>dG ds fs G p 8) s)
 | []=>Mo.refl _
 | x::s=>by
  have ih:=wG_dAll fs G s
  have e:dAll ds fs (x::s)=dLk ds fs x 8++dAll ds fs s:=rfl
  rw [e,wG_app]
  exact (wG_dLk fs G x 8).add ih
theorem wG_dS (fs:List (List Term)) (G:Pw→Int) (s:Sm):Mo (wG G (dS ds fs s)) (wG (fun p=>dG ds fs G p 8) s):=by
 have h:=wG_acc G (dAll ds fs s) [];have h0:wG G []=0:=rfl;rw [h0,Int.zero_add] at h;exact h.trans (wG_dAll fs G s)
theorem cf_wG {M:Int} (p:Pw) : ∀{u:Sm},Sok M u→cf u p=wG (ind p) u
 | [],_=>rfl
 | x::u,h=>by
  have ih:=cf_wG p h.tail
  have hn:=List.nodup_cons.1 (show (x.1::u.map (·.1)).Nodup from h.nodup)
  show (if x.1=p then x.2 else cf u p)=x.2 * ind p x.1+wG (ind p) u
  unfold ind at ih ⊢
  by_cases e:x.1=p
  ·rw [if_pos e,if_pos e,← ih,cf_none fun y hy h2=>hn.1 (List.mem_map.2 ⟨y,hy,h2.trans e.symm⟩)]
   omega
  ·rw [if_neg e,if_neg e,← ih]
   omega
end
section
variable {ds : Pw} {q : Pw} {i : Nat}
theorem ea_get (hq:q.length=8) (hi:i<8) (j:Nat):(addp (eG i) q).getD j 0=(if j=i then 1 else 0)+q.getD j 0:=by rw [addp_get (eG_len i) hq,eG_get hi]
theorem dsg_first (hd : ∀j,0≤ds.getD j 0∧ds.getD j 0≤12) (hq:q.length=8) (hi:i<ds.length) (h8:ds.length≤8) (ho:od ds i=1→q.getD i 0=0) : ∀k,dsg ds (addp (eG i) q) k=(if i<k then par (od ds i) else 1) * dsg ds q k
 | 0=>by simp [dsg]
 | k+1=>by
  have ih:=dsg_first hd hq hi h8 ho k
  simp only [dsg]
  rw [ih,ea_get hq (by omega)]
  by_cases e:k=i
  ·subst e
   rw [if_neg (show ¬k<k by omega),if_pos rfl,if_pos (show k<k+1 by omega),Int.one_mul]
   rcases od_cases hd k with h | h
   ·have h' : ¬(ds.getD k 0).tmod 2=1:=fun hh=>by
     have:od ds k=1:=hh
     omega
    rw [if_neg fun hh=>h' hh.2.1,if_neg fun hh=>h' hh.2.1,h]
    show _=1 * _
    omega
   ·rw [ho h,if_pos ⟨hi,h,by decide⟩,if_neg fun hh=>absurd hh.2.2 (by decide),h]
    show _ = -1 * _
    omega
  ·rw [if_neg e,Int.zero_add]
   have e2:(if i<k then par (od ds i) else 1)=if i<k+1 then par (od ds i) else 1:=by
    by_cases h:i<k
    ·rw [if_pos h,if_pos (by omega)]
    ·rw [if_neg h,if_neg (by omega)]
   rw [e2]
   split
   ·rw [Int.mul_sub,Int.mul_zero]
   ·rfl
theorem behP_first (hq:q.length=8) (hi:i<8) {k:Nat} (hk:i<k):behP (addp (eG i) q) k=behP q k:=list8 (by simp) (by simp) fun j hj=>by
 rw [behP_get hj,behP_get hj,ea_get hq hi]
 by_cases h:j<k
 ·rw [if_pos h,if_pos h]
 ·rw [if_neg h,if_neg h,if_neg (by omega)]
  omega
theorem leftP_at {x:Pw} {k j:Nat} (hj:j<8):(leftP x k).getD j 0=if k=j then x.getD k 0 - 1 else if j<k then x.getD j 0 else 0:=by
 unfold leftP;rw [getD_set8]
 by_cases e:k=j
 ·subst e
  have hl:k<(aheadP x k).length:=by simpa using hj
  rw [if_pos ⟨rfl,hl⟩,if_pos rfl]
 ·rw [if_neg fun h=>e h.1,if_neg e,aheadP_get hj]
theorem leftP_first (hq:q.length=8) (hi:i<8) {k:Nat} (hk:i≤k):leftP (addp (eG i) q) k=addp (eG i) (leftP q k):=by
 refine list8 (by simp [leftP]) (by simp) fun j hj=>?_
 have hl:(leftP q k).length=8:=by simp [leftP]
 rw [addp_get (eG_len i) hl,eG_get hi,leftP_at hj,leftP_at hj,ea_get hq hi,ea_get hq hi]
 by_cases e:k=j
 ·subst e;rw [if_pos rfl,if_pos rfl]
  omega
 ·rw [if_neg e,if_neg e]
  by_cases h:j<k
  ·rw [if_pos h,if_pos h]
  ·rw [if_neg h,if_neg h,if_neg (show ¬j=i by omega)]
   rfl
end
theorem addp_assoc {p q r:Pw} (hp:p.length=8) (hq:q.length=8) (hr:r.length=8):addp (addp p q) r=addp p (addp q r):=list8 (by simp) (by simp) fun j _=>by
 rw [addp_get (by simp) hr,addp_get hp hq,addp_get hp (by simp),addp_get hq hr]
 omega
section
variable {ds : Pw} {q : Pw} {i : Nat}
theorem leftP_nn {x:Pw} {k:Nat} (hx:Nn x) (h:0<x.getD k 0) (hk:k<8):Nn (leftP x k):=⟨by simp [leftP],fun j=>by
 rcases Nat.lt_or_ge j 8 with hj | hj
 ·rw [leftP_at hj]
  have:=hx.2 j
  split
  ·omega
  ·split <;> omega
 ·rw [getD_ge (by simp [leftP];omega)]
  omega⟩
theorem behP_nn {x:Pw} {k:Nat} (hx:Nn x):Nn (behP x k):=⟨by simp,fun j=>by
 rcases Nat.lt_or_ge j 8 with hj | hj
 ·rw [behP_get hj]
  have:=hx.2 j
  split <;> omega
 ·rw [getD_ge (by simp;omega)]
  omega⟩
theorem tG_first (hd : ∀j,0≤ds.getD j 0∧ds.getD j 0≤12) (hq:Nn q) (hi:i<ds.length) (h8:ds.length≤8) (h0 : ∀j,j<i→q.getD j 0=0) (ho:od ds i=1→q.getD i 0=0) {im:Sm} (him : ∀x∈im,Nn x.1) (G:Pw→Int) {k:Nat} (hk:i<k) (hk8:k<8) (hqk:0<q.getD k 0):tG ds im (addp (eG i) q) k G=tG ds im q k (lG ds (eG i) G):=by
 unfold tG;rw [leftP_first hq.1 (by omega) (by omega),behP_first hq.1 (by omega) (by omega)];have hl:=leftP_nn hq hqk hk8;have hb:Nn (behP q (k+1)):=behP_nn hq;have he:Nn (eG i):=eG_nn (by omega);have hf:sgn ds (eG i) (leftP q k)=1:=sgn_first hd hl hi h8 (fun j hj=>by rw [leftP_at (by omega),if_neg (by omega),if_pos (by omega),h0 j hj]) (fun h=>by rw [leftP_at (by omega),if_neg (by omega),if_pos (by omega),ho h])
 have key : ∀s:Sm,(∀x∈s,Nn x.1)→wG (fun r=>sgn ds (addp (eG i) (leftP q k)) r * (sgn ds (addp (addp (eG i) (leftP q k)) r) (behP q (k+1)) * G (addp (addp (addp (eG i) (leftP q k)) r) (behP q (k+1))))) s=wG (fun r=>sgn ds (leftP q k) r * (sgn ds (addp (leftP q k) r) (behP q (k+1)) * lG ds (eG i) G (addp (addp (leftP q k) r) (behP q (k+1))))) s:=fun s=>by
  induction s with
  | nil=>intro _;rfl
  | cons x s ih=>
   intro hs;have hx:=hs x (by simp);simp only [wG];rw [ih fun y hy=>hs y (by simp [hy])]
   congr 2
   have a1:=sgn_assoc hd he hl hx;rw [hf,Int.one_mul] at a1;have a2:=sgn_assoc hd he (hl.add hx) hb;unfold lG;rw [a1,addp_assoc he.1 hl.1 hx.1,Int.mul_assoc,addp_assoc he.1 (hl.add hx).1 hb.1,← Int.mul_assoc (sgn ds (eG i) (addp (leftP q k) x.1)),a2,Int.mul_assoc]
 exact key im him
end
section
variable {ds : Pw} {q : Pw} {i : Nat}
def Ev (ds m:Pw):Prop:=∀j,j<ds.length→od ds j=1→m.getD j 0=0
theorem Ev.ow (hd : ∀j,0≤ds.getD j 0∧ds.getD j 0≤12) {m:Pw} (h:Ev ds m) : ∀k,k≤ds.length→G.ow ds m k=0
 | 0,_=>rfl
 | k+1,hk=>by
  simp only [G.ow]
  rw [Ev.ow hd h k (by omega)]
  rcases od_cases hd k with e | e
  ·rw [e];omega
  ·rw [h k (by omega) e];omega
theorem Ev.hitl (hd : ∀j,0≤ds.getD j 0∧ds.getD j 0≤12) {m r:Pw} (h:Ev ds m):hits ds m r=false:=hits_of fun j hj hoj hx=>by
 have:=h j hj ((od_cases hd j).resolve_left hoj)
 have:=hx.1
 omega
theorem Ev.oddl (hd : ∀j,0≤ds.getD j 0∧ds.getD j 0≤12) {m:Pw} (h:Ev ds m) (r:Pw) : ∀k,k≤ds.length→oddTo ds m r k=0
 | 0,_=>rfl
 | k+1,hk=>by
  simp only [oddTo]
  rw [Ev.oddl hd h r k (by omega),oin_ow,show k+1+(ds.length - (k+1))=ds.length by omega,h.ow hd _ (Nat.le_refl _),h.ow hd _ hk]
  split <;> rfl
theorem Ev.oddr (hd : ∀j,0≤ds.getD j 0∧ds.getD j 0≤12) {m:Pw} (h:Ev ds m) (r:Pw) : ∀k,k≤ds.length→oddTo ds r m k=0
 | 0,_=>rfl
 | k+1,hk=>by
  simp only [oddTo]
  rw [Ev.oddr hd h r k (by omega),if_neg fun hh=>by
   have:=h k (by omega) ((od_cases hd k).resolve_left hh.1)
   have:=hh.2
   omega]
  rfl
theorem Ev.sgnl (hd : ∀j,0≤ds.getD j 0∧ds.getD j 0≤12) {m:Pw} (h:Ev ds m) (hm:Nn m) (r:Pw):sgn ds m r=1:=by
 rw [sgn_par hd hm (h.hitl hd),h.oddl hd r _ (Nat.le_refl _)]
 rfl
theorem Ev.sgnr (hd : ∀j,0≤ds.getD j 0∧ds.getD j 0≤12) {m r:Pw} (h:Ev ds m) (hr:Nn r):sgn ds r m=1:=by
 rw [sgn_par hd hr ((hits_symm _ _).trans (h.hitl hd)),h.oddr hd r _ (Nat.le_refl _)]
 rfl
theorem Ev.left (hd : ∀j,0≤ds.getD j 0∧ds.getD j 0≤12) {m r b:Pw} (h:Ev ds m) (hm:Nn m) (hr:Nn r) (hb:Nn b):sgn ds (addp m r) b=sgn ds r b:=by
 have a:=sgn_assoc hd hm hr hb
 rwa [h.sgnl hd hm,h.sgnl hd hm,Int.one_mul,Int.mul_one] at a
theorem Ev.right (hd : ∀j,0≤ds.getD j 0∧ds.getD j 0≤12) {m r b:Pw} (h:Ev ds m) (hm:Nn m) (hr:Nn r) (hb:Nn b):sgn ds r (addp m b)=sgn ds r b:=by
 have a:=sgn_assoc hd hr hm hb;rw [h.sgnr hd hr,h.sgnl hd hm,Int.one_mul,Int.one_mul] at a
 have e:addp r m=addp m r:=list8 (by simp) (by simp) fun j _=>by rw [addp_get hr.1 hm.1,addp_get hm.1 hr.1];omega
 rw [e,h.left hd hm hr hb] at a;exact a.symm
end
theorem addp_comm {p q:Pw} (hp:p.length=8) (hq:q.length=8):addp p q=addp q p:=list8 (by simp) (by simp) fun j _=>by
 rw [addp_get hp hq,addp_get hq hp]
 omega
theorem addp_left {p q r:Pw} (hp:p.length=8) (hq:q.length=8) (hr:r.length=8):addp p (addp q r)=addp q (addp p r):=by
 rw [← addp_assoc hp hq hr,addp_comm hp hq,addp_assoc hq hp hr]
section
variable {ds : Pw} {fs : List (List Term)} {q : Pw} {i : Nat}
theorem dsg_zero : ∀k,(∀j,j<k→q.getD j 0=0)→dsg ds q k=1
 | 0,_=>rfl
 | k+1,h0=>by
  simp only [dsg]
  rw [dsg_zero k fun j hj=>h0 j (by omega),if_neg fun h=>by
   have h2:=h.2.2
   rw [h0 k (by omega)] at h2
   exact absurd h2 (by decide)]
theorem tG_ev (hd : ∀j,0≤ds.getD j 0∧ds.getD j 0≤12) {im:Sm} (him : ∀x∈im,Nn x.1) {p:Pw} (hm:Ev ds (leftP p i)) (nm:Nn (leftP p i)) (nb:Nn (behP p (i+1))) (G:Pw→Int):tG ds im p i G=wG (fun r=>sgn ds r (addp (leftP p i) (behP p (i+1))) * G (addp r (addp (leftP p i) (behP p (i+1))))) im:=by
 unfold tG;generalize leftP p i=m at hm nm;generalize behP p (i+1)=b at nb
 have key : ∀s:Sm,(∀x∈s,Nn x.1)→wG (fun r=>sgn ds m r * (sgn ds (addp m r) b * G (addp (addp m r) b))) s=wG (fun r=>sgn ds r (addp m b) * G (addp r (addp m b))) s:=fun s=>by
  induction s with
  | nil=>intro _;rfl
  | cons x s ih=>
   intro hs;have hx:=hs x (by simp);simp only [wG];rw [ih fun y hy=>hs y (by simp [hy]),hm.sgnl hd nm,hm.left hd nm hx nb,hm.right hd nm hx nb,Int.one_mul,addp_comm nm.1 hx.1,addp_assoc hx.1 nm.1 nb.1]
 exact key im him
theorem dG_first (hd : ∀j,0≤ds.getD j 0∧ds.getD j 0≤12) (hq:Nn q) (hi:i<ds.length) (h8:ds.length≤8) (h0 : ∀j,j<i→q.getD j 0=0) (ho:od ds i=1→q.getD i 0=0) (him : ∀k,∀x∈toS (fm fs k),Nn x.1) (G:Pw→Int) : ∀k,k≤8→dG ds fs G (addp (eG i) q) k=(if i<k then wG (fun r=>sgn ds r q * G (addp r q)) (toS (fm fs i)) else 0)+par (od ds i) * dG ds fs (lG ds (eG i) G) q k
 | 0,_=>by simp [dG]
 | k+1,hk=>by
  have ih:=dG_first hd hq hi h8 h0 ho him G k (by omega)
  have he:Nn (eG i):=eG_nn (by omega)
  simp only [dG]
  rw [ih,ea_get hq.1 (by omega)]
  rcases Nat.lt_trichotomy k i with h | h | h
  ·rw [if_neg (show ¬i<k by omega),if_neg (show ¬i<k+1 by omega),if_neg (show ¬k=i by omega),h0 k h,if_neg (by omega),if_neg (by omega)]
   simp
  ·subst h
   have hp:=he.add hq
   have hpk:(addp (eG k) q).getD k 0=1+q.getD k 0:=by rw [ea_get hq.1 (by omega),if_pos rfl]
   have hqk:=hq.2 k
   have evl:Ev ds (leftP (addp (eG k) q) k):=fun j hj hjo=>by
    rw [leftP_at (by omega)]
    by_cases e:k=j
    ·subst e
     rw [if_pos rfl,hpk,ho hjo]
     rfl
    ·rw [if_neg e]
     by_cases h2:j<k
     ·rw [if_pos h2,ea_get hq.1 (by omega),if_neg (by omega),h0 j h2]
      rfl
     ·rw [if_neg h2]
   have e:addp (leftP (addp (eG k) q) k) (behP (addp (eG k) q) (k+1))=q:=list8 (by simp) hq.1 fun j hj=>by
    rw [addp_get (by simp) (by simp),leftP_at hj,behP_get hj,ea_get hq.1 (by omega),ea_get hq.1 (by omega),if_pos rfl]
    rcases Nat.lt_trichotomy j k with h2 | h2 | h2
    ·rw [if_neg (by omega),if_pos h2,if_neg (by omega),if_pos (by omega),h0 j h2]
     rfl
    ·subst h2
     rw [if_pos rfl,if_pos (by omega)]
     omega
    ·rw [if_neg (by omega),if_neg (by omega),if_neg (by omega),if_neg (by omega)]
     omega
   have hT:tG ds (toS (fm fs k)) (addp (eG k) q) k G=wG (fun r=>sgn ds r q * G (addp r q)) (toS (fm fs k)):=by
    rw [tG_ev hd (him k) evl (leftP_nn hp (by omega) (by omega)) (behP_nn hp),e]
   have hs:dsg ds (addp (eG k) q) k=1:=dsg_zero k fun j hj=>by
    rw [ea_get hq.1 (by omega),if_neg (by omega),h0 j hj]
    rfl
   rw [if_neg (show ¬k<k by omega),if_pos (show k<k+1 by omega),if_pos rfl,if_pos (by omega),hT,hs]
   by_cases h3:0<q.getD k 0
   ·have h2:od ds k=0:=(od_cases hd k).resolve_right fun h2=>by
     have:=ho h2
     omega
    have eve:Ev ds (eG k):=fun j hj hjo=>by
     rw [eG_get (by omega),if_neg fun e2=>by
      rw [e2] at hjo
      omega]
    have evl2:Ev ds (leftP q k):=fun j hj hjo=>by
     rw [leftP_at (by omega),if_neg fun e2=>by
      rw [← e2] at hjo
      omega]
     by_cases h5:j<k
     ·rw [if_pos h5,h0 j h5]
     ·rw [if_neg h5]
    have e3:addp (eG k) (addp (leftP q k) (behP q (k+1)))=q:=list8 (by simp) hq.1 fun j hj=>by
     rw [ea_get (by simp) (by omega),addp_get (by simp) (by simp),leftP_at hj,behP_get hj]
     rcases Nat.lt_trichotomy j k with h2 | h2 | h2
     ·rw [if_neg (by omega),if_neg (by omega),if_pos h2,if_pos (by omega),h0 j h2]
      rfl
     ·subst h2
      rw [if_pos rfl,if_pos rfl,if_pos (by omega)]
      omega
     ·rw [if_neg (by omega),if_neg (by omega),if_neg (by omega),if_neg (by omega)]
      omega
    have nl:Nn (leftP q k):=leftP_nn hq h3 (by omega)
    have nb:Nn (behP q (k+1)):=behP_nn hq
    have hT':tG ds (toS (fm fs k)) q k (lG ds (eG k) G)=wG (fun r=>sgn ds r q * G (addp r q)) (toS (fm fs k)):=by
     rw [tG_ev hd (him k) evl2 nl nb]
     have nlb:=nl.add nb
     generalize addp (leftP q k) (behP q (k+1))=c at e3 nlb
     have key : ∀s:Sm,(∀x∈s,Nn x.1)→wG (fun r=>sgn ds r c * lG ds (eG k) G (addp r c)) s=wG (fun r=>sgn ds r q * G (addp r q)) s:=fun s=>by
      induction s with
      | nil=>intro _;rfl
      | cons x s ih=>
       intro hs
       have hx:=hs x (by simp)
       simp only [wG]
       rw [ih fun y hy=>hs y (by simp [hy])]
       congr 2
       unfold lG
       rw [eve.sgnl hd he,Int.one_mul,addp_left he.1 hx.1 nlb.1,← e3,eve.right hd he hx nlb]
     exact key _ (him k)
    rw [if_pos h3,hT',dsg_zero k h0,h2,show par 0=1 from rfl]
    simp only [Int.one_mul,Int.add_mul]
    omega
   ·rw [if_neg h3,show q.getD k 0=0 by omega]
    simp only [Int.one_mul,Int.add_zero]
    omega
  ·rw [if_pos h,if_pos (show i<k+1 by omega),if_neg (show ¬k=i by omega),Int.zero_add]
   by_cases h3:0<q.getD k 0
   ·rw [if_pos h3,if_pos h3,tG_first hd hq hi h8 h0 ho (him k) G h (by omega) h3,dsg_first hd hq.1 hi h8 ho,if_pos h,Int.mul_add,Int.mul_assoc,Int.add_assoc]
   ·rw [if_neg h3,if_neg h3,Int.add_zero,Int.add_zero]
end
section
variable {ds : Pw} {fs : List (List Term)} {p : Pw}
theorem wG_eq {G G':Pw→Int} : ∀{s:Sm},(∀x∈s,G x.1=G' x.1)→wG G s=wG G' s
 | [],_=>rfl
 | x::s,h=>by
  simp only [wG]
  rw [h x (by simp),wG_eq fun y hy=>h y (by simp [hy])]
theorem tG_add (im:Sm) (p:Pw) (i:Nat) (G G':Pw→Int):tG ds im p i (fun x=>G x+G' x)=tG ds im p i G+tG ds im p i G':=by
 unfold tG;rw [← wG_addF]
 exact wG_eq fun x _=>by simp only [Int.mul_add]
theorem tG_mul (im:Sm) (p:Pw) (i:Nat) (c:Int) (G:Pw→Int):tG ds im p i (fun x=>c * G x)=c * tG ds im p i G:=by
 unfold tG;rw [← wG_mulF]
 have e : ∀a b g:Int,a * (b * (c * g))=c * (a * (b * g)):=fun a b g=>by rw [Int.mul_left_comm b c,Int.mul_left_comm a c]
 exact wG_eq fun x _=>e _ _ _
theorem dG_add (G G':Pw→Int) (p:Pw) : ∀k,dG ds fs (fun x=>G x+G' x) p k=dG ds fs G p k+dG ds fs G' p k
 | 0=>rfl
 | k+1=>by
  simp only [dG]
  rw [dG_add G G' p k]
  split
  ·rw [tG_add,Int.mul_add,Int.mul_add]
   omega
  ·omega
theorem dG_mul (c:Int) (G:Pw→Int) (p:Pw) : ∀k,dG ds fs (fun x=>c * G x) p k=c * dG ds fs G p k
 | 0=>by simp [dG]
 | k+1=>by
  simp only [dG]
  rw [dG_mul c G p k,Int.mul_add]
  split
  ·rw [tG_mul,Int.mul_left_comm (p.getD k 0) c,Int.mul_left_comm (dsg ds p k) c]
  ·rw [Int.mul_zero]
theorem dG_zero (p:Pw) (k:Nat):dG ds fs (fun _=>0) p k=0:=by
 have h:=dG_mul (ds:=ds) (fs:=fs) 0 (fun _=>0) p k
 simpa using h
theorem dG_zP (G:Pw→Int) : ∀k,dG ds fs G zP k=0
 | 0=>rfl
 | k+1=>by
  simp only [dG]
  rw [dG_zP G k,if_neg (by rw [zP_get];omega)]
  rfl
theorem dG_wG (F:Pw→Pw→Int) (p:Pw) (k:Nat) : ∀im:Sm,dG ds fs (fun x=>wG (fun t=>F t x) im) p k=wG (fun t=>dG ds fs (F t) p k) im
 | []=>dG_zero p k
 | y::im=>by
  show dG ds fs (fun x=>y.2 * F y.1 x+wG (fun t=>F t x) im) p k=y.2 * dG ds fs (F y.1) p k+wG (fun t=>dG ds fs (F t) p k) im
  rw [dG_add (fun x=>y.2 * F y.1 x),dG_mul,dG_wG F p k im]
theorem ex_le {p q:Pw} (h:Ex ds p) (hq:Nn q) (hle : ∀j,q.getD j 0≤p.getD j 0):Ex ds q:=⟨fun j hj=>by
 have:=h.out j hj
 have:=hle j
 have:=hq.2 j
 omega,fun j hj ho=>by
 have:=h.odd j hj ho
 have:=hle j
 omega⟩
theorem ex_sum {p q:Pw} (hp:Nn p) (hq:Nn q) (h1:Ex ds p) (h2:Ex ds q) (hs:sgn ds p q≠0):Ex ds (addp p q):=⟨fun j hj=>by
 rw [addp_get hp.1 hq.1,h1.out j hj,h2.out j hj]
 rfl,fun j hj ho=>by
 rw [addp_get hp.1 hq.1]
 have hh:hits ds p q=false:=by
  cases h:hits ds p q with
  | false=>rfl
  | true=>exact absurd (sgn_z0 h) hs
 have h3:=hits_at hh hj ho
 have:=h1.odd j hj ho
 have:=h2.odd j hj ho
 have:=hp.2 j
 have:=hq.2 j
 omega⟩
theorem leftP_xn {k:Nat} (hp:Nn p) (hx:Ex ds p) (h:0<p.getD k 0) (hk:k<8):Ex ds (leftP p k):=ex_le hx (leftP_nn hp h hk) fun j=>by
 have:=hp.2 j
 rcases Nat.lt_or_ge j 8 with hj | hj
 ·rw [leftP_at hj]
  split
  ·rename_i e
   rw [e]
   omega
  ·split <;> omega
 ·rw [getD_ge (by simp;omega)]
  exact hp.2 j
theorem behP_xn {k:Nat} (hp:Nn p) (hx:Ex ds p):Ex ds (behP p k):=ex_le hx (behP_nn hp) fun j=>by
 have:=hp.2 j
 rcases Nat.lt_or_ge j 8 with hj | hj
 ·rw [behP_get hj]
  split <;> omega
 ·rw [getD_ge (by simp;omega)]
  exact hp.2 j
def Img (ds:Pw) (fs:List (List Term)):Prop:=∀k,∀x∈toS (fm fs k),Nn x.1∧Ex ds x.1∧wsum ds x.1 ds.length=ds.getD k 0+1
theorem dG_cong (hI:Img ds fs) (hp:Nn p) (hx:Ex ds p) {G G':Pw→Int} (h : ∀x,Nn x→Ex ds x→G x=G' x) : ∀k,k≤8→dG ds fs G p k=dG ds fs G' p k
 | 0,_=>rfl
 | k+1,hk=>by
  simp only [dG]
  rw [dG_cong hI hp hx h k (by omega)]
  split
  ·rename_i h0
   have e:tG ds (toS (fm fs k)) p k G=tG ds (toS (fm fs k)) p k G':=by
    unfold tG
    refine wG_eq fun x hxm=>?_
    obtain ⟨a1,a2,_⟩:=hI k x hxm
    have l1:=leftP_nn hp h0 (show k<8 by omega)
    have b1:Nn (behP p (k+1)):=behP_nn hp
    by_cases s1:sgn ds (leftP p k) x.1=0
    ·rw [s1,Int.zero_mul,Int.zero_mul]
    ·have e1:=ex_sum l1 a1 (leftP_xn hp hx h0 (by omega)) a2 s1
     by_cases s2:sgn ds (addp (leftP p k) x.1) (behP p (k+1))=0
     ·rw [s2,Int.zero_mul,Int.zero_mul]
     ·rw [h _ ((l1.add a1).add b1) (ex_sum (l1.add a1) b1 e1 (behP_xn hp hx) s2)]
   rw [e]
  ·rfl
theorem zP_nn:Nn zP:=⟨by simp [zP],fun j=>by rw [zP_get];omega⟩
theorem wrd_addp {p q:Pw} (hp:p.length=8) (hq:q.length=8) : ∀n,wrd (addp p q) n=wrd p n+wrd q n
 | 0=>rfl
 | n+1=>by
  simp only [wrd]
  rw [wrd_addp hp hq n,addp_get hp hq]
  omega
theorem wrd_eG {i:Nat} (hi:i<8) : ∀n,wrd (eG i) n=if i<n then 1 else 0
 | 0=>by simp [wrd]
 | n+1=>by
  simp only [wrd]
  rw [wrd_eG hi n,eG_get hi]
  rcases Nat.lt_trichotomy n i with h | h | h
  ·rw [if_neg (by omega),if_neg (by omega),if_neg (by omega)]
   rfl
  ·subst h
   rw [if_neg (by omega),if_pos rfl,if_pos (by omega)]
   rfl
  ·rw [if_pos h,if_neg (by omega),if_pos (by omega)]
   rfl
theorem wsum_eG {i:Nat} (hi:i<8) : ∀n,wsum ds (eG i) n=if i<n then ds.getD i 0 else 0
 | 0=>by simp [wsum]
 | n+1=>by
  simp only [wsum]
  rw [wsum_eG hi n,eG_get hi]
  rcases Nat.lt_trichotomy n i with h | h | h
  ·rw [if_neg (by omega),if_neg (by omega),if_neg (by omega),Int.mul_zero]
   rfl
  ·subst h
   rw [if_neg (by omega),if_pos rfl,if_pos (by omega),Int.mul_one]
   omega
  ·rw [if_pos h,if_neg (by omega),if_pos (by omega),Int.mul_zero,Int.add_zero]
theorem mono_ind0 (h8:ds.length≤8) {P:Pw→Prop} (z:P zP) (s : ∀j q,j<ds.length→Nn q→Ex ds q→(∀k,k<j→q.getD k 0=0)→(od ds j=1→q.getD j 0=0)→P q→P (addp (eG j) q)) : ∀n:Nat,∀p,Nn p→Ex ds p→wrd p 8≤n→P p:=fun n=>by
 induction n with
 | zero=>
  intro p hp hx hw
  have e:p=zP:=list8 hp.1 (by simp [zP]) fun j hj=>by
   have:=get_wrd hp.2 8 j hj
   have:=hp.2 j
   rw [zP_get]
   omega
  rw [e]
  exact z
 | succ n ih=>
  intro p hp hx hw
  rcases first_of (fun j=>decide (0<p.getD j 0)) 8 with h | ⟨j,h1,h2,h3⟩
  ·have e:p=zP:=list8 hp.1 (by simp [zP]) fun j hj=>by
    have:=h j hj
    have:=hp.2 j
    rw [zP_get]
    simp only [decide_eq_false_iff_not] at *
    omega
   rw [e]
   exact z
  ·have hj:0<p.getD j 0:=by simpa using h2
   have hlt:j<ds.length:=by
    rcases Nat.lt_or_ge j ds.length with h | h
    ·exact h
    ·have:=hx.out j h
     omega
   have z0 : ∀k,k<j→p.getD k 0=0:=fun k hk=>by
    have:=h3 k hk
    have:=hp.2 k
    simp only [decide_eq_false_iff_not] at *
    omega
   have hg : ∀k,(p.set j (p.getD j 0 - 1)).getD k 0=if k=j then p.getD j 0 - 1 else p.getD k 0:=fun k=>by
    rw [getD_set8]
    by_cases e:k=j
    ·rw [if_pos e,if_pos ⟨e.symm,by rw [hp.1];exact h1⟩]
    ·rw [if_neg e,if_neg fun h=>e h.1.symm]
   have nq:Nn (p.set j (p.getD j 0 - 1)):=⟨by simp [hp.1],fun k=>by
    rw [hg]
    have:=hp.2 k
    split <;> omega⟩
   have xq:Ex ds (p.set j (p.getD j 0 - 1)):=ex_le hx nq fun k=>by
    rw [hg]
    split
    ·rename_i e
     rw [e]
     omega
    ·omega
   have e:p=addp (eG j) (p.set j (p.getD j 0 - 1)):=list8 hp.1 (by simp) fun k hk=>by
    rw [ea_get nq.1 h1,hg]
    by_cases e:k=j
    ·rw [if_pos e,if_pos e,e]
     omega
    ·rw [if_neg e,if_neg e]
     omega
   have hw2:wrd p 8=1+wrd (p.set j (p.getD j 0 - 1)) 8:=by
    conv=>lhs;rw [e]
    rw [wrd_addp (eG_len j) nq.1,wrd_eG h1,if_pos h1]
   rw [e]
   refine s j _ hlt nq xq (fun k hk=>by rw [hg,if_neg (by omega),z0 k hk]) (fun ho=>?_) (ih _ nq xq (by omega))
   have:=hx.odd j hlt (by show od ds j≠0;omega)
   rw [hg,if_pos rfl]
   omega
theorem mono_ind (h8:ds.length≤8) {P:Pw→Prop} (z:P zP) (s : ∀j q,j<ds.length→Nn q→Ex ds q→(∀k,k<j→q.getD k 0=0)→(od ds j=1→q.getD j 0=0)→P q→P (addp (eG j) q)) {p:Pw} (hp:Nn p) (hx:Ex ds p):P p:=
 mono_ind0 h8 z s (wrd p 8).toNat p hp hx (by have:=wrd_nn hp.2 8;omega)
end
section
variable {ds : Pw} {fs : List (List Term)}
theorem Od1.of {p:Pw} (h:Ex ds p):Od1 ds p:=fun j hj ho=>h.odd j hj (by show od ds j≠0;omega)
theorem swap_one (hd : ∀j,0≤ds.getD j 0∧ds.getD j 0≤12) (h8:ds.length≤8) {t:Pw} (ht:Nn t) (hx:Ex ds t) {i:Nat} (hi:i<ds.length) {q:Pw} (hq:Nn q):sgn ds (eG i) q * sgn ds t (addp (eG i) q)=par (wsum ds t ds.length * ds.getD i 0) * (sgn ds t q * sgn ds (eG i) (addp t q)):=by
 have ei:Nn (eG i):=eG_nn (by omega);rw [← sgn_assoc hd ht ei hq,sgn_comm hd ht (Od1.of hx) hi h8,addp_comm ht.1 ei.1,Int.mul_assoc,sgn_assoc hd ei ht hq]
theorem dG_one (hd : ∀j,0≤ds.getD j 0∧ds.getD j 0≤12) (h8:ds.length≤8) (hI:Img ds fs) {q:Pw} (hq:Nn q) {i:Nat} (hi:i<ds.length) (h0 : ∀j,j<i→q.getD j 0=0) (ho:od ds i=1→q.getD i 0=0) (G:Pw→Int):dG ds fs G (addp (eG i) q) 8=wG (fun t=>sgn ds t q * G (addp t q)) (toS (fm fs i))+par (ds.getD i 0) * dG ds fs (lG ds (eG i) G) q 8:=by
 rw [dG_first hd hq hi h8 h0 ho (fun k x hx=>(hI k x hx).1) G 8 (Nat.le_refl _),if_pos (by omega),par_mod (show od ds i % 2=ds.getD i 0 % 2 by rw [← emod_od hd i];omega)]
theorem hits_ee {i:Nat} (hi:i<ds.length) (h8:ds.length≤8) (ho:od ds i=1) {x:Pw} (hx:Nn x):hits ds (eG i) (addp (eG i) x)=true:=by
 cases hh:hits ds (eG i) (addp (eG i) x) with
 | true=>rfl
 | false=>
  have h:=hits_at hh hi (by show od ds i≠0;omega);rw [eG_get (by omega),ea_get hx.1 (by omega),if_pos rfl] at h;have:=hx.2 i;exact absurd ⟨by omega,by omega⟩ h
theorem par_cases (x:Int):par x=1∨par x = -1:=by unfold par;split <;> simp
theorem alg_gen {t a b S A B U V W:Int} (ht:t=1∨t = -1) (ha:a=1∨a = -1) (hb:b=1∨b = -1) (ih:S * B=U+a * V) (F2:S * A=t * a * W):t * S * (A+b * B)=t * b * U+a * (W+b * (t * V)):=by
 have e:t * S * (A+b * B)=t * (S * A)+t * (b * (S * B)):=by rw [Int.mul_add,Int.mul_assoc,Int.mul_assoc,Int.mul_left_comm S b]
 rw [e,ih,F2]
 rcases ht with rfl | rfl <;> rcases ha with rfl | rfl <;> rcases hb with rfl | rfl <;> omega
theorem alg_z {a b X Y:Int} (ha:a=1∨a = -1) (hb:b=1∨b = -1) (h:0=X+b * Y):0=0+a * X+a * b * Y:=by
 rcases ha with rfl | rfl <;> rcases hb with rfl | rfl <;> omega
theorem alg_l {a b S W E X Y:Int} (ha:a=1∨a = -1) (hb:b=1∨b = -1) (h:S * E=X+b * Y):S * (W+a * E)=S * W+a * X+a * b * Y:=by
 rw [Int.mul_add,Int.mul_left_comm S a,h]
 rcases ha with rfl | rfl <;> rcases hb with rfl | rfl <;> omega
theorem dG_gen (hd : ∀j,0≤ds.getD j 0∧ds.getD j 0≤12) (h8:ds.length≤8) (hI:Img ds fs) {q:Pw} (hq:Nn q) (hx:Ex ds q) : ∀i,i<ds.length→∀G:Pw→Int,sgn ds (eG i) q * dG ds fs G (addp (eG i) q) 8=wG (fun t=>sgn ds t q * G (addp t q)) (toS (fm fs i))+par (ds.getD i 0) * dG ds fs (lG ds (eG i) G) q 8:=by
 refine mono_ind h8 (P:=fun q=>∀i,i<ds.length→∀G:Pw→Int,sgn ds (eG i) q * dG ds fs G (addp (eG i) q) 8=wG (fun t=>sgn ds t q * G (addp t q)) (toS (fm fs i))+par (ds.getD i 0) * dG ds fs (lG ds (eG i) G) q 8) ?_ ?_ hq hx
 ·intro i hi G;rw [sgn_first hd zP_nn hi h8 (fun j _=>zP_get j) (fun _=>zP_get i),Int.one_mul];exact dG_one hd h8 hI zP_nn hi (fun j _=>zP_get j) (fun _=>zP_get i) G
 ·intro j q hj hq hx h0 ho ih i hi G;have ei:Nn (eG i):=eG_nn (by omega);have ej:Nn (eG j):=eG_nn (by omega);have f0:sgn ds (eG j) q=1:=sgn_first hd hq hj h8 h0 ho
  rcases Nat.lt_trichotomy i j with h | h | h
  ·have g0 : ∀k,k<i→(addp (eG j) q).getD k 0=0:=fun k hk=>by
    rw [ea_get hq.1 (by omega),if_neg (by omega),h0 k (by omega)]
    rfl
   have gi:(addp (eG j) q).getD i 0=0:=by
    rw [ea_get hq.1 (by omega),if_neg (by omega),h0 i h]
    rfl
   rw [sgn_first hd (ej.add hq) hi h8 g0 fun _=>gi,Int.one_mul];exact dG_one hd h8 hI (ej.add hq) hi g0 (fun _=>gi) G
  ·subst h
   rcases od_cases hd i with he | he
   ·have g0 : ∀k,k<i→(addp (eG i) q).getD k 0=0:=fun k hk=>by
     rw [ea_get hq.1 (by omega),if_neg (by omega),h0 k hk]
     rfl
    have gi:od ds i=1→(addp (eG i) q).getD i 0=0:=fun h=>by omega
    rw [sgn_first hd (ei.add hq) hi h8 g0 gi,Int.one_mul];exact dG_one hd h8 hI (ei.add hq) hi g0 gi G
   ·have hp:par (ds.getD i 0) = -1:=by
     rw [← par_mod (show od ds i % 2=ds.getD i 0 % 2 by rw [← emod_od hd i];omega),he]
     rfl
    rw [sgn_z0 (hits_ee hi h8 he hq),Int.zero_mul,dG_one hd h8 hI hq hi h0 ho (lG ds (eG i) G),dG_cong hI hq hx (G':=fun _=>0) (fun x hx _=>by
     unfold lG
     rw [sgn_z0 (hits_ee hi h8 he hx),Int.zero_mul,Int.mul_zero]) 8 (Nat.le_refl _),dG_zero,Int.mul_zero,Int.add_zero,hp]
    have e:wG (fun t=>sgn ds t (addp (eG i) q) * G (addp t (addp (eG i) q))) (toS (fm fs i))=wG (fun t=>sgn ds t q * lG ds (eG i) G (addp t q)) (toS (fm fs i)):=wG_eq fun x hm=>by
     obtain ⟨a1,a2,a3⟩:=hI i x hm;have s1:=swap_one hd h8 a1 a2 hi hq
     rw [f0,Int.one_mul,a3,par_mod (y:=0) (by
      rw [Int.mul_emod,Int.add_emod,emod_od hd i,he]
      rfl),show par 0=1 from rfl,Int.one_mul] at s1
     unfold lG;rw [s1,Int.mul_assoc,addp_left a1.1 ei.1 hq.1]
    rw [e]
    omega
  ·have g0 : ∀k,k<j→(addp (eG i) q).getD k 0=0:=fun k hk=>by
    rw [ea_get hq.1 (by omega),if_neg (by omega),h0 k hk]
    rfl
   have gj:od ds j=1→(addp (eG i) q).getD j 0=0:=fun h=>by
    rw [ea_get hq.1 (by omega),if_neg (by omega),ho h]
    rfl
   have fj:sgn ds (eG j) (addp (eG i) q)=1:=sgn_first hd (ei.add hq) hj h8 g0 gj
   have xi:Ex ds (eG i):=⟨fun k hk=>by rw [eG_get (by omega),if_neg (by omega)],fun k hk _=>by
    rw [eG_get (by omega)]
    split <;> omega⟩
   have wi:wsum ds (eG i) ds.length=ds.getD i 0:=by rw [wsum_eG (by omega),if_pos hi]
   have sg:=swap_one hd h8 ei xi hj hq;rw [f0,Int.one_mul,wi,fj,Int.mul_one] at sg
   have F3:dG ds fs (lG ds (eG j) (lG ds (eG i) G)) q 8=par (ds.getD i 0 * ds.getD j 0) * dG ds fs (lG ds (eG i) (lG ds (eG j) G)) q 8:=by
    rw [← dG_mul];refine dG_cong hI hq hx (fun x hx _=>?_) 8 (Nat.le_refl _);have s1:=swap_one hd h8 ei xi hj hx;rw [wi] at s1;unfold lG;rw [← Int.mul_assoc,s1,Int.mul_assoc,Int.mul_assoc,addp_left ei.1 ej.1 hx.1]
   have F1:wG (fun t=>sgn ds t (addp (eG j) q) * G (addp t (addp (eG j) q))) (toS (fm fs i))=par ((ds.getD i 0+1) * ds.getD j 0) * wG (fun t=>sgn ds t q * lG ds (eG j) G (addp t q)) (toS (fm fs i)):=by
    rw [← wG_mulF];refine wG_eq fun x hm=>?_;obtain ⟨a1,a2,a3⟩:=hI i x hm;have s1:=swap_one hd h8 a1 a2 hj hq;rw [f0,Int.one_mul,a3] at s1;unfold lG;rw [s1,Int.mul_assoc,Int.mul_assoc,addp_left a1.1 ej.1 hq.1]
   have F2:sgn ds (eG i) q * wG (fun t=>sgn ds t (addp (eG i) q) * G (addp t (addp (eG i) q))) (toS (fm fs j))=par ((ds.getD j 0+1) * ds.getD i 0) * wG (fun t=>sgn ds t q * lG ds (eG i) G (addp t q)) (toS (fm fs j)):=by
    rw [← wG_mulF,← wG_mulF];refine wG_eq fun x hm=>?_;obtain ⟨a1,a2,a3⟩:=hI j x hm;have s1:=swap_one hd h8 a1 a2 hi hq;rw [a3] at s1;unfold lG;rw [← Int.mul_assoc,s1,Int.mul_assoc,Int.mul_assoc,addp_left a1.1 ei.1 hq.1]
   rw [addp_left ei.1 ej.1 hq.1,dG_one hd h8 hI (ei.add hq) hj g0 gj G,dG_one hd h8 hI hq hj h0 ho (lG ds (eG i) G),F3,F1,sg];have ih1:=ih i hi (lG ds (eG j) G)
   have p1:par ((ds.getD i 0+1) * ds.getD j 0)=par (ds.getD i 0 * ds.getD j 0) * par (ds.getD j 0):=by rw [Int.add_mul,Int.one_mul,par_add]
   have p2:par ((ds.getD j 0+1) * ds.getD i 0)=par (ds.getD i 0 * ds.getD j 0) * par (ds.getD i 0):=by rw [Int.add_mul,Int.one_mul,par_add,Int.mul_comm (ds.getD j 0)]
   rw [p1];rw [p2] at F2;exact alg_gen (par_cases _) (par_cases _) (par_cases _) ih1 F2
theorem dG_leib (hd : ∀j,0≤ds.getD j 0∧ds.getD j 0≤12) (h8:ds.length≤8) (hI:Img ds fs) {r:Pw} (hr:Nn r) (hx:Ex ds r) : ∀q,Nn q→Ex ds q→∀G:Pw→Int,sgn ds r q * dG ds fs G (addp r q) 8=dG ds fs (rG ds q G) r 8+par (wsum ds r ds.length) * dG ds fs (lG ds r G) q 8:=by
 refine mono_ind h8 (P:=fun r=>∀q,Nn q→Ex ds q→∀G:Pw→Int,sgn ds r q * dG ds fs G (addp r q) 8=dG ds fs (rG ds q G) r 8+par (wsum ds r ds.length) * dG ds fs (lG ds r G) q 8) ?_ ?_ hr hx
 ·intro q hq hxq G;have ez:Ev ds zP:=fun j _ _=>zP_get j
  have za : ∀x,Nn x→addp zP x=x:=fun x hx=>list8 (by simp) hx.1 fun j _=>by
   rw [addp_get zP_nn.1 hx.1,zP_get]
   omega
  rw [ez.sgnl hd zP_nn,Int.one_mul,za q hq,dG_zP,wsum_zero zP_get,show par 0=1 from rfl,Int.one_mul,Int.zero_add];refine dG_cong hI hq hxq (fun x hx _=>?_) 8 (Nat.le_refl _);unfold lG;rw [ez.sgnl hd zP_nn,za x hx,Int.one_mul]
 ·intro i r hi hr hx h0 ho ih q hq hxq G;have ei:Nn (eG i):=eG_nn (by omega);have f:sgn ds (eG i) r=1:=sgn_first hd hr hi h8 h0 ho;have ih1:=ih q hq hxq (lG ds (eG i) G)
  have sL:sgn ds (addp (eG i) r) q=sgn ds r q * sgn ds (eG i) (addp r q):=by
   have:=sgn_assoc hd ei hr hq
   rwa [f,Int.one_mul] at this
  have e1:wG (fun t=>sgn ds t r * rG ds q G (addp t r)) (toS (fm fs i))=sgn ds r q * wG (fun t=>sgn ds t (addp r q) * G (addp t (addp r q))) (toS (fm fs i)):=by
   rw [← wG_mulF];refine wG_eq fun x hm=>?_;obtain ⟨a1,a2,a3⟩:=hI i x hm;unfold rG;rw [← Int.mul_assoc,sgn_assoc hd a1 hr hq,addp_assoc a1.1 hr.1 hq.1,Int.mul_assoc]
  have e2:dG ds fs (lG ds (eG i) (rG ds q G)) r 8=dG ds fs (rG ds q (lG ds (eG i) G)) r 8:=dG_cong hI hr hx (fun x hx _=>by
   unfold lG rG
   rw [← Int.mul_assoc,sgn_assoc hd ei hx hq,addp_assoc ei.1 hx.1 hq.1,Int.mul_assoc]) 8 (Nat.le_refl _)
  have e3:dG ds fs (lG ds r (lG ds (eG i) G)) q 8=dG ds fs (lG ds (addp (eG i) r) G) q 8:=dG_cong hI hq hxq (fun x hx _=>by
   unfold lG;have s1:=sgn_assoc hd ei hr hx;rw [f,Int.one_mul] at s1
   rw [s1,addp_assoc ei.1 hr.1 hx.1,Int.mul_assoc]) 8 (Nat.le_refl _)
  rw [dG_one hd h8 hI hr hi h0 ho,e1,e2,wsum_add ei.1 hr.1,wsum_eG (by omega),if_pos hi,par_add,sL,addp_assoc ei.1 hr.1 hq.1];rw [e3] at ih1
  by_cases hz:sgn ds r q=0
  ·rw [hz,Int.zero_mul] at ih1;rw [hz,Int.zero_mul,Int.zero_mul,Int.zero_mul];exact alg_z (par_cases _) (par_cases _) ih1
  ·rw [Int.mul_assoc,dG_gen hd h8 hI (hr.add hq) (ex_sum hr hq hx hxq hz) i hi G];exact alg_l (par_cases _) (par_cases _) ih1
end
section
variable {ds : Pw} {fs : List (List Term)}
theorem dG_sq (hd : ∀j,0≤ds.getD j 0∧ds.getD j 0≤12) (h8:ds.length≤8) (hI:Img ds fs) (h2 : ∀i,∀G:Pw→Int,Mo (wG (fun r=>dG ds fs G r 8) (toS (fm fs i))) 0) {p:Pw} (hp:Nn p) (hx:Ex ds p) : ∀G:Pw→Int,Mo (dG ds fs (fun x=>dG ds fs G x 8) p 8) 0:=by
 refine mono_ind h8 (P:=fun p=>∀G:Pw→Int,Mo (dG ds fs (fun x=>dG ds fs G x 8) p 8) 0) ?_ ?_ hp hx
 ·intro G;rw [dG_zP];exact Mo.refl _
 ·intro i q hi hq hx h0 ho ih G;have ei:Nn (eG i):=eG_nn (by omega)
  have w1:Mo (wG (fun r=>sgn ds r q * dG ds fs G (addp r q) 8) (toS (fm fs i))) (par (ds.getD i 0+1) * wG (fun r=>dG ds fs (lG ds r G) q 8) (toS (fm fs i))):=by
   have e:wG (fun r=>sgn ds r q * dG ds fs G (addp r q) 8) (toS (fm fs i))=wG (fun r=>dG ds fs (rG ds q G) r 8) (toS (fm fs i))+par (ds.getD i 0+1) * wG (fun r=>dG ds fs (lG ds r G) q 8) (toS (fm fs i)):=by
    rw [← wG_mulF,← wG_addF];refine wG_eq fun x hm=>?_;obtain ⟨a1,a2,a3⟩:=hI i x hm;rw [dG_leib hd h8 hI a1 a2 q hq hx G,a3]
   rw [e];have:=h2 i (rG ds q G);unfold Mo at *
   omega
  have w2:dG ds fs (lG ds (eG i) (fun x=>dG ds fs G x 8)) q 8=wG (fun t=>dG ds fs (lG ds t G) q 8) (toS (fm fs i))+par (ds.getD i 0) * dG ds fs (fun x=>dG ds fs (lG ds (eG i) G) x 8) q 8:=by
   rw [← dG_wG,← dG_mul,← dG_add];refine dG_cong hI hq hx (fun x hx hxx=>?_) 8 (Nat.le_refl _)
   show sgn ds (eG i) x * dG ds fs G (addp (eG i) x) 8=_
   rw [dG_gen hd h8 hI hx hxx i hi G]
   rfl
  rw [dG_one hd h8 hI hq hi h0 ho,w2];have w3:=ih (lG ds (eG i) G)
  have hp1:par (ds.getD i 0+1) = - par (ds.getD i 0):=by
   rw [par_add,show par 1 = -1 from rfl]
   omega
  rw [hp1] at w1;generalize wG (fun r=>sgn ds r q * dG ds fs G (addp r q) 8) (toS (fm fs i))=A at *;generalize wG (fun r=>dG ds fs (lG ds r G) q 8) (toS (fm fs i))=C at *;generalize dG ds fs (fun x=>dG ds fs (lG ds (eG i) G) x 8) q 8=D at *
  rcases par_cases (ds.getD i 0) with h | h <;> rw [h] at w1 ⊢ <;> unfold Mo at * <;> omega
theorem Img.of {fs:List (List Term)} (hD:isDeg ds=true) (hi:imsOk ds fs=true) (hw:Wfss fs):Img ds fs:=fun k x hx=>by
 by_cases hk:k<fs.length
 ·have h1:=imsOk_at hi hk
  unfold imOk at h1
  have h2:=Bool.and_eq_true_iff.1 h1
  have hs:=isForm_sok (hw.fm k) h2.1
  exact ⟨⟨(hs.key x hx).len,fun j=>((hs.key x hx).bd j).1⟩,isForm_kex (isDeg_bd hD) (isDeg_len hD) (hw.fm k) h2.1 x hx,degOk_wt (isDeg_len hD) (isDeg_bd hD) (hw.fm k) h2.2 x hx⟩
 ·rw [show fm fs k=[] by rw [G.fm,List.getD_eq_getElem?_getD,List.getElem?_eq_none (by omega)];rfl] at hx
  simp [toS] at hx
theorem isAlg_sq {fs:List (List Term)} (h:isAlg ds fs=true) (hw:Wfss fs) : ∀i,∀G:Pw→Int,Mo (wG (fun r=>dG ds fs G r 8) (toS (fm fs i))) 0:=fun i G=>by
 by_cases hk:i<fs.length
 ·unfold isAlg at h
  simp only [Bool.and_eq_true] at h
  have h1:=List.all_eq_true.1 h.2 i (by simpa using hk)
  have h2:dS ds fs (toS (fm fs i))=[]:=List.length_eq_zero_iff.1 (by simpa using h1)
  have h3:=wG_dS (ds:=ds) fs G (toS (fm fs i))
  rw [h2] at h3
  exact h3.symm
 ·rw [show fm fs i=[] by rw [G.fm,List.getD_eq_getElem?_getD,List.getElem?_eq_none (by omega)];rfl]
  exact Mo.refl _
theorem isAlg_img {fs:List (List Term)} (h:isAlg ds fs=true) (hw:Wfss fs):Img ds fs:=by
 have hD:=isAlg_deg h;unfold isAlg at h;simp only [Bool.and_eq_true] at h;exact Img.of hD h.1.2 hw
theorem dS_sqG {fs:List (List Term)} (h:isAlg ds fs=true) (hw:Wfss fs) {s:Sm} {M:Int} (hs:Sok M s) (hk:KEx ds s) (G:Pw→Int):Mo (wG G (dS ds fs (dS ds fs s))) 0:=by
 have hD:=isAlg_deg h;refine (wG_dS fs G _).trans ((wG_dS fs _ s).trans ?_);have e:Mo (wG (fun p=>dG ds fs (fun x=>dG ds fs G x 8) p 8) s) (wG (fun _=>0) s):=wG_cong fun x hx=>dG_sq (isDeg_bd hD) (isDeg_len hD) (isAlg_img h hw) (isAlg_sq h hw) ⟨(hs.key x hx).len,fun j=>((hs.key x hx).bd j).1⟩ (hk x hx) G;rw [wG_zeroF] at e;exact e
end
section
variable {V W N : Nat} {rows R : List (List Int)}
theorem Red.self (h:Red W R):redS R=R:=(redS_eq h.row h fun _=>Iff.rfl).symm
theorem drop_get {a:List Int} {V j:Nat}:(a.drop V).getD j 0=a.getD (V+j) 0:=by simp [List.getD_eq_getElem?_getD,List.getElem?_drop]
theorem take_get {a:List Int} {V j:Nat}:(a.take V).getD j 0=if j<V then a.getD j 0 else 0:=by
 rw [List.getD_eq_getElem?_getD,List.getElem?_take]
 split
 ·rw [List.getD_eq_getElem?_getD]
 ·rfl
theorem Spn.drop {v:Vc} (h:Spn rows v) (V:Nat):Spn (rows.map fun r=>r.drop V) (fun k=>v (V+k)):=by
 induction h with
 | zero h=>exact .zero fun k=>h _
 | @add u v r c hr _ h ih=>exact .add (r:=r.drop V) (c:=c) (List.mem_map.2 ⟨r,hr,rfl⟩) ih fun k=>by rw [drop_get];exact h _
def hiR (W:Nat) (R:List (List Int)):List (List Int):=R.filter fun r=>decide (W≤ldR r)
theorem fzS_hi (h:Red (V+W) R):fzS R V=(hiR V R).map fun r=>r.drop V:=by
 unfold fzS hiR
 congr 1
 refine List.filter_congr fun r hr=>?_;have h1:=(h.row r hr).len;have h2:=(h.one r hr).1;exact zR_take (by omega) (by omega)
theorem drop_ld {r:List Int} (h:ldR r<r.length) (hV:V≤ldR r):ldR (r.drop V)=ldR r - V:=ldR_of (fun j hj=>by rw [drop_get];exact ldR_lt (by omega)) (by rw [drop_get,show V+(ldR r - V)=ldR r by omega];exact ldR_ne h)
theorem hi_red (h:Red (V+W) R):Red W (fzS R V):=by
 rw [fzS_hi h]
 have hm : ∀r∈hiR V R,r∈R∧V≤ldR r∧ldR r<r.length:=fun r hr=>by
  have h1:=List.mem_filter.1 hr;exact ⟨h1.1,by simpa using h1.2,by rw [(h.row r h1.1).len];exact (h.one r h1.1).1⟩
 refine ⟨fun r hr=>?_,?_,fun r hr=>?_,fun r hr s hs hne=>?_⟩
 ·obtain ⟨s,hs,rfl⟩:=List.mem_map.1 hr;exact (h.row s (hm s hs).1).drop
 ·rw [List.pairwise_map];refine (h.srt.filter _).imp_of_mem fun {a b} ha hb hab=>?_;obtain ⟨_,a1,a2⟩:=hm a ha;obtain ⟨_,b1,b2⟩:=hm b hb;rw [drop_ld a2 a1,drop_ld b2 b1]
  omega
 ·obtain ⟨s,hs,rfl⟩:=List.mem_map.1 hr;obtain ⟨s0,s1,s2⟩:=hm s hs;have:=h.one s s0;rw [drop_ld s2 s1,drop_get,show V+(ldR s - V)=ldR s by omega];exact ⟨by omega,this.2⟩
 ·obtain ⟨a,ha,rfl⟩:=List.mem_map.1 hr;obtain ⟨b,hb,rfl⟩:=List.mem_map.1 hs;obtain ⟨a0,a1,a2⟩:=hm a ha;obtain ⟨b0,b1,b2⟩:=hm b hb;rw [drop_ld a2 a1,drop_ld b2 b1] at hne;rw [drop_ld a2 a1,drop_get,show V+(ldR a - V)=ldR a by omega];exact h.zer a a0 b b0 (by omega)
theorem Spn.sum {α:Type} (c:α→Int) (f:α→List Int) : ∀{l:List α},(∀x∈l,f x∈rows)→Spn rows (fun k=>(l.map fun x=>c x * (f x).getD k 0).sum)
 | [],_=>.zero fun _=>Mo.refl _
 | a::l,h=>.add (r:=f a) (c:=c a) (h a (by simp)) (Spn.sum c f (l:=l) fun x hx=>h x (List.mem_cons_of_mem _ hx)) fun k=>by simp only [List.map_cons,List.sum_cons];exact Mo.refl _
theorem hi_spn (h:Red (V+W) R) {v:Vc} (hv:Spn R v) (h0 : ∀k,k<V→Mo (v k) 0):Spn (fzS R V) (fun k=>v (V+k)):=by
 rw [fzS_hi h];have h1:=(Spn.sum (rows:=hiR V R) (fun s=>v (ldR s)) (fun s=>s) (l:=hiR V R) fun x hx=>hx).drop V;refine h1.congr fun k=>(h.at hv (V+k)).trans ?_
 have key : ∀l:List (List Int),Mo (l.map fun s=>v (ldR s) * s.getD (V+k) 0).sum ((l.filter fun r=>decide (V≤ldR r)).map fun s=>v (ldR s) * s.getD (V+k) 0).sum:=fun l=>by
  induction l with
  | nil=>exact Mo.refl _
  | cons a l ih=>
   by_cases ha:V≤ldR a
   ·rw [List.filter_cons_of_pos (by simpa using ha)];simp only [List.map_cons,List.sum_cons];exact (Mo.refl _).add ih
   ·rw [List.filter_cons_of_neg (by simpa using ha)];simp only [List.map_cons,List.sum_cons];have:=(h0 (ldR a) (by omega)).mul (a.getD (V+k) 0);rw [Int.zero_mul] at this;have:=this.add ih
    rwa [Int.zero_add] at this
 exact key R
theorem ker_spn (h : ∀r∈rows,RowOk W r) {u:List Int} (hu:u.length=rows.length) (h0 : ∀k,k<W→Mo ((List.range rows.length).map fun i=>u.getD i 0 * (rw_ rows i).getD k 0).sum 0):Spn (kerS rows W) (vR u):=by
 have hR:=redS_ok (wdS_ok (n:=rows.length) h);have hk:kerS rows W=fzS (redS (wdS rows rows.length)) W:=(hi_red hR.1).self;have h1:Spn (wdS rows rows.length) (fun k=>((List.range rows.length).map fun i=>u.getD i 0 * (rw_ rows i++uniR rows.length i).getD k 0).sum):=Spn.sum (fun i=>u.getD i 0) (fun i=>rw_ rows i++uniR rows.length i) fun i hi=>List.mem_map.2 ⟨i,hi,rfl⟩
 have h2:=hi_spn hR.1 ((hR.2 _).2 h1) fun k hk=>by
  have e:((List.range rows.length).map fun i=>u.getD i 0 * (rw_ rows i++uniR rows.length i).getD k 0)=(List.range rows.length).map fun i=>u.getD i 0 * (rw_ rows i).getD k 0:=List.map_congr_left fun i hi=>by
   rw [app_get,if_pos (by rw [(h _ (rw_mem (List.mem_range.1 hi))).len];exact hk)]
  rw [e];exact h0 k hk
 rw [hk];refine h2.congr fun k=>?_
 have e:((List.range rows.length).map fun i=>u.getD i 0 * (rw_ rows i++uniR rows.length i).getD (W+k) 0)=(List.range rows.length).map fun i=>u.getD i 0 * (if i=k∧i<rows.length then 1 else 0):=List.map_congr_left fun i hi=>by
  have:=(h _ (rw_mem (List.mem_range.1 hi))).len;rw [app_get,if_neg (by omega),uniR_get,this,Nat.add_sub_cancel_left]
 show Mo (u.getD k 0) ((List.range rows.length).map fun i=>u.getD i 0 * (rw_ rows i++uniR rows.length i).getD (W+k) 0).sum
 rw [e]
 by_cases hk:k<rows.length
 ·rw [sum_single (f:=fun i=>i) List.pairwise_lt_range (List.mem_range.2 hk) fun s _ hne=>by rw [if_neg fun h=>hne h.1,Int.mul_zero],if_pos ⟨rfl,hk⟩,Int.mul_one];exact Mo.refl _
 ·rw [sum_zero fun i hi=>by
   have:=List.mem_range.1 hi
   rw [if_neg (by omega),Int.mul_zero],getD_ge (by omega)]
  exact Mo.refl _
end
theorem sum_one {D:Pw→Int} {a:Pw} {c:Int} : ∀{ps:List Pw},ps.Nodup→a∈ps→(ps.map fun q=>(if a=q then c else 0) * D q).sum=c * D a
 | [],_,h=>by simp at h
 | p::ps,hn,h=>by
  have hn':=List.nodup_cons.1 hn
  simp only [List.map_cons,List.sum_cons]
  by_cases e:a=p
  ·rw [if_pos e,sum_zero fun q hq=>by rw [if_neg fun e2=>hn'.1 (by rw [← e,e2];exact hq),Int.zero_mul],e]
   omega
  ·rw [if_neg e,Int.zero_mul,Int.zero_add]
   exact sum_one hn'.2 ((List.mem_cons.1 h).resolve_left e)
theorem sum_cf {D:Pw→Int} {ps:List Pw} (hp:ps.Nodup) : ∀{s:Sm},(s.map (·.1)).Nodup→(∀x∈s,x.1∈ps)→(ps.map fun q=>cf s q * D q).sum=wG D s
 | [],_,_=>sum_zero fun q _=>by simp [cf]
 | x::s,hn,hs=>by
  have hn':=List.nodup_cons.1 (show (x.1::s.map (·.1)).Nodup from hn)
  have ih:=sum_cf (D:=D) hp hn'.2 fun y hy=>hs y (by simp [hy])
  have e:(ps.map fun q=>cf (x::s) q * D q)=ps.map fun q=>1 * ((if x.1=q then x.2 else 0) * D q)+cf s q * D q:=List.map_congr_left fun q _=>by
   simp only [cf]
   by_cases h:x.1=q
   ·rw [if_pos h,if_pos h,cf_none fun y hy h2=>hn'.1 (List.mem_map.2 ⟨y,hy,h2.trans h.symm⟩)]
    omega
   ·rw [if_neg h,if_neg h]
    omega
  rw [e,sum_plus,sum_one hp (hs x (by simp)),ih]
  simp only [wG]
  omega
section
variable {ds : List Int} {fs : List (List Term)} {n : Int}
theorem cf_dS1 (hA:AlgOk ds fs) (h8:ds.length≤8) (hd : ∀j,j<ds.length→1≤ds.getD j 0∧ds.getD j 0≤12) {q:Pw} (hq:q∈monS ds n) (t:Pw):Mo (cf (dS ds fs [(q,1)]) t) (dG ds fs (ind t) q 8):=by
 rw [cf_wG t (dS_one hA h8 hd hq)];have h:=wG_dS (ds:=ds) fs (ind t) [(q,1)];simp only [wG,Int.one_mul,Int.add_zero] at h;exact h
theorem row_ker (hG:isAlg ds fs=true) (hw:Wfss fs) (hn:n+1≤40) (hf1:fit2 ds n) {u:List Int} (hu:u∈matS ds fs n):Spn (clS ds fs (n+1)) (vR u):=by
 have hA:=isAlg_ok hG hw;have h8:=hA.hn;have hd:=alg_112 hG;obtain ⟨p,hp,rfl⟩:=List.mem_map.1 hu;have hpm:=List.mem_of_mem_take hp;have hs:=dS_one hA h8 hd hpm;have hom:=hom_of hG hw h8 hd (show n≤40 by omega) hf1;unfold clS;refine ker_spn (matS_ok (n:=n+1) hA h8 hd) (by rw [List.length_map,matS_len]) fun k hk=>?_
 have e1:Mo ((List.range (matS ds fs (n+1)).length).map fun i=>((monL ds (n+1)).map (cf (dS ds fs [(p,1)]))).getD i 0 * (rw_ (matS ds fs (n+1)) i).getD k 0).sum ((monL ds (n+1)).map fun q=>cf (dS ds fs [(p,1)]) q * dG ds fs (ind (rw_ (monL ds (n+1+1)) k)) q 8).sum:=by
  have e2:((monL ds (n+1)).map fun q=>cf (dS ds fs [(p,1)]) q * dG ds fs (ind (rw_ (monL ds (n+1+1)) k)) q 8)=(List.range (matS ds fs (n+1)).length).map fun i=>cf (dS ds fs [(p,1)]) (rw_ (monL ds (n+1)) i) * dG ds fs (ind (rw_ (monL ds (n+1+1)) k)) (rw_ (monL ds (n+1)) i) 8:=by
   rw [matS_len];refine List.ext_getElem (by simp) fun i h1 h2=>?_
   have h3:i<(monL ds (n+1)).length:=by simpa using h1
   simp [rw_,List.getD_eq_getElem?_getD,h3]
  rw [e2];refine sum_mo fun i hi=>?_;have hi:=List.mem_range.1 hi;rw [matS_len] at hi
  have e3:((monL ds (n+1)).map (cf (dS ds fs [(p,1)]))).getD i 0=cf (dS ds fs [(p,1)]) (rw_ (monL ds (n+1)) i):=by simp [rw_,List.getD_eq_getElem?_getD,hi]
  have e4:(rw_ (matS ds fs (n+1)) i).getD k 0=cf (dS ds fs [(rw_ (monL ds (n+1)) i,1)]) (rw_ (monL ds (n+1+1)) k):=by simp [matS,rw_,List.getD_eq_getElem?_getD,hi,hk]
  rw [e3,e4];exact (cf_dS1 hA h8 hd (monL_mem hi) _).mull _
 refine e1.trans ?_;rw [sum_cf (monL_nodup h8 _) hs.nodup (hom p hp)]
 have hp1:KEx ds [(p,1)]:=fun x hx=>by
  rw [List.mem_singleton.1 hx];exact mon_ex h8 hpm hd
 exact (wG_dS (ds:=ds) fs _ _).symm.trans (dS_sqG hG hw (Sok.one (k:=1) (mon_pok h8 hpm) (by omega)) hp1 _)
theorem bd_cl (hG:isAlg ds fs=true) (hw:Wfss fs) (hn:n≤40) (hf:fit3 ds n) : ∀r∈bdS ds fs n,Spn (clS ds fs n) (vR r):=fun r hr=>by
 have hA:=isAlg_ok hG hw
 have h8:=hA.hn
 have hd:=alg_112 hG
 unfold bdS at hr
 split at hr
 ·rename_i h0
  refine (((redS_ok (matS_ok (n:=n - 1) hA h8 hd)).2 _).1 (Spn.row hr)).sub fun u hu=>?_
  have h1:=row_ker hG hw (n:=n - 1) (by omega) ⟨hf.2 h0,by rw [Int.sub_add_cancel];exact hf.1.1⟩ hu
  rwa [Int.sub_add_cancel] at h1
 ·simp at hr
end
theorem fn53:Fn Tryz.prog 53:=⟨_,Tryz.func53,by kernel_rfl,rfl⟩
theorem fn56:Fn Tryz.prog 56:=⟨_,Tryz.func56,by kernel_rfl,rfl⟩
theorem fn59:Fn Tryz.prog 59:=⟨_,Tryz.func59,by kernel_rfl,rfl⟩
theorem fn72:Fn Tryz.prog 72:=⟨_,Tryz.func72,by kernel_rfl,rfl⟩
theorem fn74:Fn Tryz.prog 74:=⟨_,Tryz.func74,by kernel_rfl,rfl⟩
def al1 (ds:List Int) (fs:List (List Term)) (m:Int):Int:=if isAlg ds fs then if askB m then 0 else 2 else 1
section
variable {ds : List Int} {fs : List (List Term)} {m : Int}
theorem al_eq:firstOf [codeA ds fs [],if (!askB m)=true then 2 else 0]=al1 ds fs m:=by
 rw [pc_f];unfold al1
 cases askB m <;> rfl
theorem al1_y (h:al1 ds fs m=0):isAlg ds fs=true∧askB m=true:=by
 unfold al1 at h
 cases h1:isAlg ds fs <;> cases h2:askB m <;> simp_all
theorem allC_1 (h:al1 ds fs m≠0):allC ds fs m=al1 ds fs m:=by
 unfold al1 at h ⊢;unfold allC
 cases h1:isAlg ds fs <;> cases h2:askB m <;> simp_all
theorem allC_2 (h:al1 ds fs m=0):allC ds fs m=upC ds m:=by
 obtain ⟨h1,h2⟩:=al1_y h;unfold allC;rw [h1,h2,if_pos rfl,if_pos rfl]
 by_cases h3:upC ds m≠0
 ·obtain ⟨e,hw⟩:=upC_n h3;rw [e,hw]
  rfl
 ·rw [upC_z h3,Decidable.not_not.1 h3]
  rfl
theorem allC_y (h:allC ds fs m=0):isAlg ds fs=true∧(0≤m∧m≤20)∧wiB ds 0 (m+1)=true:=by
 unfold allC at h
 cases h1:isAlg ds fs with
 | false=>rw [h1] at h;cases h
 | true=>
  cases h2:askB m with
  | false=>rw [h1,h2] at h;cases h
  | true=>
   cases h3:wiB ds 0 (m+1) with
   | false=>rw [h1,h2,h3] at h;cases h
   | true=>exact ⟨rfl,askB_y h2,rfl⟩
end
theorem askedUpTo_c {B:World} {H0 H:HP} {L:List SA} {w:World} {ba:Nat} {qad qaf:Option Addr} {cad caf:Nat} {ad:List Int} {af:List (List Term)} {n:Int} (pad:CellAt H ba 0 (.slice qad ad.length cad)) (paf:CellAt H ba 1 (.slice qaf af.length caf)) (had:Ints H qad ad) (haf:Forms H qaf af) (hn8:ad.length≤1048576) (hn9:af.length≤1048576) (hl9 : ∀i,i<af.length→(fm af i).length≤1048576) (hH:Hp B H0 H L w):Calls Tryz.prog 40 [.pointer (some ⟨ba,0,none⟩),.int .i64 n].toArray w fun e w'=>∃H' b lc,Le H H' ∧CellAt H' b 0 (.pointer (some ⟨ba,0,none⟩))∧CellAt H' b 1 (.map (some lc))∧e = .returned (.tuple #[.pointer (some ⟨b,0,none⟩),.int .i64 (allC ad af n)])∧Hp B H0 H' (cpx lc []::L) w':=by
 refine Jx Tryz.func40 rfl 25 rfl rfl [(0,.pointer (some ⟨ba,0,none⟩)),(1,.int .i64 n)] rfl hH ?_;have hw0:=hH.old;have hw1:=hH.le;clear hH;refine Je fun _ hK1 _=>(Jb (Jg (Jd rfl) rfl (Jg (Jd rfl) rfl (Jf (Ja (hK1 (Je fun _ hK2 _=>(Jb (Jg (Jc rfl) rfl (Jy fn56 rfl rfl fun w hH=>(newComplex_c pad paf had haf hH).mono ?_))))))))));rintro _ w ⟨Hf9,bn9,ln9,hlf9,pn90,pn91,rfl,hH⟩;refine ⟨_,rfl,fun a hF=>JR hF hH ?_⟩;replace pad:=pad.le hlf9;replace paf:=paf.le hlf9;replace had:=had.le hlf9;replace haf:=haf.le hlf9;refine Jg (Jc rfl) rfl (Jy fn53 rfl rfl fun w hH=>(algebraCode_c pad paf had haf (forms_nil Hf9) hn8 hn9 hl9 (by simp) (fun i hi=>by simp at hi) hH).mono ?_);rintro _ w ⟨rfl,hH⟩;refine ⟨_,rfl,fun a hF=>JR hF hH ?_⟩;refine Jg (Jc rfl) rfl (Jy fn74 rfl rfl fun w hH=>(isAsked_c hH).mono ?_);rintro _ w ⟨rfl,hH⟩;refine ⟨_,rfl,fun a hF=>JR hF hH ?_⟩;refine Jg (En rfl) rfl (Jy fn73 rfl rfl fun w hH=>(when_c hH).mono ?_);rintro _ w ⟨rfl,hH⟩;refine ⟨_,rfl,fun a hF=>JR hF hH ?_⟩;refine J.litI2 u22 ze2 sz2 rfl rfl rfl fun g16=>(Jy fn72 rfl rfl fun w hH=>hH.lend .z fun Hl1 hle1 hA1 hB1 hH=>(first_c (own_ints hA1) (by simp) hH).mono ?_);rintro _ w ⟨rfl,hH⟩;replace hH:=hB1 _ _ hH;refine ⟨_,rfl,fun a hF=>JR hF hH ?_⟩;refine Jg (Jd rfl) rfl (Jg (Jd rfl) rfl (Jf (Ja (hK2 (Je fun _ hK3 _=>(Je fun _ hK4 _=>(Jb (Jg (Jc rfl) rfl (Jg (EI rfl rfl) rfl (Jf (Ja (hK4 (Jo rfl (fun h19=>?_) (fun h19=>?_))))))))))))))
 ·
  rw [al_eq] at h19;obtain ⟨hG,hak⟩:=al1_y h19;have hask:=askB_y hak;have hA:=isAlg_ok hG haf.wfss;have hd:=alg_112 hG;have h8:=hA.hn;refine Jb (Jg (Jc rfl) rfl (Jg (Jc rfl) rfl (Jy fn59 rfl rfl fun w hH=>(upTo_c pn90 pn91 pad paf had haf hd h8 (by omega) hH).mono ?_)));rintro _ w ⟨rfl,hH⟩;refine ⟨_,rfl,fun a hF=>JR hF hH ?_⟩;refine Jg (Jd rfl) rfl (Jf (Ja (hK3 (Je fun _ hK5 _=>(Jb (Jg (Jc rfl) rfl (Jg (Jc rfl) rfl (Jg (Jd rfl) rfl (Jg (Jd rfl) rfl (Jf (Ja (hK5 (Ju (EC rfl (Res.tmp rfl) (Res.tmp rfl) fun w hH=>?_))))))))))))));replace hH:=hH.sublist (.cons _ (.cons_cons _ (List.Sublist.refl _)));exact ⟨_,_,_,hlf9,pn90,pn91,by rw [allC_2 h19],hH⟩
 ·
  rw [al_eq] at h19;refine Jm (Ja (hK3 (Je fun _ hK6 _=>(Jb (Jg (Jc rfl) rfl (Jg (Jc rfl) rfl (Jg (Jd rfl) rfl (Jg (Jd rfl) rfl (Jf (Ja (hK6 (Ju (EC rfl (Res.tmp rfl) (Res.tmp rfl) fun w hH=>?_)))))))))))));replace hH:=hH.sublist (.cons _ (.cons_cons _ (List.Sublist.refl _)));exact ⟨_,_,_,hlf9,pn90,pn91,by rw [al_eq,allC_1 h19],hH⟩
def relS (rows:List (List Int)) (u:Vc):Vc:=fun k=>((List.range rows.length).map fun i=>u i * (rw_ rows i).getD k 0).sum
section
variable {W : Nat} {rows bd cs cl : List (List Int)} {u v x y x' y' : Vc}
theorem relS_lin (c:Int) (u v:Vc) (k:Nat):relS rows (fun i=>c * u i+v i) k=c * relS rows u k+relS rows v k:=by
 unfold relS;rw [← sum_plus]
 congr 1
 refine List.map_congr_left fun i _=>?_;rw [Int.add_mul,Int.mul_assoc]
theorem relS_cong (h : ∀i,i<rows.length→Mo (u i) (v i)) (k:Nat):Mo (relS rows u k) (relS rows v k):=sum_mo fun i hi=>(h i (List.mem_range.1 hi)).mul _
theorem relS_zero (k:Nat):relS rows (fun _=>0) k=0:=sum_zero fun i _=>Int.zero_mul _
theorem relS_nil (h : ∀i,i<rows.length→Mo (u i) 0) (k:Nat):Mo (relS rows u k) 0:=by
 have h1:=relS_cong (rows:=rows) (u:=u) (v:=fun _=>0) h k
 rwa [relS_zero] at h1
theorem relS_spn (u:Vc):Spn rows (relS rows u):=Spn.sum (fun i=>u i) (fun i=>rw_ rows i) fun i hi=>rw_mem (List.mem_range.1 hi)
theorem relS_one {i:Nat} (hi:i<rows.length) (f:Vc) (h : ∀j,j<rows.length→f j=if i=j then 1 else 0) (k:Nat):relS rows f k=(rw_ rows i).getD k 0:=by
 unfold relS;rw [sum_single (f:=fun j=>j) List.pairwise_lt_range (List.mem_range.2 hi) fun s hs hne=>by rw [h s (List.mem_range.1 hs),if_neg (fun e=>hne e.symm),Int.zero_mul],h i hi,if_pos rfl,Int.one_mul]
theorem wd_rel (h : ∀r∈rows,RowOk W r) (hv:Spn (wdS rows rows.length) v) {k:Nat} (hk:k<W):Mo (v k) (relS rows (fun i=>v (W+i)) k):=by
 induction hv with
 | zero h0=>exact (h0 k).trans (relS_nil (fun i _=>h0 (W+i)) k).symm
 | @add u v r c hr _ h1 ih=>
  obtain ⟨i,hi,rfl⟩:=List.mem_map.1 (show r∈(List.range rows.length).map fun i=>rw_ rows i++uniR rows.length i from hr);have hi:=List.mem_range.1 hi;have hl:=(h _ (rw_mem hi)).len
  have e1:(rw_ rows i++uniR rows.length i).getD k 0=(rw_ rows i).getD k 0:=by rw [app_get,if_pos (by omega)]
  have e2:relS rows (fun j=>(rw_ rows i++uniR rows.length i).getD (W+j) 0) k=(rw_ rows i).getD k 0:=relS_one hi _ (fun j hj=>by
   rw [app_get,if_neg (by omega),uniR_get,hl,Nat.add_sub_cancel_left]
   by_cases e:i=j
   ·rw [if_pos ⟨e,hi⟩,if_pos e]
   ·rw [if_neg fun h9=>e h9.1,if_neg e]) k
  have h2:=(h1 k).trans ((Mo.refl (c * (rw_ rows i++uniR rows.length i).getD k 0)).add ih);rw [e1,← e2,← relS_lin] at h2;exact h2.trans (relS_cong (fun j _=>h1 (W+j)) k).symm
theorem zR_get {r:List Int} (h:zR r=true) (k:Nat):r.getD k 0=0:=ldR_end (of_decide_eq_true h) k
theorem ker_rel (h : ∀r∈rows,RowOk W r) (hu:Spn (kerS rows W) u) {k:Nat} (hk:k<W):Mo (relS rows u k) 0:=by
 have hR:=redS_ok (wdS_ok (n:=rows.length) h);have h1:=((redS_ok (fzS_ok hR.1.row)).2 u).1 hu
 induction h1 with
 | zero h0=>exact relS_nil (fun i _=>h0 i) k
 | @add u v r c hr hs h1 ih=>
  obtain ⟨s,hs1,rfl⟩:=List.mem_map.1 hr;obtain ⟨hs2,hs3⟩:=List.mem_filter.1 hs1;have h2:=wd_rel h ((hR.2 _).1 (Spn.row hs2)) hk
  have e1:s.getD k 0=0:=by
   have h3:=zR_get hs3 k
   rwa [take_get,if_pos hk] at h3
  have e2:relS rows (vR (s.drop W)) k=relS rows (fun i=>s.getD (W+i) 0) k:=by
   congr 1
   funext i
   exact drop_get
  have h4:Mo (relS rows (vR (s.drop W)) k) 0:=by
   rw [e2];have h5:Mo (vR s k) _:=h2;have h6:vR s k=0:=e1;rw [h6] at h5;exact h5.symm
  have h7:=relS_cong (rows:=rows) (fun i _=>h1 i) k;refine h7.trans ?_;have h8:=relS_lin (rows:=rows) c (vR (s.drop W)) u k;have h9:=(h4.mull c).add (ih ((redS_ok (fzS_ok hR.1.row)).2 u |>.2 hs));rw [← h8,Int.mul_zero,Int.zero_add] at h9;exact h9
structure NF (bd:List (List Int)) (x y:Vc):Prop where
 d:Spn bd fun k=>x k + -1 * y k
 z : ∀b∈bd,Mo (y (ldR b)) 0
theorem NF.zero (bd:List (List Int)):NF bd (fun _=>0) (fun _=>0):=⟨.zero fun _=>Mo.refl _,fun _ _=>Mo.refl _⟩
theorem NF.cong (h:NF bd x y) (hx : ∀k,Mo (x' k) (x k)) (hy : ∀k,Mo (y' k) (y k)):NF bd x' y':=⟨h.d.congr fun k=>(hx k).add ((hy k).mull (-1)),fun b hb=>(hy _).trans (h.z b hb)⟩
theorem lin_e (c a b a' b':Int):c * a+a' + -1 * (c * b+b')=c * (a + -1 * b)+(a' + -1 * b'):=by
 rw [Int.mul_add,Int.mul_add,Int.mul_left_comm c (-1)]
 omega
theorem NF.lin (c:Int) (h1:NF bd x y) (h2:NF bd x' y'):NF bd (fun k=>c * x k+x' k) (fun k=>c * y k+y' k):=by
 refine ⟨((h1.d.mul c).plus h2.d).congr fun k=>?_,fun b hb=>?_⟩
 · rw [lin_e]
   exact Mo.refl _
 · have h3:=((h1.z b hb).mull c).add (h2.z b hb)
   simpa using h3
theorem NF.uniq (hb:Red W bd) (h1:NF bd x y) (h2:NF bd x y') (k:Nat):Mo (y k) (y' k):=by
 have h3:Spn bd (fun k=>y' k + -1 * y k):=((h2.d.mul (-1)).plus h1.d).congr fun k=>by
  have e:y' k + -1 * y k = -1 * (x k + -1 * y' k)+(x k + -1 * y k):=by omega
  rw [e];exact Mo.refl _
 have h4:=hb.at h3 k
 have h5:Mo (bd.map fun s=>(y' (ldR s) + -1 * y (ldR s)) * s.getD k 0).sum 0:=by
  have h6:=sum_mo (l:=bd) (f:=fun s=>(y' (ldR s) + -1 * y (ldR s)) * s.getD k 0) (g:=fun _=>0) fun s hs=>by
   have h7:=((h2.z s hs).add ((h1.z s hs).mull (-1))).mul (s.getD k 0)
   simpa using h7
  rwa [sum_zero fun _ _=>rfl] at h6
 have h8:=h4.trans h5;unfold Mo at h8 ⊢
 omega
theorem by_diff {ss:List (List Int)} : ∀{B:List (List Int)} {row:List Int},RowOk W row→(∀r∈B,RowOk W r)→(∀r∈B,r∈ss)→Spn ss fun k=>row.getD k 0 + -1 * (byS row B).getD k 0
 | [],row,_,_,_=>.zero fun k=>by
  show Mo (row.getD k 0 + -1 * row.getD k 0) 0
  unfold Mo
  omega
 | r::B,row,h,hB,hs=>by
  have hr:=hB r (by simp)
  have ih:=by_diff (ss:=ss) (B:=B) (row:=oneBy row r) (h.one hr) (fun s h9=>hB s (by simp [h9])) fun s h9=>hs s (by simp [h9])
  refine .add (hs r (by simp)) ih (c:=row.getD (ldR r) 0) fun k=>?_
  have h1:=Mo.fld (row.getD k 0 - row.getD (ldR r) 0 * r.getD k 0)
  rw [← oneBy_get h hr k] at h1
  show Mo (row.getD k 0 + -1 * (byS (oneBy row r) B).getD k 0) (row.getD (ldR r) 0 * r.getD k 0+((oneBy row r).getD k 0 + -1 * (byS (oneBy row r) B).getD k 0))
  generalize row.getD (ldR r) 0 * r.getD k 0=m at h1 ⊢
  generalize (oneBy row r).getD k 0=o at h1 ⊢
  unfold Mo at h1 ⊢
  omega
theorem NF.by (hb:Red W bd) {row:List Int} (h:RowOk W row):NF bd (vR row) (vR (byS row bd)):=⟨by_diff h hb.row fun _ h=>h,fun b hb2=>by
 show Mo ((byS row bd).getD (ldR b) 0) 0
 rw [byS_zero hb (A:=[]) (B:=bd) rfl h b hb2]
 exact Mo.refl _⟩
theorem nf_spn (hcl : ∀r∈cl,RowOk W r) (hb:Red W bd) (hx:Spn cl x) : ∀{y:Vc},NF bd x y→Spn (cl.map fun r=>byS r bd) y:=by
 induction hx with
 | zero h0=>exact fun hn=>.zero ((hn.cong (fun k=>(h0 k).symm) fun k=>Mo.refl _).uniq hb (NF.zero bd))
 | @add u v r c hr _ h1 ih=>
  intro y hn;have h2:=NF.by hb (hcl r hr);have h3:=NF.lin (-1 * c) h2 hn
  have h4:NF bd u (fun k=>-1 * c * vR (byS r bd) k+y k):=h3.cong (fun k=>by
   have h5:=h1 k
   show Mo (u k) (-1 * c * r.getD k 0+v k)
   rw [Int.mul_assoc];generalize c * r.getD k 0=m at h5 ⊢;unfold Mo at h5 ⊢
   omega) fun k=>Mo.refl _
  refine .add (List.mem_map.2 ⟨r,hr,rfl⟩) (ih h4) (c:=c) fun k=>?_
  show Mo (y k) (c * (byS r bd).getD k 0+(-1 * c * (byS r bd).getD k 0+y k))
  rw [Int.mul_assoc];generalize c * (byS r bd).getD k 0=m;unfold Mo
  omega
theorem nf_of (hb:Red W bd) (hbs : ∀b∈bd,Spn cl (vR b)) (hn:NF bd x y) (hx:Spn cl x):Spn cl y:=((hx.plus ((hn.d.sub hbs).mul (-1))).congr fun k=>by
 have e:y k=x k + -1 * (x k + -1 * y k):=by omega
 rw [← e]
 exact Mo.refl _)
theorem rows_map (g:List Int→Int) (cs:List (List Int)):(List.range cs.length).map (fun i=>g (rw_ cs i))=cs.map g:=by
 refine List.ext_getElem (by simp) fun i h1 h2=>?_
 have h3:i<cs.length:=by simpa using h2
 simp only [List.getElem_map,List.getElem_range];rw [← rw_eq h3]
theorem phi_at (hc:Red W cs) (hy:Spn cs y) {z:Vc} (hz : ∀i,i<cs.length→Mo (z i) (y (ldR (rw_ cs i)))) (k:Nat):Mo (relS cs z k) (y k):=by
 have h1:=hc.at hy k;refine Mo.trans ?_ h1.symm;rw [← rows_map (fun s=>y (ldR s) * s.getD k 0) cs];exact relS_cong (v:=fun i=>y (ldR (rw_ cs i))) hz k
theorem red_at (hc:Red W cs) {i j:Nat} (hi:i<cs.length) (hj:j<cs.length):(rw_ cs j).getD (ldR (rw_ cs i)) 0=if i=j then 1 else 0:=by
 by_cases e:i=j
 ·subst e;rw [if_pos rfl];exact (hc.one _ (rw_mem hi)).2
 ·rw [if_neg e];refine hc.zer _ (rw_mem hi) _ (rw_mem hj) fun h9=>?_;have hs:=List.pairwise_iff_getElem.1 hc.srt
  rcases Nat.lt_or_gt_of_ne e with h1 | h1
  ·have:=hs i j hi hj h1;rw [rw_eq hi,rw_eq hj] at this
   omega
  ·have:=hs j i hj hi h1;rw [rw_eq hi,rw_eq hj] at this
   omega
theorem phi_ld (hc:Red W cs) (z:Vc) {i:Nat} (hi:i<cs.length):relS cs z (ldR (rw_ cs i))=z i:=by
 unfold relS;rw [sum_single (f:=fun j=>j) List.pairwise_lt_range (List.mem_range.2 hi) fun s hs hne=>by rw [red_at hc hi (List.mem_range.1 hs),if_neg (fun e=>hne e.symm),Int.mul_zero],red_at hc hi hi,if_pos rfl,Int.mul_one]
end
def evV (ps:List Pw) (v:Vc) (G:Pw→Int):Int:=((List.range ps.length).map fun i=>v i * G (rw_ ps i)).sum
section
variable {ps : List Pw} {u v : Vc} {G : Pw → Int}
theorem ev_lin (c:Int) (u v:Vc) (G:Pw→Int):evV ps (fun i=>c * u i+v i) G=c * evV ps u G+evV ps v G:=by
 unfold evV;rw [← sum_plus]
 congr 1
 refine List.map_congr_left fun i _=>?_;rw [Int.add_mul,Int.mul_assoc]
theorem ev_cong (h : ∀i,i<ps.length→Mo (u i) (v i)) (G:Pw→Int):Mo (evV ps u G) (evV ps v G):=sum_mo fun i hi=>(h i (List.mem_range.1 hi)).mul _
theorem ev_zero (G:Pw→Int):evV ps (fun _=>0) G=0:=sum_zero fun i _=>Int.zero_mul _
theorem ev_wG (hn:ps.Nodup) {s:Sm} (hs:(s.map (·.1)).Nodup) (hk : ∀x∈s,x.1∈ps) (G:Pw→Int):evV ps (vR (ps.map (cf s))) G=wG G s:=by
 rw [← sum_cf hn hs hk];unfold evV
 congr 1
 refine List.ext_getElem (by simp) fun i h1 h2=>?_
 have h3:i<ps.length:=by simpa using h2
 simp [rw_,List.getD_eq_getElem?_getD,h3]
theorem wG_rowK (row:List Int) (G:Pw→Int) : ∀k:Nat,wG G (rowK ps row k)=((List.range k).map fun i=>row.getD i 0 * G (rw_ ps i)).sum
 | 0=>rfl
 | k+1=>by
  rw [rowK_succ,wG_app,wG_rowK row G k,List.range_succ,List.map_append,List.sum_append]
  simp [wG]
theorem ev_row {row:List Int} (hl:row.length=ps.length) (G:Pw→Int):Mo (wG G (sumR ps row)) (evV ps (vR row) G):=by
 unfold sumR evV;have h:=wG_acc G (rowK ps row row.length) [];have h0:wG G []=0:=rfl;rw [h0,Int.zero_add,wG_rowK,hl] at h;rw [hl];exact h
end
theorem sum_sw {α β:Type} (a:α→Int) (c:α→β→Int) (g:β→Int) (m:List β) : ∀l:List α,(l.map fun i=>a i * (m.map fun q=>c i q * g q).sum).sum=(m.map fun q=>(l.map fun i=>a i * c i q).sum * g q).sum
 | []=>by
  simp only [List.map_nil,List.sum_nil]
  exact (sum_zero fun q _=>Int.zero_mul _).symm
 | i::l=>by
  have ih:=sum_sw a c g m l
  simp only [List.map_cons,List.sum_cons]
  rw [ih,← sum_plus]
  congr 1
  refine List.map_congr_left fun q _=>?_
  rw [Int.add_mul,Int.mul_assoc]
theorem wG_swap (F:Pw→Pw→Int) (b:Sm) : ∀a:Sm,wG (fun p=>wG (F p) b) a=wG (fun q=>wG (fun p=>F p q) a) b
 | []=>(wG_zeroF b).symm
 | x::a=>by
  have ih:=wG_swap F b a
  simp only [wG]
  rw [ih,wG_addF,wG_mulF]
section
variable {ds : List Int} {fs : List (List Term)} {n k : Int}
def ClV (ds:List Int) (fs:List (List Term)) (n:Int) (v:Vc):Prop:=∀G:Pw→Int,Mo (evV (monL ds n) v fun p=>dG ds fs G p 8) 0
def ClW (ds:List Int) (fs:List (List Term)) (s:Sm):Prop:=∀G:Pw→Int,Mo (wG (fun p=>dG ds fs G p 8) s) 0
theorem mat_at (i j:Nat) (hi:i<(monL ds n).length) (hj:j<(monL ds (n+1)).length):(rw_ (matS ds fs n) i).getD j 0=cf (dS ds fs [(rw_ (monL ds n) i,1)]) (rw_ (monL ds (n+1)) j):=by simp [matS,rw_,List.getD_eq_getElem?_getD,hi,hj]
theorem cl_closed (hG:isAlg ds fs=true) (hw:Wfss fs) (hn:n≤40) (hf:fit2 ds n) {v:Vc} (hv:Spn (clS ds fs n) v):ClV ds fs n v:=fun G=>by
 have hA:=isAlg_ok hG hw
 have h8:=hA.hn
 have hd:=alg_112 hG
 have hom:=hom_of hG hw h8 hd hn hf
 have h1 : ∀i,i<(monL ds n).length→Mo (dG ds fs G (rw_ (monL ds n) i) 8) ((List.range (monL ds (n+1)).length).map fun j=>cf (dS ds fs [(rw_ (monL ds n) i,1)]) (rw_ (monL ds (n+1)) j) * G (rw_ (monL ds (n+1)) j)).sum:=fun i hi=>by
  have hp:=monL_mem hi
  have hs:=dS_one hA h8 hd hp
  have h2:=wG_dS (ds:=ds) fs G [(rw_ (monL ds n) i,1)]
  simp only [wG,Int.one_mul,Int.add_zero] at h2
  refine h2.symm.trans ?_
  rw [← ev_wG (monL_nodup h8 (n+1)) hs.nodup (hom _ (rw_mem hi)) G]
  unfold evV
  refine sum_mo fun j hj=>?_
  have hj:=List.mem_range.1 hj
  have e:vR ((monL ds (n+1)).map (cf (dS ds fs [(rw_ (monL ds n) i,1)]))) j=cf (dS ds fs [(rw_ (monL ds n) i,1)]) (rw_ (monL ds (n+1)) j):=by simp [rw_,List.getD_eq_getElem?_getD,hj]
  rw [e]
  exact Mo.refl _
 unfold evV
 refine (sum_mo (g:=fun i=>v i * ((List.range (monL ds (n+1)).length).map fun j=>cf (dS ds fs [(rw_ (monL ds n) i,1)]) (rw_ (monL ds (n+1)) j) * G (rw_ (monL ds (n+1)) j)).sum) fun i hi=>(h1 i (List.mem_range.1 hi)).mull (v i)).trans ?_
 rw [sum_sw (fun i=>v i) (fun i j=>cf (dS ds fs [(rw_ (monL ds n) i,1)]) (rw_ (monL ds (n+1)) j)) (fun j=>G (rw_ (monL ds (n+1)) j))]
 have h3:=sum_mo (l:=List.range (monL ds (n+1)).length) (f:=fun j=>((List.range (monL ds n).length).map fun i=>v i * cf (dS ds fs [(rw_ (monL ds n) i,1)]) (rw_ (monL ds (n+1)) j)).sum * G (rw_ (monL ds (n+1)) j)) (g:=fun _=>0) fun j hj=>by
  have hj:=List.mem_range.1 hj
  have h4:=ker_rel (matS_ok (n:=n) hA h8 hd) hv hj
  unfold relS at h4
  rw [matS_len] at h4
  have e:((List.range (monL ds n).length).map fun i=>v i * (rw_ (matS ds fs n) i).getD j 0)=(List.range (monL ds n).length).map fun i=>v i * cf (dS ds fs [(rw_ (monL ds n) i,1)]) (rw_ (monL ds (n+1)) j):=List.map_congr_left fun i hi=>by rw [mat_at i j (List.mem_range.1 hi) hj]
  rw [e] at h4
  have h5:=h4.mul (G (rw_ (monL ds (n+1)) j))
  rwa [Int.zero_mul] at h5
 rwa [sum_zero fun _ _=>rfl] at h3
theorem closed_cl (hG:isAlg ds fs=true) (hw:Wfss fs) {u:List Int} (hu:u.length=(monL ds n).length) (h:ClV ds fs n (vR u)):Spn (clS ds fs n) (vR u):=by
 have hA:=isAlg_ok hG hw;have h8:=hA.hn;have hd:=alg_112 hG;unfold clS;refine ker_spn (matS_ok (n:=n) hA h8 hd) (by rw [matS_len];exact hu) fun j hj=>(Mo.trans ?_ (h (ind (rw_ (monL ds (n+1)) j))));unfold evV;rw [matS_len];refine sum_mo fun i hi=>?_;have hi:=List.mem_range.1 hi;rw [mat_at i j hi hj];exact (cf_dS1 hA h8 hd (monL_mem hi) _).mull _
theorem mon_nn {n:Int} (h8:ds.length≤8) {p:Pw} (hp:p∈monL ds n):Nn p:=⟨(monL_pok h8 p hp).len,fun j=>((monL_pok h8 p hp).bd j).1⟩
theorem times_cl (hG:isAlg ds fs=true) (hw:Wfss fs) {a b:Sm} (ha : ∀x∈a,x.1∈monL ds n) (hb : ∀x∈b,x.1∈monL ds k) (hca:ClW ds fs a) (hcb:ClW ds fs b):ClW ds fs (timesS ds a b):=fun G=>by
 have hD:=isAlg_deg hG
 have h8:=isDeg_len hD
 have hd:=alg_112 hG
 refine (wG_times _ a b).trans ?_
 have h1:Mo (wG (fun p=>wG (lG ds p fun x=>dG ds fs G x 8) b) a) (wG (fun p=>wG (fun q=>dG ds fs (rG ds q G) p 8+par n * dG ds fs (lG ds p G) q 8) b) a):=wG_cong fun x hx=>wG_cong fun y hy=>by
  have h2:=dG_leib (isDeg_bd hD) h8 (isAlg_img hG hw) (mon_nn h8 (ha x hx)) (monL_ex h8 hd _ (ha x hx)) y.1 (mon_nn h8 (hb y hy)) (monL_ex h8 hd _ (hb y hy)) G
  rw [monL_wt h8 _ (ha x hx)] at h2
  show Mo (sgn ds x.1 y.1 * dG ds fs G (addp x.1 y.1) 8) _
  rw [h2]
  exact Mo.refl _
 refine h1.trans ?_
 have e:wG (fun p=>wG (fun q=>dG ds fs (rG ds q G) p 8+par n * dG ds fs (lG ds p G) q 8) b) a=wG (fun q=>wG (fun p=>dG ds fs (rG ds q G) p 8) a) b+par n * wG (fun p=>wG (fun q=>dG ds fs (lG ds p G) q 8) b) a:=by
  have e1:(fun p=>wG (fun q=>dG ds fs (rG ds q G) p 8+par n * dG ds fs (lG ds p G) q 8) b)=fun p=>wG (fun q=>dG ds fs (rG ds q G) p 8) b+par n * wG (fun q=>dG ds fs (lG ds p G) q 8) b:=funext fun p=>by rw [wG_addF,wG_mulF]
  rw [e1,wG_addF,wG_mulF,wG_swap (fun p q=>dG ds fs (rG ds q G) p 8) b a]
 rw [e]
 have h3:Mo (wG (fun q=>wG (fun p=>dG ds fs (rG ds q G) p 8) a) b) (wG (fun _=>0) b):=wG_cong fun y _=>hca (rG ds y.1 G)
 have h4:Mo (wG (fun p=>wG (fun q=>dG ds fs (lG ds p G) q 8) b) a) (wG (fun _=>0) a):=wG_cong fun x _=>hcb (lG ds x.1 G)
 rw [wG_zeroF] at h3 h4
 have h5:=h3.add (h4.mull (par n))
 rwa [Int.mul_zero,Int.zero_add] at h5
theorem pr_closed (hG:isAlg ds fs=true) (hw:Wfss fs) {a b:Sm} (hsa:Sok 20 a) (hsb:Sok 20 b) (ha : ∀x∈a,x.1∈monL ds n) (hb : ∀x∈b,x.1∈monL ds k) (hca:ClW ds fs a) (hcb:ClW ds fs b) (hf:fitB ds (n+k)=true) (h40:n+k≤41):Spn (clS ds fs (n+k)) (vR ((monL ds (n+k)).map (cf (timesS ds a b)))):=by
 have h8:=(isAlg_ok hG hw).hn;have hd:=alg_112 hG;have ht:=times_mon h8 hd hsa hsb ha hb hf h40;refine closed_cl hG hw (by simp) fun G=>?_;rw [ev_wG (monL_nodup h8 _) (hsa.times hsb).nodup ht];exact times_cl hG hw ha hb hca hcb G
theorem ClV.row {row:List Int} (hl:row.length=(monL ds n).length) (h:ClV ds fs n (vR row)):ClW ds fs (sumR (monL ds n) row):=fun G=>(ev_row hl _).trans (h G)
theorem cs_cl (hG:isAlg ds fs=true) (hw:Wfss fs) (hn:n≤40) (hf:fit3 ds n) {v:Vc} (hv:Spn (csS ds fs n) v):Spn (clS ds fs n) v:=by
 have hA:=isAlg_ok hG hw;have h8:=hA.hn;have hd:=alg_112 hG;have hbd:=bdS_red (n:=n) hA h8 hd;have hcl:=clS_red (n:=n) hA h8 hd
 have hok : ∀r∈(clS ds fs n).map fun r=>byS r (bdS ds fs n),RowOk (monL ds n).length r:=fun r hr=>by
  obtain ⟨s,hs,rfl⟩:=List.mem_map.1 hr;exact byS_ok (hcl.row s hs) hbd.row
 refine (((redS_ok hok).2 v).1 hv).sub fun r hr=>?_;obtain ⟨s,hs,rfl⟩:=List.mem_map.1 hr;exact nf_of hbd (bd_cl hG hw hn hf) (NF.by hbd (hcl.row s hs)) (Spn.row hs)
theorem cl_cs (hG:isAlg ds fs=true) (hw:Wfss fs) {x y:Vc} (hx:Spn (clS ds fs n) x) (hn:NF (bdS ds fs n) x y):Spn (csS ds fs n) y:=by
 have hA:=isAlg_ok hG hw;have h8:=hA.hn;have hd:=alg_112 hG;have hbd:=bdS_red (n:=n) hA h8 hd;have hcl:=clS_red (n:=n) hA h8 hd
 have hok : ∀r∈(clS ds fs n).map fun r=>byS r (bdS ds fs n),RowOk (monL ds n).length r:=fun r hr=>by
  obtain ⟨s,hs,rfl⟩:=List.mem_map.1 hr;exact byS_ok (hcl.row s hs) hbd.row
 exact ((redS_ok hok).2 y).2 (nf_spn hcl.row hbd hx hn)
end
def hX (ds:List Int) (b:Sm) (q:Pw):Pw→Int:=fun p=>wG (lG ds p (ind q)) b
def xV (ds:List Int) (n t:Int) (b:Sm) (v:Vc):Vc:=fun j=>evV (monL ds n) v (hX ds b (rw_ (monL ds t) j))
def Rep (ds:List Int) (n:Int) (a:Sm) (v:Vc):Prop:=∀G:Pw→Int,Mo (wG G a) (evV (monL ds n) v G)
def rowP (ds:List Int) (t:Int) (a b:Sm):List Int:=(monL ds t).map (cf (timesS ds a b))
def cmbS (ps:List Pw) (cs:List (List Int)) (w:List Int):Nat→Sm
 | 0=>[]
 | i+1=>acc (cmbS ps cs w i) (scl (sumR ps (rw_ cs i)) (w.getD i 0))
def pvS (ds:List Int) (fs:List (List Term)) (n k:Int) (c u:List Int):List Int:=byS (rowP ds (n+k) (sumR (monL ds n) u) (sumR (monL ds k) c)) (bdS ds fs (n+k))
def cvS (ds:List Int) (fs:List (List Term)) (n k:Int) (c w:List Int):List Int:=clV ds fs (n+k) (rowP ds (n+k) (cmbS (monL ds n) (csS ds fs n) w (csS ds fs n).length) (sumR (monL ds k) c))
section
variable {ds : List Int} {fs : List (List Term)} {n k t : Int} {a b : Sm} {u v : Vc}
theorem xV_lin (c:Int) (u v:Vc) (j:Nat):xV ds n t b (fun i=>c * u i+v i) j=c * xV ds n t b u j+xV ds n t b v j:=ev_lin c u v _
theorem xV_cong (h : ∀i,Mo (u i) (v i)) (j:Nat):Mo (xV ds n t b u j) (xV ds n t b v j):=ev_cong (fun i _=>h i) _
theorem xV_nil (h : ∀i,Mo (u i) 0) (j:Nat):Mo (xV ds n t b u j) 0:=by
 have h1:=xV_cong (ds:=ds) (n:=n) (t:=t) (b:=b) (u:=u) (v:=fun _=>0) h j;have e:xV ds n t b (fun _=>0) j=0:=ev_zero _
 rwa [e] at h1
theorem hX_nil (p:Pw):hX ds b [] p=0:=by
 unfold hX
 have e:lG ds p (ind [])=fun _=>0:=by
  funext q
  unfold lG ind;rw [if_neg fun h=>by have:=congrArg List.length h;simp at this,Int.mul_zero]
 rw [e];exact wG_zeroF b
theorem x_xV (hsa:Sok 20 a) (hsb:Sok 20 b) (hr:Rep ds n a v) (j:Nat):Mo ((rowP ds t a b).getD j 0) (xV ds n t b v j):=by
 unfold rowP xV
 rcases Nat.lt_or_ge j (monL ds t).length with hj | hj
 ·have e:((monL ds t).map (cf (timesS ds a b))).getD j 0=cf (timesS ds a b) (rw_ (monL ds t) j):=by simp [rw_,List.getD_eq_getElem?_getD,hj]
  rw [e,cf_wG _ (hsa.times hsb)];exact (wG_times _ a b).trans (hr (hX ds b (rw_ (monL ds t) j)))
 ·have e1:rw_ (monL ds t) j=[]:=by
   unfold rw_;rw [List.getD_eq_getElem?_getD,List.getElem?_eq_none hj]
   rfl
  rw [getD_ge (by simpa using hj),e1];have e2:hX ds b []=fun _=>0:=funext fun p=>hX_nil p;rw [e2];have e3:evV (monL ds n) v (fun _=>0)=0:=sum_zero fun i _=>Int.mul_zero _;rw [e3];exact Mo.refl _
theorem Rep.row {row:List Int} (hl:row.length=(monL ds n).length):Rep ds n (sumR (monL ds n) row) (vR row):=fun G=>ev_row hl G
theorem cmb_wG {ps:List Pw} {cs:List (List Int)} {w:List Int} (hc : ∀i,i<cs.length→(rw_ cs i).length=ps.length) (G:Pw→Int) : ∀i:Nat,i≤cs.length→Mo (wG G (cmbS ps cs w i)) ((List.range i).map fun j=>w.getD j 0 * evV ps (vR (rw_ cs j)) G).sum
 | 0,_=>Mo.refl _
 | i+1,h=>by
  have ih:=cmb_wG hc (w:=w) G i (by omega)
  have h1:=wG_acc G (scl (sumR ps (rw_ cs i)) (w.getD i 0)) (cmbS ps cs w i)
  have h2:=(wG_scl G (w.getD i 0) (sumR ps (rw_ cs i))).trans ((ev_row (hc i (by omega)) G).mull (w.getD i 0))
  rw [List.range_succ,List.map_append,List.sum_append]
  simp only [List.map_cons,List.map_nil,List.sum_cons,List.sum_nil,Int.add_zero]
  exact h1.trans (ih.add h2)
theorem ev_rel (ps:List Pw) (cs:List (List Int)) (w:Vc) (G:Pw→Int):evV ps (relS cs w) G=((List.range cs.length).map fun j=>w j * evV ps (vR (rw_ cs j)) G).sum:=by
 unfold evV relS;exact (sum_sw (fun j=>w j) (fun j i=>(rw_ cs j).getD i 0) (fun i=>G (rw_ ps i)) (List.range ps.length) (List.range cs.length)).symm
theorem Rep.cmb {cs:List (List Int)} {w:List Int} (hc : ∀r∈cs,r.length=(monL ds n).length):Rep ds n (cmbS (monL ds n) cs w cs.length) (relS cs (vR w)):=fun G=>by
 rw [ev_rel]
 exact cmb_wG (fun i hi=>hc _ (rw_mem hi)) G cs.length (Nat.le_refl _)
theorem cmb_ok {ps:List Pw} {cs:List (List Int)} {w:List Int} (hp : ∀p∈ps,Pok 20 p) (hc : ∀i,i<cs.length→(rw_ cs i).length=ps.length) : ∀i:Nat,i≤cs.length→Sok 20 (cmbS ps cs w i)∧∀x∈cmbS ps cs w i,x.1∈ps
 | 0,_=>⟨Sok.nil,fun x hx=>by cases hx⟩
 | i+1,h=>by
  obtain ⟨h1,h2⟩:=cmb_ok hp hc (w:=w) i (by omega)
  have hl:=hc i (by omega)
  have h3:=sumR_sok hp (row:=rw_ cs i) (by omega)
  refine ⟨h1.acc fun x hx=>scl_pok h3 _ x hx,fun x hx=>?_⟩
  rcases acc_mem hx with h4 | ⟨y,hy,e⟩
  ·exact h2 x h4
  ·obtain ⟨z,hz,e2⟩:=scl_key hy
   rw [e,e2]
   exact sumR_key (by omega) z hz
end
structure Tri (ds:List Int) (fs:List (List Term)) (n k:Int):Prop where
 hG:isAlg ds fs=true
 hw:Wfss fs
 h1:n≤40
 h2:k≤40
 h3:n+k≤40
 f1:fit3 ds n
 f2:fit3 ds k
 f3:fit3 ds (n+k)
section
variable {ds : List Int} {fs : List (List Term)} {n k t : Int} {c : List Int} {U Wl : List (List Int)} {v w : Vc}
theorem Tri.red (h:Tri ds fs n k) (t:Int):Red (monL ds t).length (csS ds fs t)∧Red (monL ds t).length (bdS ds fs t):=⟨csS_red (isAlg_ok h.hG h.hw) (isAlg_ok h.hG h.hw).hn (alg_112 h.hG),bdS_red (isAlg_ok h.hG h.hw) (isAlg_ok h.hG h.hw).hn (alg_112 h.hG)⟩
theorem rowP_ok {a b:Sm} (ha:Sok 20 a) (hb:Sok 20 b):RowOk (monL ds t).length (rowP ds t a b):=cfR_ok (ha.times hb)
theorem pv_nf (h:Tri ds fs n k) {u:List Int} (hu:u.length=(monL ds n).length) (hc:c.length=(monL ds k).length):NF (bdS ds fs (n+k)) (xV ds n (n+k) (sumR (monL ds k) c) (vR u)) (vR (pvS ds fs n k c u)):=by
 have h8:=(isAlg_ok h.hG h.hw).hn;have hs:=sumR_mon (n:=n) h8 (row:=u) (by omega);have hb:=sumR_mon (n:=k) h8 (row:=c) (by omega);exact (NF.by (h.red (n+k)).2 (rowP_ok hs hb)).cong (fun j=>(x_xV hs hb (Rep.row hu) j).symm) fun j=>Mo.refl _
theorem tr_A (h:Tri ds fs n k) (hU : ∀u∈U,u.length=(monL ds n).length) (hc:c.length=(monL ds k).length) (hv:Spn U v) : ∃y,Spn (U.map (pvS ds fs n k c)) y∧NF (bdS ds fs (n+k)) (xV ds n (n+k) (sumR (monL ds k) c) v) y:=by
 induction hv with
 | zero h0=>exact ⟨fun _=>0,.zero fun _=>Mo.refl _,(NF.zero _).cong (fun j=>xV_nil h0 j) fun j=>Mo.refl _⟩
 | @add u v r c0 hr _ h1 ih=>
  obtain ⟨y,hy,hn⟩:=ih;refine ⟨fun j=>c0 * vR (pvS ds fs n k c r) j+y j,.add (List.mem_map.2 ⟨r,hr,rfl⟩) hy fun j=>Mo.refl _,(NF.lin c0 (pv_nf h (hU r hr) hc) hn).cong (fun j=>?_) fun j=>Mo.refl _⟩;rw [← xV_lin];exact xV_cong h1 j
theorem cv_nf (h:Tri ds fs n k) (w:List Int) (hc:c∈csS ds fs k):NF (bdS ds fs (n+k)) (xV ds n (n+k) (sumR (monL ds k) c) (relS (csS ds fs n) (vR w))) (relS (csS ds fs (n+k)) (vR (cvS ds fs n k c w))):=by
 have hA:=isAlg_ok h.hG h.hw;have h8:=hA.hn;have hd:=alg_112 h.hG;obtain ⟨hcn,_⟩:=h.red n;obtain ⟨hck,_⟩:=h.red k;obtain ⟨hct,hbt⟩:=h.red (n+k);have hl:=(hck.row c hc).len;have hb:=sumR_mon (n:=k) h8 (row:=c) (by omega);have hln : ∀i,i<(csS ds fs n).length→(rw_ (csS ds fs n) i).length=(monL ds n).length:=fun i hi=>(hcn.row _ (rw_mem hi)).len;obtain ⟨ha,hak⟩:=cmb_ok (w:=w) (monL_pok h8) hln (csS ds fs n).length (Nat.le_refl _);have hr:Rep ds n (cmbS (monL ds n) (csS ds fs n) w (csS ds fs n).length) (relS (csS ds fs n) (vR w)):=Rep.cmb fun r hr=>(hcn.row r hr).len;have hca:ClW ds fs (cmbS (monL ds n) (csS ds fs n) w (csS ds fs n).length):=fun G=>(hr _).trans (cl_closed h.hG h.hw h.h1 h.f1.1 (cs_cl h.hG h.hw h.h1 h.f1 (relS_spn _)) G);have hcb:ClW ds fs (sumR (monL ds k) c):=ClV.row hl (cl_closed h.hG h.hw h.h2 h.f2.1 (cs_cl h.hG h.hw h.h2 h.f2 (Spn.row hc)));have hcl:=pr_closed h.hG h.hw ha hb hak (sumR_key (by omega)) hca hcb h.f3.1.1 (by have:=h.h3;omega);have hN:=NF.by hbt (rowP_ok (t:=n+k) (ds:=ds) ha hb);have hS:=cl_cs h.hG h.hw hcl hN;refine hN.cong (fun j=>(x_xV ha hb hr j).symm) fun j=>phi_at hct hS (fun i hi=>?_) j
 have e:(cvS ds fs n k c w).getD i 0=(byS (rowP ds (n+k) (cmbS (monL ds n) (csS ds fs n) w (csS ds fs n).length) (sumR (monL ds k) c)) (bdS ds fs (n+k))).getD (ldR (rw_ (csS ds fs (n+k)) i)) 0:=by
  unfold cvS clV
  simp [rw_,List.getD_eq_getElem?_getD,hi]
 show Mo ((cvS ds fs n k c w).getD i 0) _
 rw [e];exact Mo.refl _
theorem tr_B (h:Tri ds fs n k) (hc:c∈csS ds fs k) (hw:Spn Wl w) : ∃z,Spn (Wl.map (cvS ds fs n k c)) z∧NF (bdS ds fs (n+k)) (xV ds n (n+k) (sumR (monL ds k) c) (relS (csS ds fs n) w)) (relS (csS ds fs (n+k)) z):=by
 induction hw with
 | zero h0=>exact ⟨fun _=>0,.zero fun _=>Mo.refl _,(NF.zero _).cong (fun j=>xV_nil (fun i=>relS_nil (fun l _=>h0 l) i) j) fun j=>relS_nil (fun _ _=>Mo.refl _) j⟩
 | @add u v r c0 hr _ h1 ih=>
  obtain ⟨z,hz,hn⟩:=ih;refine ⟨fun j=>c0 * vR (cvS ds fs n k c r) j+z j,.add (List.mem_map.2 ⟨r,hr,rfl⟩) hz fun j=>Mo.refl _,(NF.lin c0 (cv_nf h r hc) hn).cong (fun j=>?_) fun j=>by rw [relS_lin];exact Mo.refl _⟩;rw [← xV_lin];refine xV_cong (fun i=>?_) j;rw [← relS_lin];exact relS_cong (fun l _=>h1 l) i
structure Eqv (ds:List Int) (fs:List (List Term)) (n:Int) (U Wl:List (List Int)):Prop where
 to : ∀u∈U,∃w,Spn Wl w∧∀i,Mo (u.getD i 0) (relS (csS ds fs n) w i)
 of : ∀w∈Wl,Spn U (relS (csS ds fs n) (vR w))
theorem Eqv.toS (h:Eqv ds fs n U Wl) (hv:Spn U v) : ∃w,Spn Wl w∧∀i,Mo (v i) (relS (csS ds fs n) w i):=by
 induction hv with
 | zero h0=>exact ⟨fun _=>0,.zero fun _=>Mo.refl _,fun i=>(h0 i).trans (relS_nil (fun _ _=>Mo.refl _) i).symm⟩
 | @add u v r c0 hr _ h1 ih=>
  obtain ⟨w,hw,e⟩:=ih;obtain ⟨x,hx,e2⟩:=h.to r hr;refine ⟨fun j=>c0 * x j+w j,(hx.mul c0).plus hw,fun i=>?_⟩;rw [relS_lin];exact (h1 i).trans (((e2 i).mull c0).add (e i))
theorem Eqv.ofS (h:Eqv ds fs n U Wl) (hw:Spn Wl w):Spn U (relS (csS ds fs n) w):=by
 induction hw with
 | zero h0=>exact .zero fun i=>relS_nil (fun j _=>h0 j) i
 | @add u v r c0 hr _ h1 ih=>
  refine (((h.of r hr).mul c0).plus ih).congr fun i=>?_;have e:=relS_lin (rows:=csS ds fs n) c0 (vR r) u i;rw [← e];exact relS_cong (fun j _=>h1 j) i
theorem Eqv.red {W V:Nat} (h:Eqv ds fs n U Wl) (hU : ∀u∈U,RowOk W u) (hW : ∀w∈Wl,RowOk V w):Eqv ds fs n (redS U) (redS Wl):=⟨fun u hu=>by
 obtain ⟨w,h1,h2⟩:=h.toS (((redS_ok hU).2 _).1 (Spn.row hu))
 exact ⟨w,((redS_ok hW).2 _).2 h1,h2⟩,fun w hw=>((redS_ok hU).2 _).2 (h.ofS (((redS_ok hW).2 _).1 (Spn.row hw)))⟩
theorem Red.none {W:Nat} {R:List (List Int)} (h:Red W R) (h0 : ∀r∈R,∀i,Mo (r.getD i 0) 0):R=[]:=by
 cases R with
 | nil=>rfl
 | cons r R=>
  have h1:=(h.one r (by simp)).2;have h2:=h0 r (by simp) (ldR r);rw [h1] at h2;unfold Mo at h2
  omega
theorem Spn.none {v:Vc} (h:Spn [] v) (i:Nat):Mo (v i) 0:=by
 cases h with
 | zero h=>exact h i
 | add hr=>cases hr
theorem Eqv.nil {W V:Nat} (h:Eqv ds fs n U Wl) (hU:Red W U) (hW:Red (csS ds fs n).length Wl) (hc:Red V (csS ds fs n)):U=[]↔Wl=[]:=by
 constructor
 ·rintro rfl;refine hW.none fun w hw i=>?_
  rcases Nat.lt_or_ge i (csS ds fs n).length with hi | hi
  ·have h1:=(h.of w hw).none (ldR (rw_ (csS ds fs n) i))
   rwa [phi_ld hc _ hi] at h1
  ·rw [getD_ge (by rw [(hW.row w hw).len];exact hi)];exact Mo.refl _
 ·rintro rfl;refine hU.none fun u hu i=>?_;obtain ⟨w,h1,h2⟩:=h.to u hu;exact (h2 i).trans (relS_nil (fun j _=>h1.none j) i)
theorem Eqv.step {m:Int} {now sp:Int→List (List Int)} (hT : ∀n k,0≤n→1≤k→n+k≤m→Tri ds fs n k) (hN : ∀n,0≤n→n≤m→Eqv ds fs n (now n) (sp n)∧∀u∈now n,u.length=(monL ds n).length) (ht:t≤m) (h1 : ∀x,x∈U↔∃k,(1≤k∧k≤t)∧∃u∈now (t - k),∃c∈csS ds fs k,x=pvS ds fs (t - k) k c u) (h2 : ∀x,x∈Wl↔∃k,(1≤k∧k≤t)∧∃w∈sp (t - k),∃c∈csS ds fs k,x=cvS ds fs (t - k) k c w):Eqv ds fs t U Wl:=by
 constructor
 ·intro x hx;obtain ⟨k,hk,u,hu,c,hc,rfl⟩:=(h1 x).1 hx;obtain ⟨hE,hl⟩:=hN (t - k) (by omega) (by omega);have hTr:=hT (t - k) k (by omega) hk.1 (by omega);obtain ⟨w,h3,h4⟩:=hE.to u hu;obtain ⟨z,h5,h6⟩:=tr_B hTr hc h3;have h7:=pv_nf hTr (hl u hu) ((hTr.red k).1.row c hc).len;have h8:=(h6.cong (fun j=>xV_cong h4 j) fun j=>Mo.refl _).uniq (hTr.red _).2 h7;refine ⟨z,h5.sub fun r hr=>?_,fun i=>?_⟩
  ·obtain ⟨w0,hw0,rfl⟩:=List.mem_map.1 hr;exact Spn.row ((h2 _).2 ⟨k,hk,w0,hw0,c,hc,rfl⟩)
  ·have h9:=(h8 i).symm;rw [Int.sub_add_cancel] at h9;exact h9
 ·intro x hx;obtain ⟨k,hk,w,hw,c,hc,rfl⟩:=(h2 x).1 hx;obtain ⟨hE,hl⟩:=hN (t - k) (by omega) (by omega);have hTr:=hT (t - k) k (by omega) hk.1 (by omega);obtain ⟨y,h5,h6⟩:=tr_A (c:=c) hTr hl ((hTr.red k).1.row c hc).len (hE.of w hw);have h7:=(cv_nf hTr w hc).uniq (hTr.red _).2 h6
  have h8:Spn U y:=h5.sub fun r hr=>by
   obtain ⟨u0,hu0,rfl⟩:=List.mem_map.1 hr;exact Spn.row ((h1 _).2 ⟨k,hk,u0,hu0,c,hc,rfl⟩)
  refine h8.congr fun i=>?_;have h9:=h7 i;rw [Int.sub_add_cancel] at h9;exact h9
end
end Go.Proofs.YtelcehjliighfaaGreat.G
