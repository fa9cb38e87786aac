/- The row: the law answers true whatever the input, and the input reads as it did. No condition. -/
import Derived.Test.YthenedanhcnccaaGreatRows
import Derived.Test.YthenedanhcnccaaGreatProg
import Derived.WalkKit
import Derived.KernelRfl
import Derived.JoinedOf
import Derived.Maps.AppendAt
import Derived.Still
import Derived.ProofKit
import Derived.OpenShut
import Derived.StillTail
import Derived.Deep.Upon
import Derived.WalkSpells
import Derived.Maps.Range
import Derived.DeepKeys4
import Derived.Maps.Keyed
import Derived.ChangeOld
import Derived.Below
import Derived.SizedLaws
import Derived.Test.YthenedanhcnccaaGreatPIsbf
set_option linter.unusedVariables false
set_option linter.unusedSimpArgs false
set_option maxRecDepth 10000
set_option maxHeartbeats 8000000
namespace Go.Proofs.YthenedanhcnccaaGreat.G
open Go Go.RowKit
theorem fn120:Fn Tryz.prog 120:=⟨_,Tryz.func120,by kernel_rfl,rfl⟩
theorem fn170:Fn Tryz.prog 170:=⟨_,Tryz.func170,by kernel_rfl,rfl⟩
theorem fn74:Fn Tryz.prog 74:=⟨_,Tryz.func74,by kernel_rfl,rfl⟩
theorem alg_112 {ds:List Int} {fs:List (List Term)} (h:isAlg ds fs=true) : ∀j,j<ds.length→1≤ds.getD j 0∧ds.getD j 0≤12:=fun j hj=>by
 have h1:=isDeg_bd (isAlg_deg h) j
 have h2:=isDeg_pos1 (isAlg_deg h) j hj
 omega
def askB (m:Int):Bool:=decide (0≤m) && decide (m≤20)
theorem wi_fit {ds:List Int} {a b k:Int} (h:wiB ds a b=true) (h1:max a 0≤k) (h2:k≤b):fitB ds k=true:=by
 have:=List.all_eq_true.1 h (k - max a 0).toNat (List.mem_range.2 (by omega))
 rwa [show max a 0+(((k - max a 0).toNat:Nat):Int)=k by omega] at this
theorem fit_neg {ds:List Int} {fs:List (List Term)} (hG:isAlg ds fs=true) {n:Int} (h:n<0):fitB ds n=true:=by
 unfold fitB;rw [monS_neg (alg_112 hG) (isDeg_len (isAlg_deg hG)) h]
 rfl
theorem wi_fit' {ds:List Int} {fs:List (List Term)} (hG:isAlg ds fs=true) {a b k:Int} (h:wiB ds a b=true) (h1:a≤k) (h2:k≤b):fitB ds k=true:=by
 by_cases hk:k<0
 ·exact fit_neg hG hk
 ·exact wi_fit h (by omega) h2
def clV (ds:List Int) (fs:List (List Term)) (n:Int) (v:List Int):List Int:=(csS ds fs n).map fun r=>(byS v (bdS ds fs n)).getD (ldR r) 0
theorem clS_len {ds:List Int} {fs:List (List Term)} {n:Int} (hA:AlgOk ds fs) (h8:ds.length≤8) (hd : ∀j,j<ds.length→1≤ds.getD j 0∧ds.getD j 0≤12):(clS ds fs n).length≤121:=Nat.le_trans (clS_red hA h8 hd).count (monL_len ds n)
theorem bdS_len {ds:List Int} {fs:List (List Term)} {n:Int} (hA:AlgOk ds fs) (h8:ds.length≤8) (hd : ∀j,j<ds.length→1≤ds.getD j 0∧ds.getD j 0≤12):(bdS ds fs n).length≤121:=Nat.le_trans (bdS_red hA h8 hd).count (monL_len ds n)
theorem csS_len {ds:List Int} {fs:List (List Term)} {n:Int} (hA:AlgOk ds fs) (h8:ds.length≤8) (hd : ∀j,j<ds.length→1≤ds.getD j 0∧ds.getD j 0≤12):(csS ds fs n).length≤121:=Nat.le_trans (csS_red hA h8 hd).count (monL_len ds n)
theorem Hp.kerM {B:World} {H0 H:HP} {L:List SA} {w:World} {q:Option Addr} {c:Nat} {rs:List (List Int)} {vs:Vs} {W:Nat} (hW : ∀r∈rs,RowOk W r) (hn:rs.length+W≤100000) (hH:Hp B H0 H (mlt (RwK q c rs) H vs::L) w) :
 Calls Tryz.prog 170 [.slice q rs.length c,.int .i64 (W:Int)].toArray w fun e w'=>∃q c vs,e = .returned (.slice q (kerS rs W).length c)∧Hp B H0 H (mlt (RwK q c (kerS rs W)) H vs::L) w':=
 hH.lend .z fun H1 hle hA _ hH1=>(l03Kernel_c (crs:=c) (mlt_rows hle hA).1 hW hn hH1).mono fun e w' h=>by
  obtain ⟨H',q',c',hle',hI,hc,he,hH'⟩:=h
  obtain ⟨vs',h2⟩:=hH.melt (K:=RwK q' c' (kerS rs W)) hH' (hle.trans hle') ⟨hI,hc⟩
  exact ⟨q',c',vs',he,h2⟩
theorem l03Matrix_m {B:World} {H0 H:HP} {L:List SA} {w:World} {qad qaf:Option Addr} {cad caf:Nat} {ad:List Int} {af:List (List Term)} {n:Int} (had:Ints H qad ad) (haf:Forms H qaf af) (hd : ∀j,j<ad.length→1≤ad.getD j 0∧ad.getD j 0≤12) (h8:ad.length≤8) (hn : -1≤n∧n≤100000) (hA:AlgOk ad af) (hfit:fit2 ad n) (hom:Hom1 ad af n) (hH:Hp B H0 H L w) :
 Calls Tryz.prog 120 [.agg [.slice qad ad.length cad,.slice qaf af.length caf].toArray,.int .i64 n].toArray w fun e w'=>∃q c vs,e = .returned (.slice q (matS ad af n).length c)∧Hp B H0 H (mlt (RwK q c (matS ad af n)) H vs::L) w':=(l03Matrix_c had haf hd h8 hn hA hfit hom hH).mono fun e w' h=>by
 obtain ⟨H',q,c,hle,hI,hc,he,hH'⟩:=h
 obtain ⟨vs,h2⟩:=hH.melt (K:=RwK q c (matS ad af n)) hH' hle ⟨hI,hc⟩
 exact ⟨q,c,vs,he,h2⟩
theorem l03Bounds_c {B:World} {H0 H:HP} {L:List SA} {w:World} {qad qaf:Option Addr} {cad caf:Nat} {ad:List Int} {af:List (List Term)} {n:Int} (had:Ints H qad ad) (haf:Forms H qaf af) (hG:isAlg ad af=true) (hn:0≤n∧n≤40) (hfit:0<n→fit2 ad (n - 1)) (hH:Hp B H0 H L w):Calls Tryz.prog 111 [.agg [.slice qad ad.length cad,.slice qaf af.length caf].toArray,.int .i64 n].toArray w fun e w'=>∃H' q c,Le H H' ∧RowsR H' q (bdS ad af n)∧(bdS ad af n).length≤c∧e = .returned (.slice q (bdS ad af n).length c)∧Hp B H0 H' L w':=by
 refine Jy Tryz.func111 rfl 13 rfl rfl [(0,.agg [.slice qad ad.length cad,.slice qaf af.length caf].toArray),(1,.int .i64 n)] rfl hH ?_;have hw0:=hH.old;have hw1:=hH.le;clear hH;have hwf:=haf.wfss;have hA:=isAlg_ok hG hwf;have h8:=hA.hn;have hd:=alg_112 hG;have hml:=monL_len ad n;have hml1:=monL_len ad (n+1);have hml0:=monL_len ad (n - 1);have hml2:=monL_len ad (n - 1+1);refine Je fun _ hK1 _=>(Jb (Ea rfl rfl rfl fun g2=>(Jg (Jd rfl) rfl (Jf (Ja (hK1 (Je fun _ hK2 _=>(Je fun _ hK3 _=>(Jb (Jg (Jc rfl) rfl (Jg (ED rfl rfl) rfl (Jf (Ja (hK3 (Jn rfl (fun h6=>?_) (fun h6=>?_))))))))))))))))
 ·
  refine Je fun _ hK4 _=>(Jb (EM (EQ u57 sz22) rfl fun qo7 co7=>?_));have hnil:=SlF.nil H;refine EB .z fun Ho7 hleo7 hAo7=>?_;replace had:=had.le hleo7;replace haf:=haf.le hleo7;replace hnil:=hnil.le hleo7;have hxo7:=hnil.rows (Le.refl _) hAo7;have hco7:=own_le hAo7;refine Jg (Jd rfl) rfl (Jf (Ja (hK4 (Jq (Jj (Jr rfl (Res.tmp rfl) fun w hH=>?_))))));replace hH:=hH.tail;rw [show bdS ad af n=[] from if_neg (by omega)];exact ⟨_,_,_,hleo7,hxo7,hco7,rfl,hH⟩
 ·
  refine Jk (Ja (hK2 (Je fun _ hK5 _=>(Jb (Jg (Ju rfl At.z (by simpa [*] using ag35)) rfl (Jg (Jc rfl) rfl (Jg (EK rfl rfl (by first | exact nw _ (by omega) | rfl)) rfl (Jx fn120 rfl rfl fun w hH=>(l03Matrix_c had haf hd h8 (by omega) hA (hfit (by omega)) (hom_of hG hwf h8 hd (by omega) (hfit (by omega))) hH).mono ?_))))))));rintro _ w ⟨Hf11,qf11,cf11,hlf11,hI11,hcc11,rfl,hH⟩;refine ⟨_,rfl,fun a hF=>JM hF hH ?_⟩;replace had:=had.le hlf11;replace haf:=haf.le hlf11;refine Jx fn78 rfl rfl fun w hH=>(l03Reduce_c (W:=(monL ad (n - 1+1)).length) hI11 (matS_ok hA h8 hd) (by rw [matS_len];omega) (by omega) hH).mono ?_;rintro _ w ⟨Hf12,qf12,cf12,hlf12,hI12,hcc12,rfl,hH⟩;refine ⟨_,rfl,fun a hF=>JM hF hH ?_⟩;replace had:=had.le hlf12;replace haf:=haf.le hlf12;replace hI11:=hI11.le hlf12;refine Jg (Jd rfl) rfl (Jf (Ja (hK5 (Jq (Jr rfl (Res.tmp rfl) fun w hH=>?_)))));replace hH:=hH.tail;rw [show bdS ad af n=redS (matS ad af (n - 1)) from if_pos (by omega)];exact ⟨_,_,_,(hlf11.trans hlf12),hI12,hcc12,rfl,hH⟩
theorem l03Bounds_m {B:World} {H0 H:HP} {L:List SA} {w:World} {qad qaf:Option Addr} {cad caf:Nat} {ad:List Int} {af:List (List Term)} {n:Int} (had:Ints H qad ad) (haf:Forms H qaf af) (hG:isAlg ad af=true) (hn:0≤n∧n≤40) (hfit:0<n→fit2 ad (n - 1)) (hH:Hp B H0 H L w) :
 Calls Tryz.prog 111 [.agg [.slice qad ad.length cad,.slice qaf af.length caf].toArray,.int .i64 n].toArray w fun e w'=>∃q c vs,e = .returned (.slice q (bdS ad af n).length c)∧Hp B H0 H (mlt (RwK q c (bdS ad af n)) H vs::L) w':=(l03Bounds_c had haf hG hn hfit hH).mono fun e w' h=>by
 obtain ⟨H',q,c,hle,hI,hc,he,hH'⟩:=h
 obtain ⟨vs,h2⟩:=hH.melt (K:=RwK q c (bdS ad af n)) hH' hle ⟨hI,hc⟩
 exact ⟨q,c,vs,he,h2⟩
theorem l03Closed_c {B:World} {H0 H:HP} {L:List SA} {w:World} {qad qaf:Option Addr} {cad caf:Nat} {ad:List Int} {af:List (List Term)} {n:Int} (had:Ints H qad ad) (haf:Forms H qaf af) (hG:isAlg ad af=true) (hn:0≤n∧n≤40) (hfit:fit2 ad n) (hH:Hp B H0 H L w):Calls Tryz.prog 127 [.agg [.slice qad ad.length cad,.slice qaf af.length caf].toArray,.int .i64 n].toArray w fun e w'=>∃H' q c,Le H H' ∧RowsR H' q (clS ad af n)∧(clS ad af n).length≤c∧e = .returned (.slice q (clS ad af n).length c)∧Hp B H0 H' L w':=by
 refine Jy Tryz.func127 rfl 15 rfl rfl [(0,.agg [.slice qad ad.length cad,.slice qaf af.length caf].toArray),(1,.int .i64 n)] rfl hH ?_;have hw0:=hH.old;have hw1:=hH.le;clear hH;have hwf:=haf.wfss;have hA:=isAlg_ok hG hwf;have h8:=hA.hn;have hd:=alg_112 hG;have hml:=monL_len ad n;have hml1:=monL_len ad (n+1);have hmT1:=monT_L hfit.2;have hmlen:=matS_len ad af n;refine Je fun _ hK1 _=>(Jb (Ea rfl rfl rfl fun g2=>(Jg (Jd rfl) rfl (Jf (Ja (hK1 (Je fun _ hK2 _=>(Ek (Rs:=[_]) 11 [[], [], [0,1], [], [3], [], [5], [0,1,2,3,4,5,6], [0,1,2,3,4,5,6,7], [0,1,2,3,4,5,6,7,8], [0,1,2,3,4,5,6,7,8,9]] [[11], [], [], [], [11], [], [], [], [], [], []] [[], [], [], [], [], [], [], [], [], [2], []] rfl rfl (by kernel_rfl) ?_))))))));apply Jl 1 rfl
 iterate 3 focus (intros;(conv=>lhs;simp only [Jh,Js,JN,Jv,JG,eq_self,Nat.reduceEqDiff,reduceIte,Nat.reduceSub,Nat.reduceAdd,List.cons_append,List.nil_append]);all_goals rfl)
 ·
  intro gh X K zq zc zq2 zc2 zb zv hK;refine Jg (Ju rfl At.z (by simpa [*] using ag35)) rfl (Ji ?_);exact hK zq zc zq2 zc2 zb zv
 ·
  intro gh gh' h
  rfl
 apply Jl 2 rfl
 iterate 3 focus (intros;(conv=>lhs;simp only [Jh,Js,JN,Jv,JG,eq_self,Nat.reduceEqDiff,reduceIte,Nat.reduceSub,Nat.reduceAdd,List.cons_append,List.nil_append]);all_goals rfl)
 ·
  intro gh X K zq zc zq2 zc2 zb zv hK;refine Jg (Jc rfl) rfl (Ji ?_);exact hK zq zc zq2 zc2 zb zv
 ·
  intro gh gh' h
  rfl
 apply Eb 3 rfl
 iterate 3 focus (intros;(conv=>lhs;simp only [Jh,Js,JN,Jv,JG,eq_self,Nat.reduceEqDiff,reduceIte,Nat.reduceSub,Nat.reduceAdd,List.cons_append,List.nil_append]);all_goals rfl)
 ·
  intro gh X K zq zc zq2 zc2 zb zv hK;refine Jx fn120 rfl rfl fun w hH=>(l03Matrix_m had haf hd h8 (by omega) hA hfit (hom_of hG hwf h8 hd (by omega) hfit) hH).mono ?_;rintro _ w ⟨qo7,co7,vso7,rfl,hH⟩;refine ⟨_,rfl,fun a hF=>JM hF hH ?_⟩;refine Ji ?_;exact hK qo7 co7 zq2 zc2 zb vso7
 ·
  intro gh gh' h;refine ⟨?_,?_⟩ <;> rfl
 apply Jl 4 rfl
 iterate 3 focus (intros;(conv=>lhs;simp only [Jh,Js,JN,Jv,JG,eq_self,Nat.reduceEqDiff,reduceIte,Nat.reduceSub,Nat.reduceAdd,List.cons_append,List.nil_append]);all_goals rfl)
 ·
  intro gh X K zq zc zq2 zc2 zb zv hK;refine Jg (Jt u35 rfl sz22 rfl) rfl (Ji ?_);exact hK zq zc zq2 zc2 zb zv
 ·
  intro gh gh' h
  rfl
 apply Jl 5 rfl
 iterate 3 focus (intros;(conv=>lhs;simp only [Jh,Js,JN,Jv,JG,eq_self,Nat.reduceEqDiff,reduceIte,Nat.reduceSub,Nat.reduceAdd,List.cons_append,List.nil_append]);all_goals rfl)
 ·
  intro gh X K zq zc zq2 zc2 zb zv hK;refine Jg (Jw rfl At.z rfl pl22) rfl (Ji ?_);exact hK zq zc zq2 zc2 zb zv
 ·
  intro gh gh' h
  rfl
 apply Jl 6 rfl
 iterate 3 focus (intros;(conv=>lhs;simp only [Jh,Js,JN,Jv,JG,eq_self,Nat.reduceEqDiff,reduceIte,Nat.reduceSub,Nat.reduceAdd,List.cons_append,List.nil_append]);all_goals rfl)
 ·
  intro gh X K zq zc zq2 zc2 zb zv hK;refine Jg (Jc rfl) rfl (Ji ?_);exact hK zq zc zq2 zc2 zb zv
 ·
  intro gh gh' h
  rfl
 apply Jl 7 rfl
 iterate 3 focus (intros;(conv=>lhs;simp only [Jh,Js,JN,Jv,JG,eq_self,Nat.reduceEqDiff,reduceIte,Nat.reduceSub,Nat.reduceAdd,List.cons_append,List.nil_append]);all_goals rfl)
 ·
  intro gh X K zq zc zq2 zc2 zb zv hK;refine Jg (JC rfl rfl (by first | exact nw _ (by omega) | rfl)) rfl (Ji ?_);exact hK zq zc zq2 zc2 zb zv
 ·
  intro gh gh' h
  rfl
 apply Eb 8 rfl
 iterate 3 focus (intros;(conv=>lhs;simp only [Jh,Js,JN,Jv,JG,eq_self,Nat.reduceEqDiff,reduceIte,Nat.reduceSub,Nat.reduceAdd,List.cons_append,List.nil_append]);all_goals rfl)
 ·
  intro gh X K zq zc zq2 zc2 zb zv hK;refine Jx fn66 rfl rfl fun w hH=>(l01Monomials_c had hd h8 (by omega) hH).mono ?_;rintro _ w ⟨qo12,co12,rfl,hH⟩;refine ⟨_,rfl,fun a hF=>JM hF hH ?_⟩;refine Ji ?_;exact hK qo12 co12 zq2 zc2 zb zv
 ·
  intro gh gh' h;refine ⟨?_,?_⟩ <;> (first | simp only [h 2 rfl] | rfl)
 apply Jl 9 rfl
 iterate 3 focus (intros;(conv=>lhs;simp only [Jh,Js,JN,Jv,JG,eq_self,Nat.reduceEqDiff,reduceIte,Nat.reduceSub,Nat.reduceAdd,List.cons_append,List.nil_append]);all_goals rfl)
 ·
  intro gh X K zq zc zq2 zc2 zb zv hK;refine Jg (EI (v':=.int .i64 (((monL ad (n+1)).length:Nat):Int)) (by rw [hmT1]) (Jo u88 rfl rfl)) rfl (Ji ?_);exact hK zq zc zq2 zc2 zb zv
 ·
  intro gh gh' h
  first | simp only [h 2 rfl,h 7 rfl] | rfl
 apply Eb 10 rfl
 iterate 3 focus (intros;(conv=>lhs;simp only [Jh,Js,JN,Jv,JG,eq_self,Nat.reduceEqDiff,reduceIte,Nat.reduceSub,Nat.reduceAdd,List.cons_append,List.nil_append]);all_goals rfl)
 ·
  intro gh X K zq zc zq2 zc2 zb zv hK;refine Jx fn170 rfl rfl fun w hH=>(Hp.kerM (matS_ok hA h8 hd) (by omega) (hH.front .z)).mono ?_;rintro _ w ⟨qo14,co14,vso14,rfl,hH⟩;refine ⟨_,rfl,fun a hF=>JM hF hH ?_⟩;refine Ji ?_;exact hK qo14 co14 zq2 zc2 zb vso14
 ·
  intro gh gh' h;refine ⟨?_,?_⟩ <;> (first | simp only [h 2 rfl,h 7 rfl] | rfl)
 apply Jl 11 rfl
 iterate 3 focus (intros;(conv=>lhs;simp only [Jh,Js,JN,Jv,JG,eq_self,Nat.reduceEqDiff,reduceIte,Nat.reduceSub,Nat.reduceAdd,List.cons_append,List.nil_append]);all_goals rfl)
 ·
  intro gh X K zq zc zq2 zc2 zb zv hK;refine Jg (Jd rfl) rfl (Ji ?_);exact hK zq zc zq2 zc2 zb zv
 ·
  intro gh gh' h
  first | simp only [h 2 rfl,h 7 rfl,h 9 rfl] | rfl
 apply El [0,1,2,3,4,5,6,7,8,9,10] [0,1,3,4,5,6,7,8,9,10,11] foll0 rfl rfl rfl (by rfl)
 iterate 2 focus (intros;(conv=>lhs;simp only [Jh,Js,JN,Jv,JG,eq_self,Nat.reduceEqDiff,reduceIte,Nat.reduceSub,Nat.reduceAdd,List.cons_append,List.nil_append]);all_goals rfl)
 intro gh;generalize (gh 2).c=co7;generalize (gh 2).q=qo7;generalize (gh 2).vs=vso7;generalize (gh 7).c=co12;generalize (gh 7).q=qo12;generalize (gh 9).c=co14;generalize (gh 9).q=qo14;generalize (gh 9).vs=vso14;clear gh;refine EO (.s .z) fun Ho14 hleo14 hAo14=>?_;replace had:=had.le hleo14;replace haf:=haf.le hleo14;obtain ⟨hxo14,hco14⟩:=mlt_rows hleo14 hAo14;refine Ja (hK2 (Jq (Jr rfl (Res.tmp rfl) fun w hH=>?_)));replace hH:=hH.tail;replace hH:=hH.tail;exact ⟨_,_,_,hleo14,hxo14,hco14,rfl,hH⟩
theorem l03Closed_m {B:World} {H0 H:HP} {L:List SA} {w:World} {qad qaf:Option Addr} {cad caf:Nat} {ad:List Int} {af:List (List Term)} {n:Int} (had:Ints H qad ad) (haf:Forms H qaf af) (hG:isAlg ad af=true) (hn:0≤n∧n≤40) (hfit:fit2 ad n) (hH:Hp B H0 H L w) :
 Calls Tryz.prog 127 [.agg [.slice qad ad.length cad,.slice qaf af.length caf].toArray,.int .i64 n].toArray w fun e w'=>∃q c vs,e = .returned (.slice q (clS ad af n).length c)∧Hp B H0 H (mlt (RwK q c (clS ad af n)) H vs::L) w':=(l03Closed_c had haf hG hn hfit hH).mono fun e w' h=>by
 obtain ⟨H',q,c,hle,hI,hc,he,hH'⟩:=h
 obtain ⟨vs,h2⟩:=hH.melt (K:=RwK q c (clS ad af n)) hH' hle ⟨hI,hc⟩
 exact ⟨q,c,vs,he,h2⟩
theorem fn111:Fn Tryz.prog 111:=⟨_,Tryz.func111,by kernel_rfl,rfl⟩
theorem fn127:Fn Tryz.prog 127:=⟨_,Tryz.func127,by kernel_rfl,rfl⟩
theorem fn75:Fn Tryz.prog 75:=⟨_,Tryz.func75,by kernel_rfl,rfl⟩
theorem csK_succ {ds:List Int} {fs:List (List Term)} {n:Int} {k:Nat} (hk:k<(clS ds fs n).length):redS (lfK ds fs n (k+1))=putS (redS (lfK ds fs n k)) (byS (rw_ (clS ds fs n) k) (bdS ds fs n)):=by
 unfold redS;rw [lfK_succ hk,List.foldl_append]
 rfl
theorem Hp.byM {B:World} {H0 H:HP} {L:List SA} {w:World} {q q2:Option Addr} {c c2 W:Nat} {row:List Int} {rs:List (List Int)} {vs:Vs} (hw:RowOk W row) (hW : ∀r∈rs,RowOk W r∧ldR r<W) (hn:rs.length≤1000000) (hWn:W≤1000000) (hH:Hp B H0 H (mlt (RwK q2 c2 rs) H vs::own 2 1 q row.length c (intsC row)::L) w) :
 Calls Tryz.prog 109 [.slice q row.length c,.slice q2 rs.length c2].toArray w fun e w'=>∃q c vs,e = .returned (.slice q (byS row rs).length c)∧Hp B H0 H (mlt (InK q c (byS row rs)) H vs::L) w':=
 hH.lend .z fun H1 hle hA _ hH1=>hH1.lend .z fun H2 hle2 hA2 _ hH2=>(l03By_c (crow:=c) (crs:=c2) (own_ints hA2) ((mlt_rows hle hA).1.le hle2) hw hW hn hWn (own_le hA2) hH2).mono fun e w' h=>by
  obtain ⟨H',q',c',hle',hI,hc,he,hH'⟩:=h
  obtain ⟨vs',h2⟩:=hH.melt (K:=InK q' c' (byS row rs)) hH' ((hle.trans hle2).trans hle') ⟨hI,hc⟩
  exact ⟨q',c',vs',he,h2⟩
theorem l03Classes_c {B:World} {H0 H:HP} {L:List SA} {w:World} {qad qaf:Option Addr} {cad caf:Nat} {ad:List Int} {af:List (List Term)} {n:Int} (had:Ints H qad ad) (haf:Forms H qaf af) (hG:isAlg ad af=true) (hn:0≤n∧n≤40) (hfit:fit3 ad n) (hH:Hp B H0 H L w):Calls Tryz.prog 75 [.agg [.slice qad ad.length cad,.slice qaf af.length caf].toArray,.int .i64 n].toArray w fun e w'=>∃H' q c,Le H H' ∧RowsR H' q (csS ad af n)∧(csS ad af n).length≤c∧e = .returned (.slice q (csS ad af n).length c)∧Hp B H0 H' L w':=by
 refine Jy Tryz.func75 rfl 31 rfl rfl [(0,.agg [.slice qad ad.length cad,.slice qaf af.length caf].toArray),(1,.int .i64 n)] rfl hH ?_;have hw0:=hH.old;have hw1:=hH.le;clear hH;have hwf:=haf.wfss;have hA:=isAlg_ok hG hwf;have h8:=hA.hn;have hd:=alg_112 hG;have hml:=monL_len ad n;have hml1:=monL_len ad (n+1);have hclR:=clS_red (n:=n) hA h8 hd;have hbdR:=bdS_red (n:=n) hA h8 hd;have hcll:=clS_len (n:=n) hA h8 hd;have hbdl:=bdS_len (n:=n) hA h8 hd;have hcsR:=csS_red (n:=n) hA h8 hd;have hcsl:=csS_len (n:=n) hA h8 hd;refine Je fun _ hK1 _=>(Jb (Ea rfl rfl rfl fun g2=>(Jg (Jd rfl) rfl (Jf (Ja (hK1 (Je fun _ hK2 _=>(Ek (Rs:=[_]) 10 [[], [], [0,1], [], [], [0,1,2,3,4], [], [0,1,2,3,4,5], [0,1,2,3,4,5,7], [0,1,2,3,4,5,6,7,8]] [[10], [], [], [10], [], [], [], [], [], []] [[], [], [], [], [], [], [], [], [], []] rfl rfl (by kernel_rfl) ?_))))))));apply Jl 1 rfl
 iterate 3 focus (intros;(conv=>lhs;simp only [Jh,Js,JN,Jv,JG,eq_self,Nat.reduceEqDiff,reduceIte,Nat.reduceSub,Nat.reduceAdd,List.cons_append,List.nil_append]);all_goals rfl)
 ·
  intro gh X K zq zc zq2 zc2 zb zv hK;refine Jg (Ju rfl At.z (by simpa [*] using ag35)) rfl (Ji ?_);exact hK zq zc zq2 zc2 zb zv
 ·
  intro gh gh' h
  rfl
 apply Jl 2 rfl
 iterate 3 focus (intros;(conv=>lhs;simp only [Jh,Js,JN,Jv,JG,eq_self,Nat.reduceEqDiff,reduceIte,Nat.reduceSub,Nat.reduceAdd,List.cons_append,List.nil_append]);all_goals rfl)
 ·
  intro gh X K zq zc zq2 zc2 zb zv hK;refine Jg (Jc rfl) rfl (Ji ?_);exact hK zq zc zq2 zc2 zb zv
 ·
  intro gh gh' h
  rfl
 apply Eb 3 rfl
 iterate 3 focus (intros;(conv=>lhs;simp only [Jh,Js,JN,Jv,JG,eq_self,Nat.reduceEqDiff,reduceIte,Nat.reduceSub,Nat.reduceAdd,List.cons_append,List.nil_append]);all_goals rfl)
 ·
  intro gh X K zq zc zq2 zc2 zb zv hK;refine Jx fn127 rfl rfl fun w hH=>(l03Closed_m had haf hG (by omega) hfit.1 hH).mono ?_;rintro _ w ⟨qo11,co11,vso11,rfl,hH⟩;refine ⟨_,rfl,fun a hF=>JM hF hH ?_⟩;refine Ji ?_;exact hK qo11 co11 zq2 zc2 zb vso11
 ·
  intro gh gh' h;refine ⟨?_,?_⟩ <;> rfl
 apply Jl 4 rfl
 iterate 3 focus (intros;(conv=>lhs;simp only [Jh,Js,JN,Jv,JG,eq_self,Nat.reduceEqDiff,reduceIte,Nat.reduceSub,Nat.reduceAdd,List.cons_append,List.nil_append]);all_goals rfl)
 ·
  intro gh X K zq zc zq2 zc2 zb zv hK;refine Jg (Ju rfl At.z (by simpa [*] using ag35)) rfl (Ji ?_);exact hK zq zc zq2 zc2 zb zv
 ·
  intro gh gh' h
  rfl
 apply Jl 5 rfl
 iterate 3 focus (intros;(conv=>lhs;simp only [Jh,Js,JN,Jv,JG,eq_self,Nat.reduceEqDiff,reduceIte,Nat.reduceSub,Nat.reduceAdd,List.cons_append,List.nil_append]);all_goals rfl)
 ·
  intro gh X K zq zc zq2 zc2 zb zv hK;refine Jg (Jc rfl) rfl (Ji ?_);exact hK zq zc zq2 zc2 zb zv
 ·
  intro gh gh' h
  rfl
 apply Eb 6 rfl
 iterate 3 focus (intros;(conv=>lhs;simp only [Jh,Js,JN,Jv,JG,eq_self,Nat.reduceEqDiff,reduceIte,Nat.reduceSub,Nat.reduceAdd,List.cons_append,List.nil_append]);all_goals rfl)
 ·
  intro gh X K zq zc zq2 zc2 zb zv hK;refine Jx fn111 rfl rfl fun w hH=>(l03Bounds_m had haf hG (by omega) (fun h=>⟨hfit.2 h,by rw [Int.sub_add_cancel];exact hfit.1.1⟩) hH).mono ?_;rintro _ w ⟨qo14,co14,vso14,rfl,hH⟩;refine ⟨_,rfl,fun a hF=>JM hF hH ?_⟩;refine Ji ?_;exact hK qo14 co14 zq2 zc2 zb vso14
 ·
  intro gh gh' h;refine ⟨?_,?_⟩ <;> (first | simp only [h 2 rfl] | rfl)
 apply Eb 7 rfl
 iterate 3 focus (intros;(conv=>lhs;simp only [Jh,Js,JN,Jv,JG,eq_self,Nat.reduceEqDiff,reduceIte,Nat.reduceSub,Nat.reduceAdd,List.cons_append,List.nil_append]);all_goals rfl)
 ·
  intro gh X K zq zc zq2 zc2 zb zv hK;refine EM (EQ u57 sz22) rfl fun qo15 co15=>(Ji ?_);exact hK qo15 co15 zq2 zc2 zb zv
 ·
  intro gh gh' h;refine ⟨?_,?_⟩ <;> rfl
 apply Jl 8 rfl
 iterate 3 focus (intros;(conv=>lhs;simp only [Jh,Js,JN,Jv,JG,eq_self,Nat.reduceEqDiff,reduceIte,Nat.reduceSub,Nat.reduceAdd,List.cons_append,List.nil_append]);all_goals rfl)
 ·
  intro gh X K zq zc zq2 zc2 zb zv hK;refine Jg (Jd rfl) rfl (Ji ?_);exact hK zq zc zq2 zc2 zb zv
 ·
  intro gh gh' h
  first | simp only [h 2 rfl,h 5 rfl] | rfl
 apply Jl 9 rfl
 iterate 3 focus (intros;(conv=>lhs;simp only [Jh,Js,JN,Jv,JG,eq_self,Nat.reduceEqDiff,reduceIte,Nat.reduceSub,Nat.reduceAdd,List.cons_append,List.nil_append]);all_goals rfl)
 ·
  intro gh X K zq zc zq2 zc2 zb zv hK;refine Jg (Jd rfl) rfl (Ji ?_);exact hK zq zc zq2 zc2 zb zv
 ·
  intro gh gh' h
  first | simp only [h 2 rfl,h 5 rfl] | rfl
 apply Jl 10 rfl
 iterate 3 focus (intros;(conv=>lhs;simp only [Jh,Js,JN,Jv,JG,eq_self,Nat.reduceEqDiff,reduceIte,Nat.reduceSub,Nat.reduceAdd,List.cons_append,List.nil_append]);all_goals rfl)
 ·
  intro gh X K zq zc zq2 zc2 zb zv hK;refine Jg (Jd rfl) rfl (Ji ?_);exact hK zq zc zq2 zc2 zb zv
 ·
  intro gh gh' h
  first | simp only [h 2 rfl,h 5 rfl,h 6 rfl] | rfl
 apply El [0,1,2,3,4,5,6,7,8,9] [0,1,2,3,4,5,6,7,8,9,10] foll0 rfl rfl rfl (by rfl)
 iterate 2 focus (intros;(conv=>lhs;simp only [Jh,Js,JN,Jv,JG,eq_self,Nat.reduceEqDiff,reduceIte,Nat.reduceSub,Nat.reduceAdd,List.cons_append,List.nil_append]);all_goals rfl)
 intro gh;generalize (gh 2).c=co11;generalize (gh 2).q=qo11;generalize (gh 2).vs=vso11;generalize (gh 5).c=co14;generalize (gh 5).q=qo14;generalize (gh 5).vs=vso14;generalize (gh 6).c=co15;generalize (gh 6).q=qo15;clear gh;have hnil:=SlF.nil H;refine EO .z fun Ho11 hleo11 hAo11=>?_;replace had:=had.le hleo11;replace haf:=haf.le hleo11;replace hnil:=hnil.le hleo11;obtain ⟨hxo11,hco11⟩:=mlt_rows hleo11 hAo11;refine EO .z fun Ho14 hleo14 hAo14=>?_;replace had:=had.le hleo14;replace haf:=haf.le hleo14;replace hnil:=hnil.le hleo14;replace hxo11:=hxo11.le hleo14;obtain ⟨hxo14,hco14⟩:=mlt_rows (hleo11.trans hleo14) hAo14;refine EO .z fun Ho15 hleo15 hAo15=>?_;replace had:=had.le hleo15;replace haf:=haf.le hleo15;replace hnil:=hnil.le hleo15;replace hxo11:=hxo11.le hleo15;replace hxo14:=hxo14.le hleo15;have hxo15:=hnil.rows (Le.refl _) hAo15;have hco15:=own_le hAo15;refine Ja (hK2 (Je fun _ hK3 _=>(Je fun _ hK4 _=>(Jb (Jg (Jd rfl) rfl (Jf (Ja (hK4 (Jp (JF (σ:=HP × Option Addr × Nat × Nat) (fun ⟨Hk,q,c,k⟩=>[(8,.int .i64 (k:Int)),(7,.slice q (redS (lfK ad af n k)).length c)]) (fun ⟨Hk,q,c,k⟩=>Hk) (fun ⟨Hk,q,c,k⟩=>obj g2 (.cells [.slice qad ad.length cad,.slice qaf af.length caf].toArray 35 (0,0))::L) (fun ⟨Hk,q,c,k⟩=>Le Ho15 Hk∧RowsR Hk q (redS (lfK ad af n k))∧(redS (lfK ad af n k)).length≤c∧k≤(clS ad af n).length) (fun ⟨Hk,q,c,k⟩=>(clS ad af n).length - k) (Ho15,qo15,co15,0) ⟨Le.refl _,hxo15,hco15,by omega⟩ ⟨rfl,⟨rfl,trivial⟩⟩ rfl rfl ?_))))))))));rintro ⟨Hk,q,c,k⟩ ⟨hlk,hS,hSc,hk⟩ _ hAg0;replace had:=had.le hlk;replace haf:=haf.le hlk;replace hnil:=hnil.le hlk;replace hxo11:=hxo11.le hlk;replace hxo14:=hxo14.le hlk;replace hxo15:=hxo15.le hlk;have hRk:=(redS_ok (lfK_ok (n:=n) (k:=k) hA h8 hd)).1;refine Je fun _ hK5 _=>(Je fun _ hK6 _=>(Jb (Jg (Jc rfl) rfl (Jg (Jc rfl) rfl (Jg (Jo u57 rfl rfl) rfl (Jg (JL rfl rfl) rfl (Jf (Ja (hK6 (Jn rfl (fun h19=>?_) (fun h19=>?_)))))))))))
 ·
  have hk1:k<(clS ad af n).length:=by omega
  have hrk:=hclR.row _ (rw_mem hk1);refine Jk (Ja (hK5 (Je fun _ hK7 _=>(Jp (Jb (Jg (Jc rfl) rfl (Jg (Jc rfl) rfl (Jg (Jc rfl) rfl (Jg (JT u57 sz22 rfl rfl rfl hk1 hxo11.sm) rfl ?_)))))))));obtain ⟨qe26,ce26,he26,le26,Fe26⟩:=hxo11 k hk1;refine Jg (JD rfl he26 pl22) rfl (Jg (Jc rfl) rfl (Jx fn109 rfl rfl fun w hH=>(l03By_c Fe26 hxo14 hrk hbdR.led (by omega) (by omega) le26 hH).mono ?_));rintro _ w ⟨Hf28,qf28,cf28,hlf28,hI28,hcc28,rfl,hH⟩;refine ⟨_,rfl,fun a hF=>JM hF hH ?_⟩;replace had:=had.le hlf28;replace haf:=haf.le hlf28;replace hnil:=hnil.le hlf28;replace hxo11:=hxo11.le hlf28;replace hxo14:=hxo14.le hlf28;replace hxo15:=hxo15.le hlf28;replace hS:=hS.le hlf28;replace Fe26:=Fe26.le hlf28;refine Jx fn128 rfl rfl fun w hH=>(l03Put_c hS hI28 hRk (byS_ok hrk hbdR.row) (by omega) hcc28 hSc hH).mono ?_;rintro _ w ⟨Hf29,qf29,cf29,hlf29,hI29,hcc29,rfl,hH⟩;refine ⟨_,rfl,fun a hF=>JM hF hH ?_⟩;replace had:=had.le hlf29;replace haf:=haf.le hlf29;replace hnil:=hnil.le hlf29;replace hxo11:=hxo11.le hlf29;replace hxo14:=hxo14.le hlf29;replace hxo15:=hxo15.le hlf29;replace hS:=hS.le hlf29;replace Fe26:=Fe26.le hlf29;replace hI28:=hI28.le hlf29;refine Jg (Jd rfl) rfl (Jf (JE (Ja (hK7 (Jb (Jg (Jc rfl) rfl (Jg (JC rfl rfl (by first | exact nw _ (by omega) | rfl)) rfl (Jg (Jd rfl) rfl (Jf (Ja ?_))))))))));exact hAg0 (Hf29,qf29,cf29,k+1) ⟨((hlk.trans hlf28).trans hlf29),by rw [csK_succ hk1];exact hI29,by rw [csK_succ hk1];exact hcc29,by omega⟩ (by show (clS ad af n).length - (k+1)<(clS ad af n).length - k;omega) 18 rfl rfl ⟨rfl,⟨(by rw [csK_succ hk1];rfl),trivial⟩⟩ rfl rfl
 ·
  refine JJ (Jm (Jm (JP (Ja (hK3 (Je fun _ hK8 _=>(Jb (Jg (Jc rfl) rfl (Jg (Jd rfl) rfl (Jf (Ja (hK8 (Jq (Jr rfl (Res.tmp rfl) fun w hH=>?_))))))))))))));replace hH:=hH.tail
  have hke:k=(clS ad af n).length:=by omega
  rw [lfK_end hke] at hS hSc;exact ⟨_,q,c,(((hleo11.trans hleo14).trans hleo15).trans hlk),hS,hSc,by rw [lfK_end hke],hH⟩
theorem cfR_ok {ds:List Int} {n:Int} {M:Int} {s:Sm} (hs:Sok M s):RowOk (monL ds n).length ((monL ds n).map (cf s)):=⟨by simp,fun k=>by
 by_cases hk:k<(monL ds n).length
 ·have e:((monL ds n).map (cf s)).getD k 0=cf s (monL ds n)[k]:=by simp [List.getD_eq_getElem?_getD,List.getElem?_eq_getElem hk]
  rw [e]
  exact cf_bd hs _
 ·rw [getD_ge (by simp;omega)]
  omega⟩
theorem vec_mon {ds:List Int} {n:Int} {M:Int} {f:List Term} (h8:ds.length≤8) (hf:Sok M (toS f)) (hi : ∀x∈toS f,x.1∈monL ds n):vec f (monL ds n)=(monL ds n).map (cf (toS f)):=vec_cf hf.srt (monL_srt ds n h8) hi
def clK (ds:List Int) (fs:List (List Term)) (n:Int) (v:List Int) (k:Nat):List Int:=((csS ds fs n).take k).map fun r=>(byS v (bdS ds fs n)).getD (ldR r) 0
theorem clK_succ {ds:List Int} {fs:List (List Term)} {n:Int} {v:List Int} {k:Nat} (hk:k<(csS ds fs n).length):clK ds fs n v (k+1)=clK ds fs n v k++[(byS v (bdS ds fs n)).getD (ldR (rw_ (csS ds fs n) k)) 0]:=by
 unfold clK;rw [rw_take hk,List.map_append]
 rfl
theorem clK_end {ds:List Int} {fs:List (List Term)} {n:Int} {v:List Int} {k:Nat} (hk:k=(csS ds fs n).length):clK ds fs n v k=clV ds fs n v:=by
 subst hk;unfold clK clV;rw [List.take_length]
theorem clK_len {ds:List Int} {fs:List (List Term)} {n:Int} {v:List Int} {k:Nat} (hk:k≤(csS ds fs n).length):(clK ds fs n v k).length=k:=by
 unfold clK;rw [List.length_map,List.length_take]
 omega
theorem l03Class_c {B:World} {H0 H:HP} {L:List SA} {w:World} {qad qaf:Option Addr} {cad caf:Nat} {ad:List Int} {af:List (List Term)} {n:Int} {qts:Option Addr} {cts:Nat} {ts:List Term} {M:Int} (had:Ints H qad ad) (haf:Forms H qaf af) (hts:Terms H qts ts) (hG:isAlg ad af=true) (hn:0≤n∧n≤40) (hfit:fit3 ad n) (hfl:ts.length≤1000000) (hfs:Sok M (toS ts)) (hfi : ∀x∈toS ts,x.1∈monL ad n) (hH:Hp B H0 H L w):Calls Tryz.prog 69 [.agg [.slice qad ad.length cad,.slice qaf af.length caf].toArray,.int .i64 n,.agg [.slice qts ts.length cts].toArray].toArray w fun e w'=>∃q c,e = .returned (.slice q (clV ad af n ((monL ad n).map (cf (toS ts)))).length c)∧Hp B H0 H (own 2 1 q (clV ad af n ((monL ad n).map (cf (toS ts)))).length c (intsC (clV ad af n ((monL ad n).map (cf (toS ts)))))::L) w':=by
 refine Jy Tryz.func69 rfl 43 rfl rfl [(0,.agg [.slice qad ad.length cad,.slice qaf af.length caf].toArray),(1,.int .i64 n),(2,.agg [.slice qts ts.length cts].toArray)] rfl hH ?_;have hw0:=hH.old;have hw1:=hH.le;clear hH;have hwf:=haf.wfss;have hA:=isAlg_ok hG hwf;have h8:=hA.hn;have hd:=alg_112 hG;have hml:=monL_len ad n;have hml1:=monL_len ad (n+1);have hclR:=clS_red (n:=n) hA h8 hd;have hbdR:=bdS_red (n:=n) hA h8 hd;have hcll:=clS_len (n:=n) hA h8 hd;have hbdl:=bdS_len (n:=n) hA h8 hd;have hcsR:=csS_red (n:=n) hA h8 hd;have hcsl:=csS_len (n:=n) hA h8 hd;have hmT0:=monT_L hfit.1.1;have hv:=vec_mon h8 hfs hfi;have hvo:=cfR_ok (ds:=ad) (n:=n) hfs;have hbo:=byS_ok hvo hbdR.row;have hbl:=hbo.len;refine Je fun _ hK1 _=>(Jb (Ea rfl rfl rfl fun g3=>(Ea rfl rfl rfl fun g5=>(Jg (Jd rfl) rfl (Jf (Ja (hK1 (Je fun _ hK2 _=>(Ek (Rs:=[_,_]) 11 [[], [], [1], [], [1,2,3], [0,1,2,3,4], [], [], [0,1,2,3,4,5,6,7], [0,1,2,3,4,5,6,7,8], [0,1,2,3,4,5,6,7,8,9]] [[11], [], [12], [], [], [4], [12], [], [], [], []] [[], [], [], [], [], [], [], [], [], [5,8], []] rfl rfl (by kernel_rfl) ?_)))))))));apply Jl 1 rfl
 iterate 3 focus (intros;(conv=>lhs;simp only [Jh,Js,JN,Jv,JG,eq_self,Nat.reduceEqDiff,reduceIte,Nat.reduceSub,Nat.reduceAdd,List.cons_append,List.nil_append]);all_goals rfl)
 ·
  intro gh X K zq zc zq2 zc2 zb zv hK;refine Jg (Ju rfl At.z (by simpa [*] using ag39)) rfl (Ji ?_);exact hK zq zc zq2 zc2 zb zv
 ·
  intro gh gh' h
  rfl
 apply Jl 2 rfl
 iterate 3 focus (intros;(conv=>lhs;simp only [Jh,Js,JN,Jv,JG,eq_self,Nat.reduceEqDiff,reduceIte,Nat.reduceSub,Nat.reduceAdd,List.cons_append,List.nil_append]);all_goals rfl)
 ·
  intro gh X K zq zc zq2 zc2 zb zv hK;refine Jg (Jt u35 rfl sz22 rfl) rfl (Ji ?_);exact hK zq zc zq2 zc2 zb zv
 ·
  intro gh gh' h
  rfl
 apply Jl 3 rfl
 iterate 3 focus (intros;(conv=>lhs;simp only [Jh,Js,JN,Jv,JG,eq_self,Nat.reduceEqDiff,reduceIte,Nat.reduceSub,Nat.reduceAdd,List.cons_append,List.nil_append]);all_goals rfl)
 ·
  intro gh X K zq zc zq2 zc2 zb zv hK;refine Jg (Jw rfl At.z rfl pl22) rfl (Ji ?_);exact hK zq zc zq2 zc2 zb zv
 ·
  intro gh gh' h
  rfl
 apply Jl 4 rfl
 iterate 3 focus (intros;(conv=>lhs;simp only [Jh,Js,JN,Jv,JG,eq_self,Nat.reduceEqDiff,reduceIte,Nat.reduceSub,Nat.reduceAdd,List.cons_append,List.nil_append]);all_goals rfl)
 ·
  intro gh X K zq zc zq2 zc2 zb zv hK;refine Jg (Jc rfl) rfl (Ji ?_);exact hK zq zc zq2 zc2 zb zv
 ·
  intro gh gh' h
  rfl
 apply Eb 5 rfl
 iterate 3 focus (intros;(conv=>lhs;simp only [Jh,Js,JN,Jv,JG,eq_self,Nat.reduceEqDiff,reduceIte,Nat.reduceSub,Nat.reduceAdd,List.cons_append,List.nil_append]);all_goals rfl)
 ·
  intro gh X K zq zc zq2 zc2 zb zv hK;refine Jx fn66 rfl rfl fun w hH=>(l01Monomials_c had hd h8 (by omega) hH).mono ?_;rintro _ w ⟨qo15,co15,rfl,hH⟩;refine ⟨_,rfl,fun a hF=>JM hF hH ?_⟩;refine Ji ?_;exact hK qo15 co15 zq2 zc2 zb zv
 ·
  intro gh gh' h;refine ⟨?_,?_⟩ <;> rfl
 apply Eb 6 rfl
 iterate 3 focus (intros;(conv=>lhs;simp only [Jh,Js,JN,Jv,JG,eq_self,Nat.reduceEqDiff,reduceIte,Nat.reduceSub,Nat.reduceAdd,List.cons_append,List.nil_append]);all_goals rfl)
 ·
  intro gh X K zq zc zq2 zc2 zb zv hK;refine Jx fn110 rfl rfl fun w hH=>hH.lend .z fun Hl1 hle1 hA1 hB1 hH=>(l03Vector_c (hts.le hle1) (own_monos (monT_8 h8) hA1) (by rw [hmT0];omega) (by omega) (by rw [hmT0];exact monL_mn h8) hH).mono ?_;rintro _ w ⟨qo16,co16,rfl,hH⟩;replace hH:=hB1 _ _ hH;refine ⟨_,rfl,fun a hF=>JM hF hH ?_⟩;refine Jz .z (Jz (.s .z) (Ji ?_));exact hK qo16 co16 zq2 zc2 zb zv
 ·
  intro gh gh' h;refine ⟨?_,?_⟩ <;> (first | simp only [h 4 rfl] | rfl)
 apply Jl 7 rfl
 iterate 3 focus (intros;(conv=>lhs;simp only [Jh,Js,JN,Jv,JG,eq_self,Nat.reduceEqDiff,reduceIte,Nat.reduceSub,Nat.reduceAdd,List.cons_append,List.nil_append]);all_goals rfl)
 ·
  intro gh X K zq zc zq2 zc2 zb zv hK;refine Jg (Ju rfl At.z (by simpa [*] using ag35)) rfl (Ji ?_);exact hK zq zc zq2 zc2 zb zv
 ·
  intro gh gh' h
  rfl
 apply Jl 8 rfl
 iterate 3 focus (intros;(conv=>lhs;simp only [Jh,Js,JN,Jv,JG,eq_self,Nat.reduceEqDiff,reduceIte,Nat.reduceSub,Nat.reduceAdd,List.cons_append,List.nil_append]);all_goals rfl)
 ·
  intro gh X K zq zc zq2 zc2 zb zv hK;refine Jg (Jc rfl) rfl (Ji ?_);exact hK zq zc zq2 zc2 zb zv
 ·
  intro gh gh' h
  rfl
 apply Eb 9 rfl
 iterate 3 focus (intros;(conv=>lhs;simp only [Jh,Js,JN,Jv,JG,eq_self,Nat.reduceEqDiff,reduceIte,Nat.reduceSub,Nat.reduceAdd,List.cons_append,List.nil_append]);all_goals rfl)
 ·
  intro gh X K zq zc zq2 zc2 zb zv hK;refine Jx fn111 rfl rfl fun w hH=>(l03Bounds_m had haf hG (by omega) (fun h=>⟨hfit.2 h,by rw [Int.sub_add_cancel];exact hfit.1.1⟩) hH).mono ?_;rintro _ w ⟨qo19,co19,vso19,rfl,hH⟩;refine ⟨_,rfl,fun a hF=>JM hF hH ?_⟩;refine Ji ?_;exact hK qo19 co19 zq2 zc2 zb vso19
 ·
  intro gh gh' h;refine ⟨?_,?_⟩ <;> (first | simp only [h 4 rfl,h 5 rfl] | rfl)
 apply Eb 10 rfl
 iterate 3 focus (intros;(conv=>lhs;simp only [Jh,Js,JN,Jv,JG,eq_self,Nat.reduceEqDiff,reduceIte,Nat.reduceSub,Nat.reduceAdd,List.cons_append,List.nil_append]);all_goals rfl)
 ·
  intro gh X K zq zc zq2 zc2 zb zv hK;refine Jx fn109 rfl rfl fun w hH=>(Hp.byM (by rw [hmT0,hv];exact hvo) hbdR.led (by omega) (by omega) ((hH.front .z).front (.s .z))).mono ?_;rintro _ w ⟨qo20,co20,vso20,rfl,hH⟩;refine ⟨_,rfl,fun a hF=>JM hF hH ?_⟩;refine Ji ?_;exact hK qo20 co20 zq2 zc2 zb vso20
 ·
  intro gh gh' h;refine ⟨?_,?_⟩ <;> (first | simp only [h 4 rfl,h 5 rfl,h 8 rfl] | rfl)
 apply Jl 11 rfl
 iterate 3 focus (intros;(conv=>lhs;simp only [Jh,Js,JN,Jv,JG,eq_self,Nat.reduceEqDiff,reduceIte,Nat.reduceSub,Nat.reduceAdd,List.cons_append,List.nil_append]);all_goals rfl)
 ·
  intro gh X K zq zc zq2 zc2 zb zv hK;refine Jg (Jd rfl) rfl (Ji ?_);exact hK zq zc zq2 zc2 zb zv
 ·
  intro gh gh' h
  first | simp only [h 4 rfl,h 5 rfl,h 8 rfl,h 9 rfl] | rfl
 apply El [0,1,2,3,4,5,6,7,8,9,10] [0,1,2,3,4,6,7,9,10,11,12] foll0 rfl rfl rfl (by rfl)
 iterate 2 focus (intros;(conv=>lhs;simp only [Jh,Js,JN,Jv,JG,eq_self,Nat.reduceEqDiff,reduceIte,Nat.reduceSub,Nat.reduceAdd,List.cons_append,List.nil_append]);all_goals rfl)
 intro gh;generalize (gh 4).c=co15;generalize (gh 4).q=qo15;generalize (gh 5).c=co16;generalize (gh 5).q=qo16;generalize (gh 8).c=co19;generalize (gh 8).q=qo19;generalize (gh 8).vs=vso19;generalize (gh 9).c=co20;generalize (gh 9).q=qo20;generalize (gh 9).vs=vso20;clear gh;refine EO .z fun Ho15 hleo15 hAo15=>?_;replace had:=had.le hleo15;replace haf:=haf.le hleo15;replace hts:=hts.le hleo15;have hxo15:=own_monos (monT_8 h8) hAo15;have hco15:=own_le hAo15;refine EO .z fun Ho20 hleo20 hAo20=>?_;replace had:=had.le hleo20;replace haf:=haf.le hleo20;replace hts:=hts.le hleo20;replace hxo15:=hxo15.le hleo20;obtain ⟨hxo20,hco20⟩:=mlt_ints (hleo15.trans hleo20) hAo20;rw [hmT0,hv] at hxo20 hco20 ⊢;refine Ja (hK2 (Je fun _ hK3 _=>(Jb (Jg (Ju rfl (.s .z) (by simpa [*] using ag35)) rfl (Jg (Jc rfl) rfl (Jx fn75 rfl rfl fun w hH=>(l03Classes_c had haf hG (by omega) hfit hH).mono ?_))))));rintro _ w ⟨Hf23,qf23,cf23,hlf23,hI23,hcc23,rfl,hH⟩;refine ⟨_,rfl,fun a hF=>JM hF hH ?_⟩;replace had:=had.le hlf23;replace haf:=haf.le hlf23;replace hts:=hts.le hlf23;replace hxo15:=hxo15.le hlf23;replace hxo20:=hxo20.le hlf23;refine EM (MK.lit0I u22 sz2) rfl fun qo24 co24=>(Jg (Jd rfl) rfl (Jg (Jd rfl) rfl (Jf (Ja (hK3 (Je fun _ hK4 _=>(Je fun _ hK5 _=>(Jb (Jg (Jd rfl) rfl (Jf (Ja (hK5 (Jp (JF (σ:=Option Addr × Nat × Nat) (fun ⟨q,c,k⟩=>[(10,.int .i64 (k:Int)),(9,.slice q (clK ad af n ((monL ad n).map (cf (toS ts))) k).length c)]) (fun ⟨q,c,k⟩=>Hf23) (fun ⟨q,c,k⟩=>own 2 1 q (clK ad af n ((monL ad n).map (cf (toS ts))) k).length c (intsC (clK ad af n ((monL ad n).map (cf (toS ts))) k))::obj g5 (.cells [.slice qts ts.length cts].toArray 39 (0,0))::obj g3 (.cells [.slice qad ad.length cad,.slice qaf af.length caf].toArray 35 (0,0))::L) (fun ⟨q,c,k⟩=>k≤(csS ad af n).length) (fun ⟨q,c,k⟩=>(csS ad af n).length - k) (qo24,co24,0) (by show 0≤_;omega) ⟨rfl,⟨rfl,trivial⟩⟩ rfl rfl ?_))))))))))))));rintro ⟨q,c,k⟩ hk _ hAg0;have hckl:=clK_len (v:=((monL ad n).map (cf (toS ts)))) hk;refine Je fun _ hK6 _=>(Je fun _ hK7 _=>(Jb (Jg (Jc rfl) rfl (Jg (Jc rfl) rfl (Jg (Jo u57 rfl rfl) rfl (Jg (JL rfl rfl) rfl (Jf (Ja (hK7 (Jn rfl (fun h28=>?_) (fun h28=>?_)))))))))))
 ·
  have hk1:k<(csS ad af n).length:=by omega
  have hrk:=hcsR.led _ (rw_mem hk1);have hrl:=hrk.1.len;have hld:=idxOf_ld (r:=rw_ (csS ad af n) k) (by omega);have hrle:=hrk.2;refine Jk (Ja (hK6 (Je fun _ hK8 _=>(Jp (Jb (Jg (Jc rfl) rfl (Jg (Jc rfl) rfl (Jg (Jc rfl) rfl (Jg (Jc rfl) rfl (Jg (JT u57 sz22 rfl rfl rfl hk1 hI23.sm) rfl ?_))))))))));obtain ⟨qe36,ce36,he36,le36,Fe36⟩:=hI23 k hk1;refine Jg (JD rfl he36 pl22) rfl (Jx fn108 rfl rfl fun w hH=>(l03First_c Fe36 (by omega) hH).mono ?_);rintro _ w ⟨rfl,hH⟩;refine ⟨_,rfl,fun a hF=>JM hF hH ?_⟩;rw [hld];refine Jg (JT u22 sz2 rfl rfl rfl (by omega) hxo20.sm) rfl (Jg (JD rfl (hxo20 _ (by omega)) pl2) rfl (EM (MK.lit1I u22 ze2 sz2 rfl) rfl fun qo40 co40=>(J.appendOI u22 ze2 sz2 by2 rfl rfl (by simp only [List.length_cons,List.length_nil];omega) .z At.z (fun _ _=>At.z) rfl fun qo41 co41=>(Jg (Jd rfl) rfl (Jf (JE (Ja (hK8 (Jb (Jg (Jc rfl) rfl (Jg (JC rfl rfl (by first | exact nw _ (by omega) | rfl)) rfl (Jg (Jd rfl) rfl (Jf (Ja (JR .z ?_)))))))))))))));exact hAg0 (qo41,co41,k+1) (by show k+1≤_;omega) (by show (csS ad af n).length - (k+1)<(csS ad af n).length - k;omega) 21 rfl rfl ⟨rfl,⟨(by rw [clK_succ hk1];rfl),trivial⟩⟩ rfl (by dsimp only;rw [clK_succ hk1])
 ·
  refine JJ (Jm (Jm (JP (Ja (hK4 (Je fun _ hK9 _=>(Jb (Jg (Jc rfl) rfl (Jg (Jd rfl) rfl (Jf (Ja (hK9 (Jq (Jr rfl (Res.tmp rfl) fun w hH=>?_))))))))))))));replace hH:=hH.sublist (.cons_cons _ (.cons _ (.cons _ (List.Sublist.refl _))))
  have hke:k=(csS ad af n).length:=by omega
  rw [clK_end hke] at hH ⊢;exact ⟨_,_,rfl,hH.weaken ((hleo15.trans hleo20).trans hlf23) hw0 hw1⟩
theorem l03Bounded_c {B:World} {H0 H:HP} {L:List SA} {w:World} {qad qaf:Option Addr} {cad caf:Nat} {ad:List Int} {af:List (List Term)} {n:Int} {qts:Option Addr} {cts:Nat} {ts:List Term} {M:Int} (had:Ints H qad ad) (haf:Forms H qaf af) (hts:Terms H qts ts) (hG:isAlg ad af=true) (hn:0≤n∧n≤40) (hfit:fit3 ad n) (hfl:ts.length≤1000000) (hfs:Sok M (toS ts)) (hfi : ∀x∈toS ts,x.1∈monL ad n) (hH:Hp B H0 H L w):Calls Tryz.prog 57 [.agg [.slice qad ad.length cad,.slice qaf af.length caf].toArray,.int .i64 n,.agg [.slice qts ts.length cts].toArray].toArray w fun e w'=>e = .returned (.bool (zR (byS ((monL ad n).map (cf (toS ts))) (bdS ad af n))))∧Hp B H0 H L w':=by
 refine Jy Tryz.func57 rfl 19 rfl rfl [(0,.agg [.slice qad ad.length cad,.slice qaf af.length caf].toArray),(1,.int .i64 n),(2,.agg [.slice qts ts.length cts].toArray)] rfl hH ?_;have hw0:=hH.old;have hw1:=hH.le;clear hH;have hwf:=haf.wfss;have hA:=isAlg_ok hG hwf;have h8:=hA.hn;have hd:=alg_112 hG;have hml:=monL_len ad n;have hml1:=monL_len ad (n+1);have hclR:=clS_red (n:=n) hA h8 hd;have hbdR:=bdS_red (n:=n) hA h8 hd;have hcll:=clS_len (n:=n) hA h8 hd;have hbdl:=bdS_len (n:=n) hA h8 hd;have hcsR:=csS_red (n:=n) hA h8 hd;have hcsl:=csS_len (n:=n) hA h8 hd;have hmT0:=monT_L hfit.1.1;have hv:=vec_mon h8 hfs hfi;have hvo:=cfR_ok (ds:=ad) (n:=n) hfs;have hbo:=byS_ok hvo hbdR.row;have hbl:=hbo.len;refine Je fun _ hK1 _=>(Jb (Ea rfl rfl rfl fun g3=>(Ea rfl rfl rfl fun g5=>(Jg (Jd rfl) rfl (Jf (Ja (hK1 (Je fun _ hK2 _=>(Ek (Rs:=[_,_]) 13 [[], [], [1], [], [1,2,3], [0,1,2,3,4], [], [], [0,1,2,3,4,5,6,7], [0,1,2,3,4,5,6,7,8], [0,1,2,3,4,5,6,7,8,9], [0,1,2,3,4,5,6,7,8,9,10], [0,1,2,3,4,5,6,7,8,9,10,11]] [[13], [], [14], [], [], [4], [14], [], [], [], [9], [], []] [[], [], [], [], [], [], [], [], [], [5,8], [], [], []] rfl rfl (by kernel_rfl) ?_)))))))));apply Jl 1 rfl
 iterate 3 focus (intros;(conv=>lhs;simp only [Jh,Js,JN,Jv,JG,eq_self,Nat.reduceEqDiff,reduceIte,Nat.reduceSub,Nat.reduceAdd,List.cons_append,List.nil_append]);all_goals rfl)
 ·
  intro gh X K zq zc zq2 zc2 zb zv hK;refine Jg (Ju rfl At.z (by simpa [*] using ag39)) rfl (Ji ?_);exact hK zq zc zq2 zc2 zb zv
 ·
  intro gh gh' h
  rfl
 apply Jl 2 rfl
 iterate 3 focus (intros;(conv=>lhs;simp only [Jh,Js,JN,Jv,JG,eq_self,Nat.reduceEqDiff,reduceIte,Nat.reduceSub,Nat.reduceAdd,List.cons_append,List.nil_append]);all_goals rfl)
 ·
  intro gh X K zq zc zq2 zc2 zb zv hK;refine Jg (Jt u35 rfl sz22 rfl) rfl (Ji ?_);exact hK zq zc zq2 zc2 zb zv
 ·
  intro gh gh' h
  rfl
 apply Jl 3 rfl
 iterate 3 focus (intros;(conv=>lhs;simp only [Jh,Js,JN,Jv,JG,eq_self,Nat.reduceEqDiff,reduceIte,Nat.reduceSub,Nat.reduceAdd,List.cons_append,List.nil_append]);all_goals rfl)
 ·
  intro gh X K zq zc zq2 zc2 zb zv hK;refine Jg (Jw rfl At.z rfl pl22) rfl (Ji ?_);exact hK zq zc zq2 zc2 zb zv
 ·
  intro gh gh' h
  rfl
 apply Jl 4 rfl
 iterate 3 focus (intros;(conv=>lhs;simp only [Jh,Js,JN,Jv,JG,eq_self,Nat.reduceEqDiff,reduceIte,Nat.reduceSub,Nat.reduceAdd,List.cons_append,List.nil_append]);all_goals rfl)
 ·
  intro gh X K zq zc zq2 zc2 zb zv hK;refine Jg (Jc rfl) rfl (Ji ?_);exact hK zq zc zq2 zc2 zb zv
 ·
  intro gh gh' h
  rfl
 apply Eb 5 rfl
 iterate 3 focus (intros;(conv=>lhs;simp only [Jh,Js,JN,Jv,JG,eq_self,Nat.reduceEqDiff,reduceIte,Nat.reduceSub,Nat.reduceAdd,List.cons_append,List.nil_append]);all_goals rfl)
 ·
  intro gh X K zq zc zq2 zc2 zb zv hK;refine Jx fn66 rfl rfl fun w hH=>(l01Monomials_c had hd h8 (by omega) hH).mono ?_;rintro _ w ⟨qo11,co11,rfl,hH⟩;refine ⟨_,rfl,fun a hF=>JM hF hH ?_⟩;refine Ji ?_;exact hK qo11 co11 zq2 zc2 zb zv
 ·
  intro gh gh' h;refine ⟨?_,?_⟩ <;> rfl
 apply Eb 6 rfl
 iterate 3 focus (intros;(conv=>lhs;simp only [Jh,Js,JN,Jv,JG,eq_self,Nat.reduceEqDiff,reduceIte,Nat.reduceSub,Nat.reduceAdd,List.cons_append,List.nil_append]);all_goals rfl)
 ·
  intro gh X K zq zc zq2 zc2 zb zv hK;refine Jx fn110 rfl rfl fun w hH=>hH.lend .z fun Hl1 hle1 hA1 hB1 hH=>(l03Vector_c (hts.le hle1) (own_monos (monT_8 h8) hA1) (by rw [hmT0];omega) (by omega) (by rw [hmT0];exact monL_mn h8) hH).mono ?_;rintro _ w ⟨qo12,co12,rfl,hH⟩;replace hH:=hB1 _ _ hH;refine ⟨_,rfl,fun a hF=>JM hF hH ?_⟩;refine Jz .z (Jz (.s .z) (Ji ?_));exact hK qo12 co12 zq2 zc2 zb zv
 ·
  intro gh gh' h;refine ⟨?_,?_⟩ <;> (first | simp only [h 4 rfl] | rfl)
 apply Jl 7 rfl
 iterate 3 focus (intros;(conv=>lhs;simp only [Jh,Js,JN,Jv,JG,eq_self,Nat.reduceEqDiff,reduceIte,Nat.reduceSub,Nat.reduceAdd,List.cons_append,List.nil_append]);all_goals rfl)
 ·
  intro gh X K zq zc zq2 zc2 zb zv hK;refine Jg (Ju rfl At.z (by simpa [*] using ag35)) rfl (Ji ?_);exact hK zq zc zq2 zc2 zb zv
 ·
  intro gh gh' h
  rfl
 apply Jl 8 rfl
 iterate 3 focus (intros;(conv=>lhs;simp only [Jh,Js,JN,Jv,JG,eq_self,Nat.reduceEqDiff,reduceIte,Nat.reduceSub,Nat.reduceAdd,List.cons_append,List.nil_append]);all_goals rfl)
 ·
  intro gh X K zq zc zq2 zc2 zb zv hK;refine Jg (Jc rfl) rfl (Ji ?_);exact hK zq zc zq2 zc2 zb zv
 ·
  intro gh gh' h
  rfl
 apply Eb 9 rfl
 iterate 3 focus (intros;(conv=>lhs;simp only [Jh,Js,JN,Jv,JG,eq_self,Nat.reduceEqDiff,reduceIte,Nat.reduceSub,Nat.reduceAdd,List.cons_append,List.nil_append]);all_goals rfl)
 ·
  intro gh X K zq zc zq2 zc2 zb zv hK;refine Jx fn111 rfl rfl fun w hH=>(l03Bounds_m had haf hG (by omega) (fun h=>⟨hfit.2 h,by rw [Int.sub_add_cancel];exact hfit.1.1⟩) hH).mono ?_;rintro _ w ⟨qo15,co15,vso15,rfl,hH⟩;refine ⟨_,rfl,fun a hF=>JM hF hH ?_⟩;refine Ji ?_;exact hK qo15 co15 zq2 zc2 zb vso15
 ·
  intro gh gh' h;refine ⟨?_,?_⟩ <;> (first | simp only [h 4 rfl,h 5 rfl] | rfl)
 apply Eb 10 rfl
 iterate 3 focus (intros;(conv=>lhs;simp only [Jh,Js,JN,Jv,JG,eq_self,Nat.reduceEqDiff,reduceIte,Nat.reduceSub,Nat.reduceAdd,List.cons_append,List.nil_append]);all_goals rfl)
 ·
  intro gh X K zq zc zq2 zc2 zb zv hK;refine Jx fn109 rfl rfl fun w hH=>(Hp.byM (by rw [hmT0,hv];exact hvo) hbdR.led (by omega) (by omega) ((hH.front .z).front (.s .z))).mono ?_;rintro _ w ⟨qo16,co16,vso16,rfl,hH⟩;refine ⟨_,rfl,fun a hF=>JM hF hH ?_⟩;refine Ji ?_;exact hK qo16 co16 zq2 zc2 zb vso16
 ·
  intro gh gh' h;refine ⟨?_,?_⟩ <;> (first | simp only [h 4 rfl,h 5 rfl,h 8 rfl] | rfl)
 apply Jl 11 rfl
 iterate 3 focus (intros;(conv=>lhs;simp only [Jh,Js,JN,Jv,JG,eq_self,Nat.reduceEqDiff,reduceIte,Nat.reduceSub,Nat.reduceAdd,List.cons_append,List.nil_append]);all_goals rfl)
 ·
  intro gh X K zq zc zq2 zc2 zb zv hK;refine Jx fn108 rfl rfl fun w hH=>hH.lend .z fun Hl1 hle1 hA1 hB1 hH=>(l03First_c (mlt_ints hle1 hA1).1 (by rw [hmT0,hv];omega) hH).mono ?_;rintro _ w ⟨rfl,hH⟩;replace hH:=hB1 _ _ hH;refine ⟨_,rfl,fun a hF=>JM hF hH ?_⟩;refine Ji ?_;exact hK zq zc zq2 zc2 zb zv
 ·
  intro gh gh' h
  first | simp only [h 4 rfl,h 5 rfl,h 8 rfl,h 9 rfl] | rfl
 apply Jl 12 rfl
 iterate 3 focus (intros;(conv=>lhs;simp only [Jh,Js,JN,Jv,JG,eq_self,Nat.reduceEqDiff,reduceIte,Nat.reduceSub,Nat.reduceAdd,List.cons_append,List.nil_append]);all_goals rfl)
 ·
  intro gh X K zq zc zq2 zc2 zb zv hK;refine Jg (JL rfl rfl) rfl (Ji ?_);exact hK zq zc zq2 zc2 zb zv
 ·
  intro gh gh' h
  first | simp only [h 4 rfl,h 5 rfl,h 8 rfl,h 9 rfl] | rfl
 apply Jl 13 rfl
 iterate 3 focus (intros;(conv=>lhs;simp only [Jh,Js,JN,Jv,JG,eq_self,Nat.reduceEqDiff,reduceIte,Nat.reduceSub,Nat.reduceAdd,List.cons_append,List.nil_append]);all_goals rfl)
 ·
  intro gh X K zq zc zq2 zc2 zb zv hK;refine Jg (Jd rfl) rfl (Ji ?_);exact hK zq zc zq2 zc2 zb zv
 ·
  intro gh gh' h
  first | simp only [h 4 rfl,h 5 rfl,h 8 rfl,h 9 rfl] | rfl
 apply El [0,1,2,3,4,5,6,7,8,9,10,11,12] [0,1,2,3,4,6,7,9,10,11,12,13,14] foll0 rfl rfl rfl (by rfl)
 iterate 2 focus (intros;(conv=>lhs;simp only [Jh,Js,JN,Jv,JG,eq_self,Nat.reduceEqDiff,reduceIte,Nat.reduceSub,Nat.reduceAdd,List.cons_append,List.nil_append]);all_goals rfl)
 intro gh;generalize (gh 4).c=co11;generalize (gh 4).q=qo11;generalize (gh 5).c=co12;generalize (gh 5).q=qo12;generalize (gh 8).c=co15;generalize (gh 8).q=qo15;generalize (gh 8).vs=vso15;generalize (gh 9).c=co16;generalize (gh 9).q=qo16;generalize (gh 9).vs=vso16;clear gh;refine Ja (hK2 (Jq (Jr rfl (Res.tmp rfl) fun w hH=>?_)));replace hH:=hH.tail;replace hH:=hH.tail;replace hH:=hH.tail;replace hH:=hH.tail;exact ⟨rb (by rw [hmT0,hv];exact zR_eq _),hH⟩
theorem fn68:Fn Tryz.prog 68:=⟨_,Tryz.func68,by kernel_rfl,rfl⟩
theorem bd172_0_1 : ∀(p0:Option Addr) (b1:Nat) w,(Instr.build 172 #[(0,.pointer p0),(1,.map (some b1))]).run Tryz.prog w = .ok (.agg [.pointer p0,.map (some b1)].toArray) w:=fun p0 b1 _=>by kernel_rfl
theorem lvO_cell : ∀{ls:List (Int × Lv)} {x:Int × Lv} {h:HP},x∈ls→(lvO ls).holds h→(lvB x.2).holds h
 | [],_,_,hx,_=>by simp at hx
 | y::ls,x,h,hx,hh=>by
  rcases List.mem_cons.1 hx with rfl | hx
  ·exact hh.1
  ·exact lvO_cell hx hh.2.1
theorem cpx_cell {lb:Nat} {ls:List (Int × Lv)} {n:Int} {x:Lv} {h:HP} {k:Nat} {v:Value} (hx:(n,x)∈ls) (hh:(cpx lb ls).holds h) (hk:x.cells[k]? = some v):cellO h (some ⟨x.b,0,none⟩) k=some v:=obj_cell (lvO_cell hx hh.2.1) hk
section
variable {P : Program} {ops : Array Oper} {Q : Exit → Act → World → Prop} {n : Nat} {B : World} {H0 H : HP} {rest : List Oper} {us : List (Nat × Value)} {L L' : List SA} {t : TypeId} {p : String} {af : Array Edge} {d : Nat} {x y : Operand}
theorem PR.loadCx {ty:TypeId} {lb k b:Nat} {ls:List (Int × Lv)} {m:Int} {lv:Lv} {v:Value} (hx:opv us x=some (ptr (some ⟨b,0,none⟩) k)) (hat:At L (cpx lb ls) (cpx lb ls) L) (hm:(m,lv)∈ls) (hb:lv.b=b) (hk:lv.cells[k]? = some v) (hp:Plain P ty):PR P n B H0 us H L (.load ty x) t v:=
 fun c' w' d' b' a w hF hH=>by
  subst hb
  exact JD (H:=G.hp w) (L:=[]) (B:=w) (H0:=G.hp w) hx (cpx_cell hm (hH.objs _ hat.mem).1 hk) hp c' w' d' b' a w hF (Hp.start fun _ _ h=>h)
end
theorem Hp.cpx0 {B:World} {H0 H:HP} {L:List SA} {w:World} {lb:Nat} (h:Hp B H0 H (lvM lb []::L) w):Hp B H0 H (cpx lb []::L) w:=(h.emp.front (.s .z)).star
theorem newComplex_c {B:World} {H0 H:HP} {L:List SA} {w:World} {ba:Nat} {qad qaf:Option Addr} {cad caf:Nat} {ad:List Int} {af:List (List Term)} (pad:CellAt H ba 0 (.slice qad ad.length cad)) (paf:CellAt H ba 1 (.slice qaf af.length caf)) (had:Ints H qad ad) (haf:Forms H qaf af) (hH:Hp B H0 H L w):Calls Tryz.prog 83 [.pointer (some ⟨ba,0,none⟩)].toArray w fun e w'=>∃H' b lc,Le H H' ∧CellAt H' b 0 (.pointer (some ⟨ba,0,none⟩))∧CellAt H' b 1 (.map (some lc))∧e = .returned (.pointer (some ⟨b,0,none⟩))∧Hp B H0 H' (cpx lc []::L) w':=by
 refine Jy Tryz.func83 rfl 7 rfl rfl [(0,.pointer (some ⟨ba,0,none⟩))] rfl hH ?_;clear hH;refine Je fun _ hK1 _=>(Jb (Jg (Jd rfl) rfl (Jf (Ja (hK1 (Je fun _ hK2 _=>(Jb (Jg (Jc rfl) rfl (ES ekI evB okI rfl fun bm4=>(Jg (PR.build2 rfl rfl (fun w=>bd172_0_1 _ _ w)) rfl (Ea rfl rfl rfl fun g6=>(ET .z fun H6 hle6 hc6=>?_))))))))))));replace pad:=pad.le hle6;replace paf:=paf.le hle6;replace had:=had.le hle6;replace haf:=haf.le hle6;refine Jg (Jd rfl) rfl (Jf (Ja (hK2 (Jq (Jr rfl (Res.tmp rfl) fun w hH=>?_)))));replace hH:=hH.sublist (.cons_cons _ (List.Sublist.refl _));exact ⟨_,_,_,hle6,hc6 0 _ rfl,hc6 1 _ rfl,rfl,hH.cpx0⟩
theorem class_c {B:World} {H0 H:HP} {L:List SA} {w:World} {bc lc:Nat} {bca:Nat} {qcad qcaf:Option Addr} {ccad ccaf:Nat} {cad:List Int} {caf:List (List Term)} {lsc:List (Int × Lv)} {n:Int} {vs:Value} {Ms:Int} {s:Sm} (pc0:CellAt H bc 0 (.pointer (some ⟨bca,0,none⟩))) (pc1:CellAt H bc 1 (.map (some lc))) (pcad:CellAt H bca 0 (.slice qcad cad.length ccad)) (pcaf:CellAt H bca 1 (.slice qcaf caf.length ccaf)) (hcad:Ints H qcad cad) (hcaf:Forms H qcaf caf) (hs:SumH H vs s) (ks:Sok Ms s) (hGc:isAlg cad caf=true) (hn:0≤n∧n≤39) (hfit:fit3 cad n) (hCc:CpxOk H cad caf (fun _=>False) lsc) (hNc:Nxt (fun _=>False) lsc) (hM:Ms≤1000000) (hin : ∀x∈s,x.1∈monL cad n) (hH:Hp B H0 H (cpx lc lsc::L) w):Calls Tryz.prog 70 [.pointer (some ⟨bc,0,none⟩),.int .i64 n,vs].toArray w fun e w'=>∃H' ls' q c,Le H H' ∧CpxOk H' cad caf (fun _=>False) ls' ∧Nxt (fun _=>False) ls' ∧e = .returned (.slice q (clV cad caf n ((monL cad n).map (cf s))).length c)∧Hp B H0 H' (own 2 1 q (clV cad caf n ((monL cad n).map (cf s))).length c (intsC (clV cad caf n ((monL cad n).map (cf s))))::cpx lc ls'::L) w':=by
 refine Jy Tryz.func70 rfl 43 rfl rfl [(0,.pointer (some ⟨bc,0,none⟩)),(1,.int .i64 n),(2,vs)] rfl hH ?_;clear hH;have hwc:=hcaf.wfss;have hAc:=isAlg_ok hGc hwc;have h8c:=hAc.hn;have hdc:=alg_112 hGc;have hml:=monL_len cad n;have hcsR:=csS_red (n:=n) hAc h8c hdc;have hcsl:=csS_len (n:=n) hAc h8c hdc;have hbdR:=bdS_red (n:=n) hAc h8c hdc;have hbdl:=bdS_len (n:=n) hAc h8c hdc;have hclR:=clS_red (n:=n) hAc h8c hdc;have hcll:=clS_len (n:=n) hAc h8c hdc;have hvo:=cfR_ok (ds:=cad) (n:=n) ks;have hbo:=byS_ok hvo hbdR.row;have hbl:=hbo.len;refine Je fun _ hK1 _=>(Jb (Jg (Jd rfl) rfl (Jf (Ja (hK1 (Je fun _ hK2 _=>(Jb (Jg (Jc rfl) rfl (Jg (Jc rfl) rfl (Jx fn68 rfl rfl fun w hH=>(at_c pc0 pc1 pcad pcaf hcad hcaf hdc h8c (by omega) hAc hfit (fun m hm hf=>hom_of hGc hwc h8c hdc (by omega) hf) hCc hNc (hH.front .z)).mono ?_))))))))));rintro _ w ⟨Hf14,ls14,⟨b14,p14,⟨ql14,kl14,cl14⟩,⟨qm14,km14,cm14⟩,⟨qz14,kz14,cz14⟩,⟨qy14,ky14,cy14⟩,⟨qx14,kx14,cx14⟩⟩,hlf14,hC14,hN14,hx14,hL14,rfl,hH⟩;refine ⟨_,rfl,fun a hF=>JM hF hH ?_⟩;replace pc0:=pc0.le hlf14;replace pc1:=pc1.le hlf14;replace pcad:=pcad.le hlf14;replace pcaf:=pcaf.le hlf14;replace hcad:=hcad.le hlf14;replace hcaf:=hcaf.le hlf14;replace hs:=hs.le hlf14;replace hCc:=hCc.le hlf14;obtain rfl:kl14=(monL cad (n)).length:=(hC14.ok _ hx14).one.len;have hpw14:Pows Hf14 ql14 (monL cad (n)):=(hC14.ok _ hx14).one.pw;have hpl14:SumH Hf14 (.map (some p14)) (plM (monL cad (n))):=(hC14.ok _ hx14).one.pl;obtain ⟨⟨e1,hz14⟩,⟨e2,hb14⟩,e3,hs14⟩:(kz14=(clS cad caf (n)).length∧RowsR Hf14 qz14 (clS cad caf (n)))∧(ky14=(bdS cad caf (n)).length∧RowsR Hf14 qy14 (bdS cad caf (n)))∧kx14=(csS cad caf (n)).length∧RowsR Hf14 qx14 (csS cad caf (n)):=hL14;subst e1 e2 e3;refine Jg (Jd rfl) rfl (Jf (Ja (hK2 (Je fun _ hK3 _=>(Ek (Rs:=[_]) 11 [[], [], [0,1], [], [3], [3,4], [3,4,5], [0,1,2,3,4,5,6], [], [0,1,2,3,4,5,6,7], [0,1,2,3,4,5,6,7,8,9]] [[], [], [11], [], [], [], [11], [2], [], [], []] [[], [], [], [], [], [], [], [], [], [], []] rfl rfl (by kernel_rfl) ?_)))));apply Jl 1 rfl
 iterate 3 focus (intros;(conv=>lhs;simp only [Jh,Js,JN,Jv,JG,eq_self,Nat.reduceEqDiff,reduceIte,Nat.reduceSub,Nat.reduceAdd,List.cons_append,List.nil_append]);all_goals rfl)
 ·
  intro gh X K zq zc zq2 zc2 zb zv hK;refine Jg (Jc rfl) rfl (Ji ?_);exact hK zq zc zq2 zc2 zb zv
 ·
  intro gh gh' h
  rfl
 apply Jl 2 rfl
 iterate 3 focus (intros;(conv=>lhs;simp only [Jh,Js,JN,Jv,JG,eq_self,Nat.reduceEqDiff,reduceIte,Nat.reduceSub,Nat.reduceAdd,List.cons_append,List.nil_append]);all_goals rfl)
 ·
  intro gh X K zq zc zq2 zc2 zb zv hK;refine Jg (Jc rfl) rfl (Ji ?_);exact hK zq zc zq2 zc2 zb zv
 ·
  intro gh gh' h
  rfl
 apply Eb 3 rfl
 iterate 3 focus (intros;(conv=>lhs;simp only [Jh,Js,JN,Jv,JG,eq_self,Nat.reduceEqDiff,reduceIte,Nat.reduceSub,Nat.reduceAdd,List.cons_append,List.nil_append]);all_goals rfl)
 ·
  intro gh X K zq zc zq2 zc2 zb zv hK;refine Jx fn117 rfl rfl fun w hH=>hH.lend .z fun Hl1 hle1 hA1 hB1 hH=>(row_c (cpx_cell hx14 hA1 rfl) (cpx_cell hx14 hA1 rfl) (hs.le hle1) ks (hpw14.le hle1) (hpl14.le hle1) (monL_nodup h8c _) (by omega) hin (by omega) hH).mono ?_;rintro _ w ⟨qo17,co17,rfl,hH⟩;replace hH:=hB1 _ _ hH;refine ⟨_,rfl,fun a hF=>JM hF hH ?_⟩;refine Jz .z (Jz (.s .z) (Ji ?_));exact hK qo17 co17 zq2 zc2 zb zv
 ·
  intro gh gh' h;refine ⟨?_,?_⟩ <;> rfl
 apply Jl 4 rfl
 iterate 3 focus (intros;(conv=>lhs;simp only [Jh,Js,JN,Jv,JG,eq_self,Nat.reduceEqDiff,reduceIte,Nat.reduceSub,Nat.reduceAdd,List.cons_append,List.nil_append]);all_goals rfl)
 ·
  intro gh X K zq zc zq2 zc2 zb zv hK;refine Jg (Jc rfl) rfl (Ji ?_);exact hK zq zc zq2 zc2 zb zv
 ·
  intro gh gh' h
  rfl
 apply Jl 5 rfl
 iterate 3 focus (intros;(conv=>lhs;simp only [Jh,Js,JN,Jv,JG,eq_self,Nat.reduceEqDiff,reduceIte,Nat.reduceSub,Nat.reduceAdd,List.cons_append,List.nil_append]);all_goals rfl)
 ·
  intro gh X K zq zc zq2 zc2 zb zv hK;refine Jg (JH rfl) rfl (Ji ?_);exact hK zq zc zq2 zc2 zb zv
 ·
  intro gh gh' h
  rfl
 apply Jl 6 rfl
 iterate 3 focus (intros;(conv=>lhs;simp only [Jh,Js,JN,Jv,JG,eq_self,Nat.reduceEqDiff,reduceIte,Nat.reduceSub,Nat.reduceAdd,List.cons_append,List.nil_append]);all_goals rfl)
 ·
  intro gh X K zq zc zq2 zc2 zb zv hK;refine Jg (Jt u95 rfl sz57 rfl) rfl (Ji ?_);exact hK zq zc zq2 zc2 zb zv
 ·
  intro gh gh' h
  rfl
 apply Jl 7 rfl
 iterate 3 focus (intros;(conv=>lhs;simp only [Jh,Js,JN,Jv,JG,eq_self,Nat.reduceEqDiff,reduceIte,Nat.reduceSub,Nat.reduceAdd,List.cons_append,List.nil_append]);all_goals rfl)
 ·
  intro gh X K zq zc zq2 zc2 zb zv hK;refine Jg (PR.loadCx (b:=b14) (k:=4) (v:=.slice qy14 (bdS cad caf (n)).length cy14) rfl At.z hx14 rfl rfl pl57) rfl (Ji ?_);exact hK zq zc zq2 zc2 zb zv
 ·
  intro gh gh' h
  rfl
 apply Eb 8 rfl
 iterate 3 focus (intros;(conv=>lhs;simp only [Jh,Js,JN,Jv,JG,eq_self,Nat.reduceEqDiff,reduceIte,Nat.reduceSub,Nat.reduceAdd,List.cons_append,List.nil_append]);all_goals rfl)
 ·
  intro gh X K zq zc zq2 zc2 zb zv hK;refine Jx fn116 rfl rfl fun w hH=>hH.lend .z fun Hl1 hle1 hA1 hB1 hH=>(reduceBy_c (own_ints hA1) (hb14.le hle1) (hvo) hbdR.led (by omega) (by omega) hH).mono ?_;rintro _ w ⟨qo22,co22,rfl,hH⟩;replace hH:=hB1 _ _ hH;refine ⟨_,rfl,fun a hF=>JM hF hH ?_⟩;refine Jz .z (Jz (.s .z) (Ji ?_));exact hK qo22 co22 zq2 zc2 zb zv
 ·
  intro gh gh' h;refine ⟨?_,?_⟩ <;> (first | simp only [h 2 rfl] | rfl)
 apply Eb 9 rfl
 iterate 3 focus (intros;(conv=>lhs;simp only [Jh,Js,JN,Jv,JG,eq_self,Nat.reduceEqDiff,reduceIte,Nat.reduceSub,Nat.reduceAdd,List.cons_append,List.nil_append]);all_goals rfl)
 ·
  intro gh X K zq zc zq2 zc2 zb zv hK;refine EM (MK.lit0I u22 sz2) rfl fun qo23 co23=>(Ji ?_);exact hK qo23 co23 zq2 zc2 zb zv
 ·
  intro gh gh' h;refine ⟨?_,?_⟩ <;> rfl
 apply Jl 10 rfl
 iterate 3 focus (intros;(conv=>lhs;simp only [Jh,Js,JN,Jv,JG,eq_self,Nat.reduceEqDiff,reduceIte,Nat.reduceSub,Nat.reduceAdd,List.cons_append,List.nil_append]);all_goals rfl)
 ·
  intro gh X K zq zc zq2 zc2 zb zv hK;refine Jg (Jd rfl) rfl (Ji ?_);exact hK zq zc zq2 zc2 zb zv
 ·
  intro gh gh' h
  first | simp only [h 2 rfl,h 7 rfl] | rfl
 apply Jl 11 rfl
 iterate 3 focus (intros;(conv=>lhs;simp only [Jh,Js,JN,Jv,JG,eq_self,Nat.reduceEqDiff,reduceIte,Nat.reduceSub,Nat.reduceAdd,List.cons_append,List.nil_append]);all_goals rfl)
 ·
  intro gh X K zq zc zq2 zc2 zb zv hK;refine Jg (Jd rfl) rfl (Ji ?_);exact hK zq zc zq2 zc2 zb zv
 ·
  intro gh gh' h
  first | simp only [h 2 rfl,h 7 rfl,h 8 rfl] | rfl
 apply El [0,1,2,3,4,5,6,7,8,9,10] [0,1,2,3,4,5,6,7,8,9,10,11] foll0 rfl rfl rfl (by rfl)
 iterate 2 focus (intros;(conv=>lhs;simp only [Jh,Js,JN,Jv,JG,eq_self,Nat.reduceEqDiff,reduceIte,Nat.reduceSub,Nat.reduceAdd,List.cons_append,List.nil_append]);all_goals rfl)
 intro gh;generalize (gh 2).c=co17;generalize (gh 2).q=qo17;generalize (gh 7).c=co22;generalize (gh 7).q=qo22;generalize (gh 8).c=co23;generalize (gh 8).q=qo23;clear gh;refine Ja (hK3 (Je fun _ hK4 _=>(Je fun _ hK5 _=>(Jb (Jg (Jc rfl) rfl (Jg (JH rfl) rfl (Jg (Jt u95 rfl sz57 rfl) rfl (Jg (PR.loadCx (b:=b14) (k:=5) (v:=.slice qx14 (csS cad caf (n)).length cx14) rfl (.s (.s (.s .z))) hx14 rfl rfl pl57) rfl (Jg (Jo u57 rfl rfl) rfl (Jg (Jc rfl) rfl (Jf (Ja (hK5 (Jp (JF (σ:=Option Addr × Nat × Nat) (fun ⟨q,c,k⟩=>[(29,.int .i64 (k:Int)),(9,.slice q (clK cad caf n ((monL cad n).map (cf s)) k).length c)]) (fun ⟨q,c,k⟩=>Hf14) (fun ⟨q,c,k⟩=>own 2 1 qo17 ((monL cad n).map (cf s)).length co17 (intsC ((monL cad n).map (cf s)))::own 2 1 qo22 (byS ((monL cad n).map (cf s)) (bdS cad caf n)).length co22 (intsC (byS ((monL cad n).map (cf s)) (bdS cad caf n)))::own 2 1 q (clK cad caf n ((monL cad n).map (cf s)) k).length c (intsC (clK cad caf n ((monL cad n).map (cf s)) k))::cpx lc ls14::L) (fun ⟨q,c,k⟩=>k≤(csS cad caf n).length) (fun ⟨q,c,k⟩=>(csS cad caf n).length - k) (qo23,co23,0) (by show 0≤_;omega) ⟨rfl,⟨rfl,trivial⟩⟩ rfl rfl ?_)))))))))))))));rintro ⟨q,c,k⟩ hk _ hAg0;have hckl:=clK_len (ds:=cad) (fs:=caf) (v:=((monL cad n).map (cf s))) hk;refine Je fun _ hK6 _=>(Jb (Jg (JL rfl rfl) rfl (Jf (Ja (hK6 (Je fun _ hK7 _=>(Jn rfl (fun h30=>?_) (fun h30=>?_))))))))
 ·
  have hk1:k<(csS cad caf n).length:=by omega
  have hrk:=hcsR.led _ (rw_mem hk1);have hrl:=hrk.1.len;have hld:=idxOf_ld (r:=rw_ (csS cad caf n) k) (by omega);have hrle:=hrk.2;refine Jk (Ja (hK7 (Je fun _ hK8 _=>(Jp (Je fun _ hK9 _=>(Jb (Jg (JT u57 sz22 rfl rfl rfl hk1 hs14.sm) rfl ?_)))))));obtain ⟨qe32,ce32,he32,le32,Fe32⟩:=hs14 k hk1;refine Jg (JD rfl he32 pl22) rfl (Jg (Jd rfl) rfl (Jf (Ja (hK9 (Jb (Jg (Jc rfl) rfl (Jg (Jc rfl) rfl (Jg (Jc rfl) rfl (Jx fn125 rfl rfl fun w hH=>(lead_c Fe32 (by omega) hH).mono ?_)))))))));rintro _ w ⟨rfl,hH⟩;refine ⟨_,rfl,fun a hF=>JM hF hH ?_⟩;rw [hld];refine Jg (Ev u22 sz2 rfl rfl rfl (by omega) (.s .z)) rfl (Jg (EF rfl (.s .z) (intsC_get (by omega)) pl2) rfl (EM (MK.lit1I u22 ze2 sz2 rfl) rfl fun qo39 co39=>(J.appendOI u22 ze2 sz2 by2 rfl rfl (by simp only [List.length_cons,List.length_nil];omega) .z (.s (.s .z)) (fun _ _=>(.s (.s .z))) rfl fun qo40 co40=>(Jg (Jd rfl) rfl (Jf (JE (Ja (hK8 (Jb (Jg (JC rfl rfl (by first | exact nw _ (by omega) | rfl)) rfl (Jg (Jc rfl) rfl (Jf (Ja (JR .z ?_))))))))))))));exact hAg0 (qo40,co40,k+1) (by show k+1≤_;omega) (by show (csS cad caf n).length - (k+1)<(csS cad caf n).length - k;omega) 17 rfl rfl ⟨rfl,⟨(by rw [clK_succ hk1];rfl),trivial⟩⟩ rfl (by dsimp only;rw [clK_succ hk1])
 ·
  refine JJ (Jm (Jm (JP (Ja (hK4 (Je fun _ hK10 _=>(Jb (Jg (Jc rfl) rfl (Jg (Jd rfl) rfl (Jf (Ja (hK10 (Jq (Jr rfl (Res.tmp rfl) fun w hH=>?_))))))))))))));replace hH:=hH.sublist (.cons _ (.cons _ (.cons_cons _ (.cons_cons _ (List.Sublist.refl _)))))
  have hke:k=(csS cad caf n).length:=by omega
  rw [clK_end hke] at hH ⊢;exact ⟨_,_,_,_,hlf14,hC14,hN14,rfl,hH⟩
theorem fn114:Fn Tryz.prog 114:=⟨_,Tryz.func114,by kernel_rfl,rfl⟩
theorem fn80:Fn Tryz.prog 80:=⟨_,Tryz.func80,by kernel_rfl,rfl⟩
theorem fn83:Fn Tryz.prog 83:=⟨_,Tryz.func83,by kernel_rfl,rfl⟩
theorem fn88:Fn Tryz.prog 88:=⟨_,Tryz.func88,by kernel_rfl,rfl⟩
theorem isBoundary_c {B:World} {H0 H:HP} {L:List SA} {w:World} {bc lc:Nat} {bca:Nat} {qcad qcaf:Option Addr} {ccad ccaf:Nat} {cad:List Int} {caf:List (List Term)} {lsc:List (Int × Lv)} {n:Int} {vs:Value} {Ms:Int} {s:Sm} (pc0:CellAt H bc 0 (.pointer (some ⟨bca,0,none⟩))) (pc1:CellAt H bc 1 (.map (some lc))) (pcad:CellAt H bca 0 (.slice qcad cad.length ccad)) (pcaf:CellAt H bca 1 (.slice qcaf caf.length ccaf)) (hcad:Ints H qcad cad) (hcaf:Forms H qcaf caf) (hs:SumH H vs s) (ks:Sok Ms s) (hGc:isAlg cad caf=true) (hn:0≤n∧n≤39) (hfit:fit3 cad n) (hCc:CpxOk H cad caf (fun _=>False) lsc) (hNc:Nxt (fun _=>False) lsc) (hM:Ms≤1000000) (hin : ∀x∈s,x.1∈monL cad n) (hH:Hp B H0 H (cpx lc lsc::L) w):Calls Tryz.prog 61 [.pointer (some ⟨bc,0,none⟩),.int .i64 n,vs].toArray w fun e w'=>∃H' ls',Le H H' ∧CpxOk H' cad caf (fun _=>False) ls' ∧Nxt (fun _=>False) ls' ∧e = .returned (.bool (zR (byS ((monL cad n).map (cf s)) (bdS cad caf n))))∧Hp B H0 H' (cpx lc ls'::L) w':=by
 refine Jy Tryz.func61 rfl 20 rfl rfl [(0,.pointer (some ⟨bc,0,none⟩)),(1,.int .i64 n),(2,vs)] rfl hH ?_;clear hH;have hwc:=hcaf.wfss;have hAc:=isAlg_ok hGc hwc;have h8c:=hAc.hn;have hdc:=alg_112 hGc;have hml:=monL_len cad n;have hcsR:=csS_red (n:=n) hAc h8c hdc;have hcsl:=csS_len (n:=n) hAc h8c hdc;have hbdR:=bdS_red (n:=n) hAc h8c hdc;have hbdl:=bdS_len (n:=n) hAc h8c hdc;have hclR:=clS_red (n:=n) hAc h8c hdc;have hcll:=clS_len (n:=n) hAc h8c hdc;have hvo:=cfR_ok (ds:=cad) (n:=n) ks;have hbo:=byS_ok hvo hbdR.row;have hbl:=hbo.len;refine Je fun _ hK1 _=>(Jb (Jg (Jd rfl) rfl (Jf (Ja (hK1 (Je fun _ hK2 _=>(Jb (Jg (Jc rfl) rfl (Jg (Jc rfl) rfl (Jx fn68 rfl rfl fun w hH=>(at_c pc0 pc1 pcad pcaf hcad hcaf hdc h8c (by omega) hAc hfit (fun m hm hf=>hom_of hGc hwc h8c hdc (by omega) hf) hCc hNc (hH.front .z)).mono ?_))))))))));rintro _ w ⟨Hf10,ls10,⟨b10,p10,⟨ql10,kl10,cl10⟩,⟨qm10,km10,cm10⟩,⟨qz10,kz10,cz10⟩,⟨qy10,ky10,cy10⟩,⟨qx10,kx10,cx10⟩⟩,hlf10,hC10,hN10,hx10,hL10,rfl,hH⟩;refine ⟨_,rfl,fun a hF=>JM hF hH ?_⟩;replace pc0:=pc0.le hlf10;replace pc1:=pc1.le hlf10;replace pcad:=pcad.le hlf10;replace pcaf:=pcaf.le hlf10;replace hcad:=hcad.le hlf10;replace hcaf:=hcaf.le hlf10;replace hs:=hs.le hlf10;replace hCc:=hCc.le hlf10;obtain rfl:kl10=(monL cad (n)).length:=(hC10.ok _ hx10).one.len;have hpw10:Pows Hf10 ql10 (monL cad (n)):=(hC10.ok _ hx10).one.pw;have hpl10:SumH Hf10 (.map (some p10)) (plM (monL cad (n))):=(hC10.ok _ hx10).one.pl;obtain ⟨⟨e1,hz10⟩,⟨e2,hb10⟩,e3,hs10⟩:(kz10=(clS cad caf (n)).length∧RowsR Hf10 qz10 (clS cad caf (n)))∧(ky10=(bdS cad caf (n)).length∧RowsR Hf10 qy10 (bdS cad caf (n)))∧kx10=(csS cad caf (n)).length∧RowsR Hf10 qx10 (csS cad caf (n)):=hL10;subst e1 e2 e3;refine Jg (Jd rfl) rfl (Jf (Ja (hK2 (Je fun _ hK3 _=>(Ek (Rs:=[_]) 10 [[], [], [0,1], [], [3], [3,4], [3,4,5], [0,1,2,3,4,5,6], [0,1,2,3,4,5,6,7], [0,1,2,3,4,5,6,7,8]] [[], [], [10], [], [], [], [10], [2], [7], []] [[], [], [], [], [], [], [], [], [], []] rfl rfl (by kernel_rfl) ?_)))));apply Jl 1 rfl
 iterate 3 focus (intros;(conv=>lhs;simp only [Jh,Js,JN,Jv,JG,eq_self,Nat.reduceEqDiff,reduceIte,Nat.reduceSub,Nat.reduceAdd,List.cons_append,List.nil_append]);all_goals rfl)
 ·
  intro gh X K zq zc zq2 zc2 zb zv hK;refine Jg (Jc rfl) rfl (Ji ?_);exact hK zq zc zq2 zc2 zb zv
 ·
  intro gh gh' h
  rfl
 apply Jl 2 rfl
 iterate 3 focus (intros;(conv=>lhs;simp only [Jh,Js,JN,Jv,JG,eq_self,Nat.reduceEqDiff,reduceIte,Nat.reduceSub,Nat.reduceAdd,List.cons_append,List.nil_append]);all_goals rfl)
 ·
  intro gh X K zq zc zq2 zc2 zb zv hK;refine Jg (Jc rfl) rfl (Ji ?_);exact hK zq zc zq2 zc2 zb zv
 ·
  intro gh gh' h
  rfl
 apply Eb 3 rfl
 iterate 3 focus (intros;(conv=>lhs;simp only [Jh,Js,JN,Jv,JG,eq_self,Nat.reduceEqDiff,reduceIte,Nat.reduceSub,Nat.reduceAdd,List.cons_append,List.nil_append]);all_goals rfl)
 ·
  intro gh X K zq zc zq2 zc2 zb zv hK;refine Jx fn117 rfl rfl fun w hH=>hH.lend .z fun Hl1 hle1 hA1 hB1 hH=>(row_c (cpx_cell hx10 hA1 rfl) (cpx_cell hx10 hA1 rfl) (hs.le hle1) ks (hpw10.le hle1) (hpl10.le hle1) (monL_nodup h8c _) (by omega) hin (by omega) hH).mono ?_;rintro _ w ⟨qo13,co13,rfl,hH⟩;replace hH:=hB1 _ _ hH;refine ⟨_,rfl,fun a hF=>JM hF hH ?_⟩;refine Jz .z (Jz (.s .z) (Ji ?_));exact hK qo13 co13 zq2 zc2 zb zv
 ·
  intro gh gh' h;refine ⟨?_,?_⟩ <;> rfl
 apply Jl 4 rfl
 iterate 3 focus (intros;(conv=>lhs;simp only [Jh,Js,JN,Jv,JG,eq_self,Nat.reduceEqDiff,reduceIte,Nat.reduceSub,Nat.reduceAdd,List.cons_append,List.nil_append]);all_goals rfl)
 ·
  intro gh X K zq zc zq2 zc2 zb zv hK;refine Jg (Jc rfl) rfl (Ji ?_);exact hK zq zc zq2 zc2 zb zv
 ·
  intro gh gh' h
  rfl
 apply Jl 5 rfl
 iterate 3 focus (intros;(conv=>lhs;simp only [Jh,Js,JN,Jv,JG,eq_self,Nat.reduceEqDiff,reduceIte,Nat.reduceSub,Nat.reduceAdd,List.cons_append,List.nil_append]);all_goals rfl)
 ·
  intro gh X K zq zc zq2 zc2 zb zv hK;refine Jg (JH rfl) rfl (Ji ?_);exact hK zq zc zq2 zc2 zb zv
 ·
  intro gh gh' h
  rfl
 apply Jl 6 rfl
 iterate 3 focus (intros;(conv=>lhs;simp only [Jh,Js,JN,Jv,JG,eq_self,Nat.reduceEqDiff,reduceIte,Nat.reduceSub,Nat.reduceAdd,List.cons_append,List.nil_append]);all_goals rfl)
 ·
  intro gh X K zq zc zq2 zc2 zb zv hK;refine Jg (Jt u95 rfl sz57 rfl) rfl (Ji ?_);exact hK zq zc zq2 zc2 zb zv
 ·
  intro gh gh' h
  rfl
 apply Jl 7 rfl
 iterate 3 focus (intros;(conv=>lhs;simp only [Jh,Js,JN,Jv,JG,eq_self,Nat.reduceEqDiff,reduceIte,Nat.reduceSub,Nat.reduceAdd,List.cons_append,List.nil_append]);all_goals rfl)
 ·
  intro gh X K zq zc zq2 zc2 zb zv hK;refine Jg (PR.loadCx (b:=b10) (k:=4) (v:=.slice qy10 (bdS cad caf (n)).length cy10) rfl At.z hx10 rfl rfl pl57) rfl (Ji ?_);exact hK zq zc zq2 zc2 zb zv
 ·
  intro gh gh' h
  rfl
 apply Eb 8 rfl
 iterate 3 focus (intros;(conv=>lhs;simp only [Jh,Js,JN,Jv,JG,eq_self,Nat.reduceEqDiff,reduceIte,Nat.reduceSub,Nat.reduceAdd,List.cons_append,List.nil_append]);all_goals rfl)
 ·
  intro gh X K zq zc zq2 zc2 zb zv hK;refine Jx fn116 rfl rfl fun w hH=>hH.lend .z fun Hl1 hle1 hA1 hB1 hH=>(reduceBy_c (own_ints hA1) (hb10.le hle1) (hvo) hbdR.led (by omega) (by omega) hH).mono ?_;rintro _ w ⟨qo18,co18,rfl,hH⟩;replace hH:=hB1 _ _ hH;refine ⟨_,rfl,fun a hF=>JM hF hH ?_⟩;refine Jz .z (Jz (.s .z) (Ji ?_));exact hK qo18 co18 zq2 zc2 zb zv
 ·
  intro gh gh' h;refine ⟨?_,?_⟩ <;> (first | simp only [h 2 rfl] | rfl)
 apply Jl 9 rfl
 iterate 3 focus (intros;(conv=>lhs;simp only [Jh,Js,JN,Jv,JG,eq_self,Nat.reduceEqDiff,reduceIte,Nat.reduceSub,Nat.reduceAdd,List.cons_append,List.nil_append]);all_goals rfl)
 ·
  intro gh X K zq zc zq2 zc2 zb zv hK;refine Jx fn115 rfl rfl fun w hH=>hH.lend .z fun Hl1 hle1 hA1 hB1 hH=>(isZero_c (own_ints hA1) (by omega) hH).mono ?_;rintro _ w ⟨rfl,hH⟩;replace hH:=hB1 _ _ hH;refine ⟨_,rfl,fun a hF=>JM hF hH ?_⟩;refine Ji ?_;exact hK zq zc zq2 zc2 zb zv
 ·
  intro gh gh' h
  first | simp only [h 2 rfl,h 7 rfl] | rfl
 apply Jl 10 rfl
 iterate 3 focus (intros;(conv=>lhs;simp only [Jh,Js,JN,Jv,JG,eq_self,Nat.reduceEqDiff,reduceIte,Nat.reduceSub,Nat.reduceAdd,List.cons_append,List.nil_append]);all_goals rfl)
 ·
  intro gh X K zq zc zq2 zc2 zb zv hK;refine Jg (Jd rfl) rfl (Ji ?_);exact hK zq zc zq2 zc2 zb zv
 ·
  intro gh gh' h
  first | simp only [h 2 rfl,h 7 rfl] | rfl
 apply El [0,1,2,3,4,5,6,7,8,9] [0,1,2,3,4,5,6,7,8,9,10] foll0 rfl rfl rfl (by rfl)
 iterate 2 focus (intros;(conv=>lhs;simp only [Jh,Js,JN,Jv,JG,eq_self,Nat.reduceEqDiff,reduceIte,Nat.reduceSub,Nat.reduceAdd,List.cons_append,List.nil_append]);all_goals rfl)
 intro gh;generalize (gh 2).c=co13;generalize (gh 2).q=qo13;generalize (gh 7).c=co18;generalize (gh 7).q=qo18;clear gh;refine Ja (hK3 (Jq (Jr rfl (Res.tmp rfl) fun w hH=>?_)));replace hH:=hH.sublist (.cons _ (.cons _ (.cons_cons _ (List.Sublist.refl _))));exact ⟨_,_,hlf10,hC10,hN10,rfl,hH⟩
def hgB (ds:List Int) (fs:List (List Term)) (ts:List Term) (cl:Bool):Bool:=homog ds ts && !(cl && decide (0<(dS ds fs (toS ts)).length))
def hgC (ds:List Int) (fs:List (List Term)) (ts:List Term) (cl:Bool):Int:=
 if isAlg ds fs && isForm ds ts then if hgB ds fs ts cl then if degF ds ts>20 then 2 else if wiB ds (degF ds ts - 1) (degF ds ts+1) then 0 else 3 else 5 else 1
section
variable {ds : List Int} {fs : List (List Term)} {ts : List Term} {cl : Bool}
theorem hgC_1 (h:(isAlg ds fs && isForm ds ts)=false):hgC ds fs ts cl=1:=by unfold hgC;rw [h];rfl
theorem hgC_5 (h:(isAlg ds fs && isForm ds ts)=true) (h2:hgB ds fs ts cl=false):hgC ds fs ts cl=5:=by unfold hgC;rw [h,h2];rfl
theorem hgC_2 (h:(isAlg ds fs && isForm ds ts)=true) (h2:hgB ds fs ts cl=true) (h3:degF ds ts>20):hgC ds fs ts cl=2:=by unfold hgC;rw [h,h2,if_pos rfl,if_pos rfl,if_pos h3]
theorem hgC_3 (h:(isAlg ds fs && isForm ds ts)=true) (h2:hgB ds fs ts cl=true) (h3 : ¬degF ds ts>20):hgC ds fs ts cl=if wiB ds (degF ds ts - 1) (degF ds ts+1) then 0 else 3:=by unfold hgC;rw [h,h2,if_pos rfl,if_pos rfl,if_neg h3]
theorem hgC_y (h:hgC ds fs ts cl=0):isAlg ds fs=true∧isForm ds ts=true∧homog ds ts=true∧degF ds ts≤20∧wiB ds (degF ds ts - 1) (degF ds ts+1)=true:=by
 unfold hgC at h
 split at h
 ·rename_i h1
  split at h
  ·rename_i h2
   split at h
   ·omega
   ·split at h
    ·rename_i h3 h4
     exact ⟨(Bool.and_eq_true_iff.1 h1).1,(Bool.and_eq_true_iff.1 h1).2,(Bool.and_eq_true_iff.1 h2).1,by omega,h4⟩
    ·omega
  ·omega
 ·omega
theorem hgB_n1 (h:(!homog ds ts)=true):hgB ds fs ts cl=false:=by unfold hgB;rw [not_f h];rfl
theorem hgB_n2 (h:(!decide ((dS ds fs (toS ts)).length=0))=true) (hc:cl=true):hgB ds fs ts cl=false:=by
 unfold hgB;rw [hc,decide_eq_true (show 0<(dS ds fs (toS ts)).length by simp at h;exact List.length_pos_iff.2 h)]
 simp
theorem hgB_n3 (h:(ofS (dS ds fs (toS ts))).length>0) (hc:cl=true):hgB ds fs ts cl=false:=hgB_n2 (by rw [ofS_len] at h;simp;exact List.length_pos_iff.1 h) hc
theorem hgB_y1 (h:(!homog ds ts)=false) (hc:cl=false):hgB ds fs ts cl=true:=by unfold hgB;rw [not_t h,hc];rfl
theorem hgB_y2 (h:(!homog ds ts)=false) (h2:(!decide ((dS ds fs (toS ts)).length=0))=false):hgB ds fs ts cl=true:=by
 unfold hgB;rw [not_t h,decide_eq_false (show ¬0<(dS ds fs (toS ts)).length by have:=of_decide_eq_true (not_t h2);omega)]
 simp
theorem hgB_y3 (h:(!homog ds ts)=false) (h2 : ¬(ofS (dS ds fs (toS ts))).length>0):hgB ds fs ts cl=true:=hgB_y2 h (by rw [ofS_len] at h2;rw [decide_eq_true (show _ by omega)];rfl)
theorem degF_ge (hA:AlgOk ds fs) (hw:Wfs ts) : -1≤degF ds ts:=by
 unfold degF
 split
 ·unfold outAt
  split
  ·omega
  ·rename_i h0
   have:=(wd_bd hA.hn hA.hd (Wfs.at hw (i:=0) (by omega)).mono).1
   omega
 ·omega
theorem form_mon (hA:AlgOk ds fs) (hd : ∀j,j<ds.length→1≤ds.getD j 0∧ds.getD j 0≤12) (hw:Wfs ts) (hF:isForm ds ts=true) (hh:homog ds ts=true) {n:Int} (hn:n=degF ds ts) (h20:n≤20) (hf:fitB ds n=true) : ∀x∈toS ts,x.1∈monL ds n:=fun x hx=>by
 have hs:=isForm_sok hw hF
 have hk:=isForm_kex hA.hd hA.hn hw hF
 have hwt:=degOk_wt hA.hn hA.hd hw (x:=n) (by unfold degOk;rw [hh,← hn];simp) x hx
 rw [monL_fit hf]
 exact mon_in hA.hn hd (by omega) (hs.key x hx) (hk x hx) hwt
end
theorem ar_wi (ds:List Int) (fs:List (List Term)) (hG:isAlg ds fs=true) (n:Int):arB ds n=wiB ds (n - 1) (n+1):=by
 cases h:wiB ds (n - 1) (n+1) with
 | true=>
  unfold arB;rw [wi_fit' hG h (by omega) (by omega),wi_fit' hG h (by omega) (by omega),wi_fit' hG h (by omega) (by omega)]
  rfl
 | false=>
  cases h2:arB ds n with
  | false=>rfl
  | true=>
   exfalso
   unfold arB at h2;simp only [Bool.and_eq_true] at h2;rw [wiB_yes fun k hk=>?_] at h
   ·cases h
   ·rcases (show max (n - 1) 0+(k:Int)=n - 1∨max (n - 1) 0+(k:Int)=n∨max (n - 1) 0+(k:Int)=n+1 by omega) with e | e | e <;> rw [e]
    ·exact h2.1
    ·exact h2.2.1
    ·exact h2.2.2
theorem fit_zero {ds:List Int} {fs:List (List Term)} (hG:isAlg ds fs=true):fitB ds 0=true:=by
 have hd:=alg_112 hG;have h8:=isDeg_len (isAlg_deg hG)
 have hz : ∀p∈monS ds 0,p=zP:=fun p hp=>by
  have h:=enumF_mem (by omega) rfl hp;have hw:=mon_wt h8 hp;have hp0 : ∀j,0≤p.getD j 0:=fun j=>((mon_pok h8 hp).bd j).1;refine list8 h.1 (by rfl) fun j hj=>?_;rw [show zP.getD j 0=0 from zP_get j]
  by_cases hjd:j<ds.length
  ·have h1:=wsum_ge (ds:=ds) (fun i=>(isDeg_bd (isAlg_deg hG) i).1) hp0 (j:=j) ds.length hjd;rw [hw] at h1;have h2:=hd j hjd;have h3:1 * p.getD j 0≤ds.getD j 0 * p.getD j 0:=Int.mul_le_mul_of_nonneg_right h2.1 (hp0 j);have:=hp0 j
   omega
  ·have:=h.2.1 j (.inr (by omega));rw [this];exact zP_get j
 have hn:=mon_nodup ds 0 h8;unfold fitB;refine decide_eq_true ?_
 rcases hm:monS ds 0 with _ | ⟨p,_ | ⟨q,l⟩⟩
 ·simp
 ·simp
 ·exfalso
  rw [hm] at hn hz;have h1:=hz p (by simp);have h2:=hz q (by simp);rw [List.nodup_cons] at hn;exact hn.1 (by rw [h1,h2];simp)
theorem wi_neg {ds:List Int} {fs:List (List Term)} (hG:isAlg ds fs=true) {n:Int} (h:n = -1):wiB ds (n - 1) (n+1)=true:=wiB_yes fun k hk=>by
 rw [show max (n - 1) 0+(k:Int)=0 by omega]
 exact fit_zero hG
theorem Hp.cpxIf {B:World} {H0 H:HP} {L:List SA} {w:World} {lb:Nat} {ls:List (Int × Lv)} {C:Prop} [Decidable C] (h:Hp B H0 H (cpx lb ls::L) w):Hp B H0 H ((if C then cpx lb ls else G.emp)::L) w:=by
 split
 ·exact h
 ·exact h.tail.emp
theorem Hp.cpxNo {B:World} {H0 H:HP} {L:List SA} {w:World} {lb:Nat} {ls:List (Int × Lv)} {C:Prop} [Decidable C] (hC : ¬C) (h:Hp B H0 H L w):Hp B H0 H ((if C then cpx lb ls else G.emp)::L) w:=by
 rw [if_neg hC];exact h.emp
theorem one_bd {x lo hi:Int} (h:lo≤x∧x≤hi) : ∀i,i<[x].length→lo≤ [x].getD i 0∧ [x].getD i 0≤hi:=fun i hi=>by
 obtain rfl:i=0:=by simp at hi;omega
 exact h
theorem arC_one (ds:List Int) (n:Int):arC ds [n]=if arB ds n then 0 else 3:=by unfold arC;simp
theorem bothC_one {ds:List Int} {fs:List (List Term)} {ts:List Term} (h:bothC ds fs ts≠0):bothC ds fs ts=1:=by unfold bothC at h ⊢;split at h <;> simp_all
def csV (ds:List Int) (fs:List (List Term)) (ts:List Term):List Int:=if hgC ds fs ts true=0∧0≤degF ds ts then clV ds fs (degF ds ts) ((monL ds (degF ds ts)).map (cf (toS ts))) else []
def bnB (ds:List Int) (fs:List (List Term)) (ts:List Term):Bool:=decide (hgC ds fs ts false=0) && (decide (degF ds ts<0) || zR (byS ((monL ds (degF ds ts)).map (cf (toS ts))) (bdS ds fs (degF ds ts))))
theorem formAsked_c {B:World} {H0 H:HP} {L:List SA} {w:World} {ba:Nat} {qad qaf:Option Addr} {cad caf:Nat} {ad:List Int} {af:List (List Term)} {qts:Option Addr} {cts:Nat} {ts:List Term} {cl:Bool} (pad:CellAt H ba 0 (.slice qad ad.length cad)) (paf:CellAt H ba 1 (.slice qaf af.length caf)) (had:Ints H qad ad) (haf:Forms H qaf af) (hts:Terms H qts ts) (hn8:ad.length≤1048576) (hn9:af.length≤1048576) (hl9 : ∀i,i<af.length→(fm af i).length≤1048576) (hlt:ts.length≤9223372036854775807) (hcq:ts.length≤cts) (hH:Hp B H0 H L w):Calls Tryz.prog 60 [.pointer (some ⟨ba,0,none⟩),.agg [.slice qts ts.length cts].toArray,.bool cl].toArray w fun e w'=>∃H' b v m lc,Le H H' ∧(hgC ad af ts cl=0→v=some ⟨b,0,none⟩∧m=degF ad ts∧CellAt H' b 0 (.pointer (some ⟨ba,0,none⟩))∧CellAt H' b 1 (.map (some lc)))∧e = .returned (.tuple #[.pointer v,.int .i64 m,.int .i64 (hgC ad af ts cl)])∧Hp B H0 H' ((if hgC ad af ts cl=0 then cpx lc [] else G.emp)::L) w':=by
 refine Jy Tryz.func60 rfl 54 rfl rfl [(0,.pointer (some ⟨ba,0,none⟩)),(1,.agg [.slice qts ts.length cts].toArray),(2,.bool cl)] rfl hH ?_;clear hH;refine Je fun _ hK1 _=>(Jb (Ea rfl rfl rfl fun g4=>(Jg (Jd rfl) rfl (Jg (Jd rfl) rfl (Jg (Jd rfl) rfl (Jf (Ja (hK1 (Je fun _ hK2 _=>(Je fun _ hK3 _=>(Jb (Jg (Jc rfl) rfl (Jg (Ju rfl At.z (by simpa [*] using ag39)) rfl (J.lit1 u33 ze39 sz39 rfl rfl rfl rfl rfl rfl fun g15=>(ET .z fun H15 hle15 hc15=>?_)))))))))))))));replace pad:=pad.le hle15;replace paf:=paf.le hle15;replace had:=had.le hle15;replace haf:=haf.le hle15;replace hts:=hts.le hle15;have hFs:=forms_one (hc15 0 _ rfl) hcq hts;refine Jx fn80 rfl rfl fun w hH=>(algebraCode_c pad paf had haf hFs hn8 hn9 hl9 (by simp) (len_one hlt) hH).mono ?_;rintro _ w ⟨rfl,hH⟩;refine ⟨_,rfl,fun a hF=>JM hF hH ?_⟩;refine Jg (Jd rfl) rfl (Jf (Ja (hK3 (Je fun _ hK4 _=>(Jb (Jg (Jc rfl) rfl (Jg (En rfl rfl) rfl (Jf (Ja (hK4 (Jn rfl (fun h18=>?_) (fun h18=>?_))))))))))))
 ·
  rw [codeA_one] at h18 ⊢;refine Je fun _ hK5 _=>(Jb (Jg (Jc rfl) rfl (Jg (Jd rfl) rfl (Jg (Jd rfl) rfl (Jg (Jd rfl) rfl (Jf (Ja (hK5 (Jq (Jj (EJ.ret3 rfl (Res.tmp rfl) (Res.tmp rfl) (Res.tmp rfl) fun w hH=>?_)))))))))));replace hH:=hH.sublist (.cons _ (List.Sublist.refl _))
  have hne : ¬hgC ad af ts cl=0:=by rw [hgC_1 (bothC_ne h18)];decide
  exact ⟨_,0,none,0,0,hle15,fun h=>absurd h hne,by rw [hgC_1 (bothC_ne h18),bothC_one h18],hH.cpxNo hne⟩
 ·
  rw [codeA_one] at h18;have hAF:=Bool.and_eq_true_iff.1 (bothC_eq h18);have hG:=hAF.1;have hw:=haf.wfss;have hA:=isAlg_ok hG hw;have hd:=alg_112 hG;have h8:=hA.hn;have hF:=hAF.2;have hF4:=isForm_len4 hF;have hFs9:=isForm_sok hts.wfs hF;have hFk:=isForm_kex hA.hd hA.hn hts.wfs hF;have hdg:=degF_ge hA hts.wfs;have hocc:=Ex.occ hFk hA.hl;refine Jk (Ja (hK2 (Je fun _ hK6 _=>(Es [[], [0], [1], [2], []] (by kernel_rfl) (JA (fun gh=>Jc rfl) (JA (fun gh=>JH rfl) (JA (fun gh=>Jt u35 rfl sz22 rfl) (JA (fun gh=>JD (q:=some ⟨ba,0,none⟩) (k:=0) rfl pad pl22) (JA (fun gh=>Ju rfl At.z (by simpa [*] using ag39)) (Ed 5 1 foll0 (by kernel_rfl) rfl rfl fun gh=>(Eo (us':=(21,_)::(22,_)::(23,_)::(24,_)::(25,_)::_) (L':=_) rfl rfl (Jx fn113 rfl rfl fun w hH=>(degreeOf_c had hts hA.hn hA.hd (by omega) hH).mono ?_))))))))))));rintro _ w ⟨rfl,hH⟩;refine ⟨_,rfl,fun a hF=>JM hF hH ?_⟩;refine Jf (Ee (JB (Jc rfl) rfl (JB (JI rfl rfl) rfl (JB (JI rfl rfl) rfl (JB (Jd rfl) rfl (JB (Jd rfl) rfl (Eg (Ja (hK6 (Je fun _ hK7 _=>(Je fun _ hK8 _=>(Jb (Jg (Jc rfl) rfl (Jg (Em rfl) rfl (Jg (Jc rfl) rfl ?_)))))))))))))));refine Ec (jd:=31) rfl (fun h31=>?_) (fun h31=>?_)
  ·
   try have h31p:=of_decide_eq_true h31
   refine JO rfl rfl rfl h31 (JO rfl rfl rfl h31 (J.gu rfl rfl rfl (J.gu rfl rfl rfl (J.gu rfl rfl rfl (J.gu rfl rfl rfl (JO rfl rfl rfl h31 (Jg (JX rfl h31 rfl) rfl (Jf (Ja (hK8 (Et rfl (Je fun _ hK9 _=>(Jb (Jg (Jd rfl) rfl (Jg (Jd rfl) rfl ?_)))))))))))))));refine Jg (Jd rfl) rfl (Jf (Ja (hK9 (Jq (Jj (EJ.ret3 rfl (Res.tmp rfl) (Res.tmp rfl) (Res.tmp rfl) fun w hH=>?_))))));replace hH:=hH.sublist (.cons _ (List.Sublist.refl _))
   have hne : ¬hgC ad af ts cl=0:=by rw [hgC_5 (bothC_eq h18) (hgB_n1 h31)];decide
   exact ⟨_,0,none,0,0,hle15,fun h=>absurd h hne,by rw [hgC_5 (bothC_eq h18) (hgB_n1 h31)],hH.cpxNo hne⟩
  ·
   try have h31p:=of_decide_eq_false h31
   refine JV (Jc rfl) rfl rfl rfl h31 (JV (Jc rfl) rfl rfl rfl h31 (Ec (jd:=33) rfl (fun h33=>?_) (fun h33=>?_)))
   ·
    try have h33p:=of_decide_eq_true h33
    refine JV (Jc rfl) rfl rfl rfl h33 (JV (Ju rfl At.z (by simpa [*] using ag39)) rfl rfl rfl h33 (EG fn114 rfl rfl h33 rfl rfl fun w hH=>(isClosed_c pad paf had haf hts hA.hn hA.hd hA.fok hA.hl hFs9 hocc (by omega) (by omega) hH).mono ?_));rintro _ w ⟨rfl,hH⟩;refine ⟨_,rfl,fun a hF=>JM hF hH ?_⟩;refine JV (Em rfl) rfl rfl rfl h33 (JV (JX rfl h33 rfl) rfl rfl rfl h31 (Jg (JW rfl h31 rfl) rfl (Jf (Ja (hK8 (Ei rfl (fun h39=>?_) (fun h39=>?_)))))))
    ·
     refine Je fun _ hK10 _=>(Jb (Jg (Jd rfl) rfl (Jg (Jd rfl) rfl (Jg (Jd rfl) rfl (Jf (Ja (hK10 (Jq (Jj (EJ.ret3 rfl (Res.tmp rfl) (Res.tmp rfl) (Res.tmp rfl) fun w hH=>?_))))))))));replace hH:=hH.sublist (.cons _ (List.Sublist.refl _))
     have hne : ¬hgC ad af ts cl=0:=by rw [hgC_5 (bothC_eq h18) (hgB_n2 h39 h33)];decide
     exact ⟨_,0,none,0,0,hle15,fun h=>absurd h hne,by rw [hgC_5 (bothC_eq h18) (hgB_n2 h39 h33)],hH.cpxNo hne⟩
    ·
     refine Jk (Ja (hK7 (Je fun _ hK11 _=>(Jb (Jg (Jc rfl) rfl (Jx fn83 rfl rfl fun w hH=>(newComplex_c pad paf had haf hH).mono ?_))))));rintro _ w ⟨Hf41,bn41,ln41,hlf41,pn410,pn411,rfl,hH⟩;refine ⟨_,rfl,fun a hF=>JM hF hH ?_⟩;replace pad:=pad.le hlf41;replace paf:=paf.le hlf41;replace had:=had.le hlf41;replace haf:=haf.le hlf41;replace hts:=hts.le hlf41;replace hFs:=hFs.le hlf41;refine Jg (Jd rfl) rfl (Jf (Ja (hK11 (Je fun _ hK12 _=>(Je fun _ hK13 _=>(Jb (Jg (Jc rfl) rfl (Jg (JL rfl rfl) rfl (Jf (Ja (hK13 (Jn rfl (fun h43=>?_) (fun h43=>?_)))))))))))))
     ·
      refine Je fun _ hK14 _=>(Jb (Jg (Jc rfl) rfl (Jg (Jc rfl) rfl (Jg (Jd rfl) rfl (Jg (Jd rfl) rfl (Jg (Jd rfl) rfl (Jf (Ja (hK14 (Jq (Jj (EJ.ret3 rfl (Res.tmp rfl) (Res.tmp rfl) (Res.tmp rfl) fun w hH=>?_))))))))))));replace hH:=hH.sublist (.cons_cons _ (.cons _ (List.Sublist.refl _)));have hB:hgB ad af ts cl=true:=hgB_y2 h31 h39
      have hz:hgC ad af ts cl=0:=by rw [hgC_3 (bothC_eq h18) hB (by omega),wi_neg hG (by omega)];rfl
      exact ⟨_,_,_,_,_,(hle15.trans hlf41),fun _=>⟨rfl,rfl,pn410,pn411⟩,by rw [hz];rfl,hH.cpxIf⟩
     ·
      refine Jk (Ja (hK12 (Je fun _ hK15 _=>(Je fun _ hK16 _=>(Jb (Jg (Jc rfl) rfl (Jg (Ez rfl rfl) rfl (Jf (Ja (hK16 (Jn rfl (fun h47=>?_) (fun h47=>?_))))))))))))
      ·
       refine Je fun _ hK17 _=>(Jb (Jg (Jd rfl) rfl (Jg (Jd rfl) rfl (Jg (Jd rfl) rfl (Jf (Ja (hK17 (Jq (Jj (EJ.ret3 rfl (Res.tmp rfl) (Res.tmp rfl) (Res.tmp rfl) fun w hH=>?_))))))))));replace hH:=hH.sublist (.cons _ (.cons _ (List.Sublist.refl _)));have hB:hgB ad af ts cl=true:=hgB_y2 h31 h39
       have hne : ¬hgC ad af ts cl=0:=by rw [hgC_2 (bothC_eq h18) hB h47];decide
       exact ⟨_,0,none,0,0,(hle15.trans hlf41),fun h=>absurd h hne,by rw [hgC_2 (bothC_eq h18) hB h47],hH.cpxNo hne⟩
      ·
       refine Jk (Ja (hK15 (Je fun _ hK18 _=>(Jb (Jg (Jc rfl) rfl (Jg (Jc rfl) rfl (Jg (Jc rfl) rfl (Jg (Jc rfl) rfl (EM (MK.lit1I u22 ze2 sz2 rfl) rfl fun qo52 co52=>(Jx fn88 rfl rfl fun w hH=>hH.lend .z fun Hl1 hle1 hA1 hB1 hH=>(around_c (pn410.le hle1) (pn411.le hle1) (pad.le hle1) (paf.le hle1) (had.le hle1) (haf.le hle1) (own_ints hA1) hd h8 (one_bd (by omega)) (by simp) hH).mono ?_))))))))));rintro _ w ⟨rfl,hH⟩;replace hH:=hB1 _ _ hH;refine ⟨_,rfl,fun a hF=>JM hF hH ?_⟩;refine Jg (Jd rfl) rfl (Jg (Jd rfl) rfl (Jg (Jd rfl) rfl (Jf (Ja (hK18 (Jq (EJ.ret3 rfl (Res.tmp rfl) (Res.tmp rfl) (Res.tmp rfl) fun w hH=>?_)))))));replace hH:=hH.sublist (.cons _ (.cons_cons _ (.cons _ (List.Sublist.refl _))));have hB:hgB ad af ts cl=true:=hgB_y2 h31 h39;exact ⟨_,_,_,_,_,(hle15.trans hlf41),fun _=>⟨rfl,rfl,pn410,pn411⟩,by rw [hgC_3 (bothC_eq h18) hB h47,arC_one,ar_wi ad af hG];rfl,hH.cpxIf⟩
   ·
    try have h33p:=of_decide_eq_false h33
    refine JO rfl rfl rfl h33 (JO rfl rfl rfl h33 (JO rfl rfl rfl h33 (JO rfl rfl rfl h33 (JV (JW rfl h33 rfl) rfl rfl rfl h31 (Jg (JW rfl h31 rfl) rfl (Jf (Ja (hK8 (Er rfl (Jk (Ja (hK7 (Je fun _ hK19 _=>(Jb (Jg (Jc rfl) rfl (Jx fn83 rfl rfl fun w hH=>(newComplex_c pad paf had haf hH).mono ?_))))))))))))))));rintro _ w ⟨Hf41,bn41,ln41,hlf41,pn410,pn411,rfl,hH⟩;refine ⟨_,rfl,fun a hF=>JM hF hH ?_⟩;replace pad:=pad.le hlf41;replace paf:=paf.le hlf41;replace had:=had.le hlf41;replace haf:=haf.le hlf41;replace hts:=hts.le hlf41;replace hFs:=hFs.le hlf41;refine Jg (Jd rfl) rfl (Jf (Ja (hK19 (Je fun _ hK20 _=>(Je fun _ hK21 _=>(Jb (Jg (Jc rfl) rfl (Jg (JL rfl rfl) rfl (Jf (Ja (hK21 (Jn rfl (fun h43=>?_) (fun h43=>?_)))))))))))))
    ·
     refine Je fun _ hK22 _=>(Jb (Jg (Jc rfl) rfl (Jg (Jc rfl) rfl (Jg (Jd rfl) rfl (Jg (Jd rfl) rfl (Jg (Jd rfl) rfl (Jf (Ja (hK22 (Jq (Jj (EJ.ret3 rfl (Res.tmp rfl) (Res.tmp rfl) (Res.tmp rfl) fun w hH=>?_))))))))))));replace hH:=hH.sublist (.cons_cons _ (.cons _ (List.Sublist.refl _)));have hB:hgB ad af ts cl=true:=hgB_y1 h31 h33
     have hz:hgC ad af ts cl=0:=by rw [hgC_3 (bothC_eq h18) hB (by omega),wi_neg hG (by omega)];rfl
     exact ⟨_,_,_,_,_,(hle15.trans hlf41),fun _=>⟨rfl,rfl,pn410,pn411⟩,by rw [hz];rfl,hH.cpxIf⟩
    ·
     refine Jk (Ja (hK20 (Je fun _ hK23 _=>(Je fun _ hK24 _=>(Jb (Jg (Jc rfl) rfl (Jg (Ez rfl rfl) rfl (Jf (Ja (hK24 (Jn rfl (fun h47=>?_) (fun h47=>?_))))))))))))
     ·
      refine Je fun _ hK25 _=>(Jb (Jg (Jd rfl) rfl (Jg (Jd rfl) rfl (Jg (Jd rfl) rfl (Jf (Ja (hK25 (Jq (Jj (EJ.ret3 rfl (Res.tmp rfl) (Res.tmp rfl) (Res.tmp rfl) fun w hH=>?_))))))))));replace hH:=hH.sublist (.cons _ (.cons _ (List.Sublist.refl _)));have hB:hgB ad af ts cl=true:=hgB_y1 h31 h33
      have hne : ¬hgC ad af ts cl=0:=by rw [hgC_2 (bothC_eq h18) hB h47];decide
      exact ⟨_,0,none,0,0,(hle15.trans hlf41),fun h=>absurd h hne,by rw [hgC_2 (bothC_eq h18) hB h47],hH.cpxNo hne⟩
     ·
      refine Jk (Ja (hK23 (Je fun _ hK26 _=>(Jb (Jg (Jc rfl) rfl (Jg (Jc rfl) rfl (Jg (Jc rfl) rfl (Jg (Jc rfl) rfl (EM (MK.lit1I u22 ze2 sz2 rfl) rfl fun qo52 co52=>(Jx fn88 rfl rfl fun w hH=>hH.lend .z fun Hl1 hle1 hA1 hB1 hH=>(around_c (pn410.le hle1) (pn411.le hle1) (pad.le hle1) (paf.le hle1) (had.le hle1) (haf.le hle1) (own_ints hA1) hd h8 (one_bd (by omega)) (by simp) hH).mono ?_))))))))));rintro _ w ⟨rfl,hH⟩;replace hH:=hB1 _ _ hH;refine ⟨_,rfl,fun a hF=>JM hF hH ?_⟩;refine Jg (Jd rfl) rfl (Jg (Jd rfl) rfl (Jg (Jd rfl) rfl (Jf (Ja (hK26 (Jq (EJ.ret3 rfl (Res.tmp rfl) (Res.tmp rfl) (Res.tmp rfl) fun w hH=>?_)))))));replace hH:=hH.sublist (.cons _ (.cons_cons _ (.cons _ (List.Sublist.refl _))));have hB:hgB ad af ts cl=true:=hgB_y1 h31 h33;exact ⟨_,_,_,_,_,(hle15.trans hlf41),fun _=>⟨rfl,rfl,pn410,pn411⟩,by rw [hgC_3 (bothC_eq h18) hB h47,arC_one,ar_wi ad af hG];rfl,hH.cpxIf⟩
theorem fn56:Fn Tryz.prog 56:=⟨_,Tryz.func56,by kernel_rfl,rfl⟩
theorem fn57:Fn Tryz.prog 57:=⟨_,Tryz.func57,by kernel_rfl,rfl⟩
theorem fn60:Fn Tryz.prog 60:=⟨_,Tryz.func60,by kernel_rfl,rfl⟩
theorem fn61:Fn Tryz.prog 61:=⟨_,Tryz.func61,by kernel_rfl,rfl⟩
theorem fn69:Fn Tryz.prog 69:=⟨_,Tryz.func69,by kernel_rfl,rfl⟩
theorem fn70:Fn Tryz.prog 70:=⟨_,Tryz.func70,by kernel_rfl,rfl⟩
theorem ClassOf_c {B:World} {H0 H:HP} {L:List SA} {w:World} {qad qaf:Option Addr} {cad caf:Nat} {ad:List Int} {af:List (List Term)} {qts:Option Addr} {cts:Nat} {ts:List Term} (had:Ints H qad ad) (haf:Forms H qaf af) (hts:Terms H qts ts) (hn8:ad.length≤1048576) (hn9:af.length≤1048576) (hl9 : ∀i,i<af.length→(fm af i).length≤1048576) (hlt:ts.length≤9223372036854775807) (hcq:ts.length≤cts) (hH:Hp B H0 H L w):Calls Tryz.prog 29 [.agg [.slice qad ad.length cad,.slice qaf af.length caf].toArray,.agg [.slice qts ts.length cts].toArray].toArray w fun e w'=>∃q c,e = .returned (.tuple #[.slice q (csV ad af ts).length c,.int .i64 (hgC ad af ts true)])∧Hp B H0 H (own 2 1 q (csV ad af ts).length c (intsC (csV ad af ts))::L) w':=by
 refine Jy Tryz.func29 rfl 27 rfl rfl [(0,.agg [.slice qad ad.length cad,.slice qaf af.length caf].toArray),(1,.agg [.slice qts ts.length cts].toArray)] rfl hH ?_;have hw0:=hH.old;have hw1:=hH.le;clear hH;refine Je fun _ hK1 _=>(Jb (Ea rfl rfl rfl fun g2=>(ET .z fun Hz2 hlez2 hcz2=>?_)));replace had:=had.le hlez2;replace haf:=haf.le hlez2;replace hts:=hts.le hlez2;have pad:CellAt Hz2 g2 0 (.slice qad ad.length cad):=hcz2 0 _ rfl;have paf:CellAt Hz2 g2 1 (.slice qaf af.length caf):=hcz2 1 _ rfl;refine Ea rfl rfl rfl fun g3=>(Jg (Jd rfl) rfl (Jg (Jd rfl) rfl (Jf (Ja (hK1 (Je fun _ hK2 _=>(Jb (Jg (Ju rfl At.z (by simpa [*] using ag39)) rfl (Jx fn60 rfl rfl fun w hH=>(formAsked_c pad paf had haf hts hn8 hn9 hl9 hlt hcq hH).mono ?_)))))))));rintro _ w ⟨Hf11,bn11,v11,m11,ln11,hlf11,hcd11,rfl,hH⟩;refine ⟨_,rfl,fun a hF=>JM hF hH ?_⟩;replace had:=had.le hlf11;replace haf:=haf.le hlf11;replace hts:=hts.le hlf11;replace pad:=pad.le hlf11;replace paf:=paf.le hlf11;refine Jg (Jc rfl) rfl (Jg (JI rfl rfl) rfl (Jg (JI rfl rfl) rfl (Jg (JI rfl rfl) rfl (Jg (Jd rfl) rfl (Jg (Jd rfl) rfl (Jg (Jd rfl) rfl (Jf (Ja (hK2 (Je fun _ hK3 _=>(Je fun _ hK4 _=>(Jb (Jg (Jc rfl) rfl (Jg (En rfl rfl) rfl (Jg (Jc rfl) rfl ?_)))))))))))))));refine Ec (jd:=17) rfl (fun h17=>?_) (fun h17=>?_)
 ·
  try have h17p:=of_decide_eq_true h17
  refine JO rfl rfl rfl h17 (JO rfl rfl rfl h17 (Jg (JX rfl h17 rfl) rfl (Jf (Ja (hK4 (Et rfl (Je fun _ hK5 _=>(Jb (Jg (Jc rfl) rfl (Jg (Jd rfl) rfl (Jg (Jd rfl) rfl (Jf (Ja (hK5 (Jq (Jj ?_))))))))))))))));refine Ej rfl (Res.tmp rfl) (Res.tmp rfl) fun w hH=>?_;replace hH:=hH.sublist (.cons _ (.cons _ (List.Sublist.refl _)));rw [show csV ad af ts=[] from if_neg (fun h=>h17p h.1)];exact ⟨none,0,rfl,(hH.own0 2 1).weaken (hlez2.trans hlf11) hw0 hw1⟩
 ·
  try have h17p:=of_decide_eq_false h17
  refine JV (Jc rfl) rfl rfl rfl h17 ?_
  have hz:hgC ad af ts true=0:=by omega
  obtain ⟨hG,hFo,hh,h20,hwi⟩:=hgC_y hz;have hw:=haf.wfss;have hA:=isAlg_ok hG hw;have h8:=hA.hn;have hd:=alg_112 hG;have hF4:=isForm_len4 hFo;have hFs9:=isForm_sok hts.wfs hFo;have hFk:=isForm_kex hA.hd hA.hn hts.wfs hFo;have hdg:=degF_ge hA hts.wfs;obtain ⟨rfl,rfl,pn110,pn111⟩:=hcd11 hz;refine J.reL (L':=cpx ln11 []::_::_) (fun w hH=>by rw [if_pos hz] at hH;exact hH) (JV (JL rfl rfl) rfl rfl rfl h17 (Jg (JW rfl h17 rfl) rfl (Jf (Ja (hK4 (Jn rfl (fun h20=>?_) (fun h20=>?_)))))))
  ·
   refine Je fun _ hK6 _=>(Jb (Jg (Jc rfl) rfl (Jg (Jd rfl) rfl (Jg (Jd rfl) rfl (Jf (Ja (hK6 (Jq (Jj (Ej rfl (Res.tmp rfl) (Res.tmp rfl) fun w hH=>?_))))))))));replace hH:=hH.sublist (.cons _ (.cons _ (List.Sublist.refl _)));rw [show csV ad af ts=[] from if_neg (fun h=>by omega)];exact ⟨none,0,rfl,(hH.own0 2 1).weaken (hlez2.trans hlf11) hw0 hw1⟩
  ·
   have hfit:fit3 ad (degF ad ts):=⟨⟨wi_fit' hG hwi (by omega) (by omega),wi_fit' hG hwi (by omega) (by omega)⟩,fun _=>wi_fit' hG hwi (by omega) (by omega)⟩;have hin:=form_mon hA hd hts.wfs hFo hh rfl (by omega) hfit.1.1;refine Jk (Ja (hK3 (Je fun _ hK7 _=>(Jb (Jg (Jc rfl) rfl (Jg (Jc rfl) rfl (Jg (Ju rfl (.s .z) (by simpa [*] using ag39)) rfl (Jx fn62 rfl rfl fun w hH=>(sumOf_c hts hFs9 (by omega) hH).mono ?_))))))));rintro _ w ⟨bo25,rfl,hH⟩;refine ⟨_,rfl,fun a hF=>JM hF hH ?_⟩;refine EB .z fun Ho25 hleo25 hAo25=>?_;replace had:=had.le hleo25;replace haf:=haf.le hleo25;replace hts:=hts.le hleo25;replace pad:=pad.le hleo25;replace paf:=paf.le hleo25;replace pn110:=pn110.le hleo25;replace pn111:=pn111.le hleo25;have hxo25:=omap_H hAo25;refine Jx fn70 rfl rfl fun w hH=>(class_c pn110 pn111 pad paf had haf hxo25 hFs9 hG (by omega) hfit CpxOk.nil (Nxt.nil _) (by omega) hin (hH.front .z)).mono ?_;rintro _ w ⟨Hf26,ls26,qo26,co26,hlf26,hC26,hN26,rfl,hH⟩;refine ⟨_,rfl,fun a hF=>JM hF hH ?_⟩;replace had:=had.le hlf26;replace haf:=haf.le hlf26;replace hts:=hts.le hlf26;replace pad:=pad.le hlf26;replace paf:=paf.le hlf26;replace pn110:=pn110.le hlf26;replace pn111:=pn111.le hlf26;replace hxo25:=hxo25.le hlf26;refine Jg (Jd rfl) rfl (Jg (Jd rfl) rfl (Jf (Ja (hK7 (Jq (Ej rfl (Res.tmp rfl) (Res.tmp rfl) fun w hH=>?_))))));replace hH:=hH.sublist (.cons_cons _ (.cons _ (.cons _ (List.Sublist.refl _))));rw [show csV ad af ts=clV ad af (degF ad ts) ((monL ad (degF ad ts)).map (cf (toS ts))) from if_pos ⟨hz,by omega⟩];exact ⟨_,_,by rw [hz],hH.weaken (((hlez2.trans hlf11).trans hleo25).trans hlf26) hw0 hw1⟩
theorem IsBoundary_c {B:World} {H0 H:HP} {L:List SA} {w:World} {qad qaf:Option Addr} {cad caf:Nat} {ad:List Int} {af:List (List Term)} {qts:Option Addr} {cts:Nat} {ts:List Term} (had:Ints H qad ad) (haf:Forms H qaf af) (hts:Terms H qts ts) (hn8:ad.length≤1048576) (hn9:af.length≤1048576) (hl9 : ∀i,i<af.length→(fm af i).length≤1048576) (hlt:ts.length≤9223372036854775807) (hcq:ts.length≤cts) (hH:Hp B H0 H L w):Calls Tryz.prog 19 [.agg [.slice qad ad.length cad,.slice qaf af.length caf].toArray,.agg [.slice qts ts.length cts].toArray].toArray w fun e w'=>e = .returned (.tuple #[.bool (bnB ad af ts),.int .i64 (hgC ad af ts false)])∧Hp B H0 H L w':=by
 refine Jy Tryz.func19 rfl 27 rfl rfl [(0,.agg [.slice qad ad.length cad,.slice qaf af.length caf].toArray),(1,.agg [.slice qts ts.length cts].toArray)] rfl hH ?_;have hw0:=hH.old;have hw1:=hH.le;clear hH;refine Je fun _ hK1 _=>(Jb (Ea rfl rfl rfl fun g2=>(ET .z fun Hz2 hlez2 hcz2=>?_)));replace had:=had.le hlez2;replace haf:=haf.le hlez2;replace hts:=hts.le hlez2;have pad:CellAt Hz2 g2 0 (.slice qad ad.length cad):=hcz2 0 _ rfl;have paf:CellAt Hz2 g2 1 (.slice qaf af.length caf):=hcz2 1 _ rfl;refine Ea rfl rfl rfl fun g3=>(Jg (Jd rfl) rfl (Jg (Jd rfl) rfl (Jf (Ja (hK1 (Je fun _ hK2 _=>(Jb (Jg (Ju rfl At.z (by simpa [*] using ag39)) rfl (Jx fn60 rfl rfl fun w hH=>(formAsked_c pad paf had haf hts hn8 hn9 hl9 hlt hcq hH).mono ?_)))))))));rintro _ w ⟨Hf11,bn11,v11,m11,ln11,hlf11,hcd11,rfl,hH⟩;refine ⟨_,rfl,fun a hF=>JM hF hH ?_⟩;replace had:=had.le hlf11;replace haf:=haf.le hlf11;replace hts:=hts.le hlf11;replace pad:=pad.le hlf11;replace paf:=paf.le hlf11;refine Jg (Jc rfl) rfl (Jg (JI rfl rfl) rfl (Jg (JI rfl rfl) rfl (Jg (JI rfl rfl) rfl (Jg (Jd rfl) rfl (Jg (Jd rfl) rfl (Jg (Jd rfl) rfl (Jf (Ja (hK2 (Je fun _ hK3 _=>(Je fun _ hK4 _=>(Jb (Jg (Jc rfl) rfl (Jg (En rfl rfl) rfl (Jf ?_)))))))))))))));refine Ja (hK4 (Jn rfl (fun h16=>?_) (fun h16=>?_)))
 ·
  refine Je fun _ hK5 _=>(Jb (Jg (Jc rfl) rfl (Jg (Jd rfl) rfl (Jg (Jd rfl) rfl (Jf (Ja (hK5 (Jq (Jj (Ej rfl (Res.tmp rfl) (Res.tmp rfl) fun w hH=>?_))))))))));replace hH:=hH.tail;replace hH:=hH.tail;exact ⟨tup_bi (by unfold bnB;rw [decide_eq_false h16];rfl) rfl,hH.weaken (hlez2.trans hlf11) hw0 hw1⟩
 ·
  refine Jk (Ja (hK3 (Je fun _ hK6 _=>(Jb (Jg (Jc rfl) rfl ?_)))))
  have hz:hgC ad af ts false=0:=by omega
  obtain ⟨hG,hFo,hh,h20,hwi⟩:=hgC_y hz;have hw:=haf.wfss;have hA:=isAlg_ok hG hw;have h8:=hA.hn;have hd:=alg_112 hG;have hF4:=isForm_len4 hFo;have hFs9:=isForm_sok hts.wfs hFo;have hFk:=isForm_kex hA.hd hA.hn hts.wfs hFo;have hdg:=degF_ge hA hts.wfs;obtain ⟨rfl,rfl,pn110,pn111⟩:=hcd11 hz;refine J.reL (L':=cpx ln11 []::_::_) (fun w hH=>by rw [if_pos hz] at hH;exact hH) (Jg (JL rfl rfl) rfl (Jg (Jc rfl) rfl (Ec (jd:=20) rfl (fun h20=>?_) (fun h20=>?_))))
  ·
   try have h20p:=of_decide_eq_true h20
   refine JO rfl rfl rfl h20 (JO rfl rfl rfl h20 (JO rfl rfl rfl h20 (JO rfl rfl rfl h20 (JO rfl rfl rfl h20 (Jg (JX rfl h20 rfl) rfl (Jg (Jd rfl) rfl (Jg (Jd rfl) rfl (Jf (Ja (hK6 (Jq (Ej rfl (Res.tmp rfl) (Res.tmp rfl) fun w hH=>?_))))))))))));replace hH:=hH.tail;replace hH:=hH.tail;exact ⟨tup_bi (by unfold bnB;rw [decide_eq_true hz,decide_eq_true h20p];rfl) hz.symm,hH.weaken (hlez2.trans hlf11) hw0 hw1⟩
  ·
   try have h20p:=of_decide_eq_false h20
   refine JV (Jc rfl) rfl rfl rfl h20 (JV (Jc rfl) rfl rfl rfl h20 (JV (Ju rfl (.s .z) (by simpa [*] using ag39)) rfl rfl rfl h20 ?_));have hfit:fit3 ad (degF ad ts):=⟨⟨wi_fit' hG hwi (by omega) (by omega),wi_fit' hG hwi (by omega) (by omega)⟩,fun _=>wi_fit' hG hwi (by omega) (by omega)⟩;have hin:=form_mon hA hd hts.wfs hFo hh rfl (by omega) hfit.1.1;refine EG fn62 rfl rfl h20 rfl rfl fun w hH=>(sumOf_c hts hFs9 (by omega) hH).mono ?_;rintro _ w ⟨bo24,rfl,hH⟩;refine ⟨_,rfl,fun a hF=>JM hF hH ?_⟩;refine EB .z fun Ho24 hleo24 hAo24=>?_;replace had:=had.le hleo24;replace haf:=haf.le hleo24;replace hts:=hts.le hleo24;replace pad:=pad.le hleo24;replace paf:=paf.le hleo24;replace pn110:=pn110.le hleo24;replace pn111:=pn111.le hleo24;have hxo24:=omap_H hAo24;refine EG fn61 rfl rfl h20 rfl rfl fun w hH=>(isBoundary_c pn110 pn111 pad paf had haf hxo24 hFs9 hG (by omega) hfit CpxOk.nil (Nxt.nil _) (by omega) hin (hH.front .z)).mono ?_;rintro _ w ⟨Hf25,ls25,hlf25,hC25,hN25,rfl,hH⟩;refine ⟨_,rfl,fun a hF=>JM hF hH ?_⟩;replace had:=had.le hlf25;replace haf:=haf.le hlf25;replace hts:=hts.le hlf25;replace pad:=pad.le hlf25;replace paf:=paf.le hlf25;replace pn110:=pn110.le hlf25;replace pn111:=pn111.le hlf25;replace hxo24:=hxo24.le hlf25;refine Jg (JW rfl h20 rfl) rfl (Jg (Jd rfl) rfl (Jg (Jd rfl) rfl (Jf (Ja (hK6 (Jq (Ej rfl (Res.tmp rfl) (Res.tmp rfl) fun w hH=>?_)))))));replace hH:=hH.tail;replace hH:=hH.tail;exact ⟨tup_bi (by unfold bnB;rw [decide_eq_true hz,decide_eq_false h20p];rfl) hz.symm,hH.weaken (((hlez2.trans hlf11).trans hleo24).trans hlf25) hw0 hw1⟩
theorem l03Hom_c {B:World} {H0 H:HP} {L:List SA} {w:World} {qad qaf:Option Addr} {cad caf:Nat} {ad:List Int} {af:List (List Term)} {qts:Option Addr} {cts:Nat} {ts:List Term} {cl:Bool} (had:Ints H qad ad) (haf:Forms H qaf af) (hts:Terms H qts ts) (hn8:ad.length≤1048576) (hn9:af.length≤1048576) (hl9 : ∀i,i<af.length→(fm af i).length≤1048576) (hlt:ts.length≤9223372036854775807) (hH:Hp B H0 H L w):Calls Tryz.prog 56 [.agg [.slice qad ad.length cad,.slice qaf af.length caf].toArray,.agg [.slice qts ts.length cts].toArray,.bool cl].toArray w fun e w'=>e = .returned (.tuple #[.int .i64 (if hgC ad af ts cl=0 then degF ad ts else 0),.int .i64 (hgC ad af ts cl)])∧Hp B H0 H L w':=by
 refine Jy Tryz.func56 rfl 53 rfl rfl [(0,.agg [.slice qad ad.length cad,.slice qaf af.length caf].toArray),(1,.agg [.slice qts ts.length cts].toArray),(2,.bool cl)] rfl hH ?_;clear hH;refine Je fun _ hK1 _=>(Jb (Ea rfl rfl rfl fun g3=>(Ea rfl rfl rfl fun g4=>(Jg (Jd rfl) rfl (Jg (Jd rfl) rfl (Jf (Ja (hK1 (Je fun _ hK2 _=>(Je fun _ hK3 _=>(Jb (Jg (Ju rfl (.s .z) (by simpa [*] using ag35)) rfl (Jx fn72 rfl rfl fun w hH=>(l02Is_c had haf hn8 hn9 hl9 hH).mono ?_)))))))))))));rintro _ w ⟨rfl,hH⟩;refine ⟨_,rfl,fun a hF=>JM hF hH ?_⟩;refine Jg (Em rfl) rfl (Jg (Jc rfl) rfl (Ec (jd:=13) rfl (fun h13=>?_) (fun h13=>?_)))
 ·
  try have h13p:=of_decide_eq_true h13
  refine JO rfl rfl rfl h13 (JO rfl rfl rfl h13 (JO rfl rfl rfl h13 (JO rfl rfl rfl h13 (JO rfl rfl rfl h13 (Jg (JX rfl h13 rfl) rfl (Jf (Ja (hK3 (Et rfl (Je fun _ hK4 _=>(Jb (Jg (Jd rfl) rfl (Jg (Jd rfl) rfl (Jf (Ja (hK4 ?_))))))))))))))));refine Jq (Jj (Ej rfl (Res.tmp rfl) (Res.tmp rfl) fun w hH=>?_));replace hH:=hH.tail;replace hH:=hH.tail;have hv:=hgC_1 (cl:=cl) (show (isAlg ad af && isForm ad ts)=false by rw [not_f h13];rfl);exact ⟨by rw [hv];rfl,hH⟩
 ·
  try have h13p:=of_decide_eq_false h13
  have hG:isAlg ad af=true:=not_t h13;have hw:=haf.wfss;have hA:=isAlg_ok hG hw;have h8:=hA.hn;have hd:=alg_112 hG;have hpos9 : ∀j,j<ad.length→0≤ad.getD j 0:=fun j _=>(hA.hd j).1;refine JV (Jt u35 rfl sz22 rfl) rfl rfl rfl h13 (JV (Jw rfl (.s .z) rfl pl22) rfl rfl rfl h13 (JV (Ju rfl At.z (by simpa [*] using ag39)) rfl rfl rfl h13 (EG fn105 rfl rfl h13 rfl rfl fun w hH=>(l01Is_c had hts (by omega) hpos9 hlt hH).mono ?_)));rintro _ w ⟨rfl,hH⟩;refine ⟨_,rfl,fun a hF=>JM hF hH ?_⟩;refine JV (Em rfl) rfl rfl rfl h13 (Jg (JW rfl h13 rfl) rfl (Jf (Ja (hK3 (Ei rfl (fun h19=>?_) (fun h19=>?_))))))
  ·
   refine Je fun _ hK5 _=>(Jb (Jg (Jd rfl) rfl (Jg (Jd rfl) rfl (Jf (Ja (hK5 (Jq (Jj (Ej rfl (Res.tmp rfl) (Res.tmp rfl) fun w hH=>?_)))))))));replace hH:=hH.tail;replace hH:=hH.tail;have hv:=hgC_1 (cl:=cl) (show (isAlg ad af && isForm ad ts)=false by rw [not_f h19];simp);exact ⟨by rw [hv];rfl,hH⟩
  ·
   have hFo:isForm ad ts=true:=not_t h19;have hF4:=isForm_len4 hFo;have hFs9:=isForm_sok hts.wfs hFo;have hFk:=isForm_kex hA.hd hA.hn hts.wfs hFo;have hdg:=degF_ge hA hts.wfs;have hocc:=Ex.occ hFk hA.hl;have hdl:=dS_len (ds:=ad) hA.len hocc;have hds:=dS_sok (ds:=ad) hFs9 hA.fok hocc
   have hboth:(isAlg ad af && isForm ad ts)=true:=by rw [hG,hFo];rfl
   refine Jk (Ja (hK2 (Je fun _ hK6 _=>(Jb (Jg (Jt u35 rfl sz22 rfl) rfl (Jg (Jw rfl (.s .z) rfl pl22) rfl (Jg (Ju rfl At.z (by simpa [*] using ag39)) rfl (Jx fn106 rfl rfl fun w hH=>(l01Degree_c had hts hA.hn hA.hd (by omega) hH).mono ?_))))))));rintro _ w ⟨rfl,hH⟩;refine ⟨_,rfl,fun a hF=>JM hF hH ?_⟩;refine Jg (Jc rfl) rfl (Jg (JI rfl rfl) rfl (Jg (JI rfl rfl) rfl (Jg (Jd rfl) rfl (Jg (Jd rfl) rfl (Jf (Ja (hK6 (Je fun _ hK7 _=>(Jp (Je fun _ hK8 _=>(Jb (Jg (Jc rfl) rfl (Jg (Em rfl) rfl (Jg (Jc rfl) rfl (Ec (jd:=30) rfl (fun h30=>?_) (fun h30=>?_))))))))))))))))
   ·
    try have h30p:=of_decide_eq_true h30
    refine JO rfl rfl rfl h30 (JO rfl rfl rfl h30 (J.gu rfl rfl rfl (J.gu rfl rfl rfl (J.gu rfl rfl rfl (J.gu rfl rfl rfl (J.gu rfl rfl rfl (J.gu rfl rfl rfl (JO rfl rfl rfl h30 (Jg (JX rfl h30 rfl) rfl (Jg (Jd rfl) rfl (Jf (Ja (hK8 (Et rfl (Je fun _ hK9 _=>?_)))))))))))))));refine Jb (Jg (Jd rfl) rfl (Jg (Jd rfl) rfl (Jf (Ja (hK9 (Jq (JU (Jj (Ej rfl (Res.tmp rfl) (Res.tmp rfl) fun w hH=>?_)))))))));replace hH:=hH.tail;replace hH:=hH.tail;have hv:=hgC_5 (cl:=cl) hboth (hgB_n1 h30);exact ⟨by rw [hv];rfl,hH⟩
   ·
    try have h30p:=of_decide_eq_false h30
    refine JV (Jc rfl) rfl rfl rfl h30 (JV (Jc rfl) rfl rfl rfl h30 (Ec (jd:=32) rfl (fun h32=>?_) (fun h32=>?_)))
    ·
     try have h32p:=of_decide_eq_true h32
     refine JV (Ju rfl (.s .z) (by simpa [*] using ag35)) rfl rfl rfl h32 (JV (Ju rfl At.z (by simpa [*] using ag39)) rfl rfl rfl h32 (EG fn107 rfl rfl h32 rfl rfl fun w hH=>(l02D_c (Mi:=20) (Ms:=20) had haf hts hA.hn hA.hd hA.fok hA.hl hA.kex hFs9 hFk (by omega) hA.len (by omega) hH).mono ?_));rintro _ w ⟨qo35,co35,rfl,hH⟩;refine ⟨_,rfl,fun a hF=>JM hF hH ?_⟩;refine JV (PR.fieldV u39 rfl pl37 rfl rfl) rfl rfl rfl h32 (JV (Jo u37 rfl rfl) rfl rfl rfl h32 (JV (Ez rfl rfl) rfl rfl rfl h32 (JV (JX rfl h32 rfl) rfl rfl rfl h30 (Jg (JW rfl h30 rfl) rfl (Jg (Jd rfl) rfl (Jf (Ja (hK8 (Jn rfl (fun h27=>?_) (fun h27=>?_))))))))))
     ·
      refine Je fun _ hK10 _=>(Jb (Jg (Jd rfl) rfl (Jg (Jd rfl) rfl (Jf (Ja (hK10 (Jq (JU (Jj (Ej rfl (Res.tmp rfl) (Res.tmp rfl) fun w hH=>?_))))))))));replace hH:=hH.tail;replace hH:=hH.tail;replace hH:=hH.tail;have hv:=hgC_5 (cl:=cl) hboth (hgB_n3 (by omega) h32);exact ⟨by rw [hv];rfl,hH⟩
     ·
      refine Je fun _ hK11 _=>(Jb (Jg (Jc rfl) rfl (Jg (Ez rfl rfl) rfl (Jg (Jd rfl) rfl (Jf (Ja (hK11 (Jn rfl (fun h41=>?_) (fun h41=>?_)))))))))
      ·
       refine Je fun _ hK12 _=>(Jb (Jg (Jd rfl) rfl (Jg (Jd rfl) rfl (Jf (Ja (hK12 (Jq (JU (Jj (Ej rfl (Res.tmp rfl) (Res.tmp rfl) fun w hH=>?_))))))))));replace hH:=hH.tail;replace hH:=hH.tail;replace hH:=hH.tail;have hB:hgB ad af ts cl=true:=hgB_y3 h30 (by omega);have hv:=hgC_2 (cl:=cl) hboth hB h41;exact ⟨by rw [hv];rfl,hH⟩
      ·
       refine Je fun _ hK13 _=>(Jb (Jg (Ju rfl (.s (.s .z)) (by simpa [*] using ag35)) rfl (Jg (Jc rfl) rfl (Jg (EK rfl rfl (by first | exact nw _ (by omega) | rfl)) rfl (Jg (Jc rfl) rfl (Jg (JC rfl rfl (by first | exact nw _ (by omega) | rfl)) rfl (Jx fn74 rfl rfl fun w hH=>(l03Within_c had haf hd h8 (by omega) (by omega) hH).mono ?_)))))));rintro _ w ⟨rfl,hH⟩;refine ⟨_,rfl,fun a hF=>JM hF hH ?_⟩;refine Jg (Em rfl) rfl (Jg (Jd rfl) rfl (Jf (Ja (hK13 (Ei rfl (fun h44=>?_) (fun h44=>?_))))))
       ·
        refine Je fun _ hK14 _=>(Jb (Jg (Jd rfl) rfl (Jg (Jd rfl) rfl (Jf (Ja (hK14 (Jq (JU (Jj (Ej rfl (Res.tmp rfl) (Res.tmp rfl) fun w hH=>?_))))))))));replace hH:=hH.tail;replace hH:=hH.tail;replace hH:=hH.tail;have hB:hgB ad af ts cl=true:=hgB_y3 h30 (by omega);have hv:=hgC_3 (cl:=cl) hboth hB h41;rw [not_f h44] at hv;exact ⟨by rw [hv];rfl,hH⟩
       ·
        refine Jk (JE (Ja (hK7 (Je fun _ hK15 _=>(Jb (Jg (Jc rfl) rfl (Jg (Jd rfl) rfl (Jg (Jd rfl) rfl (Jf (Ja (hK15 (Jq (Ej rfl (Res.tmp rfl) (Res.tmp rfl) fun w hH=>?_)))))))))))));replace hH:=hH.tail;replace hH:=hH.tail;replace hH:=hH.tail;have hB:hgB ad af ts cl=true:=hgB_y3 h30 (by omega);have hv:=hgC_3 (cl:=cl) hboth hB h41;rw [not_t h44] at hv;exact ⟨by rw [hv];rfl,hH⟩
    ·
     try have h32p:=of_decide_eq_false h32
     refine JO rfl rfl rfl h32 (JO rfl rfl rfl h32 (JO rfl rfl rfl h32 (JO rfl rfl rfl h32 (JO rfl rfl rfl h32 (JO rfl rfl rfl h32 (JV (JW rfl h32 rfl) rfl rfl rfl h30 (Jg (JW rfl h30 rfl) rfl (Jg (Jd rfl) rfl (Jf (Ja (hK8 (Er rfl (Je fun _ hK16 _=>(Jb (Jg (Jc rfl) rfl ?_)))))))))))))));refine Jg (Ez rfl rfl) rfl (Jg (Jd rfl) rfl (Jf (Ja (hK16 (Jn rfl (fun h41=>?_) (fun h41=>?_))))))
     ·
      refine Je fun _ hK17 _=>(Jb (Jg (Jd rfl) rfl (Jg (Jd rfl) rfl (Jf (Ja (hK17 (Jq (JU (Jj (Ej rfl (Res.tmp rfl) (Res.tmp rfl) fun w hH=>?_))))))))));replace hH:=hH.tail;replace hH:=hH.tail;have hB:hgB ad af ts cl=true:=hgB_y1 h30 h32;have hv:=hgC_2 (cl:=cl) hboth hB h41;exact ⟨by rw [hv];rfl,hH⟩
     ·
      refine Je fun _ hK18 _=>(Jb (Jg (Ju rfl (.s .z) (by simpa [*] using ag35)) rfl (Jg (Jc rfl) rfl (Jg (EK rfl rfl (by first | exact nw _ (by omega) | rfl)) rfl (Jg (Jc rfl) rfl (Jg (JC rfl rfl (by first | exact nw _ (by omega) | rfl)) rfl (Jx fn74 rfl rfl fun w hH=>(l03Within_c had haf hd h8 (by omega) (by omega) hH).mono ?_)))))));rintro _ w ⟨rfl,hH⟩;refine ⟨_,rfl,fun a hF=>JM hF hH ?_⟩;refine Jg (Em rfl) rfl (Jg (Jd rfl) rfl (Jf (Ja (hK18 (Ei rfl (fun h44=>?_) (fun h44=>?_))))))
      ·
       refine Je fun _ hK19 _=>(Jb (Jg (Jd rfl) rfl (Jg (Jd rfl) rfl (Jf (Ja (hK19 (Jq (JU (Jj (Ej rfl (Res.tmp rfl) (Res.tmp rfl) fun w hH=>?_))))))))));replace hH:=hH.tail;replace hH:=hH.tail;have hB:hgB ad af ts cl=true:=hgB_y1 h30 h32;have hv:=hgC_3 (cl:=cl) hboth hB h41;rw [not_f h44] at hv;exact ⟨by rw [hv];rfl,hH⟩
      ·
       refine Jk (JE (Ja (hK7 (Je fun _ hK20 _=>(Jb (Jg (Jc rfl) rfl (Jg (Jd rfl) rfl (Jg (Jd rfl) rfl (Jf (Ja (hK20 (Jq (Ej rfl (Res.tmp rfl) (Res.tmp rfl) fun w hH=>?_)))))))))))));replace hH:=hH.tail;replace hH:=hH.tail;have hB:hgB ad af ts cl=true:=hgB_y1 h30 h32;have hv:=hgC_3 (cl:=cl) hboth hB h41;rw [not_t h44] at hv;exact ⟨by rw [hv];rfl,hH⟩
theorem sClassOf_c {B:World} {H0 H:HP} {L:List SA} {w:World} {qad qaf:Option Addr} {cad caf:Nat} {ad:List Int} {af:List (List Term)} {qts:Option Addr} {cts:Nat} {ts:List Term} (had:Ints H qad ad) (haf:Forms H qaf af) (hts:Terms H qts ts) (hn8:ad.length≤1048576) (hn9:af.length≤1048576) (hl9 : ∀i,i<af.length→(fm af i).length≤1048576) (hlt:ts.length≤9223372036854775807) (hcq:ts.length≤cts) (hH:Hp B H0 H L w):Calls Tryz.prog 28 [.agg [.slice qad ad.length cad,.slice qaf af.length caf].toArray,.agg [.slice qts ts.length cts].toArray].toArray w fun e w'=>∃q c,e = .returned (.tuple #[.slice q (csV ad af ts).length c,.int .i64 (hgC ad af ts true)])∧Hp B H0 H (own 2 1 q (csV ad af ts).length c (intsC (csV ad af ts))::L) w':=by
 refine Jy Tryz.func28 rfl 24 rfl rfl [(0,.agg [.slice qad ad.length cad,.slice qaf af.length caf].toArray),(1,.agg [.slice qts ts.length cts].toArray)] rfl hH ?_;clear hH;refine Je fun _ hK1 _=>(Jb (Ea rfl rfl rfl fun g2=>(Ea rfl rfl rfl fun g3=>(Jg (Jd rfl) rfl (Jg (Jd rfl) rfl (Jf (Ja (hK1 (Je fun _ hK2 _=>(Jb (Jg (Ju rfl (.s .z) (by simpa [*] using ag35)) rfl (Jg (Ju rfl At.z (by simpa [*] using ag39)) rfl (Jx fn56 rfl rfl fun w hH=>(l03Hom_c had haf hts hn8 hn9 hl9 hlt hH).mono ?_)))))))))))));rintro _ w ⟨rfl,hH⟩;refine ⟨_,rfl,fun a hF=>JM hF hH ?_⟩;refine Jg (Jc rfl) rfl (Jg (JI rfl rfl) rfl (Jg (JI rfl rfl) rfl (Jg (Jd rfl) rfl (Jg (Jd rfl) rfl (Jf (Ja (hK2 (Je fun _ hK3 _=>(Je fun _ hK4 _=>(Jb (Jg (Jc rfl) rfl (Jg (En rfl rfl) rfl (Jf (Ja (hK4 (Jn rfl (fun h15=>?_) (fun h15=>?_)))))))))))))))))
 ·
  refine Je fun _ hK5 _=>(Jb (Jg (Jc rfl) rfl (Jg (Jd rfl) rfl (Jg (Jd rfl) rfl (Jf (Ja (hK5 (Jq (Jj (Ej rfl (Res.tmp rfl) (Res.tmp rfl) fun w hH=>?_))))))))));replace hH:=hH.sublist (.cons _ (.cons _ (List.Sublist.refl _)));rw [show csV ad af ts=[] from if_neg (fun h=>h15 h.1)];exact ⟨none,0,rfl,hH.own0 2 1⟩
 ·
  have hz:hgC ad af ts true=0:=by omega
  rw [if_pos hz];obtain ⟨hG,hFo,hh,h20,hwi⟩:=hgC_y hz;have hw:=haf.wfss;have hA:=isAlg_ok hG hw;have h8:=hA.hn;have hd:=alg_112 hG;have hF4:=isForm_len4 hFo;have hFs9:=isForm_sok hts.wfs hFo;have hFk:=isForm_kex hA.hd hA.hn hts.wfs hFo;have hdg:=degF_ge hA hts.wfs;refine Jk (Ja (hK3 (Je fun _ hK6 _=>(Je fun _ hK7 _=>(Jb (Jg (Jc rfl) rfl (Jg (JL rfl rfl) rfl (Jf (Ja (hK7 (Jn rfl (fun h18=>?_) (fun h18=>?_))))))))))))
  ·
   refine Je fun _ hK8 _=>(Jb (EM (MK.lit0I u22 sz2) rfl fun qo19 co19=>(Jg (Jd rfl) rfl (Jg (Jd rfl) rfl (Jf (Ja (hK8 (Jq (Jj (Ej rfl (Res.tmp rfl) (Res.tmp rfl) fun w hH=>?_))))))))));replace hH:=hH.sublist (.cons_cons _ (.cons _ (.cons _ (List.Sublist.refl _))));rw [show csV ad af ts=[] from if_neg (fun h=>by omega)];exact ⟨_,_,by rw [hz],hH⟩
  ·
   have hfit:fit3 ad (degF ad ts):=⟨⟨wi_fit' hG hwi (by omega) (by omega),wi_fit' hG hwi (by omega) (by omega)⟩,fun _=>wi_fit' hG hwi (by omega) (by omega)⟩;have hin:=form_mon hA hd hts.wfs hFo hh rfl (by omega) hfit.1.1;refine Jk (Ja (hK6 (Je fun _ hK9 _=>(Jb (Jg (Ju rfl (.s .z) (by simpa [*] using ag35)) rfl (Jg (Jc rfl) rfl (Jg (Ju rfl At.z (by simpa [*] using ag39)) rfl (Jx fn69 rfl rfl fun w hH=>(l03Class_c (M:=20) had haf hts hG (by omega) hfit (by omega) hFs9 hin hH).mono ?_))))))));rintro _ w ⟨qo23,co23,rfl,hH⟩;refine ⟨_,rfl,fun a hF=>JM hF hH ?_⟩;refine Jg (Jd rfl) rfl (Jg (Jd rfl) rfl (Jf (Ja (hK9 (Jq (Ej rfl (Res.tmp rfl) (Res.tmp rfl) fun w hH=>?_))))));replace hH:=hH.sublist (.cons_cons _ (.cons _ (.cons _ (List.Sublist.refl _))));rw [show csV ad af ts=clV ad af (degF ad ts) ((monL ad (degF ad ts)).map (cf (toS ts))) from if_pos ⟨hz,by omega⟩];exact ⟨_,_,by rw [hz],hH⟩
theorem sIsBoundary_c {B:World} {H0 H:HP} {L:List SA} {w:World} {qad qaf:Option Addr} {cad caf:Nat} {ad:List Int} {af:List (List Term)} {qts:Option Addr} {cts:Nat} {ts:List Term} (had:Ints H qad ad) (haf:Forms H qaf af) (hts:Terms H qts ts) (hn8:ad.length≤1048576) (hn9:af.length≤1048576) (hl9 : ∀i,i<af.length→(fm af i).length≤1048576) (hlt:ts.length≤9223372036854775807) (hcq:ts.length≤cts) (hH:Hp B H0 H L w):Calls Tryz.prog 16 [.agg [.slice qad ad.length cad,.slice qaf af.length caf].toArray,.agg [.slice qts ts.length cts].toArray].toArray w fun e w'=>e = .returned (.tuple #[.bool (bnB ad af ts),.int .i64 (hgC ad af ts false)])∧Hp B H0 H L w':=by
 refine Jy Tryz.func16 rfl 25 rfl rfl [(0,.agg [.slice qad ad.length cad,.slice qaf af.length caf].toArray),(1,.agg [.slice qts ts.length cts].toArray)] rfl hH ?_;clear hH;refine Je fun _ hK1 _=>(Jb (Ea rfl rfl rfl fun g2=>(Ea rfl rfl rfl fun g3=>(Jg (Jd rfl) rfl (Jg (Jd rfl) rfl (Jf (Ja (hK1 (Je fun _ hK2 _=>(Jb (Jg (Ju rfl (.s .z) (by simpa [*] using ag35)) rfl (Jg (Ju rfl At.z (by simpa [*] using ag39)) rfl (Jx fn56 rfl rfl fun w hH=>(l03Hom_c had haf hts hn8 hn9 hl9 hlt hH).mono ?_)))))))))))));rintro _ w ⟨rfl,hH⟩;refine ⟨_,rfl,fun a hF=>JM hF hH ?_⟩;refine Jg (Jc rfl) rfl (Jg (JI rfl rfl) rfl (Jg (JI rfl rfl) rfl (Jg (Jd rfl) rfl (Jg (Jd rfl) rfl (Jf (Ja (hK2 (Je fun _ hK3 _=>(Je fun _ hK4 _=>(Jb (Jg (Jc rfl) rfl (Jg (En rfl rfl) rfl (Jf (Ja (hK4 (Jn rfl (fun h15=>?_) (fun h15=>?_)))))))))))))))))
 ·
  refine Je fun _ hK5 _=>(Jb (Jg (Jc rfl) rfl (Jg (Jd rfl) rfl (Jg (Jd rfl) rfl (Jf (Ja (hK5 (Jq (Jj (Ej rfl (Res.tmp rfl) (Res.tmp rfl) fun w hH=>?_))))))))));replace hH:=hH.tail;replace hH:=hH.tail;exact ⟨tup_bi (by unfold bnB;rw [decide_eq_false h15];rfl) rfl,hH⟩
 ·
  have hz:hgC ad af ts false=0:=by omega
  rw [if_pos hz];obtain ⟨hG,hFo,hh,h20,hwi⟩:=hgC_y hz;have hw:=haf.wfss;have hA:=isAlg_ok hG hw;have h8:=hA.hn;have hd:=alg_112 hG;have hF4:=isForm_len4 hFo;have hFs9:=isForm_sok hts.wfs hFo;have hFk:=isForm_kex hA.hd hA.hn hts.wfs hFo;have hdg:=degF_ge hA hts.wfs;refine Jk (Ja (hK3 (Je fun _ hK6 _=>(Jb (Jg (Jc rfl) rfl (Jg (JL rfl rfl) rfl (Jg (Jc rfl) rfl (Ec (jd:=19) rfl (fun h19=>?_) (fun h19=>?_)))))))))
  ·
   try have h19p:=of_decide_eq_true h19
   refine JO rfl rfl rfl h19 (JO rfl rfl rfl h19 (JO rfl rfl rfl h19 (JO rfl rfl rfl h19 (Jg (JX rfl h19 rfl) rfl (Jg (Jd rfl) rfl (Jg (Jd rfl) rfl (Jf (Ja (hK6 (Jq (Ej rfl (Res.tmp rfl) (Res.tmp rfl) fun w hH=>?_)))))))))));replace hH:=hH.tail;replace hH:=hH.tail;exact ⟨tup_bi (by unfold bnB;rw [decide_eq_true hz,decide_eq_true h19p];rfl) hz.symm,hH⟩
  ·
   try have h19p:=of_decide_eq_false h19
   have hfit:fit3 ad (degF ad ts):=⟨⟨wi_fit' hG hwi (by omega) (by omega),wi_fit' hG hwi (by omega) (by omega)⟩,fun _=>wi_fit' hG hwi (by omega) (by omega)⟩;have hin:=form_mon hA hd hts.wfs hFo hh rfl (by omega) hfit.1.1;refine JV (Ju rfl (.s .z) (by simpa [*] using ag35)) rfl rfl rfl h19 (JV (Jc rfl) rfl rfl rfl h19 (JV (Ju rfl At.z (by simpa [*] using ag39)) rfl rfl rfl h19 (EG fn57 rfl rfl h19 rfl rfl fun w hH=>(l03Bounded_c (M:=20) had haf hts hG (by omega) hfit (by omega) hFs9 hin hH).mono ?_)));rintro _ w ⟨rfl,hH⟩;refine ⟨_,rfl,fun a hF=>JM hF hH ?_⟩;refine Jg (JW rfl h19 rfl) rfl (Jg (Jd rfl) rfl (Jg (Jd rfl) rfl (Jf (Ja (hK6 (Jq (Ej rfl (Res.tmp rfl) (Res.tmp rfl) fun w hH=>?_)))))));replace hH:=hH.tail;replace hH:=hH.tail;exact ⟨tup_bi (by unfold bnB;rw [decide_eq_true hz,decide_eq_false h19p];rfl) hz.symm,hH⟩
section
variable {ds : List Int} {fs : List (List Term)} {n i m j : Int}
def pcA (n i m j:Int):Bool:=!decide (i<0) && (!decide (j<0) && (askB n && (askB m && askB (n+m))))
def pc1 (ds:List Int) (fs:List (List Term)) (n i m j:Int):Int:=if isAlg ds fs then if pcA n i m j then 0 else 2 else 1
end
theorem u4:Tryz.prog.underlying 4=some (TypeDesc.bool):=by kernel_rfl
theorem ag25:Agg Tryz.prog 25 2:=⟨_,u25,rfl,by kernel_rfl⟩
theorem fn14:Fn Tryz.prog 14:=⟨_,Tryz.func14,by kernel_rfl,rfl⟩
theorem fn16:Fn Tryz.prog 16:=⟨_,Tryz.func16,by kernel_rfl,rfl⟩
theorem fn17:Fn Tryz.prog 17:=⟨_,Tryz.func17,by kernel_rfl,rfl⟩
theorem fn19:Fn Tryz.prog 19:=⟨_,Tryz.func19,by kernel_rfl,rfl⟩
theorem fn20:Fn Tryz.prog 20:=⟨_,Tryz.func20,by kernel_rfl,rfl⟩
theorem lawIsBoundary_c {B:World} {H0 H:HP} {L:List SA} {w:World} {qad qaf:Option Addr} {cad caf:Nat} {ad:List Int} {af:List (List Term)} {qts:Option Addr} {cts:Nat} {ts:List Term} (had:Ints H qad ad) (haf:Forms H qaf af) (hts:Terms H qts ts) (hn:ad.length≤9223372036854775807∧af.length≤9223372036854775807) (hl : ∀i,i<af.length→(fm af i).length≤9223372036854775807) (hlt:ts.length≤9223372036854775807) (hH:Hp B H0 H L w):Calls Tryz.prog 3 [.agg [.slice qad ad.length cad,.slice qaf af.length caf].toArray,.agg [.slice qts ts.length cts].toArray].toArray w fun e w'=>e = .returned (.bool true)∧Below B.heap.size B w':=by
 refine Jy Tryz.func3 rfl 58 rfl rfl [(0,.agg [.slice qad ad.length cad,.slice qaf af.length caf].toArray),(1,.agg [.slice qts ts.length cts].toArray)] rfl hH ?_;clear hH;refine Je fun _ hK1 _=>(Jb (Ea rfl rfl rfl fun g2=>(Ea rfl rfl rfl fun g3=>(Jg (Jd rfl) rfl (Jf (Ja (hK1 (Je fun _ hK2 _=>(Jb (Jg (Jd rfl) rfl (Jf (Ja (hK2 (Je fun _ hK3 _=>(Jb (Jg (Ju rfl (.s .z) (by simpa [*] using ag25)) rfl ?_))))))))))))))));refine Jg (Jc rfl) rfl (Jx fn14 rfl rfl fun w hH=>(szAlgebra_c had haf (by omega) hl hH).mono ?_);rintro _ w ⟨rfl,hH⟩;refine ⟨_,rfl,fun a hF=>JM hF hH ?_⟩;refine Jg (Jd rfl) rfl (Jf (Ja (hK3 (Je fun _ hK4 _=>(Je fun _ hK5 _=>(Jb (Jg (Jc rfl) rfl (Jg (JL rfl rfl) rfl (Jf (Ja (hK5 (Jn rfl (fun h11=>?_) (fun h11=>?_)))))))))))))
 ·
  refine Je fun _ hK6 _=>(Jb (Jg (Jd rfl) rfl (Jf (Ja (hK6 (Jq (Jj (Jr rfl (Res.tmp rfl) fun w hH=>?_))))))));replace hH:=hH.tail;replace hH:=hH.tail
  first | exact ⟨rfl,hH.below⟩ | exact absurd rfl h11p | exact absurd rfl h11 | (exfalso;omega) | (simp at h11;done)
 ·
  have hsz:ad.length+af.length+tot af≤1048576:=by unfold szv at h11;split at h11 <;> omega
  have hl6 : ∀i,i<af.length→(fm af i).length≤1048576:=fun i hi=>by have:=tot_fm hi;omega
  refine Jk (Ja (hK4 (Je fun _ hK7 _=>(Jb (Jg (Ju rfl At.z (by simpa [*] using ag28)) rfl (Jg (Jc rfl) rfl (Jx fn15 rfl rfl fun w hH=>(szForm_c hts (by unfold szv at h11 ⊢;split at h11 <;> split <;> omega) hH).mono ?_)))))));rintro _ w ⟨rfl,hH⟩;refine ⟨_,rfl,fun a hF=>JM hF hH ?_⟩;refine Jg (Jd rfl) rfl (Jf (Ja (hK7 (Je fun _ hK8 _=>(Je fun _ hK9 _=>(Jb (Jg (Jc rfl) rfl (Jg (JL rfl rfl) rfl (Jf (Ja (hK9 (Jn rfl (fun h21=>?_) (fun h21=>?_)))))))))))))
  ·
   refine Je fun _ hK10 _=>(Jb (Jg (Jd rfl) rfl (Jf (Ja (hK10 (Jq (Jj (Jr rfl (Res.tmp rfl) fun w hH=>?_))))))));replace hH:=hH.tail;replace hH:=hH.tail
   first | exact ⟨rfl,hH.below⟩ | exact absurd rfl h21p | exact absurd rfl h21 | (exfalso;omega) | (simp at h21;done)
  ·
   have hts6:ts.length≤1048576:=by unfold szv at h21;split at h21 <;> (try split at h21) <;> omega
   refine Jk (Ja (hK8 (Je fun _ hK11 _=>(Ek (Rs:=[_,_]) 10 [[], [0], [], [0,1,2], [0,1,2,3], [0,1,2,3,4], [0,1,2,3,4,5], [0,1,2,3,4,5], [0,1,2,3,4,5,6], [0,1,2,3,4,5,6,7,8]] [[11], [], [10], [], [1,3], [], [], [], [], []] [[], [], [], [], [], [], [], [], [], []] rfl rfl (by kernel_rfl) ?_))));apply Jl 1 rfl
   iterate 3 focus (intros;(conv=>lhs;simp only [Jh,Js,JN,Jv,JG,eq_self,Nat.reduceEqDiff,reduceIte,Nat.reduceSub,Nat.reduceAdd,List.cons_append,List.nil_append]);all_goals rfl)
   ·
    intro gh X K zq zc zq2 zc2 zb zv hK;refine Jg (Ju rfl At.z (by simpa [*] using ag25)) rfl (Ji ?_);exact hK zq zc zq2 zc2 zb zv
   ·
    intro gh gh' h
    rfl
   apply GJ.st2 2 rfl
   iterate 3 focus (intros;(conv=>lhs;simp only [Jh,Js,JN,Jv,JG,eq_self,Nat.reduceEqDiff,reduceIte,Nat.reduceSub,Nat.reduceAdd,List.cons_append,List.nil_append]);all_goals rfl)
   ·
    intro gh X K zq zc zq2 zc2 zb zv hK;refine Jx fn17 rfl rfl fun w hH=>(toAlgebra_c had haf (by omega) hl6 hH).mono ?_;rintro _ w ⟨qdo24,cdo24,qfo24,cfo24,vso24,rfl,hH⟩;refine ⟨_,rfl,fun a hF=>JM hF hH ?_⟩;refine Ji ?_;exact hK qdo24 cdo24 qfo24 cfo24 zb vso24
   ·
    intro gh gh' h;refine ⟨?_,?_,?_⟩ <;> rfl
   apply Jl 3 rfl
   iterate 3 focus (intros;(conv=>lhs;simp only [Jh,Js,JN,Jv,JG,eq_self,Nat.reduceEqDiff,reduceIte,Nat.reduceSub,Nat.reduceAdd,List.cons_append,List.nil_append]);all_goals rfl)
   ·
    intro gh X K zq zc zq2 zc2 zb zv hK;refine Jg (Ju rfl At.z (by simpa [*] using ag28)) rfl (Ji ?_);exact hK zq zc zq2 zc2 zb zv
   ·
    intro gh gh' h
    rfl
   apply Eb 4 rfl
   iterate 3 focus (intros;(conv=>lhs;simp only [Jh,Js,JN,Jv,JG,eq_self,Nat.reduceEqDiff,reduceIte,Nat.reduceSub,Nat.reduceAdd,List.cons_append,List.nil_append]);all_goals rfl)
   ·
    intro gh X K zq zc zq2 zc2 zb zv hK;refine Jx fn18 rfl rfl fun w hH=>(toForm_c hts (by omega) hH).mono ?_;rintro _ w ⟨qo26,co26,rfl,hH⟩;refine ⟨_,rfl,fun a hF=>JM hF hH ?_⟩;refine Ji ?_;exact hK qo26 co26 zq2 zc2 zb zv
   ·
    intro gh gh' h;refine ⟨?_,?_⟩ <;> (first | simp only [h 1 rfl] | rfl)
   apply Jl 5 rfl
   iterate 3 focus (intros;(conv=>lhs;simp only [Jh,Js,JN,Jv,JG,eq_self,Nat.reduceEqDiff,reduceIte,Nat.reduceSub,Nat.reduceAdd,List.cons_append,List.nil_append]);all_goals rfl)
   ·
    intro gh X K zq zc zq2 zc2 zb zv hK;refine Jx fn16 rfl rfl fun w hH=>hH.lend .z fun Hl1 hle1 hA1 hB1 hH=>hH.lend .z fun Hl2 hle2 hA2 hB2 hH=>hH.lend .z fun Hl3 hle3 hA3 hB3 hH=>(sIsBoundary_c (((own_ints hA1).le hle2).le hle3) ((own_forms haf.wfss hA2).le hle3) (own_terms hts.wfs hA3) (by omega) (by omega) hl6 (by omega) (own_le hA3) hH).mono ?_;rintro _ w ⟨rfl,hH⟩;replace hH:=hB3 _ _ hH;replace hH:=hB2 _ _ hH;replace hH:=hB1 _ _ hH;refine ⟨_,rfl,fun a hF=>JM hF hH ?_⟩;refine Ji ?_;exact hK zq zc zq2 zc2 zb zv
   ·
    intro gh gh' h
    first | simp only [h 1 rfl,h 3 rfl] | rfl
   apply Jl 6 rfl
   iterate 3 focus (intros;(conv=>lhs;simp only [Jh,Js,JN,Jv,JG,eq_self,Nat.reduceEqDiff,reduceIte,Nat.reduceSub,Nat.reduceAdd,List.cons_append,List.nil_append]);all_goals rfl)
   ·
    intro gh X K zq zc zq2 zc2 zb zv hK;refine Jg (Jc rfl) rfl (Ji ?_);exact hK zq zc zq2 zc2 zb zv
   ·
    intro gh gh' h
    first | simp only [h 1 rfl,h 3 rfl] | rfl
   apply Jl 7 rfl
   iterate 3 focus (intros;(conv=>lhs;simp only [Jh,Js,JN,Jv,JG,eq_self,Nat.reduceEqDiff,reduceIte,Nat.reduceSub,Nat.reduceAdd,List.cons_append,List.nil_append]);all_goals rfl)
   ·
    intro gh X K zq zc zq2 zc2 zb zv hK;refine Jg (JI rfl rfl) rfl (Ji ?_);exact hK zq zc zq2 zc2 zb zv
   ·
    intro gh gh' h
    first | simp only [h 1 rfl,h 3 rfl] | rfl
   apply Jl 8 rfl
   iterate 3 focus (intros;(conv=>lhs;simp only [Jh,Js,JN,Jv,JG,eq_self,Nat.reduceEqDiff,reduceIte,Nat.reduceSub,Nat.reduceAdd,List.cons_append,List.nil_append]);all_goals rfl)
   ·
    intro gh X K zq zc zq2 zc2 zb zv hK;refine Jg (JI rfl rfl) rfl (Ji ?_);exact hK zq zc zq2 zc2 zb zv
   ·
    intro gh gh' h
    first | simp only [h 1 rfl,h 3 rfl] | rfl
   apply Jl 9 rfl
   iterate 3 focus (intros;(conv=>lhs;simp only [Jh,Js,JN,Jv,JG,eq_self,Nat.reduceEqDiff,reduceIte,Nat.reduceSub,Nat.reduceAdd,List.cons_append,List.nil_append]);all_goals rfl)
   ·
    intro gh X K zq zc zq2 zc2 zb zv hK;refine Jg (Jd rfl) rfl (Ji ?_);exact hK zq zc zq2 zc2 zb zv
   ·
    intro gh gh' h
    first | simp only [h 1 rfl,h 3 rfl] | rfl
   apply Jl 10 rfl
   iterate 3 focus (intros;(conv=>lhs;simp only [Jh,Js,JN,Jv,JG,eq_self,Nat.reduceEqDiff,reduceIte,Nat.reduceSub,Nat.reduceAdd,List.cons_append,List.nil_append]);all_goals rfl)
   ·
    intro gh X K zq zc zq2 zc2 zb zv hK;refine Jg (Jd rfl) rfl (Ji ?_);exact hK zq zc zq2 zc2 zb zv
   ·
    intro gh gh' h
    first | simp only [h 1 rfl,h 3 rfl] | rfl
   apply El [0,1,2,3,4,5,6,7,8,9] [0,1,2,3,4,5,6,7,8,9,10,11] foll0 rfl rfl rfl (by rfl)
   iterate 2 focus (intros;(conv=>lhs;simp only [Jh,Js,JN,Jv,JG,eq_self,Nat.reduceEqDiff,reduceIte,Nat.reduceSub,Nat.reduceAdd,List.cons_append,List.nil_append]);all_goals rfl)
   intro gh;generalize (gh 1).c=cdo24;generalize (gh 1).c2=cfo24;generalize (gh 1).q=qdo24;generalize (gh 1).q2=qfo24;generalize (gh 1).vs=vso24;generalize (gh 3).c=co26;generalize (gh 3).q=qo26;clear gh;refine Ja (hK11 (Je fun _ hK12 _=>(Jb (Jg (Ju rfl (.s (.s (.s (.s .z)))) (by simpa [*] using ag25)) rfl (Jx fn17 rfl rfl fun w hH=>(toAlgebra_c had haf (by omega) hl6 hH).mono ?_)))));rintro _ w ⟨qdo31,cdo31,qfo31,cfo31,vso31,rfl,hH⟩;refine ⟨_,rfl,fun a hF=>JM hF hH ?_⟩;refine JZ ze35 rfl fun g8=>(JK rfl rfl (by first | exact bytesC_one _ | exact intsC_one _ | exact Term.c_one _ | simp [Value.oneCell']) (by simpa [*] using sz35) (by simp [*]) At.z (Jf (Ja (hK12 (Je fun _ hK13 _=>(Jb (Jg (Ju rfl (.s (.s (.s (.s (.s (.s .z)))))) (by simpa [*] using ag28)) rfl (Jx fn18 rfl rfl fun w hH=>(toForm_c hts (by omega) hH).mono ?_))))))));rintro _ w ⟨qo33,co33,rfl,hH⟩;refine ⟨_,rfl,fun a hF=>JM hF hH ?_⟩;refine JZ ze39 rfl fun g9=>(JK rfl rfl (by first | exact bytesC_one _ | exact intsC_one _ | exact Term.c_one _ | simp [Value.oneCell']) (by simpa [*] using sz39) (by simp [*]) At.z (Jf (Ja (hK13 (Je fun _ hK14 _=>(Jb (Jg (Ju rfl (.s (.s .z)) (by simpa [*] using ag35)) rfl (Jg (Ju rfl At.z (by simpa [*] using ag39)) rfl (Jx fn19 rfl rfl fun w hH=>hH.lend (.s (.s (.s .z))) fun Hl1 hle1 hA1 hB1 hH=>hH.lend (.s (.s (.s .z))) fun Hl2 hle2 hA2 hB2 hH=>hH.lend (.s .z) fun Hl3 hle3 hA3 hB3 hH=>(IsBoundary_c (((own_ints hA1).le hle2).le hle3) ((own_forms haf.wfss hA2).le hle3) (own_terms hts.wfs hA3) (by omega) (by omega) hl6 (by omega) (own_le hA3) hH).mono ?_)))))))));rintro _ w ⟨rfl,hH⟩;replace hH:=hB3 _ _ hH;replace hH:=hB2 _ _ hH;replace hH:=hB1 _ _ hH;refine ⟨_,rfl,fun a hF=>JM hF hH ?_⟩;refine Jg (Jc rfl) rfl (Jg (JI rfl rfl) rfl (Jg (JI rfl rfl) rfl (Jg (Jd rfl) rfl (Jg (Jd rfl) rfl (Jf (Ja (hK14 (Je fun _ hK15 _=>(Je fun _ hK16 _=>(Jb (Jg (Jc rfl) rfl (Jg (Jc rfl) rfl (Jg (PR.neqB u4 rfl rfl) rfl (Jg (Jc rfl) rfl (Ec (jd:=43) rfl (fun hg43=>?_) (fun hg43=>?_))))))))))))))))
   ·
    try have hg43p:=of_decide_eq_true hg43
    refine JO rfl rfl rfl hg43 (JO rfl rfl rfl hg43 (JO rfl rfl rfl hg43 (Jg (JX rfl hg43 rfl) rfl (Jf (Ja (hK16 (Et rfl (Je fun _ hK17 _=>(Jb (Jg (Jd rfl) rfl (Jf (Ja (hK17 (Jq (Jj (Jr rfl (Res.tmp rfl) fun w hH=>?_))))))))))))))));replace hH:=hH.tail;replace hH:=hH.tail;replace hH:=hH.tail;replace hH:=hH.tail;replace hH:=hH.tail;replace hH:=hH.tail;replace hH:=hH.tail;replace hH:=hH.tail;replace hH:=hH.tail;replace hH:=hH.tail
    first | exact ⟨rfl,hH.below⟩ | exact absurd rfl hg43p | exact absurd rfl hg43 | (exfalso;omega) | (simp at hg43;done)
   ·
    try have hg43p:=of_decide_eq_false hg43
    refine JV (Jc rfl) rfl rfl rfl hg43 (JV (Jc rfl) rfl rfl rfl hg43 (JV (En rfl rfl) rfl rfl rfl hg43 (Jg (JW rfl hg43 rfl) rfl (Jf (Ja (hK16 (Jn rfl (fun hc47=>?_) (fun hc47=>?_))))))))
    ·
     refine Je fun _ hK18 _=>(Jb (Jg (Jd rfl) rfl (Jf (Ja (hK18 (Jq (Jj (Jr rfl (Res.tmp rfl) fun w hH=>?_))))))));replace hH:=hH.tail;replace hH:=hH.tail;replace hH:=hH.tail;replace hH:=hH.tail;replace hH:=hH.tail;replace hH:=hH.tail;replace hH:=hH.tail;replace hH:=hH.tail;replace hH:=hH.tail;replace hH:=hH.tail
     first | exact ⟨rfl,hH.below⟩ | exact absurd rfl hc47p | exact absurd rfl hc47 | (exfalso;omega) | (simp at hc47;done)
    ·
     refine Jk (Ja (hK15 (Je fun _ hK19 _=>(Je fun _ hK20 _=>(Ek (Rs:=[_,_,_,_,_,_,_,_,_,_]) 5 [[], [], [1], [0,1,2], [0,1,2,3]] [[9], [14], [], [2,5,6], []] [[], [], [], [], []] rfl rfl (by kernel_rfl) ?_)))));apply Jl 1 rfl
     iterate 3 focus (intros;(conv=>lhs;simp only [Jh,Js,JN,Jv,JG,eq_self,Nat.reduceEqDiff,reduceIte,Nat.reduceSub,Nat.reduceAdd,List.cons_append,List.nil_append]);all_goals rfl)
     ·
      intro gh X K zq zc zq2 zc2 zb zv hK;refine Jg (Ju rfl At.z (by simpa [*] using ag35)) rfl (Ji ?_);exact hK zq zc zq2 zc2 zb zv
     ·
      intro gh gh' h
      rfl
     apply Jl 2 rfl
     iterate 3 focus (intros;(conv=>lhs;simp only [Jh,Js,JN,Jv,JG,eq_self,Nat.reduceEqDiff,reduceIte,Nat.reduceSub,Nat.reduceAdd,List.cons_append,List.nil_append]);all_goals rfl)
     ·
      intro gh X K zq zc zq2 zc2 zb zv hK;refine Jg (Ju rfl At.z (by simpa [*] using ag25)) rfl (Ji ?_);exact hK zq zc zq2 zc2 zb zv
     ·
      intro gh gh' h
      rfl
     apply GJ.st2 3 rfl
     iterate 3 focus (intros;(conv=>lhs;simp only [Jh,Js,JN,Jv,JG,eq_self,Nat.reduceEqDiff,reduceIte,Nat.reduceSub,Nat.reduceAdd,List.cons_append,List.nil_append]);all_goals rfl)
     ·
      intro gh X K zq zc zq2 zc2 zb zv hK;refine Jx fn17 rfl rfl fun w hH=>(toAlgebra_c had haf (by omega) hl6 hH).mono ?_;rintro _ w ⟨qdo50,cdo50,qfo50,cfo50,vso50,rfl,hH⟩;refine ⟨_,rfl,fun a hF=>JM hF hH ?_⟩;refine Ji ?_;exact hK qdo50 cdo50 qfo50 cfo50 zb vso50
     ·
      intro gh gh' h;refine ⟨?_,?_,?_⟩ <;> rfl
     apply Jl 4 rfl
     iterate 3 focus (intros;(conv=>lhs;simp only [Jh,Js,JN,Jv,JG,eq_self,Nat.reduceEqDiff,reduceIte,Nat.reduceSub,Nat.reduceAdd,List.cons_append,List.nil_append]);all_goals rfl)
     ·
      intro gh X K zq zc zq2 zc2 zb zv hK;refine Jx fn20 rfl rfl fun w hH=>hH.lend (.s (.s .z)) fun Hl1 hle1 hA1 hB1 hH=>hH.lend (.s (.s .z)) fun Hl2 hle2 hA2 hB2 hH=>hH.lend .z fun Hl3 hle3 hA3 hB3 hH=>hH.lend .z fun Hl4 hle4 hA4 hB4 hH=>(eqAlgebra_c ((((own_ints hA1).le hle2).le hle3).le hle4) (((own_forms haf.wfss hA2).le hle3).le hle4) ((own_ints hA3).le hle4) (own_forms haf.wfss hA4) (by omega) (by omega) hl hH).mono ?_;rintro _ w ⟨rfl,hH⟩;replace hH:=hB4 _ _ hH;replace hH:=hB3 _ _ hH;replace hH:=hB2 _ _ hH;replace hH:=hB1 _ _ hH;refine ⟨_,rfl,fun a hF=>JM hF hH ?_⟩;refine Jz (.s .z) (Jz (.s .z) (Jz (.s (.s (.s .z))) (Jz (.s (.s (.s .z))) (Ji ?_))));exact hK zq zc zq2 zc2 zb zv
     ·
      intro gh gh' h
      first | simp only [h 2 rfl] | rfl
     apply Jl 5 rfl
     iterate 3 focus (intros;(conv=>lhs;simp only [Jh,Js,JN,Jv,JG,eq_self,Nat.reduceEqDiff,reduceIte,Nat.reduceSub,Nat.reduceAdd,List.cons_append,List.nil_append]);all_goals rfl)
     ·
      intro gh X K zq zc zq2 zc2 zb zv hK;refine Jg (Em rfl) rfl (Ji ?_);exact hK zq zc zq2 zc2 zb zv
     ·
      intro gh gh' h
      first | simp only [h 2 rfl] | rfl
     apply El [0,1,2,3,4] [0,1,2,3,4,5,6,7,8,9,10,11,12,13,14] foll0 rfl rfl rfl (by rfl)
     iterate 2 focus (intros;(conv=>lhs;simp only [Jh,Js,JN,Jv,JG,eq_self,Nat.reduceEqDiff,reduceIte,Nat.reduceSub,Nat.reduceAdd,List.cons_append,List.nil_append]);all_goals rfl)
     intro gh;generalize (gh 2).c=cdo50;generalize (gh 2).c2=cfo50;generalize (gh 2).q=qdo50;generalize (gh 2).q2=qfo50;generalize (gh 2).vs=vso50;clear gh;refine Ja (hK20 (Ei rfl (fun hc52=>?_) (fun hc52=>?_)))
     ·
      refine Je fun _ hK21 _=>(Jb (Jg (Jd rfl) rfl (Jf (Ja (hK21 (Jq (Jj (Jr rfl (Res.tmp rfl) fun w hH=>?_))))))));replace hH:=hH.tail;replace hH:=hH.tail;replace hH:=hH.tail;replace hH:=hH.tail;replace hH:=hH.tail;replace hH:=hH.tail;replace hH:=hH.tail;replace hH:=hH.tail;replace hH:=hH.tail;replace hH:=hH.tail;replace hH:=hH.tail;replace hH:=hH.tail
      first | exact ⟨rfl,hH.below⟩ | exact absurd rfl hc52p | exact absurd rfl hc52 | (exfalso;omega) | (simp at hc52;done)
     ·
      refine Jk (Ja (hK19 (Je fun _ hK22 _=>(Je fun _ hK23 _=>(Es [[], [], [1]] (by kernel_rfl) (JA (fun gh=>Ju rfl (.s (.s (.s (.s (.s .z))))) (by simpa [*] using ag39)) (JA (fun gh=>Ju rfl (.s (.s (.s (.s (.s (.s (.s (.s (.s (.s .z)))))))))) (by simpa [*] using ag28)) (HJ.callN fn18 (fun gh=>rfl) (fun w X hH=>toForm_c hts (by omega) hH) (Ed 3 1 foll0 (by kernel_rfl) rfl rfl fun gh=>(Eo (us':=(53,_)::(54,_)::(55,_)::_) (L':=_::_) rfl rfl (Jx fn21 rfl rfl fun w hH=>hH.lend (.s (.s (.s (.s (.s .z))))) fun Hl1 hle1 hA1 hB1 hH=>hH.lend .z fun Hl2 hle2 hA2 hB2 hH=>(eqForm_c ((own_terms hts.wfs hA1).le hle2) (own_terms hts.wfs hA2) (by omega) hH).mono ?_)))))))))));rintro _ w ⟨rfl,hH⟩;replace hH:=hB2 _ _ hH;replace hH:=hB1 _ _ hH;refine ⟨_,rfl,fun a hF=>JM hF hH ?_⟩;refine Jf (Ee (JB (Em rfl) rfl (Eg (Ja (hK23 (Ei rfl (fun hc57=>?_) (fun hc57=>?_)))))))
      ·
       refine Je fun _ hK24 _=>(Jb (Jg (Jd rfl) rfl (Jf (Ja (hK24 (Jq (Jj (Jr rfl (Res.tmp rfl) fun w hH=>?_))))))));replace hH:=hH.tail;replace hH:=hH.tail;replace hH:=hH.tail;replace hH:=hH.tail;replace hH:=hH.tail;replace hH:=hH.tail;replace hH:=hH.tail;replace hH:=hH.tail;replace hH:=hH.tail;replace hH:=hH.tail;replace hH:=hH.tail;replace hH:=hH.tail;replace hH:=hH.tail
       first | exact ⟨rfl,hH.below⟩ | exact absurd rfl hc57p | exact absurd rfl hc57 | (exfalso;omega) | (simp at hc57;done)
      ·
       refine Jk (Ja (hK22 (Je fun _ hK25 _=>(Jb (Jg (Jd rfl) rfl (Jf (Ja (hK25 (Jq (Jr rfl (Res.tmp rfl) fun w hH=>?_))))))))));replace hH:=hH.tail;replace hH:=hH.tail;replace hH:=hH.tail;replace hH:=hH.tail;replace hH:=hH.tail;replace hH:=hH.tail;replace hH:=hH.tail;replace hH:=hH.tail;replace hH:=hH.tail;replace hH:=hH.tail;replace hH:=hH.tail;replace hH:=hH.tail;replace hH:=hH.tail
       first | exact ⟨rfl,hH.below⟩ | exact absurd rfl hc57p | exact absurd rfl hc57 | (exfalso;omega) | (simp at hc57;done)
end Go.Proofs.YthenedanhcnccaaGreat.G
namespace Go.Proofs.YthenedanhcnccaaGreat.fnExactIsBoundary
open Go.ChangeShapes Go.WideShapes Go.ChangeAt Go.RowKit
open Go.Proofs.YthenedanhcnccaaGreat.G
theorem u25:Tryz.prog.underlying 25=some (TypeDesc.struct #[{name:="Degrees",type:=22,offset:=0,embedded:=false,tag:="",pkgPath:="",byteOffset:=0},{name:="Images",type:=23,offset:=1,embedded:=false,tag:="",pkgPath:="",byteOffset:=24}]):=by kernel_rfl
theorem u22:Tryz.prog.underlying 22=some (TypeDesc.slice 2):=by kernel_rfl
theorem u2:Tryz.prog.underlying 2=some (TypeDesc.int .i64):=by kernel_rfl
theorem u23:Tryz.prog.underlying 23=some (TypeDesc.slice 28):=by kernel_rfl
theorem u28:Tryz.prog.underlying 28=some (TypeDesc.struct #[{name:="Terms",type:=26,offset:=0,embedded:=false,tag:="",pkgPath:="",byteOffset:=0}]):=by kernel_rfl
theorem u26:Tryz.prog.underlying 26=some (TypeDesc.slice 155):=by kernel_rfl
theorem u155:Tryz.prog.underlying 155=some (TypeDesc.struct #[{name:="Monomial",type:=149,offset:=0,embedded:=false,tag:="",pkgPath:="",byteOffset:=0},{name:="Factor",type:=2,offset:=8,embedded:=false,tag:="",pkgPath:="",byteOffset:=8}]):=by kernel_rfl
theorem u149:Tryz.prog.underlying 149=some (TypeDesc.array 8 5):=by kernel_rfl
theorem u5:Tryz.prog.underlying 5=some (TypeDesc.int .u8):=by kernel_rfl
theorem u4:Tryz.prog.underlying 4=some (TypeDesc.bool):=by kernel_rfl
theorem own:ownKnob Tryz.prog.godebug=none:=by kernel_rfl
theorem lifted (os:Os) (started:os.Started) (H:Type) (enc:TypeId × Value→H):ReturnsInHanded {} Tryz.checked os 3 .any (Rows.fnExactIsBoundarySpec.pre6 enc Tryz.prog Tryz.f3 Rows.fnExactIsBoundaryRow.domain false) (Rows.fnExactIsBoundarySpec.post enc Tryz.prog Tryz.f3 false true false false):=by
 refine returnsInHanded_of_change_sized (C:=Tryz.checked) own started (by kernel_rfl) Tryz.func3
  (ChangeSpec.witness6 (enc:=enc) (C:=Tryz.checked) false ⟨#[],#[.agg #[.slice none 0 0,.slice none 0 0],.agg #[.slice none 0 0]], []⟩ 12 (by kernel_rfl) (by kernel_rfl) (by kernel_rfl) (by kernel_rfl)) ?_
 intro W base args ds gs before hval0 hW hcnd hsz0 _;have hval : ∀(j:Nat) t v,Tryz.f3.params[j]? = some t→args[j]? = some v→Value.okWide Tryz.prog W .any base t v:=hval0;have hW':=hW;obtain ⟨p,q,hA0,hV,rfl,hfz,hnd⟩:=hW;have hA:DataW.TrodAll enc Tryz.prog W 0 (fun _=>true) true Tryz.f3.params.toList args.toList ds p:=hA0;rw [Tryz.params3] at hA hval;obtain ⟨v0,JN,d0,ds0,p0,q0,hargs,rfl,rfl,h0,r0⟩:=trodAll_cons hA;obtain ⟨v1,vs1,d1,ds1,p1,q1,rfl,rfl,rfl,h1,r1⟩:=trodAll_cons r0;obtain ⟨rfl,rfl,rfl⟩:=trodAll_nil r1
 obtain rfl:args = #[v0,v1]:=by cases args;simp_all
 obtain ⟨rfl,rfl⟩:=trodVars_none hV;obtain ⟨q0d,c0d,ds0,q0f,c0f,fs0,rfl,X0,F0,le0,fl0⟩:=openV_alg u25 rfl rfl rfl rfl (by kernel_rfl) (by kernel_rfl) (by kernel_rfl) u22 u2 (by kernel_rfl) u23 (by kernel_rfl) (fun n l y hy=>tr_form u28 rfl rfl (by kernel_rfl) (by kernel_rfl) u26 (by kernel_rfl) u155 rfl rfl rfl rfl u149 u5 (by kernel_rfl) (by kernel_rfl) u2 (by kernel_rfl) hy) (hval 0 25 v0 rfl rfl) h0;obtain ⟨q1,c1,ts1,rfl,X1,le1⟩:=openV_form u28 rfl rfl (by kernel_rfl) (by kernel_rfl) u26 (by kernel_rfl) u155 rfl rfl rfl rfl u149 u5 (by kernel_rfl) (by kernel_rfl) u2 (by kernel_rfl) (hval 1 28 v1 rfl rfl) h1;clear hA0 hval0 hsz0;refine ((lawIsBoundary_c X0 F0 X1 le0 fl0 le1 (Hp.start (H:=hp W) fun _ _ h=>h)).mono fun e W' ⟨he,bel⟩=>?_);subst he;exact ⟨_,rfl,law_post (f:=Tryz.f3) (by kernel_rfl) (by kernel_rfl) rfl rfl u4 rfl hW' bel⟩
theorem joined:joinedFacts Tryz.prog 3 Tryz.f3 Rows.fnExactIsBoundarySpec Rows.fnExactIsBoundaryRow=true:=by
 unfold joinedFacts;simp only [Bool.and_eq_true]
 repeat' apply And.intro
 all_goals first
  | with_reducible exact Facts.fEnter
  | with_reducible exact Facts.fLaid
  | with_reducible exact Facts.fMaps
  | with_reducible exact Facts.fHeard
  | (rw [Facts.fMake];rfl)
  | (rw [Facts.fLift];rfl)
  | (rw [Facts.fKeys];rfl)
  | (rw [Facts.fStops];rfl)
  | (rw [Facts.fStopK];rfl)
  | as_aux_lemma=>kernel_rfl
theorem over:Rows.fnExactIsBoundaryRow.holds Tryz.pinned (OpenSpec.ofChange Rows.fnExactIsBoundarySpec):=
 OpenClaim.holds_of_wide 3 Tryz.f3 rfl rfl rfl rfl rfl rfl rfl ⟨rfl,rfl,rfl,rfl,rfl⟩ rfl rfl rfl rfl rfl (by as_aux_lemma=>kernel_rfl) Tryz.func3 joined
  (of_decide_eq_true (by as_aux_lemma=>kernel_rfl)) (by unfold Func.isWrapper;first | (rw [if_pos (by decide +kernel)];kernel_rfl) | (rw [if_neg (by decide +kernel)];exact ⟨rfl,rfl⟩))
  (fun os started H enc _=>lifted os started H enc)
theorem proved:Rows.FnExactIsBoundarySaid:=over
#print axioms proved
end Go.Proofs.YthenedanhcnccaaGreat.fnExactIsBoundary
namespace Go.Proofs.YthenedanhcnccaaGreat
theorem fnExactIsBoundary_holds:Rows.FnExactIsBoundarySaid:=fnExactIsBoundary.proved
end Go.Proofs.YthenedanhcnccaaGreat
